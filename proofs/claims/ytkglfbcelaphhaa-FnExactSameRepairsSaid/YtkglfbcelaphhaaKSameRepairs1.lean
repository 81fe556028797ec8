/- Each call does what its Lean function says. -/
import Derived.Test.YtkglfbcelaphhaaTi
import Derived.Test.YtkglfbcelaphhaaEq
import Derived.Test.YtkglfbcelaphhaaMo
set_option maxRecDepth 20000
set_option maxHeartbeats 40000000
namespace Go.Proofs.Ytkglfbcelaphhaa
open Go Go.Gv Go.RowKit

theorem c_103 (n : Nat) (a_0 : List Int) (a0' : Option Addr) (c0' : Nat) (left_1 : Int) (w : World) {r : Int} (hm : m_laws_szInt64S n a_0 left_1 = some r) (_h0 : Rd fInt.ty w a0' a_0) (_hle0 : a_0.length ≤ c0') :
    CallV Try.prog 103 #[.slice a0' a_0.length c0', .int .i64 left_1] w (fun v w' => v = .int .i64 r ∧ Ext w w') := by
  unfold m_laws_szInt64S at hm
  refine CallV.enter Try.func103 rfl (by kernel_rfl) Try.ntmps103 (env := [(0, .slice a0' a_0.length c0'), (1, .int .i64 left_1)]) ⟨rfl, rfl, trivial⟩ ?_
  refine WP.seq (fun K1 hK1 => ?_)
  refine WP.region ?_
  refine WL.runk 1 [0, 1] [(0, .slice a0' a_0.length c0'), (1, .int .i64 left_1)] (by kernel_rfl) ?_
  refine WL.nil ?_
  refine WQ.then_normal (hK1 _ _ _ ?_)
  refine WP.seq (fun K2 hK2 => ?_)
  refine WP.region ?_
  refine WL.runk 5 [1] [(1, .int .i64 (wI64 (left_1 - (a_0.length : Int))))] (by kernel_rfl) ?_
  refine WL.nil ?_
  refine WQ.then_normal (hK2 _ _ _ ?_)
  refine WP.seq (fun K3 hK3 => ?_)
  refine WP.seq (fun K4 hK4 => ?_)
  refine WP.region ?_
  refine WL.runk 2 [1, 10] [(1, .int .i64 (wI64 (left_1 - (a_0.length : Int)))), (10, .bool (decide ((wI64 (left_1 - (a_0.length : Int))) < 0)))] (by kernel_rfl) ?_
  refine WL.nil ?_
  refine WQ.then_normal (hK4 _ _ _ ?_)
  refine WP.cond (decide ((wI64 (left_1 - (a_0.length : Int))) < 0)) rfl rfl (fun hc5 => ?_) (fun hc5 => ?_)
  · have hm := iteT hm hc5
    refine WP.seq (fun K6 hK6 => ?_)
    refine WP.region ?_
    refine WL.runk 1 [4] [(4, .int .i64 (-1))] (by kernel_rfl) ?_
    refine WL.nil ?_
    refine WQ.then_normal (hK6 _ _ _ ?_)
    refine WP.ret ?_
    refine WQ.then_ret ?_
    obtain rfl := Option.some.inj hm
    exact WQ.ret1 _ rfl rfl ⟨rfl, (Ext.refl w)⟩
  have hm := iteF hm hc5
  refine WP.skip ?_
  refine WQ.then_normal (hK3 _ _ _ ?_)
  refine WP.seq (fun K7 hK7 => ?_)
  refine WP.region ?_
  refine WL.runk 2 [4] [(4, .int .i64 (wI64 (left_1 - (a_0.length : Int))))] (by kernel_rfl) ?_
  refine WL.nil ?_
  refine WQ.then_normal (hK7 _ _ _ ?_)
  refine WP.ret ?_
  obtain rfl := Option.some.inj hm
  exact WQ.ret1 _ rfl rfl ⟨rfl, (Ext.refl w)⟩

theorem c_67 (n : Nat) (a_0 : SRepair) (a0_1' : Option Addr) (c0_1' : Nat) (a0_2' : Option Addr) (c0_2' : Nat) (left_1 : Int) (w : World) {r : Int} (hm : m_laws_szRepair n a_0 left_1 = some r) (hr0_1 : Rd fInt.ty w a0_1' a_0.Mends) (hle0_1 : a_0.Mends.length ≤ c0_1') (hr0_2 : Rd fInt.ty w a0_2' a_0.First) (hle0_2 : a_0.First.length ≤ c0_2') :
    CallV Try.prog 67 #[.agg #[.string (bs a_0.Name), .slice a0_1' a_0.Mends.length c0_1', .slice a0_2' a_0.First.length c0_2', .int .i64 a_0.Price, .int .i64 a_0.Hours], .int .i64 left_1] w (fun v w' => v = .int .i64 r ∧ Ext w w') := by
  unfold m_laws_szRepair at hm
  refine CallV.enter Try.func67 rfl (by kernel_rfl) Try.ntmps67 (env := [(0, .agg #[.string (bs a_0.Name), .slice a0_1' a_0.Mends.length c0_1', .slice a0_2' a_0.First.length c0_2', .int .i64 a_0.Price, .int .i64 a_0.Hours]), (1, .int .i64 left_1)]) ⟨rfl, rfl, trivial⟩ ?_
  refine WP.seq (fun K1 hK1 => ?_)
  refine WP.region ?_
  refine WL.box 72 [.string (bs a_0.Name), .slice a0_1' a_0.Mends.length c0_1', .slice a0_2' a_0.First.length c0_2', .int .i64 a_0.Price, .int .i64 a_0.Hours] 2 (by kernel_rfl) rfl rfl rfl rfl ?_
  intro b2 w3 hE4 hR5
  have hb7 : Ext w w3 := Ext.trans (Ext.refl w) hE4
  have hL8 : w.heap.size ≤ w3.heap.size := Nat.le_trans (Nat.le_refl _) hE4.size
  have hS9 : SH w3 w.heap.size [aBox 72 b2 [.string (bs a_0.Name), .slice a0_1' a_0.Mends.length c0_1', .slice a0_2' a_0.First.length c0_2', .int .i64 a_0.Price, .int .i64 a_0.Hours]] := SH.add (SH.nil _ _) hE4 (Nat.le_refl _) hR5
  refine WL.runk 1 [1, 2] [(1, .int .i64 left_1), (2, .pointer (some ⟨b2, 0, none⟩))] (by kernel_rfl) ?_
  refine WL.nil ?_
  refine WQ.then_normal (hK1 _ _ _ ?_)
  refine WP.seq (fun K10 hK10 => ?_)
  refine WP.region ?_
  refine WL.runk 2 [2, 5, 6] [(2, .pointer (some ⟨b2, 0, none⟩)), (5, .int .i64 left_1), (6, .pointer (some ⟨b2, 0, none⟩))] (by kernel_rfl) ?_
  refine WL.st (.string (bs a_0.Name)) (ST.load (cell_ext (SH.boxAt (SH.front 0 hS9) 0 _ rfl)) rfl rfl Try.underlying9 rfl) rfl rfl rfl ?_
  refine WL.runk 3 [1, 2] [(2, .pointer (some ⟨b2, 0, none⟩)), (1, .int .i64 (wI64 (left_1 - (a_0.Name.length : Int))))] (by kernel_rfl) ?_
  refine WL.nil ?_
  refine WQ.then_normal (hK10 _ _ _ ?_)
  refine WP.seq (fun K11 hK11 => ?_)
  refine WP.seq (fun K12 hK12 => ?_)
  refine WP.region ?_
  refine WL.runk 2 [1, 2, 11] [(2, .pointer (some ⟨b2, 0, none⟩)), (1, .int .i64 (wI64 (left_1 - (a_0.Name.length : Int)))), (11, .bool (decide ((wI64 (left_1 - (a_0.Name.length : Int))) < 0)))] (by kernel_rfl) ?_
  refine WL.nil ?_
  refine WQ.then_normal (hK12 _ _ _ ?_)
  refine WP.cond (decide ((wI64 (left_1 - (a_0.Name.length : Int))) < 0)) rfl rfl (fun hc13 => ?_) (fun hc13 => ?_)
  · have hm := iteT hm hc13
    refine WP.seq (fun K14 hK14 => ?_)
    refine WP.region ?_
    refine WL.runk 1 [4] [(4, .int .i64 (-1))] (by kernel_rfl) ?_
    refine WL.nil ?_
    refine WQ.then_normal (hK14 _ _ _ ?_)
    refine WP.ret ?_
    refine WQ.then_ret ?_
    obtain rfl := Option.some.inj hm
    exact WQ.ret1 _ rfl rfl ⟨rfl, hb7⟩
  have hm := iteF hm hc13
  refine WP.skip ?_
  refine WQ.then_normal (hK11 _ _ _ ?_)
  refine WP.seq (fun K15 hK15 => ?_)
  refine WP.region ?_
  refine WL.runk 1 [1, 2, 12] [(2, .pointer (some ⟨b2, 0, none⟩)), (1, .int .i64 (wI64 (left_1 - (a_0.Name.length : Int)))), (12, .pointer (some ⟨b2, 1, none⟩))] (by kernel_rfl) ?_
  refine WL.st (.slice a0_1' a_0.Mends.length c0_1') (ST.load (cell_ext (SH.boxAt (SH.front 0 hS9) 1 _ rfl)) rfl rfl Try.underlying25 rfl) rfl rfl rfl ?_
  refine WL.runk 1 [2, 13, 14] [(2, .pointer (some ⟨b2, 0, none⟩)), (13, .slice a0_1' a_0.Mends.length c0_1'), (14, .int .i64 (wI64 (left_1 - (a_0.Name.length : Int))))] (by kernel_rfl) ?_
  obtain ⟨x16, hx17, hm⟩ := bindE hm
  refine WL.call 103 #[.slice a0_1' a_0.Mends.length c0_1', .int .i64 (wI64 (left_1 - (a_0.Name.length : Int)))] rfl rfl (by kernel_rfl) (c_103 n a_0.Mends a0_1' c0_1' (wI64 (left_1 - (a_0.Name.length : Int))) w3 hx17 (Rd.below hr0_1 hb7) hle0_1) ?_
  rintro _ w18 ⟨rfl, hE19⟩
  refine ⟨_, rfl, ?_⟩
  have hb21 : Ext w w18 := Ext.trans hb7 hE19
  have hL22 : w.heap.size ≤ w18.heap.size := Nat.le_trans hL8 hE19.size
  have hS23 : SH w18 w.heap.size [aBox 72 b2 [.string (bs a_0.Name), .slice a0_1' a_0.Mends.length c0_1', .slice a0_2' a_0.First.length c0_2', .int .i64 a_0.Price, .int .i64 a_0.Hours]] := SH.ext hS9 hE19
  refine WL.runk 1 [1, 2] [(2, .pointer (some ⟨b2, 0, none⟩)), (1, .int .i64 x16)] (by kernel_rfl) ?_
  refine WL.nil ?_
  refine WQ.then_normal (hK15 _ _ _ ?_)
  refine WP.seq (fun K24 hK24 => ?_)
  refine WP.seq (fun K25 hK25 => ?_)
  refine WP.region ?_
  refine WL.runk 2 [1, 2, 17] [(2, .pointer (some ⟨b2, 0, none⟩)), (1, .int .i64 x16), (17, .bool (decide (x16 < 0)))] (by kernel_rfl) ?_
  refine WL.nil ?_
  refine WQ.then_normal (hK25 _ _ _ ?_)
  refine WP.cond (decide (x16 < 0)) rfl rfl (fun hc26 => ?_) (fun hc26 => ?_)
  · have hm := iteT hm hc26
    refine WP.seq (fun K27 hK27 => ?_)
    refine WP.region ?_
    refine WL.runk 1 [4] [(4, .int .i64 (-1))] (by kernel_rfl) ?_
    refine WL.nil ?_
    refine WQ.then_normal (hK27 _ _ _ ?_)
    refine WP.ret ?_
    refine WQ.then_ret ?_
    obtain rfl := Option.some.inj hm
    exact WQ.ret1 _ rfl rfl ⟨rfl, hb21⟩
  have hm := iteF hm hc26
  refine WP.skip ?_
  refine WQ.then_normal (hK24 _ _ _ ?_)
  refine WP.seq (fun K28 hK28 => ?_)
  refine WP.region ?_
  refine WL.runk 1 [1, 18] [(1, .int .i64 x16), (18, .pointer (some ⟨b2, 2, none⟩))] (by kernel_rfl) ?_
  refine WL.st (.slice a0_2' a_0.First.length c0_2') (ST.load (cell_ext (SH.boxAt (SH.front 0 hS23) 2 _ rfl)) rfl rfl Try.underlying25 rfl) rfl rfl rfl ?_
  refine WL.runk 1 [19, 20] [(19, .slice a0_2' a_0.First.length c0_2'), (20, .int .i64 x16)] (by kernel_rfl) ?_
  obtain ⟨x29, hx30, hm⟩ := bindE hm
  refine WL.call 103 #[.slice a0_2' a_0.First.length c0_2', .int .i64 x16] rfl rfl (by kernel_rfl) (c_103 n a_0.First a0_2' c0_2' x16 w18 hx30 (Rd.below hr0_2 hb21) hle0_2) ?_
  rintro _ w31 ⟨rfl, hE32⟩
  refine ⟨_, rfl, ?_⟩
  have hb34 : Ext w w31 := Ext.trans hb21 hE32
  have hL35 : w.heap.size ≤ w31.heap.size := Nat.le_trans hL22 hE32.size
  have hS36 : SH w31 w.heap.size [aBox 72 b2 [.string (bs a_0.Name), .slice a0_1' a_0.Mends.length c0_1', .slice a0_2' a_0.First.length c0_2', .int .i64 a_0.Price, .int .i64 a_0.Hours]] := SH.ext hS23 hE32
  refine WL.runk 1 [1] [(1, .int .i64 x29)] (by kernel_rfl) ?_
  refine WL.nil ?_
  refine WQ.then_normal (hK28 _ _ _ ?_)
  refine WP.seq (fun K37 hK37 => ?_)
  refine WP.seq (fun K38 hK38 => ?_)
  refine WP.region ?_
  refine WL.runk 2 [1, 23] [(1, .int .i64 x29), (23, .bool (decide (x29 < 0)))] (by kernel_rfl) ?_
  refine WL.nil ?_
  refine WQ.then_normal (hK38 _ _ _ ?_)
  refine WP.cond (decide (x29 < 0)) rfl rfl (fun hc39 => ?_) (fun hc39 => ?_)
  · have hm := iteT hm hc39
    refine WP.seq (fun K40 hK40 => ?_)
    refine WP.region ?_
    refine WL.runk 1 [4] [(4, .int .i64 (-1))] (by kernel_rfl) ?_
    refine WL.nil ?_
    refine WQ.then_normal (hK40 _ _ _ ?_)
    refine WP.ret ?_
    refine WQ.then_ret ?_
    obtain rfl := Option.some.inj hm
    exact WQ.ret1 _ rfl rfl ⟨rfl, hb34⟩
  have hm := iteF hm hc39
  refine WP.skip ?_
  refine WQ.then_normal (hK37 _ _ _ ?_)
  refine WP.seq (fun K41 hK41 => ?_)
  refine WP.region ?_
  refine WL.runk 2 [4] [(4, .int .i64 x29)] (by kernel_rfl) ?_
  refine WL.nil ?_
  refine WQ.then_normal (hK41 _ _ _ ?_)
  refine WP.ret ?_
  obtain rfl := Option.some.inj hm
  exact WQ.ret1 _ rfl rfl ⟨rfl, hb34⟩

theorem c_28 (n : Nat) (a_0 : List SRepair) (a0' : Option Addr) (c0' : Nat) (left_1 : Int) (w : World) {r : Int} (hm : m_laws_szRepairS n a_0 left_1 = some r) (h0 : Rd fRepair.ty w a0' a_0) (_hle0 : a_0.length ≤ c0') :
    CallV Try.prog 28 #[.slice a0' a_0.length c0', .int .i64 left_1] w (fun v w' => v = .int .i64 r ∧ Ext w w') := by
  unfold m_laws_szRepairS at hm
  refine CallV.enter Try.func28 rfl (by kernel_rfl) Try.ntmps28 (env := [(0, .slice a0' a_0.length c0'), (1, .int .i64 left_1)]) ⟨rfl, rfl, trivial⟩ ?_
  refine WP.seq (fun K1 hK1 => ?_)
  refine WP.region ?_
  refine WL.runk 1 [0, 1] [(0, .slice a0' a_0.length c0'), (1, .int .i64 left_1)] (by kernel_rfl) ?_
  refine WL.nil ?_
  refine WQ.then_normal (hK1 _ _ _ ?_)
  refine WP.seq (fun K2 hK2 => ?_)
  refine WP.region ?_
  refine WL.runk 5 [0, 1] [(0, .slice a0' a_0.length c0'), (1, .int .i64 (wI64 (left_1 - (a_0.length : Int))))] (by kernel_rfl) ?_
  refine WL.nil ?_
  refine WQ.then_normal (hK2 _ _ _ ?_)
  refine WP.seq (fun K3 hK3 => ?_)
  refine WP.seq (fun K4 hK4 => ?_)
  refine WP.region ?_
  refine WL.runk 2 [0, 1, 11] [(0, .slice a0' a_0.length c0'), (1, .int .i64 (wI64 (left_1 - (a_0.length : Int)))), (11, .bool (decide ((wI64 (left_1 - (a_0.length : Int))) < 0)))] (by kernel_rfl) ?_
  refine WL.nil ?_
  refine WQ.then_normal (hK4 _ _ _ ?_)
  refine WP.cond (decide ((wI64 (left_1 - (a_0.length : Int))) < 0)) rfl rfl (fun hc5 => ?_) (fun hc5 => ?_)
  · have hm := iteT hm hc5
    refine WP.seq (fun K6 hK6 => ?_)
    refine WP.region ?_
    refine WL.runk 1 [4] [(4, .int .i64 (-1))] (by kernel_rfl) ?_
    refine WL.nil ?_
    refine WQ.then_normal (hK6 _ _ _ ?_)
    refine WP.ret ?_
    refine WQ.then_ret ?_
    obtain rfl := Option.some.inj hm
    exact WQ.ret1 _ rfl rfl ⟨rfl, (Ext.refl w)⟩
  have hm := iteF hm hc5
  refine WP.skip ?_
  refine WQ.then_normal (hK3 _ _ _ ?_)
  refine WP.seq (fun K7 hK7 => ?_)
  refine WP.seq (fun K8 hK8 => ?_)
  refine WP.region ?_
  refine WL.runk 1 [0, 1, 5] [(0, .slice a0' a_0.length c0'), (1, .int .i64 (wI64 (left_1 - (a_0.length : Int)))), (5, .int .i64 0)] (by kernel_rfl) ?_
  refine WL.nil ?_
  refine WQ.then_normal (hK8 _ _ _ ?_)
  refine WP.block ?_
  obtain ⟨t20, ht21, hm⟩ := bindE hm
  have hmo15 := hm; clear hm
  refine WP.sub [(0, .slice a0' a_0.length c0'), (1, .int .i64 (wI64 (left_1 - (a_0.length : Int)))), (5, .int .i64 0)] ⟨rfl, rfl, rfl, trivial⟩ ?_
  refine WP.loop (fun n' env' w' => ∃ (st9 : Int × Int) , env' = [(0, .slice a0' a_0.length c0'), (1, .int .i64 st9.1), (5, .int .i64 st9.2)] ∧ Ext w w' ∧ w.heap.size ≤ w'.heap.size ∧ SH w' w.heap.size [] ∧ loopN (m_laws_szRepairS_l1 n a_0) n' st9 = some t20) n ⟨((wI64 (left_1 - (a_0.length : Int))), 0), rfl, (Ext.refl w), (Nat.le_refl _), (SH.nil _ _), ht21⟩ ?_
  rintro n17 _ w10 ⟨st9, rfl, hb11, hL12, hS13, hl14⟩ K16 hK16
  obtain ⟨n18, s19, rfl, hm, hl14⟩ := loopN_some hl14
  unfold m_laws_szRepairS_l1 at hm
  refine WP.seq (fun K22 hK22 => ?_)
  refine WP.seq (fun K23 hK23 => ?_)
  refine WP.region ?_
  refine WL.runk 4 [0, 1, 5, 15] [(0, .slice a0' a_0.length c0'), (1, .int .i64 st9.1), (5, .int .i64 st9.2), (15, .bool (decide (st9.2 < (a_0.length : Int))))] (by kernel_rfl) ?_
  refine WL.nil ?_
  refine WQ.then_normal (hK23 _ _ _ ?_)
  refine WP.cond (decide (st9.2 < (a_0.length : Int))) rfl rfl (fun hc24 => ?_) (fun hc24 => ?_)
  rotate_left
  · have hm := iteF hm hc24
    refine WP.exit ?_
    refine WQ.then_exit ?_
    refine WQ.then_exit ?_
    refine WQ.block_here ?_
    obtain rfl := Option.some.inj hm
    obtain rfl := afterN_done hl14
    have hm := hmo15
    refine WQ.then_normal (hK7 _ _ _ ?_)
    refine WP.seq (fun K51 hK51 => ?_)
    refine WP.region ?_
    refine WL.runk 2 [4] [(4, .int .i64 st9.1)] (by kernel_rfl) ?_
    refine WL.nil ?_
    refine WQ.then_normal (hK51 _ _ _ ?_)
    refine WP.ret ?_
    obtain rfl := Option.some.inj hm
    exact WQ.ret1 _ rfl rfl ⟨rfl, hb11⟩
  have hm := iteT hm hc24
  refine WP.skip ?_
  refine WQ.then_normal (hK22 _ _ _ ?_)
  refine WP.seq (fun K25 hK25 => ?_)
  refine WP.block ?_
  refine WP.seq (fun K26 hK26 => ?_)
  refine WP.region ?_
  refine WL.runk 2 [0, 1, 5, 18, 19] [(0, .slice a0' a_0.length c0'), (1, .int .i64 st9.1), (5, .int .i64 st9.2), (18, .slice a0' a_0.length c0'), (19, .int .i64 st9.2)] (by kernel_rfl) ?_
  obtain ⟨x27, hx28, hm⟩ := bindE hm
  obtain ⟨a29, c30, a34, c35, hc39, hR31, hle32, hR36, hle37⟩ := nest_Repair h0 hx28
  refine WL.st (.pointer (some (at_ a0' (Int.toNat st9.2 * 5)))) (ST.index (T := fRepair.ty) (xs := a_0) (Rd.below h0 hb11) hx28 rfl rfl rfl Try.underlying39 (info72).1 (info72).2.1) rfl rfl rfl ?_
  refine WL.st (.agg #[.string (bs x27.Name), .slice a29 x27.Mends.length c30, .slice a34 x27.First.length c35, .int .i64 x27.Price, .int .i64 x27.Hours]) (ST.loadAgg (vs := [.string (bs x27.Name), .slice a29 x27.Mends.length c30, .slice a34 x27.First.length c35, .int .i64 x27.Price, .int .i64 x27.Hours]) (at_agg (cells_ext hc39 hb11)) rfl rfl rfl Try.underlying72 rfl (info72).1 (info72).2.1) rfl rfl rfl ?_
  refine WL.runk 1 [0, 5, 21, 22] [(0, .slice a0' a_0.length c0'), (5, .int .i64 st9.2), (21, .agg #[.string (bs x27.Name), .slice a29 x27.Mends.length c30, .slice a34 x27.First.length c35, .int .i64 x27.Price, .int .i64 x27.Hours]), (22, .int .i64 st9.1)] (by kernel_rfl) ?_
  obtain ⟨x40, hx41, hm⟩ := bindE hm
  refine WL.call 67 #[.agg #[.string (bs x27.Name), .slice a29 x27.Mends.length c30, .slice a34 x27.First.length c35, .int .i64 x27.Price, .int .i64 x27.Hours], .int .i64 st9.1] rfl rfl (by kernel_rfl) (c_67 n x27 a29 c30 a34 c35 st9.1 w10 hx41 (Rd.below hR31 hb11) hle32 (Rd.below hR36 hb11) hle37) ?_
  rintro _ w42 ⟨rfl, hE43⟩
  refine ⟨_, rfl, ?_⟩
  have hb45 : Ext w w42 := Ext.trans hb11 hE43
  have hL46 : w.heap.size ≤ w42.heap.size := Nat.le_trans hL12 hE43.size
  have hS47 : SH w42 w.heap.size [] := SH.ext hS13 hE43
  refine WL.runk 1 [0, 1, 5] [(0, .slice a0' a_0.length c0'), (5, .int .i64 st9.2), (1, .int .i64 x40)] (by kernel_rfl) ?_
  refine WL.nil ?_
  refine WQ.then_normal (hK26 _ _ _ ?_)
  refine WP.seq (fun K48 hK48 => ?_)
  refine WP.region ?_
  refine WL.runk 2 [0, 1, 5, 25] [(0, .slice a0' a_0.length c0'), (5, .int .i64 st9.2), (1, .int .i64 x40), (25, .bool (decide (x40 < 0)))] (by kernel_rfl) ?_
  refine WL.nil ?_
  refine WQ.then_normal (hK48 _ _ _ ?_)
  refine WP.cond (decide (x40 < 0)) rfl rfl (fun hc49 => ?_) (fun hc49 => ?_)
  rotate_left
  · have hm := iteF hm hc49
    refine WP.skip ?_
    refine WQ.block_normal ?_
    refine WQ.then_normal (hK25 _ _ _ ?_)
    refine WP.region ?_
    refine WL.runk 3 [0, 1, 5] [(0, .slice a0' a_0.length c0'), (5, .int .i64 (wI64 (st9.2 + 1))), (1, .int .i64 x40)] (by kernel_rfl) ?_
    refine WL.nil ?_
    obtain rfl := Option.some.inj hm
    exact WQ.round hK16 ⟨(x40, (wI64 (st9.2 + 1))), rfl, hb45, hL46, hS47, hl14⟩ (Nat.lt_succ_self _) ⟨rfl, rfl, rfl, trivial⟩
  have hm := iteT hm hc49
  refine WP.seq (fun K50 hK50 => ?_)
  refine WP.region ?_
  refine WL.runk 1 [4] [(4, .int .i64 (-1))] (by kernel_rfl) ?_
  refine WL.nil ?_
  refine WQ.then_normal (hK50 _ _ _ ?_)
  refine WP.ret ?_
  refine WQ.block_ret ?_
  refine WQ.then_ret ?_
  refine WQ.then_ret ?_
  refine WQ.block_ret ?_
  refine WQ.then_ret ?_
  obtain rfl := Option.some.inj hm
  obtain rfl := afterN_done hl14
  have hm := hmo15
  obtain rfl := Option.some.inj hm
  exact WQ.ret1 _ rfl rfl ⟨rfl, hb45⟩

theorem c_68 (n : Nat) (a_0 : List Int) (a0' : Option Addr) (c0' : Nat) (b_1 : List Int) (a1' : Option Addr) (c1' : Nat) (w : World) {r : Bool} (hm : m_spec_l00Same n a_0 b_1 = some r) (h0 : Rd fInt.ty w a0' a_0) (_hle0 : a_0.length ≤ c0') (h1 : Rd fInt.ty w a1' b_1) (_hle1 : b_1.length ≤ c1') :
    CallV Try.prog 68 #[.slice a0' a_0.length c0', .slice a1' b_1.length c1'] w (fun v w' => v = .bool r ∧ Ext w w') := by
  unfold m_spec_l00Same at hm
  refine CallV.enter Try.func68 rfl (by kernel_rfl) Try.ntmps68 (env := [(0, .slice a0' a_0.length c0'), (1, .slice a1' b_1.length c1')]) ⟨rfl, rfl, trivial⟩ ?_
  refine WP.seq (fun K1 hK1 => ?_)
  refine WP.region ?_
  refine WL.runk 1 [0, 1] [(0, .slice a0' a_0.length c0'), (1, .slice a1' b_1.length c1')] (by kernel_rfl) ?_
  refine WL.nil ?_
  refine WQ.then_normal (hK1 _ _ _ ?_)
  refine WP.seq (fun K2 hK2 => ?_)
  refine WP.seq (fun K3 hK3 => ?_)
  refine WP.region ?_
  refine WL.runk 5 [0, 1, 10] [(0, .slice a0' a_0.length c0'), (1, .slice a1' b_1.length c1'), (10, .bool ((a_0.length : Int) != (b_1.length : Int)))] (by kernel_rfl) ?_
  refine WL.nil ?_
  refine WQ.then_normal (hK3 _ _ _ ?_)
  refine WP.cond ((a_0.length : Int) != (b_1.length : Int)) rfl rfl (fun hc4 => ?_) (fun hc4 => ?_)
  · have hm := iteT hm hc4
    refine WP.seq (fun K5 hK5 => ?_)
    refine WP.region ?_
    refine WL.runk 1 [4] [(4, .bool false)] (by kernel_rfl) ?_
    refine WL.nil ?_
    refine WQ.then_normal (hK5 _ _ _ ?_)
    refine WP.ret ?_
    refine WQ.then_ret ?_
    obtain rfl := Option.some.inj hm
    exact WQ.ret1 _ rfl rfl ⟨rfl, (Ext.refl w)⟩
  have hm := iteF hm hc4
  refine WP.skip ?_
  refine WQ.then_normal (hK2 _ _ _ ?_)
  refine WP.seq (fun K6 hK6 => ?_)
  refine WP.seq (fun K7 hK7 => ?_)
  refine WP.region ?_
  refine WL.runk 1 [0, 1, 5] [(0, .slice a0' a_0.length c0'), (1, .slice a1' b_1.length c1'), (5, .int .i64 0)] (by kernel_rfl) ?_
  refine WL.nil ?_
  refine WQ.then_normal (hK7 _ _ _ ?_)
  refine WP.block ?_
  obtain ⟨t19, ht20, hm⟩ := bindE hm
  have hmo14 := hm; clear hm
  refine WP.sub [(0, .slice a0' a_0.length c0'), (1, .slice a1' b_1.length c1'), (5, .int .i64 0)] ⟨rfl, rfl, rfl, trivial⟩ ?_
  refine WP.loop (fun n' env' w' => ∃ (st8 : Int) , env' = [(0, .slice a0' a_0.length c0'), (1, .slice a1' b_1.length c1'), (5, .int .i64 st8)] ∧ Ext w w' ∧ w.heap.size ≤ w'.heap.size ∧ SH w' w.heap.size [] ∧ loopN (m_spec_l00Same_l1 n a_0 b_1) n' st8 = some t19) n ⟨0, rfl, (Ext.refl w), (Nat.le_refl _), (SH.nil _ _), ht20⟩ ?_
  rintro n16 _ w9 ⟨st8, rfl, hb10, hL11, hS12, hl13⟩ K15 hK15
  obtain ⟨n17, s18, rfl, hm, hl13⟩ := loopN_some hl13
  unfold m_spec_l00Same_l1 at hm
  refine WP.seq (fun K21 hK21 => ?_)
  refine WP.seq (fun K22 hK22 => ?_)
  refine WP.region ?_
  refine WL.runk 4 [0, 1, 5, 14] [(0, .slice a0' a_0.length c0'), (1, .slice a1' b_1.length c1'), (5, .int .i64 st8), (14, .bool (decide (st8 < (a_0.length : Int))))] (by kernel_rfl) ?_
  refine WL.nil ?_
  refine WQ.then_normal (hK22 _ _ _ ?_)
  refine WP.cond (decide (st8 < (a_0.length : Int))) rfl rfl (fun hc23 => ?_) (fun hc23 => ?_)
  rotate_left
  · have hm := iteF hm hc23
    refine WP.exit ?_
    refine WQ.then_exit ?_
    refine WQ.then_exit ?_
    refine WQ.block_here ?_
    obtain rfl := Option.some.inj hm
    obtain rfl := afterN_done hl13
    have hm := hmo14
    refine WQ.then_normal (hK6 _ _ _ ?_)
    refine WP.seq (fun K37 hK37 => ?_)
    refine WP.region ?_
    refine WL.runk 1 [4] [(4, .bool true)] (by kernel_rfl) ?_
    refine WL.nil ?_
    refine WQ.then_normal (hK37 _ _ _ ?_)
    refine WP.ret ?_
    obtain rfl := Option.some.inj hm
    exact WQ.ret1 _ rfl rfl ⟨rfl, hb10⟩
  have hm := iteT hm hc23
  refine WP.skip ?_
  refine WQ.then_normal (hK21 _ _ _ ?_)
  refine WP.seq (fun K24 hK24 => ?_)
  refine WP.block ?_
  refine WP.seq (fun K25 hK25 => ?_)
  refine WP.quiet (by kernel_rfl) (by kernel_rfl) ?_
  refine QL.step1v 17 (.slice a0' a_0.length c0') rfl (fun _ => by kernel_rfl) ?_
  refine QL.step1v 18 (.int .i64 st8) rfl (fun _ => by kernel_rfl) ?_
  refine QL.subk [0, 1, 5, 17, 18] [(0, .slice a0' a_0.length c0'), (1, .slice a1' b_1.length c1'), (5, .int .i64 st8), (17, .slice a0' a_0.length c0'), (18, .int .i64 st8)] (by kernel_rfl) ?_
  obtain ⟨x26, hx27, hm⟩ := bindE hm
  refine QL.st (.pointer (some (at_ a0' (Int.toNat st8 * 1)))) (ST.index (T := fInt.ty) (xs := a_0) (Rd.below h0 hb10) hx27 rfl rfl rfl Try.underlying25 (info2).1 (info2).2.1) rfl rfl rfl ?_
  refine QL.st (.int .i64 x26) (ST.load (cell_ext (Rd.flat (F := fInt) (Rd.below h0 hb10) hx27 0 rfl)) rfl rfl Try.underlying2 rfl) rfl rfl rfl ?_
  refine QL.step1v 21 (.slice a1' b_1.length c1') rfl (fun _ => by kernel_rfl) ?_
  refine QL.step1v 22 (.int .i64 st8) rfl (fun _ => by kernel_rfl) ?_
  refine QL.subk [0, 1, 5, 20, 21, 22] [(0, .slice a0' a_0.length c0'), (1, .slice a1' b_1.length c1'), (5, .int .i64 st8), (20, .int .i64 x26), (21, .slice a1' b_1.length c1'), (22, .int .i64 st8)] (by kernel_rfl) ?_
  obtain ⟨x28, hx29, hm⟩ := bindE hm
  refine QL.st (.pointer (some (at_ a1' (Int.toNat st8 * 1)))) (ST.index (T := fInt.ty) (xs := b_1) (Rd.below h1 hb10) hx29 rfl rfl rfl Try.underlying25 (info2).1 (info2).2.1) rfl rfl rfl ?_
  refine QL.st (.int .i64 x28) (ST.load (cell_ext (Rd.flat (F := fInt) (Rd.below h1 hb10) hx29 0 rfl)) rfl rfl Try.underlying2 rfl) rfl rfl rfl ?_
  refine QL.step1v 25 (.bool (x26 != x28)) rfl (fun _ => by kernel_rfl) ?_
  refine QL.subk [0, 1, 5, 25] [(0, .slice a0' a_0.length c0'), (1, .slice a1' b_1.length c1'), (5, .int .i64 st8), (25, .bool (x26 != x28))] (by kernel_rfl) ?_
  refine QL.nil ?_
  intro w30 hE31
  have hb32 : Ext w w30 := Ext.trans hb10 hE31
  have hL33 : w.heap.size ≤ w30.heap.size := Nat.le_trans hL11 hE31.size
  have hS34 : SH w30 w.heap.size [] := SH.ext hS12 hE31
  refine WQ.then_normal (hK25 _ _ _ ?_)
  refine WP.cond (x26 != x28) rfl rfl (fun hc35 => ?_) (fun hc35 => ?_)
  rotate_left
  · have hm := iteF hm hc35
    refine WP.skip ?_
    refine WQ.block_normal ?_
    refine WQ.then_normal (hK24 _ _ _ ?_)
    refine WP.region ?_
    refine WL.runk 3 [0, 1, 5] [(0, .slice a0' a_0.length c0'), (1, .slice a1' b_1.length c1'), (5, .int .i64 (wI64 (st8 + 1)))] (by kernel_rfl) ?_
    refine WL.nil ?_
    obtain rfl := Option.some.inj hm
    exact WQ.round hK15 ⟨(wI64 (st8 + 1)), rfl, hb32, hL33, hS34, hl13⟩ (Nat.lt_succ_self _) ⟨rfl, rfl, rfl, trivial⟩
  have hm := iteT hm hc35
  refine WP.seq (fun K36 hK36 => ?_)
  refine WP.region ?_
  refine WL.runk 1 [4] [(4, .bool false)] (by kernel_rfl) ?_
  refine WL.nil ?_
  refine WQ.then_normal (hK36 _ _ _ ?_)
  refine WP.ret ?_
  refine WQ.block_ret ?_
  refine WQ.then_ret ?_
  refine WQ.then_ret ?_
  refine WQ.block_ret ?_
  refine WQ.then_ret ?_
  obtain rfl := Option.some.inj hm
  obtain rfl := afterN_done hl13
  have hm := hmo14
  obtain rfl := Option.some.inj hm
  exact WQ.ret1 _ rfl rfl ⟨rfl, hb32⟩

theorem c_29 (n : Nat) (a_0 : List SRepair) (a0' : Option Addr) (c0' : Nat) (b_1 : List SRepair) (a1' : Option Addr) (c1' : Nat) (w : World) {r : Bool} (hm : m_spec_SameRepairs n a_0 b_1 = some r) (h0 : Rd fRepair.ty w a0' a_0) (_hle0 : a_0.length ≤ c0') (h1 : Rd fRepair.ty w a1' b_1) (_hle1 : b_1.length ≤ c1') :
    CallV Try.prog 29 #[.slice a0' a_0.length c0', .slice a1' b_1.length c1'] w (fun v w' => v = .bool r ∧ Ext w w') := by
  unfold m_spec_SameRepairs at hm
  refine CallV.enter Try.func29 rfl (by kernel_rfl) Try.ntmps29 (env := [(0, .slice a0' a_0.length c0'), (1, .slice a1' b_1.length c1')]) ⟨rfl, rfl, trivial⟩ ?_
  refine WP.seq (fun K1 hK1 => ?_)
  refine WP.region ?_
  refine WL.runk 1 [0, 1] [(0, .slice a0' a_0.length c0'), (1, .slice a1' b_1.length c1')] (by kernel_rfl) ?_
  refine WL.nil ?_
  refine WQ.then_normal (hK1 _ _ _ ?_)
  refine WP.seq (fun K2 hK2 => ?_)
  refine WP.seq (fun K3 hK3 => ?_)
  refine WP.region ?_
  refine WL.runk 5 [0, 1, 10] [(0, .slice a0' a_0.length c0'), (1, .slice a1' b_1.length c1'), (10, .bool ((a_0.length : Int) != (b_1.length : Int)))] (by kernel_rfl) ?_
  refine WL.nil ?_
  refine WQ.then_normal (hK3 _ _ _ ?_)
  refine WP.cond ((a_0.length : Int) != (b_1.length : Int)) rfl rfl (fun hc4 => ?_) (fun hc4 => ?_)
  · have hm := iteT hm hc4
    refine WP.seq (fun K5 hK5 => ?_)
    refine WP.region ?_
    refine WL.runk 1 [4] [(4, .bool false)] (by kernel_rfl) ?_
    refine WL.nil ?_
    refine WQ.then_normal (hK5 _ _ _ ?_)
    refine WP.ret ?_
    refine WQ.then_ret ?_
    obtain rfl := Option.some.inj hm
    exact WQ.ret1 _ rfl rfl ⟨rfl, (Ext.refl w)⟩
  have hm := iteF hm hc4
  refine WP.skip ?_
  refine WQ.then_normal (hK2 _ _ _ ?_)
  refine WP.seq (fun K6 hK6 => ?_)
  refine WP.seq (fun K7 hK7 => ?_)
  refine WP.region ?_
  refine WL.runk 1 [0, 1, 5] [(0, .slice a0' a_0.length c0'), (1, .slice a1' b_1.length c1'), (5, .int .i64 0)] (by kernel_rfl) ?_
  refine WL.nil ?_
  refine WQ.then_normal (hK7 _ _ _ ?_)
  refine WP.block ?_
  obtain ⟨t19, ht20, hm⟩ := bindE hm
  have hmo14 := hm; clear hm
  refine WP.sub [(0, .slice a0' a_0.length c0'), (1, .slice a1' b_1.length c1'), (5, .int .i64 0)] ⟨rfl, rfl, rfl, trivial⟩ ?_
  refine WP.loop (fun n' env' w' => ∃ (st8 : Int) , env' = [(0, .slice a0' a_0.length c0'), (1, .slice a1' b_1.length c1'), (5, .int .i64 st8)] ∧ Ext w w' ∧ w.heap.size ≤ w'.heap.size ∧ SH w' w.heap.size [] ∧ loopN (m_spec_SameRepairs_l1 n a_0 b_1) n' st8 = some t19) n ⟨0, rfl, (Ext.refl w), (Nat.le_refl _), (SH.nil _ _), ht20⟩ ?_
  rintro n16 _ w9 ⟨st8, rfl, hb10, hL11, hS12, hl13⟩ K15 hK15
  obtain ⟨n17, s18, rfl, hm, hl13⟩ := loopN_some hl13
  unfold m_spec_SameRepairs_l1 at hm
  refine WP.seq (fun K21 hK21 => ?_)
  refine WP.seq (fun K22 hK22 => ?_)
  refine WP.region ?_
  refine WL.runk 4 [0, 1, 5, 14] [(0, .slice a0' a_0.length c0'), (1, .slice a1' b_1.length c1'), (5, .int .i64 st8), (14, .bool (decide (st8 < (a_0.length : Int))))] (by kernel_rfl) ?_
  refine WL.nil ?_
  refine WQ.then_normal (hK22 _ _ _ ?_)
  refine WP.cond (decide (st8 < (a_0.length : Int))) rfl rfl (fun hc23 => ?_) (fun hc23 => ?_)
  rotate_left
  · have hm := iteF hm hc23
    refine WP.exit ?_
    refine WQ.then_exit ?_
    refine WQ.then_exit ?_
    refine WQ.block_here ?_
    obtain rfl := Option.some.inj hm
    obtain rfl := afterN_done hl13
    have hm := hmo14
    refine WQ.then_normal (hK6 _ _ _ ?_)
    refine WP.seq (fun K368 hK368 => ?_)
    refine WP.region ?_
    refine WL.runk 1 [4] [(4, .bool true)] (by kernel_rfl) ?_
    refine WL.nil ?_
    refine WQ.then_normal (hK368 _ _ _ ?_)
    refine WP.ret ?_
    obtain rfl := Option.some.inj hm
    exact WQ.ret1 _ rfl rfl ⟨rfl, hb10⟩
  have hm := iteT hm hc23
  refine WP.skip ?_
  refine WQ.then_normal (hK21 _ _ _ ?_)
  refine WP.seq (fun K24 hK24 => ?_)
  refine WP.block ?_
  refine WP.seq (fun K25 hK25 => ?_)
  obtain ⟨x193, hx194, hm⟩ := bindE hm
  refine WP.cut (fun env' w' => env' = [(0, .slice a0' a_0.length c0'), (1, .slice a1' b_1.length c1'), (5, .int .i64 st8), (81, .bool x193)] ∧ Ext w w' ∧ w.heap.size ≤ w'.heap.size ∧ SH w' w.heap.size []) ?_ ?_
  rotate_left
  · clear hx194
    rintro _ w362 ⟨rfl, hb363, hL364, hS365⟩
    refine WQ.then_normal (hK25 _ _ _ ?_)
    refine WP.cond x193 rfl rfl (fun hc366 => ?_) (fun hc366 => ?_)
    rotate_left
    · have hm := iteF hm hc366
      refine WP.skip ?_
      refine WQ.block_normal ?_
      refine WQ.then_normal (hK24 _ _ _ ?_)
      refine WP.region ?_
      refine WL.runk 3 [0, 1, 5] [(0, .slice a0' a_0.length c0'), (1, .slice a1' b_1.length c1'), (5, .int .i64 (wI64 (st8 + 1)))] (by kernel_rfl) ?_
      refine WL.nil ?_
      obtain rfl := Option.some.inj hm
      exact WQ.round hK15 ⟨(wI64 (st8 + 1)), rfl, hb363, hL364, hS365, hl13⟩ (Nat.lt_succ_self _) ⟨rfl, rfl, rfl, trivial⟩
    have hm := iteT hm hc366
    refine WP.seq (fun K367 hK367 => ?_)
    refine WP.region ?_
    refine WL.runk 1 [4] [(4, .bool false)] (by kernel_rfl) ?_
    refine WL.nil ?_
    refine WQ.then_normal (hK367 _ _ _ ?_)
    refine WP.ret ?_
    refine WQ.block_ret ?_
    refine WQ.then_ret ?_
    refine WQ.then_ret ?_
    refine WQ.block_ret ?_
    refine WQ.then_ret ?_
    obtain rfl := Option.some.inj hm
    obtain rfl := afterN_done hl13
    have hm := hmo14
    obtain rfl := Option.some.inj hm
    exact WQ.ret1 _ rfl rfl ⟨rfl, hb363⟩
  have hm := hx194; clear hx194
  refine WP.quiet (by kernel_rfl) (by kernel_rfl) ?_
  refine QL.step1v 17 (.slice a0' a_0.length c0') rfl (fun _ => by kernel_rfl) ?_
  refine QL.step1v 18 (.int .i64 st8) rfl (fun _ => by kernel_rfl) ?_
  refine QL.subk [0, 1, 5, 17, 18] [(0, .slice a0' a_0.length c0'), (1, .slice a1' b_1.length c1'), (5, .int .i64 st8), (17, .slice a0' a_0.length c0'), (18, .int .i64 st8)] (by kernel_rfl) ?_
  obtain ⟨x195, hx196, hm⟩ := bindE hm
  obtain ⟨a197, c198, a202, c203, hc207, hR199, hle200, hR204, hle205⟩ := nest_Repair h0 hx196
  refine QL.st (.pointer (some (at_ a0' (Int.toNat st8 * 5)))) (ST.index (T := fRepair.ty) (xs := a_0) (Rd.below h0 hb10) hx196 rfl rfl rfl Try.underlying24 (info73).1 (info73).2.1) rfl rfl rfl ?_
  refine QL.step1v 20 (.pointer (some (at_ a0' (Int.toNat st8 * 5)))) rfl (fun _ => by kernel_rfl) ?_
  refine QL.subk [0, 1, 5, 20] [(0, .slice a0' a_0.length c0'), (1, .slice a1' b_1.length c1'), (5, .int .i64 st8), (20, .pointer (some (at_ a0' (Int.toNat st8 * 5))))] (by kernel_rfl) ?_
  refine QL.st (.string (bs x195.Name)) (ST.load (cell_ext ((cells_ext hc207 hb10) 0 _ rfl)) rfl rfl Try.underlying9 rfl) rfl rfl rfl ?_
  refine QL.step1v 22 (.slice a1' b_1.length c1') rfl (fun _ => by kernel_rfl) ?_
  refine QL.step1v 23 (.int .i64 st8) rfl (fun _ => by kernel_rfl) ?_
  refine QL.subk [0, 1, 5, 21, 22, 23] [(0, .slice a0' a_0.length c0'), (1, .slice a1' b_1.length c1'), (5, .int .i64 st8), (21, .string (bs x195.Name)), (22, .slice a1' b_1.length c1'), (23, .int .i64 st8)] (by kernel_rfl) ?_
  obtain ⟨x208, hx209, hm⟩ := bindE hm
  obtain ⟨a210, c211, a215, c216, hc220, hR212, hle213, hR217, hle218⟩ := nest_Repair h1 hx209
  refine QL.st (.pointer (some (at_ a1' (Int.toNat st8 * 5)))) (ST.index (T := fRepair.ty) (xs := b_1) (Rd.below h1 hb10) hx209 rfl rfl rfl Try.underlying24 (info73).1 (info73).2.1) rfl rfl rfl ?_
  refine QL.step1v 25 (.pointer (some (at_ a1' (Int.toNat st8 * 5)))) rfl (fun _ => by kernel_rfl) ?_
  refine QL.subk [0, 1, 5, 21, 25] [(0, .slice a0' a_0.length c0'), (1, .slice a1' b_1.length c1'), (5, .int .i64 st8), (21, .string (bs x195.Name)), (25, .pointer (some (at_ a1' (Int.toNat st8 * 5))))] (by kernel_rfl) ?_
  refine QL.st (.string (bs x208.Name)) (ST.load (cell_ext ((cells_ext hc220 hb10) 0 _ rfl)) rfl rfl Try.underlying9 rfl) rfl rfl rfl ?_
  refine QL.st (.bool (!(x195.Name == x208.Name))) (ST.strne (x := x195.Name) (y := x208.Name) rfl rfl rfl) rfl rfl rfl ?_
  refine QL.step1v 28 (.bool (!(x195.Name == x208.Name))) rfl (fun _ => by kernel_rfl) ?_
  refine QL.subk [0, 1, 5, 28] [(0, .slice a0' a_0.length c0'), (1, .slice a1' b_1.length c1'), (5, .int .i64 st8), (28, .bool (!(x195.Name == x208.Name)))] (by kernel_rfl) ?_
  refine QL.case (!(x195.Name == x208.Name)) [28] ⟨rfl, trivial⟩ (fun hc221 => ?_) (fun hc221 => ?_)
  · have hm := iteT hm hc221
    refine QL.step1v 29 undef rfl (fun _ => by kernel_rfl) ?_
    refine QL.step1v 30 undef rfl (fun _ => by kernel_rfl) ?_
    refine QL.step1v 31 undef rfl (fun _ => by kernel_rfl) ?_
    refine QL.step1v 32 undef rfl (fun _ => by kernel_rfl) ?_
    refine QL.step1v 33 undef rfl (fun _ => by kernel_rfl) ?_
    refine QL.step1v 34 undef rfl (fun _ => by kernel_rfl) ?_
    refine QL.step1v 35 undef rfl (fun _ => by kernel_rfl) ?_
    refine QL.step1v 36 undef rfl (fun _ => by kernel_rfl) ?_
    refine QL.step1v 37 undef rfl (fun _ => by kernel_rfl) ?_
    refine QL.step1v 38 undef rfl (fun _ => by kernel_rfl) ?_
    refine QL.step1v 39 undef rfl (fun _ => by kernel_rfl) ?_
    refine QL.step1v 40 undef rfl (fun _ => by kernel_rfl) ?_
    refine QL.step1v 41 (.bool true) rfl (fun _ => by kernel_rfl) ?_
    refine QL.step1v 42 (.bool true) rfl (fun _ => by kernel_rfl) ?_
    refine QL.step1v 43 undef rfl (fun _ => by kernel_rfl) ?_
    refine QL.step1v 44 undef rfl (fun _ => by kernel_rfl) ?_
    refine QL.step1v 45 undef rfl (fun _ => by kernel_rfl) ?_
    refine QL.step1v 46 undef rfl (fun _ => by kernel_rfl) ?_
    refine QL.step1v 47 undef rfl (fun _ => by kernel_rfl) ?_
    refine QL.step1v 48 undef rfl (fun _ => by kernel_rfl) ?_
    refine QL.step1v 49 undef rfl (fun _ => by kernel_rfl) ?_
    refine QL.step1v 50 undef rfl (fun _ => by kernel_rfl) ?_
    refine QL.step1v 51 undef rfl (fun _ => by kernel_rfl) ?_
    refine QL.step1v 52 undef rfl (fun _ => by kernel_rfl) ?_
    refine QL.step1v 53 undef rfl (fun _ => by kernel_rfl) ?_
    refine QL.step1v 54 undef rfl (fun _ => by kernel_rfl) ?_
    refine QL.step1v 55 (.bool true) rfl (fun _ => by kernel_rfl) ?_
    refine QL.step1v 56 (.bool true) rfl (fun _ => by kernel_rfl) ?_
    refine QL.step1v 57 undef rfl (fun _ => by kernel_rfl) ?_
    refine QL.step1v 58 undef rfl (fun _ => by kernel_rfl) ?_
    refine QL.step1v 59 undef rfl (fun _ => by kernel_rfl) ?_
    refine QL.step1v 60 undef rfl (fun _ => by kernel_rfl) ?_
    refine QL.step1v 61 undef rfl (fun _ => by kernel_rfl) ?_
    refine QL.step1v 62 undef rfl (fun _ => by kernel_rfl) ?_
    refine QL.step1v 63 undef rfl (fun _ => by kernel_rfl) ?_
    refine QL.step1v 64 undef rfl (fun _ => by kernel_rfl) ?_
    refine QL.step1v 65 undef rfl (fun _ => by kernel_rfl) ?_
    refine QL.step1v 66 undef rfl (fun _ => by kernel_rfl) ?_
    refine QL.step1v 67 undef rfl (fun _ => by kernel_rfl) ?_
    refine QL.step1v 68 (.bool true) rfl (fun _ => by kernel_rfl) ?_
    refine QL.step1v 69 (.bool true) rfl (fun _ => by kernel_rfl) ?_
    refine QL.step1v 70 undef rfl (fun _ => by kernel_rfl) ?_
    refine QL.step1v 71 undef rfl (fun _ => by kernel_rfl) ?_
    refine QL.step1v 72 undef rfl (fun _ => by kernel_rfl) ?_
    refine QL.step1v 73 undef rfl (fun _ => by kernel_rfl) ?_
    refine QL.step1v 74 undef rfl (fun _ => by kernel_rfl) ?_
    refine QL.step1v 75 undef rfl (fun _ => by kernel_rfl) ?_
    refine QL.step1v 76 undef rfl (fun _ => by kernel_rfl) ?_
    refine QL.step1v 77 undef rfl (fun _ => by kernel_rfl) ?_
    refine QL.step1v 78 undef rfl (fun _ => by kernel_rfl) ?_
    refine QL.step1v 79 undef rfl (fun _ => by kernel_rfl) ?_
    refine QL.step1v 80 undef rfl (fun _ => by kernel_rfl) ?_
    refine QL.step1v 81 (.bool true) rfl (fun _ => by kernel_rfl) ?_
    refine QL.subk [0, 1, 5, 81] [(0, .slice a0' a_0.length c0'), (1, .slice a1' b_1.length c1'), (5, .int .i64 st8), (81, .bool true)] (by kernel_rfl) ?_
    refine QL.nil ?_
    intro w222 hE223
    have hb224 : Ext w w222 := Ext.trans hb10 hE223
    have hL225 : w.heap.size ≤ w222.heap.size := Nat.le_trans hL11 hE223.size
    have hS226 : SH w222 w.heap.size [] := SH.ext hS12 hE223
    obtain rfl := Option.some.inj hm
    exact WQ.post' ⟨rfl, hb224, hL225, hS226⟩ ⟨rfl, rfl, rfl, rfl, trivial⟩
  have hm := iteF hm hc221
  refine QL.step1v 29 (.slice a0' a_0.length c0') rfl (fun _ => by kernel_rfl) ?_
  refine QL.step1v 30 (.int .i64 st8) rfl (fun _ => by kernel_rfl) ?_
  refine QL.subk [0, 1, 5, 28, 29, 30] [(0, .slice a0' a_0.length c0'), (1, .slice a1' b_1.length c1'), (5, .int .i64 st8), (28, .bool false), (29, .slice a0' a_0.length c0'), (30, .int .i64 st8)] (by kernel_rfl) ?_
  obtain ⟨x227, hx228, hm⟩ := bindE hm
  obtain ⟨a229, c230, a234, c235, hc239, hR231, hle232, hR236, hle237⟩ := nest_Repair h0 hx228
  refine QL.st (.pointer (some (at_ a0' (Int.toNat st8 * 5)))) (ST.index (T := fRepair.ty) (xs := a_0) (Rd.below h0 hb10) hx228 rfl rfl rfl Try.underlying24 (info73).1 (info73).2.1) rfl rfl rfl ?_
  refine QL.step1v 32 (.pointer (some (at_ a0' (Int.toNat st8 * 5 + 1)))) rfl (fun _ => by kernel_rfl) ?_
  refine QL.subk [0, 1, 5, 28, 32] [(0, .slice a0' a_0.length c0'), (1, .slice a1' b_1.length c1'), (5, .int .i64 st8), (28, .bool false), (32, .pointer (some (at_ a0' (Int.toNat st8 * 5 + 1))))] (by kernel_rfl) ?_
  refine QL.st (.slice a229 x227.Mends.length c230) (ST.load (cell_ext ((cells_ext hc239 hb10) 1 _ rfl)) rfl rfl Try.underlying25 rfl) rfl rfl rfl ?_
  refine QL.step1v 34 (.slice a1' b_1.length c1') rfl (fun _ => by kernel_rfl) ?_
  refine QL.step1v 35 (.int .i64 st8) rfl (fun _ => by kernel_rfl) ?_
  refine QL.subk [0, 1, 5, 28, 33, 34, 35] [(0, .slice a0' a_0.length c0'), (1, .slice a1' b_1.length c1'), (5, .int .i64 st8), (28, .bool false), (33, .slice a229 x227.Mends.length c230), (34, .slice a1' b_1.length c1'), (35, .int .i64 st8)] (by kernel_rfl) ?_
  obtain ⟨x240, hx241, hm⟩ := bindE hm
  obtain ⟨a242, c243, a247, c248, hc252, hR244, hle245, hR249, hle250⟩ := nest_Repair h1 hx241
  refine QL.st (.pointer (some (at_ a1' (Int.toNat st8 * 5)))) (ST.index (T := fRepair.ty) (xs := b_1) (Rd.below h1 hb10) hx241 rfl rfl rfl Try.underlying24 (info73).1 (info73).2.1) rfl rfl rfl ?_
  refine QL.step1v 37 (.pointer (some (at_ a1' (Int.toNat st8 * 5 + 1)))) rfl (fun _ => by kernel_rfl) ?_
  refine QL.subk [0, 1, 5, 28, 33, 37] [(0, .slice a0' a_0.length c0'), (1, .slice a1' b_1.length c1'), (5, .int .i64 st8), (28, .bool false), (33, .slice a229 x227.Mends.length c230), (37, .pointer (some (at_ a1' (Int.toNat st8 * 5 + 1))))] (by kernel_rfl) ?_
  refine QL.st (.slice a242 x240.Mends.length c243) (ST.load (cell_ext ((cells_ext hc252 hb10) 1 _ rfl)) rfl rfl Try.underlying25 rfl) rfl rfl rfl ?_
  obtain ⟨x253, hx254, hm⟩ := bindE hm
  refine QL.call 68 #[.slice a229 x227.Mends.length c230, .slice a242 x240.Mends.length c243] (.bool x253) (fun _ => by kernel_rfl) (fun w255 hE256 => c_68 n x227.Mends a229 c230 x240.Mends a242 c243 w255 hx254 (Rd.below (Rd.below hR231 hb10) hE256) hle232 (Rd.below (Rd.below hR244 hb10) hE256) hle245) rfl rfl rfl ?_
  refine QL.step1v 40 (.bool (!x253)) rfl (fun _ => by kernel_rfl) ?_
  refine QL.step1v 41 (.bool (!x253)) rfl (fun _ => by kernel_rfl) ?_
  refine QL.step1v 42 (.bool (!x253)) rfl (fun _ => by kernel_rfl) ?_
  refine QL.subk [0, 1, 5, 42] [(0, .slice a0' a_0.length c0'), (1, .slice a1' b_1.length c1'), (5, .int .i64 st8), (42, .bool (!x253))] (by kernel_rfl) ?_
  refine QL.case (!x253) [42] ⟨rfl, trivial⟩ (fun hc257 => ?_) (fun hc257 => ?_)
  · have hm := iteT hm hc257
    refine QL.step1v 43 undef rfl (fun _ => by kernel_rfl) ?_
    refine QL.step1v 44 undef rfl (fun _ => by kernel_rfl) ?_
    refine QL.step1v 45 undef rfl (fun _ => by kernel_rfl) ?_
    refine QL.step1v 46 undef rfl (fun _ => by kernel_rfl) ?_
    refine QL.step1v 47 undef rfl (fun _ => by kernel_rfl) ?_
    refine QL.step1v 48 undef rfl (fun _ => by kernel_rfl) ?_
    refine QL.step1v 49 undef rfl (fun _ => by kernel_rfl) ?_
    refine QL.step1v 50 undef rfl (fun _ => by kernel_rfl) ?_
    refine QL.step1v 51 undef rfl (fun _ => by kernel_rfl) ?_
    refine QL.step1v 52 undef rfl (fun _ => by kernel_rfl) ?_
    refine QL.step1v 53 undef rfl (fun _ => by kernel_rfl) ?_
    refine QL.step1v 54 undef rfl (fun _ => by kernel_rfl) ?_
    refine QL.step1v 55 (.bool true) rfl (fun _ => by kernel_rfl) ?_
    refine QL.step1v 56 (.bool true) rfl (fun _ => by kernel_rfl) ?_
    refine QL.step1v 57 undef rfl (fun _ => by kernel_rfl) ?_
    refine QL.step1v 58 undef rfl (fun _ => by kernel_rfl) ?_
    refine QL.step1v 59 undef rfl (fun _ => by kernel_rfl) ?_
    refine QL.step1v 60 undef rfl (fun _ => by kernel_rfl) ?_
    refine QL.step1v 61 undef rfl (fun _ => by kernel_rfl) ?_
    refine QL.step1v 62 undef rfl (fun _ => by kernel_rfl) ?_
    refine QL.step1v 63 undef rfl (fun _ => by kernel_rfl) ?_
    refine QL.step1v 64 undef rfl (fun _ => by kernel_rfl) ?_
    refine QL.step1v 65 undef rfl (fun _ => by kernel_rfl) ?_
    refine QL.step1v 66 undef rfl (fun _ => by kernel_rfl) ?_
    refine QL.step1v 67 undef rfl (fun _ => by kernel_rfl) ?_
    refine QL.step1v 68 (.bool true) rfl (fun _ => by kernel_rfl) ?_
    refine QL.step1v 69 (.bool true) rfl (fun _ => by kernel_rfl) ?_
    refine QL.step1v 70 undef rfl (fun _ => by kernel_rfl) ?_
    refine QL.step1v 71 undef rfl (fun _ => by kernel_rfl) ?_
    refine QL.step1v 72 undef rfl (fun _ => by kernel_rfl) ?_
    refine QL.step1v 73 undef rfl (fun _ => by kernel_rfl) ?_
    refine QL.step1v 74 undef rfl (fun _ => by kernel_rfl) ?_
    refine QL.step1v 75 undef rfl (fun _ => by kernel_rfl) ?_
    refine QL.step1v 76 undef rfl (fun _ => by kernel_rfl) ?_
    refine QL.step1v 77 undef rfl (fun _ => by kernel_rfl) ?_
    refine QL.step1v 78 undef rfl (fun _ => by kernel_rfl) ?_
    refine QL.step1v 79 undef rfl (fun _ => by kernel_rfl) ?_
    refine QL.step1v 80 undef rfl (fun _ => by kernel_rfl) ?_
    refine QL.step1v 81 (.bool true) rfl (fun _ => by kernel_rfl) ?_
    refine QL.subk [0, 1, 5, 81] [(0, .slice a0' a_0.length c0'), (1, .slice a1' b_1.length c1'), (5, .int .i64 st8), (81, .bool true)] (by kernel_rfl) ?_
    refine QL.nil ?_
    intro w258 hE259
    have hb260 : Ext w w258 := Ext.trans hb10 hE259
    have hL261 : w.heap.size ≤ w258.heap.size := Nat.le_trans hL11 hE259.size
    have hS262 : SH w258 w.heap.size [] := SH.ext hS12 hE259
    obtain rfl := Option.some.inj hm
    exact WQ.post' ⟨rfl, hb260, hL261, hS262⟩ ⟨rfl, rfl, rfl, rfl, trivial⟩
  have hm := iteF hm hc257
  refine QL.step1v 43 (.slice a0' a_0.length c0') rfl (fun _ => by kernel_rfl) ?_
  refine QL.step1v 44 (.int .i64 st8) rfl (fun _ => by kernel_rfl) ?_
  refine QL.subk [0, 1, 5, 42, 43, 44] [(0, .slice a0' a_0.length c0'), (1, .slice a1' b_1.length c1'), (5, .int .i64 st8), (42, .bool false), (43, .slice a0' a_0.length c0'), (44, .int .i64 st8)] (by kernel_rfl) ?_
  obtain ⟨x263, hx264, hm⟩ := bindE hm
  obtain ⟨a265, c266, a270, c271, hc275, hR267, hle268, hR272, hle273⟩ := nest_Repair h0 hx264
  refine QL.st (.pointer (some (at_ a0' (Int.toNat st8 * 5)))) (ST.index (T := fRepair.ty) (xs := a_0) (Rd.below h0 hb10) hx264 rfl rfl rfl Try.underlying24 (info73).1 (info73).2.1) rfl rfl rfl ?_
  refine QL.step1v 46 (.pointer (some (at_ a0' (Int.toNat st8 * 5 + 2)))) rfl (fun _ => by kernel_rfl) ?_
  refine QL.subk [0, 1, 5, 42, 46] [(0, .slice a0' a_0.length c0'), (1, .slice a1' b_1.length c1'), (5, .int .i64 st8), (42, .bool false), (46, .pointer (some (at_ a0' (Int.toNat st8 * 5 + 2))))] (by kernel_rfl) ?_
  refine QL.st (.slice a270 x263.First.length c271) (ST.load (cell_ext ((cells_ext hc275 hb10) 2 _ rfl)) rfl rfl Try.underlying25 rfl) rfl rfl rfl ?_
  refine QL.step1v 48 (.slice a1' b_1.length c1') rfl (fun _ => by kernel_rfl) ?_
  refine QL.step1v 49 (.int .i64 st8) rfl (fun _ => by kernel_rfl) ?_
  refine QL.subk [0, 1, 5, 42, 47, 48, 49] [(0, .slice a0' a_0.length c0'), (1, .slice a1' b_1.length c1'), (5, .int .i64 st8), (42, .bool false), (47, .slice a270 x263.First.length c271), (48, .slice a1' b_1.length c1'), (49, .int .i64 st8)] (by kernel_rfl) ?_
  obtain ⟨x276, hx277, hm⟩ := bindE hm
  obtain ⟨a278, c279, a283, c284, hc288, hR280, hle281, hR285, hle286⟩ := nest_Repair h1 hx277
  refine QL.st (.pointer (some (at_ a1' (Int.toNat st8 * 5)))) (ST.index (T := fRepair.ty) (xs := b_1) (Rd.below h1 hb10) hx277 rfl rfl rfl Try.underlying24 (info73).1 (info73).2.1) rfl rfl rfl ?_
  refine QL.step1v 51 (.pointer (some (at_ a1' (Int.toNat st8 * 5 + 2)))) rfl (fun _ => by kernel_rfl) ?_
  refine QL.subk [0, 1, 5, 42, 47, 51] [(0, .slice a0' a_0.length c0'), (1, .slice a1' b_1.length c1'), (5, .int .i64 st8), (42, .bool false), (47, .slice a270 x263.First.length c271), (51, .pointer (some (at_ a1' (Int.toNat st8 * 5 + 2))))] (by kernel_rfl) ?_
  refine QL.st (.slice a283 x276.First.length c284) (ST.load (cell_ext ((cells_ext hc288 hb10) 2 _ rfl)) rfl rfl Try.underlying25 rfl) rfl rfl rfl ?_
  obtain ⟨x289, hx290, hm⟩ := bindE hm
  refine QL.call 68 #[.slice a270 x263.First.length c271, .slice a283 x276.First.length c284] (.bool x289) (fun _ => by kernel_rfl) (fun w291 hE292 => c_68 n x263.First a270 c271 x276.First a283 c284 w291 hx290 (Rd.below (Rd.below hR272 hb10) hE292) hle273 (Rd.below (Rd.below hR285 hb10) hE292) hle286) rfl rfl rfl ?_
  refine QL.step1v 54 (.bool (!x289)) rfl (fun _ => by kernel_rfl) ?_
  refine QL.step1v 55 (.bool (!x289)) rfl (fun _ => by kernel_rfl) ?_
  refine QL.step1v 56 (.bool (!x289)) rfl (fun _ => by kernel_rfl) ?_
  refine QL.subk [0, 1, 5, 56] [(0, .slice a0' a_0.length c0'), (1, .slice a1' b_1.length c1'), (5, .int .i64 st8), (56, .bool (!x289))] (by kernel_rfl) ?_
  refine QL.case (!x289) [56] ⟨rfl, trivial⟩ (fun hc293 => ?_) (fun hc293 => ?_)
  · have hm := iteT hm hc293
    refine QL.step1v 57 undef rfl (fun _ => by kernel_rfl) ?_
    refine QL.step1v 58 undef rfl (fun _ => by kernel_rfl) ?_
    refine QL.step1v 59 undef rfl (fun _ => by kernel_rfl) ?_
    refine QL.step1v 60 undef rfl (fun _ => by kernel_rfl) ?_
    refine QL.step1v 61 undef rfl (fun _ => by kernel_rfl) ?_
    refine QL.step1v 62 undef rfl (fun _ => by kernel_rfl) ?_
    refine QL.step1v 63 undef rfl (fun _ => by kernel_rfl) ?_
    refine QL.step1v 64 undef rfl (fun _ => by kernel_rfl) ?_
    refine QL.step1v 65 undef rfl (fun _ => by kernel_rfl) ?_
    refine QL.step1v 66 undef rfl (fun _ => by kernel_rfl) ?_
    refine QL.step1v 67 undef rfl (fun _ => by kernel_rfl) ?_
    refine QL.step1v 68 (.bool true) rfl (fun _ => by kernel_rfl) ?_
    refine QL.step1v 69 (.bool true) rfl (fun _ => by kernel_rfl) ?_
    refine QL.step1v 70 undef rfl (fun _ => by kernel_rfl) ?_
    refine QL.step1v 71 undef rfl (fun _ => by kernel_rfl) ?_
    refine QL.step1v 72 undef rfl (fun _ => by kernel_rfl) ?_
    refine QL.step1v 73 undef rfl (fun _ => by kernel_rfl) ?_
    refine QL.step1v 74 undef rfl (fun _ => by kernel_rfl) ?_
    refine QL.step1v 75 undef rfl (fun _ => by kernel_rfl) ?_
    refine QL.step1v 76 undef rfl (fun _ => by kernel_rfl) ?_
    refine QL.step1v 77 undef rfl (fun _ => by kernel_rfl) ?_
    refine QL.step1v 78 undef rfl (fun _ => by kernel_rfl) ?_
    refine QL.step1v 79 undef rfl (fun _ => by kernel_rfl) ?_
    refine QL.step1v 80 undef rfl (fun _ => by kernel_rfl) ?_
    refine QL.step1v 81 (.bool true) rfl (fun _ => by kernel_rfl) ?_
    refine QL.subk [0, 1, 5, 81] [(0, .slice a0' a_0.length c0'), (1, .slice a1' b_1.length c1'), (5, .int .i64 st8), (81, .bool true)] (by kernel_rfl) ?_
    refine QL.nil ?_
    intro w294 hE295
    have hb296 : Ext w w294 := Ext.trans hb10 hE295
    have hL297 : w.heap.size ≤ w294.heap.size := Nat.le_trans hL11 hE295.size
    have hS298 : SH w294 w.heap.size [] := SH.ext hS12 hE295
    obtain rfl := Option.some.inj hm
    exact WQ.post' ⟨rfl, hb296, hL297, hS298⟩ ⟨rfl, rfl, rfl, rfl, trivial⟩
  have hm := iteF hm hc293
  refine QL.step1v 57 (.slice a0' a_0.length c0') rfl (fun _ => by kernel_rfl) ?_
  refine QL.step1v 58 (.int .i64 st8) rfl (fun _ => by kernel_rfl) ?_
  refine QL.subk [0, 1, 5, 56, 57, 58] [(0, .slice a0' a_0.length c0'), (1, .slice a1' b_1.length c1'), (5, .int .i64 st8), (56, .bool false), (57, .slice a0' a_0.length c0'), (58, .int .i64 st8)] (by kernel_rfl) ?_
  obtain ⟨x299, hx300, hm⟩ := bindE hm
  obtain ⟨a301, c302, a306, c307, hc311, hR303, hle304, hR308, hle309⟩ := nest_Repair h0 hx300
  refine QL.st (.pointer (some (at_ a0' (Int.toNat st8 * 5)))) (ST.index (T := fRepair.ty) (xs := a_0) (Rd.below h0 hb10) hx300 rfl rfl rfl Try.underlying24 (info73).1 (info73).2.1) rfl rfl rfl ?_
  refine QL.step1v 60 (.pointer (some (at_ a0' (Int.toNat st8 * 5 + 3)))) rfl (fun _ => by kernel_rfl) ?_
  refine QL.subk [0, 1, 5, 56, 60] [(0, .slice a0' a_0.length c0'), (1, .slice a1' b_1.length c1'), (5, .int .i64 st8), (56, .bool false), (60, .pointer (some (at_ a0' (Int.toNat st8 * 5 + 3))))] (by kernel_rfl) ?_
  refine QL.st (.int .i64 x299.Price) (ST.load (cell_ext ((cells_ext hc311 hb10) 3 _ rfl)) rfl rfl Try.underlying2 rfl) rfl rfl rfl ?_
  refine QL.step1v 62 (.slice a1' b_1.length c1') rfl (fun _ => by kernel_rfl) ?_
  refine QL.step1v 63 (.int .i64 st8) rfl (fun _ => by kernel_rfl) ?_
  refine QL.subk [0, 1, 5, 56, 61, 62, 63] [(0, .slice a0' a_0.length c0'), (1, .slice a1' b_1.length c1'), (5, .int .i64 st8), (56, .bool false), (61, .int .i64 x299.Price), (62, .slice a1' b_1.length c1'), (63, .int .i64 st8)] (by kernel_rfl) ?_
  obtain ⟨x312, hx313, hm⟩ := bindE hm
  obtain ⟨a314, c315, a319, c320, hc324, hR316, hle317, hR321, hle322⟩ := nest_Repair h1 hx313
  refine QL.st (.pointer (some (at_ a1' (Int.toNat st8 * 5)))) (ST.index (T := fRepair.ty) (xs := b_1) (Rd.below h1 hb10) hx313 rfl rfl rfl Try.underlying24 (info73).1 (info73).2.1) rfl rfl rfl ?_
  refine QL.step1v 65 (.pointer (some (at_ a1' (Int.toNat st8 * 5 + 3)))) rfl (fun _ => by kernel_rfl) ?_
  refine QL.subk [0, 1, 5, 56, 61, 65] [(0, .slice a0' a_0.length c0'), (1, .slice a1' b_1.length c1'), (5, .int .i64 st8), (56, .bool false), (61, .int .i64 x299.Price), (65, .pointer (some (at_ a1' (Int.toNat st8 * 5 + 3))))] (by kernel_rfl) ?_
  refine QL.st (.int .i64 x312.Price) (ST.load (cell_ext ((cells_ext hc324 hb10) 3 _ rfl)) rfl rfl Try.underlying2 rfl) rfl rfl rfl ?_
  refine QL.step1v 67 (.bool (x299.Price != x312.Price)) rfl (fun _ => by kernel_rfl) ?_
  refine QL.step1v 68 (.bool (x299.Price != x312.Price)) rfl (fun _ => by kernel_rfl) ?_
  refine QL.step1v 69 (.bool (x299.Price != x312.Price)) rfl (fun _ => by kernel_rfl) ?_
  refine QL.subk [0, 1, 5, 69] [(0, .slice a0' a_0.length c0'), (1, .slice a1' b_1.length c1'), (5, .int .i64 st8), (69, .bool (x299.Price != x312.Price))] (by kernel_rfl) ?_
  refine QL.case (x299.Price != x312.Price) [69] ⟨rfl, trivial⟩ (fun hc325 => ?_) (fun hc325 => ?_)
  · have hm := iteT hm hc325
    refine QL.step1v 70 undef rfl (fun _ => by kernel_rfl) ?_
    refine QL.step1v 71 undef rfl (fun _ => by kernel_rfl) ?_
    refine QL.step1v 72 undef rfl (fun _ => by kernel_rfl) ?_
    refine QL.step1v 73 undef rfl (fun _ => by kernel_rfl) ?_
    refine QL.step1v 74 undef rfl (fun _ => by kernel_rfl) ?_
    refine QL.step1v 75 undef rfl (fun _ => by kernel_rfl) ?_
    refine QL.step1v 76 undef rfl (fun _ => by kernel_rfl) ?_
    refine QL.step1v 77 undef rfl (fun _ => by kernel_rfl) ?_
    refine QL.step1v 78 undef rfl (fun _ => by kernel_rfl) ?_
    refine QL.step1v 79 undef rfl (fun _ => by kernel_rfl) ?_
    refine QL.step1v 80 undef rfl (fun _ => by kernel_rfl) ?_
    refine QL.step1v 81 (.bool true) rfl (fun _ => by kernel_rfl) ?_
    refine QL.subk [0, 1, 5, 81] [(0, .slice a0' a_0.length c0'), (1, .slice a1' b_1.length c1'), (5, .int .i64 st8), (81, .bool true)] (by kernel_rfl) ?_
    refine QL.nil ?_
    intro w326 hE327
    have hb328 : Ext w w326 := Ext.trans hb10 hE327
    have hL329 : w.heap.size ≤ w326.heap.size := Nat.le_trans hL11 hE327.size
    have hS330 : SH w326 w.heap.size [] := SH.ext hS12 hE327
    obtain rfl := Option.some.inj hm
    exact WQ.post' ⟨rfl, hb328, hL329, hS330⟩ ⟨rfl, rfl, rfl, rfl, trivial⟩
  have hm := iteF hm hc325
  refine QL.step1v 70 (.slice a0' a_0.length c0') rfl (fun _ => by kernel_rfl) ?_
  refine QL.step1v 71 (.int .i64 st8) rfl (fun _ => by kernel_rfl) ?_
  refine QL.subk [0, 1, 5, 69, 70, 71] [(0, .slice a0' a_0.length c0'), (1, .slice a1' b_1.length c1'), (5, .int .i64 st8), (69, .bool false), (70, .slice a0' a_0.length c0'), (71, .int .i64 st8)] (by kernel_rfl) ?_
  obtain ⟨x331, hx332, hm⟩ := bindE hm
  obtain ⟨a333, c334, a338, c339, hc343, hR335, hle336, hR340, hle341⟩ := nest_Repair h0 hx332
  refine QL.st (.pointer (some (at_ a0' (Int.toNat st8 * 5)))) (ST.index (T := fRepair.ty) (xs := a_0) (Rd.below h0 hb10) hx332 rfl rfl rfl Try.underlying24 (info73).1 (info73).2.1) rfl rfl rfl ?_
  refine QL.step1v 73 (.pointer (some (at_ a0' (Int.toNat st8 * 5 + 4)))) rfl (fun _ => by kernel_rfl) ?_
  refine QL.subk [0, 1, 5, 69, 73] [(0, .slice a0' a_0.length c0'), (1, .slice a1' b_1.length c1'), (5, .int .i64 st8), (69, .bool false), (73, .pointer (some (at_ a0' (Int.toNat st8 * 5 + 4))))] (by kernel_rfl) ?_
  refine QL.st (.int .i64 x331.Hours) (ST.load (cell_ext ((cells_ext hc343 hb10) 4 _ rfl)) rfl rfl Try.underlying2 rfl) rfl rfl rfl ?_
  refine QL.step1v 75 (.slice a1' b_1.length c1') rfl (fun _ => by kernel_rfl) ?_
  refine QL.step1v 76 (.int .i64 st8) rfl (fun _ => by kernel_rfl) ?_
  refine QL.subk [0, 1, 5, 69, 74, 75, 76] [(0, .slice a0' a_0.length c0'), (1, .slice a1' b_1.length c1'), (5, .int .i64 st8), (69, .bool false), (74, .int .i64 x331.Hours), (75, .slice a1' b_1.length c1'), (76, .int .i64 st8)] (by kernel_rfl) ?_
  obtain ⟨x344, hx345, hm⟩ := bindE hm
  obtain ⟨a346, c347, a351, c352, hc356, hR348, hle349, hR353, hle354⟩ := nest_Repair h1 hx345
  refine QL.st (.pointer (some (at_ a1' (Int.toNat st8 * 5)))) (ST.index (T := fRepair.ty) (xs := b_1) (Rd.below h1 hb10) hx345 rfl rfl rfl Try.underlying24 (info73).1 (info73).2.1) rfl rfl rfl ?_
  refine QL.step1v 78 (.pointer (some (at_ a1' (Int.toNat st8 * 5 + 4)))) rfl (fun _ => by kernel_rfl) ?_
  refine QL.subk [0, 1, 5, 69, 74, 78] [(0, .slice a0' a_0.length c0'), (1, .slice a1' b_1.length c1'), (5, .int .i64 st8), (69, .bool false), (74, .int .i64 x331.Hours), (78, .pointer (some (at_ a1' (Int.toNat st8 * 5 + 4))))] (by kernel_rfl) ?_
  refine QL.st (.int .i64 x344.Hours) (ST.load (cell_ext ((cells_ext hc356 hb10) 4 _ rfl)) rfl rfl Try.underlying2 rfl) rfl rfl rfl ?_
  refine QL.step1v 80 (.bool (x331.Hours != x344.Hours)) rfl (fun _ => by kernel_rfl) ?_
  refine QL.step1v 81 (.bool (x331.Hours != x344.Hours)) rfl (fun _ => by kernel_rfl) ?_
  refine QL.subk [0, 1, 5, 81] [(0, .slice a0' a_0.length c0'), (1, .slice a1' b_1.length c1'), (5, .int .i64 st8), (81, .bool (x331.Hours != x344.Hours))] (by kernel_rfl) ?_
  refine QL.nil ?_
  intro w357 hE358
  have hb359 : Ext w w357 := Ext.trans hb10 hE358
  have hL360 : w.heap.size ≤ w357.heap.size := Nat.le_trans hL11 hE358.size
  have hS361 : SH w357 w.heap.size [] := SH.ext hS12 hE358
  obtain rfl := Option.some.inj hm
  exact WQ.post' ⟨rfl, hb359, hL360, hS361⟩ ⟨rfl, rfl, rfl, rfl, trivial⟩

theorem c_36 (n : Nat) (a_0 : List Int) (a0' : Option Addr) (c0' : Nat) (w : World) {r : List Int} (hm : m_laws_toInt64S n a_0 = some r) (h0 : Rd fInt.ty w a0' a_0) (_hle0 : a_0.length ≤ c0') :
    CallV Try.prog 36 #[.slice a0' a_0.length c0'] w (fun v w' => ∃ (ra0 : Option Addr) (rc0 : Nat), v = .slice ra0 r.length rc0 ∧ Ext w w' ∧ SH w' w.heap.size [aOwn fInt 2 ra0 rc0 r]) := by
  unfold m_laws_toInt64S at hm
  refine CallV.enter Try.func36 rfl (by kernel_rfl) Try.ntmps36 (env := [(0, .slice a0' a_0.length c0')]) ⟨rfl, trivial⟩ ?_
  refine WP.seq (fun K1 hK1 => ?_)
  refine WP.region ?_
  refine WL.runk 1 [0] [(0, .slice a0' a_0.length c0')] (by kernel_rfl) ?_
  refine WL.nil ?_
  refine WQ.then_normal (hK1 _ _ _ ?_)
  refine WP.seq (fun K2 hK2 => ?_)
  refine WP.region ?_
  refine WL.runk 2 [0, 6] [(0, .slice a0' a_0.length c0'), (6, .int .i64 (a_0.length : Int))] (by kernel_rfl) ?_
  obtain ⟨x3, hx4, hm⟩ := bindE hm
  refine WL.make fInt 7 hx4 rfl rfl rfl Try.underlying25 (info2).1 (info2).2.2.1 (info2).2.1 (info2).2.2.2 rfl rfl rfl rfl rfl ?_
  intro a5 c6 w7 hE8 hR9
  have hb11 : Ext w w7 := Ext.trans (Ext.refl w) hE8
  have hL12 : w.heap.size ≤ w7.heap.size := Nat.le_trans (Nat.le_refl _) hE8.size
  have hS13 : SH w7 w.heap.size [aOwn fInt 2 a5 c6 x3] := SH.add (SH.nil _ _) hE8 (Nat.le_refl _) hR9
  refine WL.runk 1 [0, 3] [(0, .slice a0' a_0.length c0'), (3, .slice a5 x3.length c6)] (by kernel_rfl) ?_
  refine WL.nil ?_
  refine WQ.then_normal (hK2 _ _ _ ?_)
  refine WP.seq (fun K14 hK14 => ?_)
  refine WP.seq (fun K15 hK15 => ?_)
  refine WP.region ?_
  refine WL.runk 1 [0, 3, 4] [(0, .slice a0' a_0.length c0'), (3, .slice a5 x3.length c6), (4, .int .i64 0)] (by kernel_rfl) ?_
  refine WL.nil ?_
  refine WQ.then_normal (hK15 _ _ _ ?_)
  refine WP.block ?_
  obtain ⟨t54, ht55, hm⟩ := bindE hm
  have hmo49 := hm; clear hm
  refine WP.sub [(0, .slice a0' a_0.length c0'), (3, .slice a5 x3.length c6), (4, .int .i64 0)] ⟨rfl, rfl, rfl, trivial⟩ ?_
  refine WP.loop (fun n' env' w' => ∃ (st43 : Int × List Int) , env' = [(0, .slice a0' a_0.length c0'), (3, .slice a5 st43.2.length c6), (4, .int .i64 st43.1)] ∧ Ext w w' ∧ w.heap.size ≤ w'.heap.size ∧ SH w' w.heap.size [aOwn fInt 2 a5 c6 st43.2] ∧ loopN (m_laws_toInt64S_l1 n a_0) n' st43 = some t54) n ⟨(0, x3), rfl, hb11, hL12, hS13, ht55⟩ ?_
  rintro n51 _ w44 ⟨st43, rfl, hb45, hL46, hS47, hl48⟩ K50 hK50
  obtain ⟨n52, s53, rfl, hm, hl48⟩ := loopN_some hl48
  unfold m_laws_toInt64S_l1 at hm
  refine WP.seq (fun K56 hK56 => ?_)
  refine WP.seq (fun K57 hK57 => ?_)
  refine WP.region ?_
  refine WL.runk 4 [0, 3, 4, 11] [(0, .slice a0' a_0.length c0'), (3, .slice a5 st43.2.length c6), (4, .int .i64 st43.1), (11, .bool (decide (st43.1 < (a_0.length : Int))))] (by kernel_rfl) ?_
  refine WL.nil ?_
  refine WQ.then_normal (hK57 _ _ _ ?_)
  refine WP.cond (decide (st43.1 < (a_0.length : Int))) rfl rfl (fun hc58 => ?_) (fun hc58 => ?_)
  rotate_left
  · have hm := iteF hm hc58
    refine WP.exit ?_
    refine WQ.then_exit ?_
    refine WQ.then_exit ?_
    refine WQ.block_here ?_
    obtain rfl := Option.some.inj hm
    obtain rfl := afterN_done hl48
    have hm := hmo49
    refine WQ.then_normal (hK14 _ _ _ ?_)
    refine WP.seq (fun K69 hK69 => ?_)
    refine WP.region ?_
    refine WL.runk 2 [2] [(2, .slice a5 st43.2.length c6)] (by kernel_rfl) ?_
    refine WL.nil ?_
    refine WQ.then_normal (hK69 _ _ _ ?_)
    refine WP.ret ?_
    obtain rfl := Option.some.inj hm
    exact WQ.ret1 _ rfl rfl ⟨_, _, rfl, hb45, hS47⟩
  have hm := iteT hm hc58
  refine WP.skip ?_
  refine WQ.then_normal (hK56 _ _ _ ?_)
  refine WP.seq (fun K59 hK59 => ?_)
  refine WP.block ?_
  refine WP.region ?_
  refine WL.runk 4 [0, 3, 4, 14, 15, 16, 17] [(0, .slice a0' a_0.length c0'), (3, .slice a5 st43.2.length c6), (4, .int .i64 st43.1), (14, .slice a5 st43.2.length c6), (15, .int .i64 st43.1), (16, .slice a0' a_0.length c0'), (17, .int .i64 st43.1)] (by kernel_rfl) ?_
  obtain ⟨x60, hx61, hm⟩ := bindE hm
  refine WL.st (.pointer (some (at_ a0' (Int.toNat st43.1 * 1)))) (ST.index (T := fInt.ty) (xs := a_0) (Rd.below h0 hb45) hx61 rfl rfl rfl Try.underlying25 (info2).1 (info2).2.1) rfl rfl rfl ?_
  refine WL.st (.int .i64 x60) (ST.load (cell_ext (Rd.flat (F := fInt) (Rd.below h0 hb45) hx61 0 rfl)) rfl rfl Try.underlying2 rfl) rfl rfl rfl ?_
  obtain ⟨x62, hx63, hm⟩ := bindE hm
  refine WL.st (.pointer (some (at_ a5 (Int.toNat st43.1 * 1)))) (ST.index (T := fInt.ty) (xs := st43.2) (SH.rd (SH.front 0 hS47)) hx63 rfl rfl rfl Try.underlying25 (info2).1 (info2).2.1) rfl rfl rfl ?_
  refine WL.store (F := fInt) x60 0 [.int .i64 x60] (SH.front 0 hS47) hL46 hx63 rfl rfl rfl rfl rfl rfl rfl (info2).1 (info2).2.1 rfl rfl rfl ?_
  intro w64 hB65 hS66
  have hb67 : Ext w w64 := Below.trans hb45 hB65
  have hL68 : w.heap.size ≤ w64.heap.size := Nat.le_trans hL46 hB65.size
  refine WL.sub [(0, .slice a0' a_0.length c0'), (3, .slice a5 ((st43.2.set (Int.toNat st43.1) x60).length) c6), (4, .int .i64 st43.1), (14, .slice a5 ((st43.2.set (Int.toNat st43.1) x60).length) c6), (15, .int .i64 st43.1), (16, .slice a0' a_0.length c0'), (17, .int .i64 st43.1), (18, .pointer (some (at_ a0' (Int.toNat st43.1 * 1)))), (19, .int .i64 x60)] ⟨rfl, by first | (simp only [List.length_set]; done) | (simp only [List.length_set]; rfl), rfl, by first | (simp only [List.length_set]; done) | (simp only [List.length_set]; rfl), rfl, rfl, rfl, rfl, rfl, trivial⟩ ?_
  refine WL.sub [(0, .slice a0' a_0.length c0'), (3, .slice a5 ((st43.2.set (Int.toNat st43.1) x60).length) c6), (4, .int .i64 st43.1)] ⟨rfl, rfl, rfl, trivial⟩ ?_
  refine WL.nil ?_
  refine WQ.block_normal ?_
  refine WQ.then_normal (hK59 _ _ _ ?_)
  refine WP.region ?_
  refine WL.runk 3 [0, 3, 4] [(0, .slice a0' a_0.length c0'), (3, .slice a5 ((st43.2.set (Int.toNat st43.1) x60).length) c6), (4, .int .i64 (wI64 (st43.1 + 1)))] (by kernel_rfl) ?_
  refine WL.nil ?_
  obtain rfl := Option.some.inj hm
  exact WQ.round hK50 ⟨((wI64 (st43.1 + 1)), (st43.2.set (Int.toNat st43.1) x60)), rfl, hb67, hL68, hS66, hl48⟩ (Nat.lt_succ_self _) ⟨rfl, rfl, rfl, trivial⟩

theorem c_69 (n : Nat) (a_0 : SRepair) (a0_1' : Option Addr) (c0_1' : Nat) (a0_2' : Option Addr) (c0_2' : Nat) (w : World) {r : SRepair} (hm : m_laws_toRepair n a_0 = some r) (hr0_1 : Rd fInt.ty w a0_1' a_0.Mends) (hle0_1 : a_0.Mends.length ≤ c0_1') (hr0_2 : Rd fInt.ty w a0_2' a_0.First) (hle0_2 : a_0.First.length ≤ c0_2') :
    CallV Try.prog 69 #[.agg #[.string (bs a_0.Name), .slice a0_1' a_0.Mends.length c0_1', .slice a0_2' a_0.First.length c0_2', .int .i64 a_0.Price, .int .i64 a_0.Hours]] w (fun v w' => ∃ (ra0_1 : Option Addr) (rc0_1 : Nat) (ra0_2 : Option Addr) (rc0_2 : Nat), v = .agg #[.string (bs r.Name), .slice ra0_1 r.Mends.length rc0_1, .slice ra0_2 r.First.length rc0_2, .int .i64 r.Price, .int .i64 r.Hours] ∧ Ext w w' ∧ SH w' w.heap.size [aOwn fInt 2 ra0_1 rc0_1 r.Mends, aOwn fInt 2 ra0_2 rc0_2 r.First]) := by
  unfold m_laws_toRepair at hm
  refine CallV.enter Try.func69 rfl (by kernel_rfl) Try.ntmps69 (env := [(0, .agg #[.string (bs a_0.Name), .slice a0_1' a_0.Mends.length c0_1', .slice a0_2' a_0.First.length c0_2', .int .i64 a_0.Price, .int .i64 a_0.Hours])]) ⟨rfl, trivial⟩ ?_
  refine WP.seq (fun K1 hK1 => ?_)
  refine WP.region ?_
  refine WL.box 72 [.string (bs a_0.Name), .slice a0_1' a_0.Mends.length c0_1', .slice a0_2' a_0.First.length c0_2', .int .i64 a_0.Price, .int .i64 a_0.Hours] 1 (by kernel_rfl) rfl rfl rfl rfl ?_
  intro b2 w3 hE4 hR5
  have hb7 : Ext w w3 := Ext.trans (Ext.refl w) hE4
  have hL8 : w.heap.size ≤ w3.heap.size := Nat.le_trans (Nat.le_refl _) hE4.size
  have hS9 : SH w3 w.heap.size [aBox 72 b2 [.string (bs a_0.Name), .slice a0_1' a_0.Mends.length c0_1', .slice a0_2' a_0.First.length c0_2', .int .i64 a_0.Price, .int .i64 a_0.Hours]] := SH.add (SH.nil _ _) hE4 (Nat.le_refl _) hR5
  refine WL.box 73 [.string (bs []), .slice none 0 0, .slice none 0 0, .int .i64 0, .int .i64 0] 2 (by kernel_rfl) rfl rfl rfl rfl ?_
  intro b10 w11 hE12 hR13
  have hb15 : Ext w w11 := Ext.trans hb7 hE12
  have hL16 : w.heap.size ≤ w11.heap.size := Nat.le_trans hL8 hE12.size
  have hS17 : SH w11 w.heap.size [aBox 73 b10 [.string (bs []), .slice none 0 0, .slice none 0 0, .int .i64 0, .int .i64 0], aBox 72 b2 [.string (bs a_0.Name), .slice a0_1' a_0.Mends.length c0_1', .slice a0_2' a_0.First.length c0_2', .int .i64 a_0.Price, .int .i64 a_0.Hours]] := SH.add hS9 hE12 hL8 hR13
  refine WL.sub [(1, .pointer (some ⟨b2, 0, none⟩)), (2, .pointer (some ⟨b10, 0, none⟩))] ⟨rfl, rfl, trivial⟩ ?_
  refine WL.nil ?_
  refine WQ.then_normal (hK1 _ _ _ ?_)
  refine WP.seq (fun K18 hK18 => ?_)
  refine WP.region ?_
  refine WL.box 73 [.string (bs []), .slice none 0 0, .slice none 0 0, .int .i64 0, .int .i64 0] 3 (by kernel_rfl) rfl rfl rfl rfl ?_
  intro b19 w20 hE21 hR22
  have hb24 : Ext w w20 := Ext.trans hb15 hE21
  have hL25 : w.heap.size ≤ w20.heap.size := Nat.le_trans hL16 hE21.size
  have hS26 : SH w20 w.heap.size [aBox 73 b19 [.string (bs []), .slice none 0 0, .slice none 0 0, .int .i64 0, .int .i64 0], aBox 73 b10 [.string (bs []), .slice none 0 0, .slice none 0 0, .int .i64 0, .int .i64 0], aBox 72 b2 [.string (bs a_0.Name), .slice a0_1' a_0.Mends.length c0_1', .slice a0_2' a_0.First.length c0_2', .int .i64 a_0.Price, .int .i64 a_0.Hours]] := SH.add hS17 hE21 hL16 hR22
  refine WL.sub [(1, .pointer (some ⟨b2, 0, none⟩)), (2, .pointer (some ⟨b10, 0, none⟩)), (3, .pointer (some ⟨b19, 0, none⟩))] ⟨rfl, rfl, rfl, trivial⟩ ?_
  refine WL.nil ?_
  refine WQ.then_normal (hK18 _ _ _ ?_)
  refine WP.seq (fun K27 hK27 => ?_)
  refine WP.region ?_
  refine WL.runk 1 [1, 2, 3, 4] [(1, .pointer (some ⟨b2, 0, none⟩)), (2, .pointer (some ⟨b10, 0, none⟩)), (3, .pointer (some ⟨b19, 0, none⟩)), (4, .pointer (some ⟨b2, 0, none⟩))] (by kernel_rfl) ?_
  refine WL.st (.string (bs a_0.Name)) (ST.load (cell_ext (SH.boxAt (SH.front 2 hS26) 0 _ rfl)) rfl rfl Try.underlying9 rfl) rfl rfl rfl ?_
  refine WL.runk 1 [1, 2, 3, 5, 6] [(1, .pointer (some ⟨b2, 0, none⟩)), (2, .pointer (some ⟨b10, 0, none⟩)), (3, .pointer (some ⟨b19, 0, none⟩)), (5, .string (bs a_0.Name)), (6, .pointer (some ⟨b19, 0, none⟩))] (by kernel_rfl) ?_
  refine WL.boxStore 0 [.string (bs a_0.Name)] [.string (bs a_0.Name), .slice none 0 0, .slice none 0 0, .int .i64 0, .int .i64 0] (SH.front 0 hS26) hL25 rfl rfl rfl rfl rfl rfl rfl (info9).1 (info9).2.1 rfl rfl rfl ?_
  intro w28 hB29 hS30
  have hb31 : Ext w w28 := Below.trans hb24 hB29
  have hL32 : w.heap.size ≤ w28.heap.size := Nat.le_trans hL25 hB29.size
  refine WL.sub [(1, .pointer (some ⟨b2, 0, none⟩)), (2, .pointer (some ⟨b10, 0, none⟩)), (3, .pointer (some ⟨b19, 0, none⟩))] ⟨rfl, rfl, rfl, trivial⟩ ?_
  refine WL.nil ?_
  refine WQ.then_normal (hK27 _ _ _ ?_)
  refine WP.seq (fun K33 hK33 => ?_)
  refine WP.region ?_
  refine WL.runk 1 [1, 2, 3, 7] [(1, .pointer (some ⟨b2, 0, none⟩)), (2, .pointer (some ⟨b10, 0, none⟩)), (3, .pointer (some ⟨b19, 0, none⟩)), (7, .pointer (some ⟨b2, 1, none⟩))] (by kernel_rfl) ?_
  refine WL.st (.slice a0_1' a_0.Mends.length c0_1') (ST.load (cell_ext (SH.boxAt (SH.front 2 hS30) 1 _ rfl)) rfl rfl Try.underlying25 rfl) rfl rfl rfl ?_
  obtain ⟨x34, hx35, hm⟩ := bindE hm
  refine WL.call 36 #[.slice a0_1' a_0.Mends.length c0_1'] rfl rfl (by kernel_rfl) (c_36 n a_0.Mends a0_1' c0_1' w28 hx35 (Rd.below hr0_1 hb31) hle0_1) ?_
  rintro _ w39 ⟨a36, c37, rfl, hE40, hR41⟩
  refine ⟨_, rfl, ?_⟩
  have hb42 : Ext w w39 := Ext.trans hb31 hE40
  have hL43 : w.heap.size ≤ w39.heap.size := Nat.le_trans hL32 hE40.size
  have hS44 : SH w39 w.heap.size [aOwn fInt 2 a36 c37 x34, aBox 73 b19 [.string (bs a_0.Name), .slice none 0 0, .slice none 0 0, .int .i64 0, .int .i64 0], aBox 73 b10 [.string (bs []), .slice none 0 0, .slice none 0 0, .int .i64 0, .int .i64 0], aBox 72 b2 [.string (bs a_0.Name), .slice a0_1' a_0.Mends.length c0_1', .slice a0_2' a_0.First.length c0_2', .int .i64 a_0.Price, .int .i64 a_0.Hours]] := SH.add hS30 hE40 hL32 hR41
  refine WL.runk 1 [1, 2, 3, 9, 10] [(1, .pointer (some ⟨b2, 0, none⟩)), (2, .pointer (some ⟨b10, 0, none⟩)), (3, .pointer (some ⟨b19, 0, none⟩)), (9, .slice a36 x34.length c37), (10, .pointer (some ⟨b19, 1, none⟩))] (by kernel_rfl) ?_
  refine WL.boxStore 1 [.slice a36 x34.length c37] [.string (bs a_0.Name), .slice a36 x34.length c37, .slice none 0 0, .int .i64 0, .int .i64 0] (SH.front 1 hS44) hL43 rfl rfl rfl rfl rfl rfl rfl (info25).1 (info25).2.1 rfl rfl rfl ?_
  intro w45 hB46 hS47
  have hb48 : Ext w w45 := Below.trans hb42 hB46
  have hL49 : w.heap.size ≤ w45.heap.size := Nat.le_trans hL43 hB46.size
  refine WL.sub [(1, .pointer (some ⟨b2, 0, none⟩)), (2, .pointer (some ⟨b10, 0, none⟩)), (3, .pointer (some ⟨b19, 0, none⟩))] ⟨rfl, rfl, rfl, trivial⟩ ?_
  refine WL.nil ?_
  refine WQ.then_normal (hK33 _ _ _ ?_)
  refine WP.seq (fun K50 hK50 => ?_)
  refine WP.region ?_
  refine WL.runk 1 [1, 2, 3, 11] [(1, .pointer (some ⟨b2, 0, none⟩)), (2, .pointer (some ⟨b10, 0, none⟩)), (3, .pointer (some ⟨b19, 0, none⟩)), (11, .pointer (some ⟨b2, 2, none⟩))] (by kernel_rfl) ?_
  refine WL.st (.slice a0_2' a_0.First.length c0_2') (ST.load (cell_ext (SH.boxAt (SH.front 3 hS47) 2 _ rfl)) rfl rfl Try.underlying25 rfl) rfl rfl rfl ?_
  obtain ⟨x51, hx52, hm⟩ := bindE hm
  refine WL.call 36 #[.slice a0_2' a_0.First.length c0_2'] rfl rfl (by kernel_rfl) (c_36 n a_0.First a0_2' c0_2' w45 hx52 (Rd.below hr0_2 hb48) hle0_2) ?_
  rintro _ w56 ⟨a53, c54, rfl, hE57, hR58⟩
  refine ⟨_, rfl, ?_⟩
  have hb59 : Ext w w56 := Ext.trans hb48 hE57
  have hL60 : w.heap.size ≤ w56.heap.size := Nat.le_trans hL49 hE57.size
  have hS61 : SH w56 w.heap.size [aOwn fInt 2 a53 c54 x51, aBox 73 b19 [.string (bs a_0.Name), .slice a36 x34.length c37, .slice none 0 0, .int .i64 0, .int .i64 0], aOwn fInt 2 a36 c37 x34, aBox 73 b10 [.string (bs []), .slice none 0 0, .slice none 0 0, .int .i64 0, .int .i64 0], aBox 72 b2 [.string (bs a_0.Name), .slice a0_1' a_0.Mends.length c0_1', .slice a0_2' a_0.First.length c0_2', .int .i64 a_0.Price, .int .i64 a_0.Hours]] := SH.add hS47 hE57 hL49 hR58
  refine WL.runk 1 [1, 2, 3, 13, 14] [(1, .pointer (some ⟨b2, 0, none⟩)), (2, .pointer (some ⟨b10, 0, none⟩)), (3, .pointer (some ⟨b19, 0, none⟩)), (13, .slice a53 x51.length c54), (14, .pointer (some ⟨b19, 2, none⟩))] (by kernel_rfl) ?_
  refine WL.boxStore 2 [.slice a53 x51.length c54] [.string (bs a_0.Name), .slice a36 x34.length c37, .slice a53 x51.length c54, .int .i64 0, .int .i64 0] (SH.front 1 hS61) hL60 rfl rfl rfl rfl rfl rfl rfl (info25).1 (info25).2.1 rfl rfl rfl ?_
  intro w62 hB63 hS64
  have hb65 : Ext w w62 := Below.trans hb59 hB63
  have hL66 : w.heap.size ≤ w62.heap.size := Nat.le_trans hL60 hB63.size
  refine WL.sub [(1, .pointer (some ⟨b2, 0, none⟩)), (2, .pointer (some ⟨b10, 0, none⟩)), (3, .pointer (some ⟨b19, 0, none⟩))] ⟨rfl, rfl, rfl, trivial⟩ ?_
  refine WL.nil ?_
  refine WQ.then_normal (hK50 _ _ _ ?_)
  refine WP.seq (fun K67 hK67 => ?_)
  refine WP.region ?_
  refine WL.runk 1 [1, 2, 3, 15] [(1, .pointer (some ⟨b2, 0, none⟩)), (2, .pointer (some ⟨b10, 0, none⟩)), (3, .pointer (some ⟨b19, 0, none⟩)), (15, .pointer (some ⟨b2, 3, none⟩))] (by kernel_rfl) ?_
  refine WL.st (.int .i64 a_0.Price) (ST.load (cell_ext (SH.boxAt (SH.front 4 hS64) 3 _ rfl)) rfl rfl Try.underlying2 rfl) rfl rfl rfl ?_
  refine WL.runk 1 [1, 2, 3, 16, 17] [(1, .pointer (some ⟨b2, 0, none⟩)), (2, .pointer (some ⟨b10, 0, none⟩)), (3, .pointer (some ⟨b19, 0, none⟩)), (16, .int .i64 a_0.Price), (17, .pointer (some ⟨b19, 3, none⟩))] (by kernel_rfl) ?_
  refine WL.boxStore 3 [.int .i64 a_0.Price] [.string (bs a_0.Name), .slice a36 x34.length c37, .slice a53 x51.length c54, .int .i64 a_0.Price, .int .i64 0] (SH.front 0 hS64) hL66 rfl rfl rfl rfl rfl rfl rfl (info2).1 (info2).2.1 rfl rfl rfl ?_
  intro w68 hB69 hS70
  have hb71 : Ext w w68 := Below.trans hb65 hB69
  have hL72 : w.heap.size ≤ w68.heap.size := Nat.le_trans hL66 hB69.size
  refine WL.sub [(1, .pointer (some ⟨b2, 0, none⟩)), (2, .pointer (some ⟨b10, 0, none⟩)), (3, .pointer (some ⟨b19, 0, none⟩))] ⟨rfl, rfl, rfl, trivial⟩ ?_
  refine WL.nil ?_
  refine WQ.then_normal (hK67 _ _ _ ?_)
  refine WP.seq (fun K73 hK73 => ?_)
  refine WP.region ?_
  refine WL.runk 1 [2, 3, 18] [(2, .pointer (some ⟨b10, 0, none⟩)), (3, .pointer (some ⟨b19, 0, none⟩)), (18, .pointer (some ⟨b2, 4, none⟩))] (by kernel_rfl) ?_
  refine WL.st (.int .i64 a_0.Hours) (ST.load (cell_ext (SH.boxAt (SH.front 4 hS70) 4 _ rfl)) rfl rfl Try.underlying2 rfl) rfl rfl rfl ?_
  refine WL.runk 1 [2, 3, 19, 20] [(2, .pointer (some ⟨b10, 0, none⟩)), (3, .pointer (some ⟨b19, 0, none⟩)), (19, .int .i64 a_0.Hours), (20, .pointer (some ⟨b19, 4, none⟩))] (by kernel_rfl) ?_
  refine WL.boxStore 4 [.int .i64 a_0.Hours] [.string (bs a_0.Name), .slice a36 x34.length c37, .slice a53 x51.length c54, .int .i64 a_0.Price, .int .i64 a_0.Hours] (SH.front 0 hS70) hL72 rfl rfl rfl rfl rfl rfl rfl (info2).1 (info2).2.1 rfl rfl rfl ?_
  intro w74 hB75 hS76
  have hb77 : Ext w w74 := Below.trans hb71 hB75
  have hL78 : w.heap.size ≤ w74.heap.size := Nat.le_trans hL72 hB75.size
  refine WL.sub [(2, .pointer (some ⟨b10, 0, none⟩)), (3, .pointer (some ⟨b19, 0, none⟩))] ⟨rfl, rfl, trivial⟩ ?_
  refine WL.nil ?_
  refine WQ.then_normal (hK73 _ _ _ ?_)
  refine WP.seq (fun K79 hK79 => ?_)
  refine WP.region ?_
  refine WL.st (.agg #[.string (bs a_0.Name), .slice a36 x34.length c37, .slice a53 x51.length c54, .int .i64 a_0.Price, .int .i64 a_0.Hours]) (ST.loadAgg (vs := [.string (bs a_0.Name), .slice a36 x34.length c37, .slice a53 x51.length c54, .int .i64 a_0.Price, .int .i64 a_0.Hours]) (fun j v hv => SH.boxPart (us := [.string (bs a_0.Name), .slice a36 x34.length c37, .slice a53 x51.length c54, .int .i64 a_0.Price, .int .i64 a_0.Hours]) (SH.front 0 hS76) 0 rfl j v hv) rfl rfl rfl Try.underlying73 rfl (info73).1 (info73).2.1) rfl rfl rfl ?_
  refine WL.boxStore 0 [.string (bs a_0.Name), .slice a36 x34.length c37, .slice a53 x51.length c54, .int .i64 a_0.Price, .int .i64 a_0.Hours] [.string (bs a_0.Name), .slice a36 x34.length c37, .slice a53 x51.length c54, .int .i64 a_0.Price, .int .i64 a_0.Hours] (SH.front 3 hS76) hL78 rfl rfl rfl rfl rfl rfl rfl (info73).1 (info73).2.1 rfl rfl rfl ?_
  intro w80 hB81 hS82
  have hb83 : Ext w w80 := Below.trans hb77 hB81
  have hL84 : w.heap.size ≤ w80.heap.size := Nat.le_trans hL78 hB81.size
  refine WL.sub [(2, .pointer (some ⟨b10, 0, none⟩))] ⟨rfl, trivial⟩ ?_
  refine WL.nil ?_
  refine WQ.then_normal (hK79 _ _ _ ?_)
  refine WP.ret ?_
  obtain rfl := Option.some.inj hm
  exact WQ.retv1 _ rfl (RVal.box (SH.front 0 hS82) rfl Try.underlying73 rfl (info73).1 (info73).2.1) ⟨_, _, _, _, rfl, hb83, (SH.take 2 (SH.front 3 (SH.front 2 hS82)))⟩

theorem c_30 (n : Nat) (a_0 : List SRepair) (a0' : Option Addr) (c0' : Nat) (w : World) {r : List SRepair} (hm : m_laws_toRepairS n a_0 = some r) (h0 : Rd fRepair.ty w a0' a_0) (_hle0 : a_0.length ≤ c0') :
    CallV Try.prog 30 #[.slice a0' a_0.length c0'] w (fun v w' => ∃ (ra0 : Option Addr) (rc0 : Nat), v = .slice ra0 r.length rc0 ∧ Ext w w' ∧ SH w' w.heap.size [aNest fRepair 73 2 ra0 rc0 r]) := by
  unfold m_laws_toRepairS at hm
  refine CallV.enter Try.func30 rfl (by kernel_rfl) Try.ntmps30 (env := [(0, .slice a0' a_0.length c0')]) ⟨rfl, trivial⟩ ?_
  refine WP.seq (fun K1 hK1 => ?_)
  refine WP.region ?_
  refine WL.runk 1 [0] [(0, .slice a0' a_0.length c0')] (by kernel_rfl) ?_
  refine WL.nil ?_
  refine WQ.then_normal (hK1 _ _ _ ?_)
  refine WP.seq (fun K2 hK2 => ?_)
  refine WP.region ?_
  refine WL.runk 2 [0, 6] [(0, .slice a0' a_0.length c0'), (6, .int .i64 (a_0.length : Int))] (by kernel_rfl) ?_
  obtain ⟨x3, hx4, hm⟩ := bindE hm
  refine WL.makeN (ei := 2) fRepair 7 hx4 (.val (Fit.row' rfl (Fit.row' rfl (.val (.val .nil))))) (Emp.row (Emp.row Emp.nil)) rfl rfl rfl Try.underlying24 (info73).1 (info73).2.2.1 (info73).2.1 (info73).2.2.2 rfl rfl rfl rfl ?_
  intro a5 c6 w7 hE8 hR9
  have hb11 : Ext w w7 := Ext.trans (Ext.refl w) hE8
  have hL12 : w.heap.size ≤ w7.heap.size := Nat.le_trans (Nat.le_refl _) hE8.size
  have hS13 : SH w7 w.heap.size [aNest fRepair 73 2 a5 c6 x3] := SH.add (SH.nil _ _) hE8 (Nat.le_refl _) hR9
  refine WL.runk 1 [0, 3] [(0, .slice a0' a_0.length c0'), (3, .slice a5 x3.length c6)] (by kernel_rfl) ?_
  refine WL.nil ?_
  refine WQ.then_normal (hK2 _ _ _ ?_)
  refine WP.seq (fun K14 hK14 => ?_)
  refine WP.seq (fun K15 hK15 => ?_)
  refine WP.region ?_
  refine WL.runk 1 [0, 3, 4] [(0, .slice a0' a_0.length c0'), (3, .slice a5 x3.length c6), (4, .int .i64 0)] (by kernel_rfl) ?_
  refine WL.nil ?_
  refine WQ.then_normal (hK15 _ _ _ ?_)
  refine WP.block ?_
  obtain ⟨t87, ht88, hm⟩ := bindE hm
  have hmo82 := hm; clear hm
  refine WP.sub [(0, .slice a0' a_0.length c0'), (3, .slice a5 x3.length c6), (4, .int .i64 0)] ⟨rfl, rfl, rfl, trivial⟩ ?_
  refine WP.loop (fun n' env' w' => ∃ (st76 : Int × List SRepair) , env' = [(0, .slice a0' a_0.length c0'), (3, .slice a5 st76.2.length c6), (4, .int .i64 st76.1)] ∧ Ext w w' ∧ w.heap.size ≤ w'.heap.size ∧ SH w' w.heap.size [aNest fRepair 73 2 a5 c6 st76.2] ∧ loopN (m_laws_toRepairS_l1 n a_0) n' st76 = some t87) n ⟨(0, x3), rfl, hb11, hL12, hS13, ht88⟩ ?_
  rintro n84 _ w77 ⟨st76, rfl, hb78, hL79, hS80, hl81⟩ K83 hK83
  obtain ⟨n85, s86, rfl, hm, hl81⟩ := loopN_some hl81
  unfold m_laws_toRepairS_l1 at hm
  refine WP.seq (fun K89 hK89 => ?_)
  refine WP.seq (fun K90 hK90 => ?_)
  refine WP.region ?_
  refine WL.runk 4 [0, 3, 4, 11] [(0, .slice a0' a_0.length c0'), (3, .slice a5 st76.2.length c6), (4, .int .i64 st76.1), (11, .bool (decide (st76.1 < (a_0.length : Int))))] (by kernel_rfl) ?_
  refine WL.nil ?_
  refine WQ.then_normal (hK90 _ _ _ ?_)
  refine WP.cond (decide (st76.1 < (a_0.length : Int))) rfl rfl (fun hc91 => ?_) (fun hc91 => ?_)
  rotate_left
  · have hm := iteF hm hc91
    refine WP.exit ?_
    refine WQ.then_exit ?_
    refine WQ.then_exit ?_
    refine WQ.block_here ?_
    obtain rfl := Option.some.inj hm
    obtain rfl := afterN_done hl81
    have hm := hmo82
    refine WQ.then_normal (hK14 _ _ _ ?_)
    refine WP.seq (fun K135 hK135 => ?_)
    refine WP.region ?_
    refine WL.runk 2 [2] [(2, .slice a5 st76.2.length c6)] (by kernel_rfl) ?_
    refine WL.nil ?_
    refine WQ.then_normal (hK135 _ _ _ ?_)
    refine WP.ret ?_
    obtain rfl := Option.some.inj hm
    exact WQ.ret1 _ rfl rfl ⟨_, _, rfl, hb78, hS80⟩
  have hm := iteT hm hc91
  refine WP.skip ?_
  refine WQ.then_normal (hK89 _ _ _ ?_)
  refine WP.seq (fun K92 hK92 => ?_)
  refine WP.block ?_
  refine WP.region ?_
  refine WL.runk 4 [0, 3, 4, 14, 15, 16, 17] [(0, .slice a0' a_0.length c0'), (3, .slice a5 st76.2.length c6), (4, .int .i64 st76.1), (14, .slice a5 st76.2.length c6), (15, .int .i64 st76.1), (16, .slice a0' a_0.length c0'), (17, .int .i64 st76.1)] (by kernel_rfl) ?_
  obtain ⟨x93, hx94, hm⟩ := bindE hm
  obtain ⟨a95, c96, a100, c101, hc105, hR97, hle98, hR102, hle103⟩ := nest_Repair h0 hx94
  refine WL.st (.pointer (some (at_ a0' (Int.toNat st76.1 * 5)))) (ST.index (T := fRepair.ty) (xs := a_0) (Rd.below h0 hb78) hx94 rfl rfl rfl Try.underlying39 (info72).1 (info72).2.1) rfl rfl rfl ?_
  refine WL.st (.agg #[.string (bs x93.Name), .slice a95 x93.Mends.length c96, .slice a100 x93.First.length c101, .int .i64 x93.Price, .int .i64 x93.Hours]) (ST.loadAgg (vs := [.string (bs x93.Name), .slice a95 x93.Mends.length c96, .slice a100 x93.First.length c101, .int .i64 x93.Price, .int .i64 x93.Hours]) (at_agg (cells_ext hc105 hb78)) rfl rfl rfl Try.underlying72 rfl (info72).1 (info72).2.1) rfl rfl rfl ?_
  obtain ⟨x106, hx107, hm⟩ := bindE hm
  refine WL.call 69 #[.agg #[.string (bs x93.Name), .slice a95 x93.Mends.length c96, .slice a100 x93.First.length c101, .int .i64 x93.Price, .int .i64 x93.Hours]] rfl rfl (by kernel_rfl) (c_69 n x93 a95 c96 a100 c101 w77 hx107 (Rd.below hR97 hb78) hle98 (Rd.below hR102 hb78) hle103) ?_
  rintro _ w114 ⟨a108, c109, a111, c112, rfl, hE115, hR116⟩
  refine ⟨_, rfl, ?_⟩
  have hb117 : Ext w w114 := Ext.trans hb78 hE115
  have hL118 : w.heap.size ≤ w114.heap.size := Nat.le_trans hL79 hE115.size
  have hS119 : SH w114 w.heap.size [aOwn fInt 2 a108 c109 x106.Mends, aOwn fInt 2 a111 c112 x106.First, aNest fRepair 73 2 a5 c6 st76.2] := SH.add hS80 hE115 hL79 hR116
  obtain ⟨x120, hx121, hm⟩ := bindE hm
  obtain ⟨a122, c123, a125, c126, hS128⟩ := elem_Repair (SH.front 2 hS119) hx121
  refine WL.st (.pointer (some (at_ a5 (Int.toNat st76.1 * 5)))) (ST.index (T := fRepair.ty) (xs := st76.2) (SH.rdN (SH.front 2 hS119)) hx121 rfl rfl rfl Try.underlying24 (info73).1 (info73).2.1) rfl rfl rfl ?_
  refine WL.holeStore 0 [.string (bs x106.Name), .slice a108 x106.Mends.length c109, .slice a111 x106.First.length c112, .int .i64 x106.Price, .int .i64 x106.Hours] [.string (bs x106.Name), .slice a108 x106.Mends.length c109, .slice a111 x106.First.length c112, .int .i64 x106.Price, .int .i64 x106.Hours] (SH.front 2 hS128) hL118 rfl rfl rfl rfl rfl rfl rfl (info73).1 (info73).2.1 rfl rfl rfl ?_
  intro w129 hB130 hS131
  have hb132 : Ext w w129 := Below.trans hb117 hB130
  have hL133 : w.heap.size ≤ w129.heap.size := Nat.le_trans hL118 hB130.size
  refine WL.sub [(0, .slice a0' a_0.length c0'), (3, .slice a5 st76.2.length c6), (4, .int .i64 st76.1)] ⟨rfl, rfl, rfl, trivial⟩ ?_
  have hS134 : SH w129 w.heap.size [aNest fRepair 73 2 a5 c6 (st76.2.set (Int.toNat st76.1) x106), aOwn fInt 2 a122 c123 x120.Mends, aOwn fInt 2 a125 c126 x120.First] := SH.elemBack (Ix := [aOwn fInt 2 a108 c109 x106.Mends, aOwn fInt 2 a111 c112 x106.First]) (x' := x106) (SH.front 4 (SH.front 4 (SH.front 2 (SH.front 2 (SH.front 2 hS131))))) (.val (Fit.row' rfl (Fit.row' rfl (.val (.val .nil)))))
  refine WL.sub [(0, .slice a0' a_0.length c0'), (3, .slice a5 ((st76.2.set (Int.toNat st76.1) x106).length) c6), (4, .int .i64 st76.1)] ⟨rfl, by first | (simp only [List.length_set]; done) | (simp only [List.length_set]; rfl), rfl, trivial⟩ ?_
  refine WL.nil ?_
  refine WQ.block_normal ?_
  refine WQ.then_normal (hK92 _ _ _ ?_)
  refine WP.region ?_
  refine WL.runk 3 [0, 3, 4] [(0, .slice a0' a_0.length c0'), (3, .slice a5 ((st76.2.set (Int.toNat st76.1) x106).length) c6), (4, .int .i64 (wI64 (st76.1 + 1)))] (by kernel_rfl) ?_
  refine WL.nil ?_
  obtain rfl := Option.some.inj hm
  exact WQ.round hK83 ⟨((wI64 (st76.1 + 1)), (st76.2.set (Int.toNat st76.1) x106)), rfl, hb132, hL133, (SH.take 1 hS134), hl81⟩ (Nat.lt_succ_self _) ⟨rfl, rfl, rfl, trivial⟩

theorem c_72 (n : Nat) (s1_0 : List Int) (a0' : Option Addr) (c0' : Nat) (s2_1 : List Int) (a1' : Option Addr) (c1' : Nat) (w : World) {r : Bool} (hm : m_slices_Equal_int64_int64 n s1_0 s2_1 = some r) (h0 : Rd fInt.ty w a0' s1_0) (_hle0 : s1_0.length ≤ c0') (h1 : Rd fInt.ty w a1' s2_1) (_hle1 : s2_1.length ≤ c1') :
    CallV Try.prog 72 #[.slice a0' s1_0.length c0', .slice a1' s2_1.length c1'] w (fun v w' => v = .bool r ∧ Ext w w') := by
  unfold m_slices_Equal_int64_int64 at hm
  refine CallV.enter Try.func72 rfl (by kernel_rfl) Try.ntmps72 (env := [(0, .slice a0' s1_0.length c0'), (1, .slice a1' s2_1.length c1')]) ⟨rfl, rfl, trivial⟩ ?_
  refine WP.seq (fun K1 hK1 => ?_)
  refine WP.region ?_
  refine WL.runk 1 [0, 1] [(0, .slice a0' s1_0.length c0'), (1, .slice a1' s2_1.length c1')] (by kernel_rfl) ?_
  refine WL.nil ?_
  refine WQ.then_normal (hK1 _ _ _ ?_)
  refine WP.seq (fun K2 hK2 => ?_)
  refine WP.seq (fun K3 hK3 => ?_)
  refine WP.region ?_
  refine WL.runk 5 [0, 1, 10] [(0, .slice a0' s1_0.length c0'), (1, .slice a1' s2_1.length c1'), (10, .bool ((s1_0.length : Int) != (s2_1.length : Int)))] (by kernel_rfl) ?_
  refine WL.nil ?_
  refine WQ.then_normal (hK3 _ _ _ ?_)
  refine WP.cond ((s1_0.length : Int) != (s2_1.length : Int)) rfl rfl (fun hc4 => ?_) (fun hc4 => ?_)
  · have hm := iteT hm hc4
    refine WP.seq (fun K5 hK5 => ?_)
    refine WP.region ?_
    refine WL.runk 1 [4] [(4, .bool false)] (by kernel_rfl) ?_
    refine WL.nil ?_
    refine WQ.then_normal (hK5 _ _ _ ?_)
    refine WP.ret ?_
    refine WQ.then_ret ?_
    obtain rfl := Option.some.inj hm
    exact WQ.ret1 _ rfl rfl ⟨rfl, (Ext.refl w)⟩
  have hm := iteF hm hc4
  refine WP.skip ?_
  refine WQ.then_normal (hK2 _ _ _ ?_)
  refine WP.seq (fun K6 hK6 => ?_)
  refine WP.seq (fun K7 hK7 => ?_)
  refine WP.region ?_
  refine WL.runk 3 [0, 1, 12, 13] [(0, .slice a0' s1_0.length c0'), (1, .slice a1' s2_1.length c1'), (12, .int .i64 (s1_0.length : Int)), (13, .int .i64 0)] (by kernel_rfl) ?_
  refine WL.nil ?_
  refine WQ.then_normal (hK7 _ _ _ ?_)
  refine WP.block ?_
  obtain ⟨t19, ht20, hm⟩ := bindE hm
  have hmo14 := hm; clear hm
  refine WP.sub [(0, .slice a0' s1_0.length c0'), (1, .slice a1' s2_1.length c1'), (12, .int .i64 (s1_0.length : Int)), (13, .int .i64 0)] ⟨rfl, rfl, rfl, rfl, trivial⟩ ?_
  refine WP.loop (fun n' env' w' => ∃ (st8 : Int) , env' = [(0, .slice a0' s1_0.length c0'), (1, .slice a1' s2_1.length c1'), (12, .int .i64 (s1_0.length : Int)), (13, .int .i64 st8)] ∧ Ext w w' ∧ w.heap.size ≤ w'.heap.size ∧ SH w' w.heap.size [] ∧ loopN (m_slices_Equal_int64_int64_l1 n s1_0 s2_1) n' st8 = some t19) n ⟨0, rfl, (Ext.refl w), (Nat.le_refl _), (SH.nil _ _), ht20⟩ ?_
  rintro n16 _ w9 ⟨st8, rfl, hb10, hL11, hS12, hl13⟩ K15 hK15
  obtain ⟨n17, s18, rfl, hm, hl13⟩ := loopN_some hl13
  unfold m_slices_Equal_int64_int64_l1 at hm
  refine WP.seq (fun K21 hK21 => ?_)
  refine WP.region ?_
  refine WL.runk 1 [0, 1, 12, 13, 14] [(0, .slice a0' s1_0.length c0'), (1, .slice a1' s2_1.length c1'), (12, .int .i64 (s1_0.length : Int)), (13, .int .i64 st8), (14, .bool (decide (st8 < (s1_0.length : Int))))] (by kernel_rfl) ?_
  refine WL.nil ?_
  refine WQ.then_normal (hK21 _ _ _ ?_)
  refine WP.seq (fun K22 hK22 => ?_)
  refine WP.cond (decide (st8 < (s1_0.length : Int))) rfl rfl (fun hc23 => ?_) (fun hc23 => ?_)
  rotate_left
  · have hm := iteF hm hc23
    refine WP.exit ?_
    refine WQ.then_exit ?_
    refine WQ.then_exit ?_
    refine WQ.block_here ?_
    obtain rfl := Option.some.inj hm
    obtain rfl := afterN_done hl13
    have hm := hmo14
    refine WQ.then_normal (hK6 _ _ _ ?_)
    refine WP.seq (fun K38 hK38 => ?_)
    refine WP.region ?_
    refine WL.runk 1 [4] [(4, .bool true)] (by kernel_rfl) ?_
    refine WL.nil ?_
    refine WQ.then_normal (hK38 _ _ _ ?_)
    refine WP.ret ?_
    obtain rfl := Option.some.inj hm
    exact WQ.ret1 _ rfl rfl ⟨rfl, hb10⟩
  have hm := iteT hm hc23
  refine WP.skip ?_
  refine WQ.then_normal (hK22 _ _ _ ?_)
  refine WP.seq (fun K24 hK24 => ?_)
  refine WP.block ?_
  refine WP.seq (fun K25 hK25 => ?_)
  refine WP.region ?_
  refine WL.runk 2 [0, 1, 5, 12, 13] [(0, .slice a0' s1_0.length c0'), (1, .slice a1' s2_1.length c1'), (12, .int .i64 (s1_0.length : Int)), (13, .int .i64 st8), (5, .int .i64 st8)] (by kernel_rfl) ?_
  refine WL.nil ?_
  refine WQ.then_normal (hK25 _ _ _ ?_)
  refine WP.seq (fun K26 hK26 => ?_)
  refine WP.quiet (by kernel_rfl) (by kernel_rfl) ?_
  refine QL.step1v 16 (.slice a0' s1_0.length c0') rfl (fun _ => by kernel_rfl) ?_
  refine QL.step1v 17 (.int .i64 st8) rfl (fun _ => by kernel_rfl) ?_
  refine QL.subk [0, 1, 12, 13, 5, 16, 17] [(0, .slice a0' s1_0.length c0'), (1, .slice a1' s2_1.length c1'), (12, .int .i64 (s1_0.length : Int)), (13, .int .i64 st8), (5, .int .i64 st8), (16, .slice a0' s1_0.length c0'), (17, .int .i64 st8)] (by kernel_rfl) ?_
  obtain ⟨x27, hx28, hm⟩ := bindE hm
  refine QL.st (.pointer (some (at_ a0' (Int.toNat st8 * 1)))) (ST.index (T := fInt.ty) (xs := s1_0) (Rd.below h0 hb10) hx28 rfl rfl rfl Try.underlying25 (info2).1 (info2).2.1) rfl rfl rfl ?_
  refine QL.st (.int .i64 x27) (ST.load (cell_ext (Rd.flat (F := fInt) (Rd.below h0 hb10) hx28 0 rfl)) rfl rfl Try.underlying2 rfl) rfl rfl rfl ?_
  refine QL.step1v 20 (.slice a1' s2_1.length c1') rfl (fun _ => by kernel_rfl) ?_
  refine QL.step1v 21 (.int .i64 st8) rfl (fun _ => by kernel_rfl) ?_
  refine QL.subk [0, 1, 12, 13, 19, 20, 21] [(0, .slice a0' s1_0.length c0'), (1, .slice a1' s2_1.length c1'), (12, .int .i64 (s1_0.length : Int)), (13, .int .i64 st8), (19, .int .i64 x27), (20, .slice a1' s2_1.length c1'), (21, .int .i64 st8)] (by kernel_rfl) ?_
  obtain ⟨x29, hx30, hm⟩ := bindE hm
  refine QL.st (.pointer (some (at_ a1' (Int.toNat st8 * 1)))) (ST.index (T := fInt.ty) (xs := s2_1) (Rd.below h1 hb10) hx30 rfl rfl rfl Try.underlying25 (info2).1 (info2).2.1) rfl rfl rfl ?_
  refine QL.st (.int .i64 x29) (ST.load (cell_ext (Rd.flat (F := fInt) (Rd.below h1 hb10) hx30 0 rfl)) rfl rfl Try.underlying2 rfl) rfl rfl rfl ?_
  refine QL.step1v 24 (.bool (x27 != x29)) rfl (fun _ => by kernel_rfl) ?_
  refine QL.subk [0, 1, 12, 13, 24] [(0, .slice a0' s1_0.length c0'), (1, .slice a1' s2_1.length c1'), (12, .int .i64 (s1_0.length : Int)), (13, .int .i64 st8), (24, .bool (x27 != x29))] (by kernel_rfl) ?_
  refine QL.nil ?_
  intro w31 hE32
  have hb33 : Ext w w31 := Ext.trans hb10 hE32
  have hL34 : w.heap.size ≤ w31.heap.size := Nat.le_trans hL11 hE32.size
  have hS35 : SH w31 w.heap.size [] := SH.ext hS12 hE32
  refine WQ.then_normal (hK26 _ _ _ ?_)
  refine WP.cond (x27 != x29) rfl rfl (fun hc36 => ?_) (fun hc36 => ?_)
  rotate_left
  · have hm := iteF hm hc36
    refine WP.skip ?_
    refine WQ.block_normal ?_
    refine WQ.then_normal (hK24 _ _ _ ?_)
    refine WP.region ?_
    refine WL.runk 2 [0, 1, 12, 13] [(0, .slice a0' s1_0.length c0'), (1, .slice a1' s2_1.length c1'), (12, .int .i64 (s1_0.length : Int)), (13, .int .i64 (wI64 (st8 + 1)))] (by kernel_rfl) ?_
    refine WL.nil ?_
    obtain rfl := Option.some.inj hm
    exact WQ.round hK15 ⟨(wI64 (st8 + 1)), rfl, hb33, hL34, hS35, hl13⟩ (Nat.lt_succ_self _) ⟨rfl, rfl, rfl, rfl, trivial⟩
  have hm := iteT hm hc36
  refine WP.seq (fun K37 hK37 => ?_)
  refine WP.region ?_
  refine WL.runk 1 [4] [(4, .bool false)] (by kernel_rfl) ?_
  refine WL.nil ?_
  refine WQ.then_normal (hK37 _ _ _ ?_)
  refine WP.ret ?_
  refine WQ.block_ret ?_
  refine WQ.then_ret ?_
  refine WQ.then_ret ?_
  refine WQ.block_ret ?_
  refine WQ.then_ret ?_
  obtain rfl := Option.some.inj hm
  obtain rfl := afterN_done hl13
  have hm := hmo14
  obtain rfl := Option.some.inj hm
  exact WQ.ret1 _ rfl rfl ⟨rfl, hb33⟩

theorem c_71 (n : Nat) (x_0 : SRepair) (a0_1' : Option Addr) (c0_1' : Nat) (a0_2' : Option Addr) (c0_2' : Nat) (y_1 : SRepair) (a1_1' : Option Addr) (c1_1' : Nat) (a1_2' : Option Addr) (c1_2' : Nat) (w : World) {r : Bool} (hm : m_impl_SameRepairs_1 n x_0 y_1 = some r) (hr0_1 : Rd fInt.ty w a0_1' x_0.Mends) (hle0_1 : x_0.Mends.length ≤ c0_1') (hr0_2 : Rd fInt.ty w a0_2' x_0.First) (hle0_2 : x_0.First.length ≤ c0_2') (hr1_1 : Rd fInt.ty w a1_1' y_1.Mends) (hle1_1 : y_1.Mends.length ≤ c1_1') (hr1_2 : Rd fInt.ty w a1_2' y_1.First) (hle1_2 : y_1.First.length ≤ c1_2') :
    CallV Try.prog 71 #[.agg #[.string (bs x_0.Name), .slice a0_1' x_0.Mends.length c0_1', .slice a0_2' x_0.First.length c0_2', .int .i64 x_0.Price, .int .i64 x_0.Hours], .agg #[.string (bs y_1.Name), .slice a1_1' y_1.Mends.length c1_1', .slice a1_2' y_1.First.length c1_2', .int .i64 y_1.Price, .int .i64 y_1.Hours]] w (fun v w' => v = .bool r ∧ Ext w w') := by
  unfold m_impl_SameRepairs_1 at hm
  refine CallV.enter Try.func71 rfl (by kernel_rfl) Try.ntmps71 (env := [(0, .agg #[.string (bs x_0.Name), .slice a0_1' x_0.Mends.length c0_1', .slice a0_2' x_0.First.length c0_2', .int .i64 x_0.Price, .int .i64 x_0.Hours]), (1, .agg #[.string (bs y_1.Name), .slice a1_1' y_1.Mends.length c1_1', .slice a1_2' y_1.First.length c1_2', .int .i64 y_1.Price, .int .i64 y_1.Hours])]) ⟨rfl, rfl, trivial⟩ ?_
  refine WP.seq (fun K1 hK1 => ?_)
  refine WP.region ?_
  refine WL.box 73 [.string (bs x_0.Name), .slice a0_1' x_0.Mends.length c0_1', .slice a0_2' x_0.First.length c0_2', .int .i64 x_0.Price, .int .i64 x_0.Hours] 2 (by kernel_rfl) rfl rfl rfl rfl ?_
  intro b2 w3 hE4 hR5
  have hb7 : Ext w w3 := Ext.trans (Ext.refl w) hE4
  have hL8 : w.heap.size ≤ w3.heap.size := Nat.le_trans (Nat.le_refl _) hE4.size
  have hS9 : SH w3 w.heap.size [aBox 73 b2 [.string (bs x_0.Name), .slice a0_1' x_0.Mends.length c0_1', .slice a0_2' x_0.First.length c0_2', .int .i64 x_0.Price, .int .i64 x_0.Hours]] := SH.add (SH.nil _ _) hE4 (Nat.le_refl _) hR5
  refine WL.box 73 [.string (bs y_1.Name), .slice a1_1' y_1.Mends.length c1_1', .slice a1_2' y_1.First.length c1_2', .int .i64 y_1.Price, .int .i64 y_1.Hours] 3 (by kernel_rfl) rfl rfl rfl rfl ?_
  intro b10 w11 hE12 hR13
  have hb15 : Ext w w11 := Ext.trans hb7 hE12
  have hL16 : w.heap.size ≤ w11.heap.size := Nat.le_trans hL8 hE12.size
  have hS17 : SH w11 w.heap.size [aBox 73 b10 [.string (bs y_1.Name), .slice a1_1' y_1.Mends.length c1_1', .slice a1_2' y_1.First.length c1_2', .int .i64 y_1.Price, .int .i64 y_1.Hours], aBox 73 b2 [.string (bs x_0.Name), .slice a0_1' x_0.Mends.length c0_1', .slice a0_2' x_0.First.length c0_2', .int .i64 x_0.Price, .int .i64 x_0.Hours]] := SH.add hS9 hE12 hL8 hR13
  refine WL.runk 1 [2, 3] [(2, .pointer (some ⟨b2, 0, none⟩)), (3, .pointer (some ⟨b10, 0, none⟩))] (by kernel_rfl) ?_
  refine WL.nil ?_
  refine WQ.then_normal (hK1 _ _ _ ?_)
  refine WP.seq (fun K18 hK18 => ?_)
  obtain ⟨x39, hx40, hm⟩ := bindE hm
  refine WP.cut (fun env' w' => env' = [(4, .bool x39)] ∧ Ext w w' ∧ w.heap.size ≤ w'.heap.size ∧ SH w' w.heap.size [aBox 73 b10 [.string (bs y_1.Name), .slice a1_1' y_1.Mends.length c1_1', .slice a1_2' y_1.First.length c1_2', .int .i64 y_1.Price, .int .i64 y_1.Hours], aBox 73 b2 [.string (bs x_0.Name), .slice a0_1' x_0.Mends.length c0_1', .slice a0_2' x_0.First.length c0_2', .int .i64 x_0.Price, .int .i64 x_0.Hours]]) ?_ ?_
  rotate_left
  · clear hx40
    rintro _ w61 ⟨rfl, hb62, hL63, hS64⟩
    refine WQ.then_normal (hK18 _ _ _ ?_)
    refine WP.ret ?_
    obtain rfl := Option.some.inj hm
    exact WQ.ret1 _ rfl rfl ⟨rfl, hb62⟩
  have hm := hx40; clear hx40
  refine WP.region ?_
  refine WL.runk 1 [2, 3, 5] [(2, .pointer (some ⟨b2, 0, none⟩)), (3, .pointer (some ⟨b10, 0, none⟩)), (5, .pointer (some ⟨b2, 0, none⟩))] (by kernel_rfl) ?_
  refine WL.st (.string (bs x_0.Name)) (ST.load (cell_ext (SH.boxAt (SH.front 1 hS17) 0 _ rfl)) rfl rfl Try.underlying9 rfl) rfl rfl rfl ?_
  refine WL.runk 1 [2, 3, 6, 7] [(2, .pointer (some ⟨b2, 0, none⟩)), (3, .pointer (some ⟨b10, 0, none⟩)), (6, .string (bs x_0.Name)), (7, .pointer (some ⟨b10, 0, none⟩))] (by kernel_rfl) ?_
  refine WL.st (.string (bs y_1.Name)) (ST.load (cell_ext (SH.boxAt (SH.front 0 hS17) 0 _ rfl)) rfl rfl Try.underlying9 rfl) rfl rfl rfl ?_
  refine WL.st (.bool (x_0.Name == y_1.Name)) (ST.streq (x := x_0.Name) (y := y_1.Name) rfl rfl rfl) rfl rfl rfl ?_
  refine WL.runk 1 [2, 3, 10] [(2, .pointer (some ⟨b2, 0, none⟩)), (3, .pointer (some ⟨b10, 0, none⟩)), (10, .bool (x_0.Name == y_1.Name))] (by kernel_rfl) ?_
  refine WL.case (x_0.Name == y_1.Name) [10] ⟨rfl, trivial⟩ (fun hc41 => ?_) (fun hc41 => ?_)
  rotate_left
  · have hm := iteF hm hc41
    refine WL.runk 28 [4] [(4, .bool false)] (by kernel_rfl) ?_
    refine WL.nil ?_
    obtain rfl := Option.some.inj hm
    exact WQ.post' ⟨rfl, hb15, hL16, hS17⟩ ⟨rfl, trivial⟩
  have hm := iteT hm hc41
  refine WL.runk 1 [2, 3, 10, 11] [(2, .pointer (some ⟨b2, 0, none⟩)), (3, .pointer (some ⟨b10, 0, none⟩)), (10, .bool true), (11, .pointer (some ⟨b2, 3, none⟩))] (by kernel_rfl) ?_
  refine WL.st (.int .i64 x_0.Price) (ST.load (cell_ext (SH.boxAt (SH.front 1 hS17) 3 _ rfl)) rfl rfl Try.underlying2 rfl) rfl rfl rfl ?_
  refine WL.runk 1 [2, 3, 10, 12, 13] [(2, .pointer (some ⟨b2, 0, none⟩)), (3, .pointer (some ⟨b10, 0, none⟩)), (10, .bool true), (12, .int .i64 x_0.Price), (13, .pointer (some ⟨b10, 3, none⟩))] (by kernel_rfl) ?_
  refine WL.st (.int .i64 y_1.Price) (ST.load (cell_ext (SH.boxAt (SH.front 0 hS17) 3 _ rfl)) rfl rfl Try.underlying2 rfl) rfl rfl rfl ?_
  refine WL.runk 3 [2, 3, 17] [(2, .pointer (some ⟨b2, 0, none⟩)), (3, .pointer (some ⟨b10, 0, none⟩)), (17, .bool (x_0.Price == y_1.Price))] (by kernel_rfl) ?_
  refine WL.case (x_0.Price == y_1.Price) [17] ⟨rfl, trivial⟩ (fun hc42 => ?_) (fun hc42 => ?_)
  rotate_left
  · have hm := iteF hm hc42
    refine WL.runk 21 [4] [(4, .bool false)] (by kernel_rfl) ?_
    refine WL.nil ?_
    obtain rfl := Option.some.inj hm
    exact WQ.post' ⟨rfl, hb15, hL16, hS17⟩ ⟨rfl, trivial⟩
  have hm := iteT hm hc42
  refine WL.runk 1 [2, 3, 17, 18] [(2, .pointer (some ⟨b2, 0, none⟩)), (3, .pointer (some ⟨b10, 0, none⟩)), (17, .bool true), (18, .pointer (some ⟨b2, 4, none⟩))] (by kernel_rfl) ?_
  refine WL.st (.int .i64 x_0.Hours) (ST.load (cell_ext (SH.boxAt (SH.front 1 hS17) 4 _ rfl)) rfl rfl Try.underlying2 rfl) rfl rfl rfl ?_
  refine WL.runk 1 [2, 3, 17, 19, 20] [(2, .pointer (some ⟨b2, 0, none⟩)), (3, .pointer (some ⟨b10, 0, none⟩)), (17, .bool true), (19, .int .i64 x_0.Hours), (20, .pointer (some ⟨b10, 4, none⟩))] (by kernel_rfl) ?_
  refine WL.st (.int .i64 y_1.Hours) (ST.load (cell_ext (SH.boxAt (SH.front 0 hS17) 4 _ rfl)) rfl rfl Try.underlying2 rfl) rfl rfl rfl ?_
  refine WL.runk 3 [2, 3, 24] [(2, .pointer (some ⟨b2, 0, none⟩)), (3, .pointer (some ⟨b10, 0, none⟩)), (24, .bool (x_0.Hours == y_1.Hours))] (by kernel_rfl) ?_
  refine WL.case (x_0.Hours == y_1.Hours) [24] ⟨rfl, trivial⟩ (fun hc43 => ?_) (fun hc43 => ?_)
  rotate_left
  · have hm := iteF hm hc43
    refine WL.runk 14 [4] [(4, .bool false)] (by kernel_rfl) ?_
    refine WL.nil ?_
    obtain rfl := Option.some.inj hm
    exact WQ.post' ⟨rfl, hb15, hL16, hS17⟩ ⟨rfl, trivial⟩
  have hm := iteT hm hc43
  refine WL.runk 1 [2, 3, 24, 25] [(2, .pointer (some ⟨b2, 0, none⟩)), (3, .pointer (some ⟨b10, 0, none⟩)), (24, .bool true), (25, .pointer (some ⟨b2, 1, none⟩))] (by kernel_rfl) ?_
  refine WL.st (.slice a0_1' x_0.Mends.length c0_1') (ST.load (cell_ext (SH.boxAt (SH.front 1 hS17) 1 _ rfl)) rfl rfl Try.underlying25 rfl) rfl rfl rfl ?_
  refine WL.runk 1 [2, 3, 24, 26, 27] [(2, .pointer (some ⟨b2, 0, none⟩)), (3, .pointer (some ⟨b10, 0, none⟩)), (24, .bool true), (26, .slice a0_1' x_0.Mends.length c0_1'), (27, .pointer (some ⟨b10, 1, none⟩))] (by kernel_rfl) ?_
  refine WL.st (.slice a1_1' y_1.Mends.length c1_1') (ST.load (cell_ext (SH.boxAt (SH.front 0 hS17) 1 _ rfl)) rfl rfl Try.underlying25 rfl) rfl rfl rfl ?_
  obtain ⟨x44, hx45, hm⟩ := bindE hm
  refine WL.call 72 #[.slice a0_1' x_0.Mends.length c0_1', .slice a1_1' y_1.Mends.length c1_1'] rfl rfl (by kernel_rfl) (c_72 n x_0.Mends a0_1' c0_1' y_1.Mends a1_1' c1_1' w11 hx45 (Rd.below hr0_1 hb15) hle0_1 (Rd.below hr1_1 hb15) hle1_1) ?_
  rintro _ w46 ⟨rfl, hE47⟩
  refine ⟨_, rfl, ?_⟩
  have hb49 : Ext w w46 := Ext.trans hb15 hE47
  have hL50 : w.heap.size ≤ w46.heap.size := Nat.le_trans hL16 hE47.size
  have hS51 : SH w46 w.heap.size [aBox 73 b10 [.string (bs y_1.Name), .slice a1_1' y_1.Mends.length c1_1', .slice a1_2' y_1.First.length c1_2', .int .i64 y_1.Price, .int .i64 y_1.Hours], aBox 73 b2 [.string (bs x_0.Name), .slice a0_1' x_0.Mends.length c0_1', .slice a0_2' x_0.First.length c0_2', .int .i64 x_0.Price, .int .i64 x_0.Hours]] := SH.ext hS17 hE47
  refine WL.runk 2 [2, 3, 31] [(2, .pointer (some ⟨b2, 0, none⟩)), (3, .pointer (some ⟨b10, 0, none⟩)), (31, .bool x44)] (by kernel_rfl) ?_
  refine WL.case x44 [31] ⟨rfl, trivial⟩ (fun hc52 => ?_) (fun hc52 => ?_)
  rotate_left
  · have hm := iteF hm hc52
    refine WL.runk 7 [4] [(4, .bool false)] (by kernel_rfl) ?_
    refine WL.nil ?_
    obtain rfl := Option.some.inj hm
    exact WQ.post' ⟨rfl, hb49, hL50, hS51⟩ ⟨rfl, trivial⟩
  have hm := iteT hm hc52
  refine WL.runk 1 [3, 31, 32] [(3, .pointer (some ⟨b10, 0, none⟩)), (31, .bool true), (32, .pointer (some ⟨b2, 2, none⟩))] (by kernel_rfl) ?_
  refine WL.st (.slice a0_2' x_0.First.length c0_2') (ST.load (cell_ext (SH.boxAt (SH.front 1 hS51) 2 _ rfl)) rfl rfl Try.underlying25 rfl) rfl rfl rfl ?_
  refine WL.runk 1 [31, 33, 34] [(31, .bool true), (33, .slice a0_2' x_0.First.length c0_2'), (34, .pointer (some ⟨b10, 2, none⟩))] (by kernel_rfl) ?_
  refine WL.st (.slice a1_2' y_1.First.length c1_2') (ST.load (cell_ext (SH.boxAt (SH.front 0 hS51) 2 _ rfl)) rfl rfl Try.underlying25 rfl) rfl rfl rfl ?_
  obtain ⟨x53, hx54, hm⟩ := bindE hm
  refine WL.call 72 #[.slice a0_2' x_0.First.length c0_2', .slice a1_2' y_1.First.length c1_2'] rfl rfl (by kernel_rfl) (c_72 n x_0.First a0_2' c0_2' y_1.First a1_2' c1_2' w46 hx54 (Rd.below hr0_2 hb49) hle0_2 (Rd.below hr1_2 hb49) hle1_2) ?_
  rintro _ w55 ⟨rfl, hE56⟩
  refine ⟨_, rfl, ?_⟩
  have hb58 : Ext w w55 := Ext.trans hb49 hE56
  have hL59 : w.heap.size ≤ w55.heap.size := Nat.le_trans hL50 hE56.size
  have hS60 : SH w55 w.heap.size [aBox 73 b10 [.string (bs y_1.Name), .slice a1_1' y_1.Mends.length c1_1', .slice a1_2' y_1.First.length c1_2', .int .i64 y_1.Price, .int .i64 y_1.Hours], aBox 73 b2 [.string (bs x_0.Name), .slice a0_1' x_0.Mends.length c0_1', .slice a0_2' x_0.First.length c0_2', .int .i64 x_0.Price, .int .i64 x_0.Hours]] := SH.ext hS51 hE56
  refine WL.runk 2 [4] [(4, .bool x53)] (by kernel_rfl) ?_
  refine WL.nil ?_
  obtain rfl := Option.some.inj hm
  exact WQ.post' ⟨rfl, hb58, hL59, hS60⟩ ⟨rfl, trivial⟩

theorem c_70_71 (n : Nat) (s1_0 : List SRepair) (a0' : Option Addr) (c0' : Nat) (s2_1 : List SRepair) (a1' : Option Addr) (c1' : Nat) (w : World) {r : Bool} (hm : m_slices_EqualFunc_impl_Repair_impl_Repair_impl_Repair_impl_Repair_f71 n s1_0 s2_1 = some r) (h0 : Rd fRepair.ty w a0' s1_0) (_hle0 : s1_0.length ≤ c0') (h1 : Rd fRepair.ty w a1' s2_1) (_hle1 : s2_1.length ≤ c1') :
    CallV Try.prog 70 #[.slice a0' s1_0.length c0', .slice a1' s2_1.length c1', .func (.func 71) #[] #[]] w (fun v w' => v = .bool r ∧ Ext w w') := by
  unfold m_slices_EqualFunc_impl_Repair_impl_Repair_impl_Repair_impl_Repair_f71 at hm
  refine CallV.enter Try.func70 rfl (by kernel_rfl) Try.ntmps70 (env := [(0, .slice a0' s1_0.length c0'), (1, .slice a1' s2_1.length c1'), (2, .func (.func 71) #[] #[])]) ⟨rfl, rfl, rfl, trivial⟩ ?_
  refine WP.seq (fun K1 hK1 => ?_)
  refine WP.region ?_
  refine WL.runk 1 [0, 1, 2] [(0, .slice a0' s1_0.length c0'), (1, .slice a1' s2_1.length c1'), (2, .func (.func 71) #[] #[])] (by kernel_rfl) ?_
  refine WL.nil ?_
  refine WQ.then_normal (hK1 _ _ _ ?_)
  refine WP.seq (fun K2 hK2 => ?_)
  refine WP.seq (fun K3 hK3 => ?_)
  refine WP.region ?_
  refine WL.runk 5 [0, 1, 2, 14] [(0, .slice a0' s1_0.length c0'), (1, .slice a1' s2_1.length c1'), (2, .func (.func 71) #[] #[]), (14, .bool ((s1_0.length : Int) != (s2_1.length : Int)))] (by kernel_rfl) ?_
  refine WL.nil ?_
  refine WQ.then_normal (hK3 _ _ _ ?_)
  refine WP.cond ((s1_0.length : Int) != (s2_1.length : Int)) rfl rfl (fun hc4 => ?_) (fun hc4 => ?_)
  · have hm := iteT hm hc4
    refine WP.seq (fun K5 hK5 => ?_)
    refine WP.region ?_
    refine WL.runk 1 [6] [(6, .bool false)] (by kernel_rfl) ?_
    refine WL.nil ?_
    refine WQ.then_normal (hK5 _ _ _ ?_)
    refine WP.ret ?_
    refine WQ.then_ret ?_
    obtain rfl := Option.some.inj hm
    exact WQ.ret1 _ rfl rfl ⟨rfl, (Ext.refl w)⟩
  have hm := iteF hm hc4
  refine WP.skip ?_
  refine WQ.then_normal (hK2 _ _ _ ?_)
  refine WP.seq (fun K6 hK6 => ?_)
  refine WP.seq (fun K7 hK7 => ?_)
  refine WP.region ?_
  refine WL.runk 3 [1, 2, 15, 16, 17] [(1, .slice a1' s2_1.length c1'), (2, .func (.func 71) #[] #[]), (15, .slice a0' s1_0.length c0'), (16, .int .i64 (s1_0.length : Int)), (17, .int .i64 0)] (by kernel_rfl) ?_
  refine WL.nil ?_
  refine WQ.then_normal (hK7 _ _ _ ?_)
  refine WP.block ?_
  obtain ⟨t19, ht20, hm⟩ := bindE hm
  have hmo14 := hm; clear hm
  refine WP.sub [(1, .slice a1' s2_1.length c1'), (2, .func (.func 71) #[] #[]), (15, .slice a0' s1_0.length c0'), (16, .int .i64 (s1_0.length : Int)), (17, .int .i64 0)] ⟨rfl, rfl, rfl, rfl, rfl, trivial⟩ ?_
  refine WP.loop (fun n' env' w' => ∃ (st8 : Int) , env' = [(1, .slice a1' s2_1.length c1'), (2, .func (.func 71) #[] #[]), (15, .slice a0' s1_0.length c0'), (16, .int .i64 (s1_0.length : Int)), (17, .int .i64 st8)] ∧ Ext w w' ∧ w.heap.size ≤ w'.heap.size ∧ SH w' w.heap.size [] ∧ loopN (m_slices_EqualFunc_impl_Repair_impl_Repair_impl_Repair_impl_Repair_f71_l1 n s1_0 s2_1) n' st8 = some t19) n ⟨0, rfl, (Ext.refl w), (Nat.le_refl _), (SH.nil _ _), ht20⟩ ?_
  rintro n16 _ w9 ⟨st8, rfl, hb10, hL11, hS12, hl13⟩ K15 hK15
  obtain ⟨n17, s18, rfl, hm, hl13⟩ := loopN_some hl13
  unfold m_slices_EqualFunc_impl_Repair_impl_Repair_impl_Repair_impl_Repair_f71_l1 at hm
  refine WP.seq (fun K21 hK21 => ?_)
  refine WP.region ?_
  refine WL.runk 1 [1, 2, 15, 16, 17, 18] [(1, .slice a1' s2_1.length c1'), (2, .func (.func 71) #[] #[]), (15, .slice a0' s1_0.length c0'), (16, .int .i64 (s1_0.length : Int)), (17, .int .i64 st8), (18, .bool (decide (st8 < (s1_0.length : Int))))] (by kernel_rfl) ?_
  refine WL.nil ?_
  refine WQ.then_normal (hK21 _ _ _ ?_)
  refine WP.seq (fun K22 hK22 => ?_)
  refine WP.cond (decide (st8 < (s1_0.length : Int))) rfl rfl (fun hc23 => ?_) (fun hc23 => ?_)
  rotate_left
  · have hm := iteF hm hc23
    refine WP.exit ?_
    refine WQ.then_exit ?_
    refine WQ.then_exit ?_
    refine WQ.block_here ?_
    obtain rfl := Option.some.inj hm
    obtain rfl := afterN_done hl13
    have hm := hmo14
    refine WQ.then_normal (hK6 _ _ _ ?_)
    refine WP.seq (fun K90 hK90 => ?_)
    refine WP.region ?_
    refine WL.runk 1 [6] [(6, .bool true)] (by kernel_rfl) ?_
    refine WL.nil ?_
    refine WQ.then_normal (hK90 _ _ _ ?_)
    refine WP.ret ?_
    obtain rfl := Option.some.inj hm
    exact WQ.ret1 _ rfl rfl ⟨rfl, hb10⟩
  have hm := iteT hm hc23
  refine WP.skip ?_
  refine WQ.then_normal (hK22 _ _ _ ?_)
  refine WP.seq (fun K24 hK24 => ?_)
  refine WP.block ?_
  refine WP.seq (fun K25 hK25 => ?_)
  refine WP.region ?_
  refine WL.runk 1 [1, 2, 15, 16, 17, 19] [(1, .slice a1' s2_1.length c1'), (2, .func (.func 71) #[] #[]), (15, .slice a0' s1_0.length c0'), (16, .int .i64 (s1_0.length : Int)), (17, .int .i64 st8), (19, .int .i64 st8)] (by kernel_rfl) ?_
  obtain ⟨x26, hx27, hm⟩ := bindE hm
  obtain ⟨a28, c29, a33, c34, hc38, hR30, hle31, hR35, hle36⟩ := nest_Repair h0 hx27
  refine WL.st (.pointer (some (at_ a0' (Int.toNat st8 * 5)))) (ST.index (T := fRepair.ty) (xs := s1_0) (Rd.below h0 hb10) hx27 rfl rfl rfl Try.underlying24 (info73).1 (info73).2.1) rfl rfl rfl ?_
  refine WL.st (.agg #[.string (bs x26.Name), .slice a28 x26.Mends.length c29, .slice a33 x26.First.length c34, .int .i64 x26.Price, .int .i64 x26.Hours]) (ST.loadAgg (vs := [.string (bs x26.Name), .slice a28 x26.Mends.length c29, .slice a33 x26.First.length c34, .int .i64 x26.Price, .int .i64 x26.Hours]) (at_agg (cells_ext hc38 hb10)) rfl rfl rfl Try.underlying73 rfl (info73).1 (info73).2.1) rfl rfl rfl ?_
  refine WL.box 73 [.string (bs []), .slice none 0 0, .slice none 0 0, .int .i64 0, .int .i64 0] 8 (by kernel_rfl) rfl rfl rfl rfl ?_
  intro b39 w40 hE41 hR42
  have hb44 : Ext w w40 := Ext.trans hb10 hE41
  have hL45 : w.heap.size ≤ w40.heap.size := Nat.le_trans hL11 hE41.size
  have hS46 : SH w40 w.heap.size [aBox 73 b39 [.string (bs []), .slice none 0 0, .slice none 0 0, .int .i64 0, .int .i64 0]] := SH.add hS12 hE41 hL11 hR42
  refine WL.runk 1 [1, 2, 7, 8, 15, 16, 17, 21] [(1, .slice a1' s2_1.length c1'), (2, .func (.func 71) #[] #[]), (15, .slice a0' s1_0.length c0'), (16, .int .i64 (s1_0.length : Int)), (17, .int .i64 st8), (21, .agg #[.string (bs x26.Name), .slice a28 x26.Mends.length c29, .slice a33 x26.First.length c34, .int .i64 x26.Price, .int .i64 x26.Hours]), (8, .pointer (some ⟨b39, 0, none⟩)), (7, .int .i64 st8)] (by kernel_rfl) ?_
  refine WL.boxStore 0 [.string (bs x26.Name), .slice a28 x26.Mends.length c29, .slice a33 x26.First.length c34, .int .i64 x26.Price, .int .i64 x26.Hours] [.string (bs x26.Name), .slice a28 x26.Mends.length c29, .slice a33 x26.First.length c34, .int .i64 x26.Price, .int .i64 x26.Hours] (SH.front 0 hS46) hL45 rfl rfl rfl rfl rfl rfl rfl (info73).1 (info73).2.1 rfl rfl rfl ?_
  intro w47 hB48 hS49
  have hb50 : Ext w w47 := Below.trans hb44 hB48
  have hL51 : w.heap.size ≤ w47.heap.size := Nat.le_trans hL45 hB48.size
  refine WL.sub [(1, .slice a1' s2_1.length c1'), (2, .func (.func 71) #[] #[]), (15, .slice a0' s1_0.length c0'), (16, .int .i64 (s1_0.length : Int)), (17, .int .i64 st8), (8, .pointer (some ⟨b39, 0, none⟩)), (7, .int .i64 st8)] ⟨rfl, rfl, rfl, rfl, rfl, rfl, rfl, trivial⟩ ?_
  refine WL.nil ?_
  refine WQ.then_normal (hK25 _ _ _ ?_)
  refine WP.seq (fun K52 hK52 => ?_)
  refine WP.region ?_
  refine WL.runk 2 [1, 2, 8, 15, 16, 17, 22, 23] [(1, .slice a1' s2_1.length c1'), (2, .func (.func 71) #[] #[]), (15, .slice a0' s1_0.length c0'), (16, .int .i64 (s1_0.length : Int)), (17, .int .i64 st8), (8, .pointer (some ⟨b39, 0, none⟩)), (22, .slice a1' s2_1.length c1'), (23, .int .i64 st8)] (by kernel_rfl) ?_
  obtain ⟨x53, hx54, hm⟩ := bindE hm
  obtain ⟨a55, c56, a60, c61, hc65, hR57, hle58, hR62, hle63⟩ := nest_Repair h1 hx54
  refine WL.st (.pointer (some (at_ a1' (Int.toNat st8 * 5)))) (ST.index (T := fRepair.ty) (xs := s2_1) (Rd.below h1 hb50) hx54 rfl rfl rfl Try.underlying24 (info73).1 (info73).2.1) rfl rfl rfl ?_
  refine WL.st (.agg #[.string (bs x53.Name), .slice a55 x53.Mends.length c56, .slice a60 x53.First.length c61, .int .i64 x53.Price, .int .i64 x53.Hours]) (ST.loadAgg (vs := [.string (bs x53.Name), .slice a55 x53.Mends.length c56, .slice a60 x53.First.length c61, .int .i64 x53.Price, .int .i64 x53.Hours]) (at_agg (cells_ext hc65 hb50)) rfl rfl rfl Try.underlying73 rfl (info73).1 (info73).2.1) rfl rfl rfl ?_
  refine WL.box 73 [.string (bs []), .slice none 0 0, .slice none 0 0, .int .i64 0, .int .i64 0] 9 (by kernel_rfl) rfl rfl rfl rfl ?_
  intro b66 w67 hE68 hR69
  have hb71 : Ext w w67 := Ext.trans hb50 hE68
  have hL72 : w.heap.size ≤ w67.heap.size := Nat.le_trans hL51 hE68.size
  have hS73 : SH w67 w.heap.size [aBox 73 b66 [.string (bs []), .slice none 0 0, .slice none 0 0, .int .i64 0, .int .i64 0], aBox 73 b39 [.string (bs x26.Name), .slice a28 x26.Mends.length c29, .slice a33 x26.First.length c34, .int .i64 x26.Price, .int .i64 x26.Hours]] := SH.add hS49 hE68 hL51 hR69
  refine WL.boxStore 0 [.string (bs x53.Name), .slice a55 x53.Mends.length c56, .slice a60 x53.First.length c61, .int .i64 x53.Price, .int .i64 x53.Hours] [.string (bs x53.Name), .slice a55 x53.Mends.length c56, .slice a60 x53.First.length c61, .int .i64 x53.Price, .int .i64 x53.Hours] (SH.front 0 hS73) hL72 rfl rfl rfl rfl rfl rfl rfl (info73).1 (info73).2.1 rfl rfl rfl ?_
  intro w74 hB75 hS76
  have hb77 : Ext w w74 := Below.trans hb71 hB75
  have hL78 : w.heap.size ≤ w74.heap.size := Nat.le_trans hL72 hB75.size
  refine WL.sub [(1, .slice a1' s2_1.length c1'), (2, .func (.func 71) #[] #[]), (15, .slice a0' s1_0.length c0'), (16, .int .i64 (s1_0.length : Int)), (17, .int .i64 st8), (8, .pointer (some ⟨b39, 0, none⟩)), (9, .pointer (some ⟨b66, 0, none⟩))] ⟨rfl, rfl, rfl, rfl, rfl, rfl, rfl, trivial⟩ ?_
  refine WL.nil ?_
  refine WQ.then_normal (hK52 _ _ _ ?_)
  refine WP.seq (fun K79 hK79 => ?_)
  refine WP.region ?_
  refine WL.runk 1 [1, 2, 8, 9, 15, 16, 17, 26] [(1, .slice a1' s2_1.length c1'), (2, .func (.func 71) #[] #[]), (15, .slice a0' s1_0.length c0'), (16, .int .i64 (s1_0.length : Int)), (17, .int .i64 st8), (8, .pointer (some ⟨b39, 0, none⟩)), (9, .pointer (some ⟨b66, 0, none⟩)), (26, .func (.func 71) #[] #[])] (by kernel_rfl) ?_
  refine WL.st (.agg #[.string (bs x26.Name), .slice a28 x26.Mends.length c29, .slice a33 x26.First.length c34, .int .i64 x26.Price, .int .i64 x26.Hours]) (ST.loadAgg (vs := [.string (bs x26.Name), .slice a28 x26.Mends.length c29, .slice a33 x26.First.length c34, .int .i64 x26.Price, .int .i64 x26.Hours]) (fun j v hv => SH.boxPart (us := [.string (bs x26.Name), .slice a28 x26.Mends.length c29, .slice a33 x26.First.length c34, .int .i64 x26.Price, .int .i64 x26.Hours]) (SH.front 1 hS76) 0 rfl j v hv) rfl rfl rfl Try.underlying73 rfl (info73).1 (info73).2.1) rfl rfl rfl ?_
  refine WL.st (.agg #[.string (bs x53.Name), .slice a55 x53.Mends.length c56, .slice a60 x53.First.length c61, .int .i64 x53.Price, .int .i64 x53.Hours]) (ST.loadAgg (vs := [.string (bs x53.Name), .slice a55 x53.Mends.length c56, .slice a60 x53.First.length c61, .int .i64 x53.Price, .int .i64 x53.Hours]) (fun j v hv => SH.boxPart (us := [.string (bs x53.Name), .slice a55 x53.Mends.length c56, .slice a60 x53.First.length c61, .int .i64 x53.Price, .int .i64 x53.Hours]) (SH.front 0 hS76) 0 rfl j v hv) rfl rfl rfl Try.underlying73 rfl (info73).1 (info73).2.1) rfl rfl rfl ?_
  obtain ⟨x80, hx81, hm⟩ := bindE hm
  refine WL.call 71 #[.agg #[.string (bs x26.Name), .slice a28 x26.Mends.length c29, .slice a33 x26.First.length c34, .int .i64 x26.Price, .int .i64 x26.Hours], .agg #[.string (bs x53.Name), .slice a55 x53.Mends.length c56, .slice a60 x53.First.length c61, .int .i64 x53.Price, .int .i64 x53.Hours]] rfl rfl (by kernel_rfl) (c_71 n x26 a28 c29 a33 c34 x53 a55 c56 a60 c61 w74 hx81 (Rd.below hR30 hb77) hle31 (Rd.below hR35 hb77) hle36 (Rd.below hR57 hb77) hle58 (Rd.below hR62 hb77) hle63) ?_
  rintro _ w82 ⟨rfl, hE83⟩
  refine ⟨_, rfl, ?_⟩
  have hb85 : Ext w w82 := Ext.trans hb77 hE83
  have hL86 : w.heap.size ≤ w82.heap.size := Nat.le_trans hL78 hE83.size
  have hS87 : SH w82 w.heap.size [aBox 73 b66 [.string (bs x53.Name), .slice a55 x53.Mends.length c56, .slice a60 x53.First.length c61, .int .i64 x53.Price, .int .i64 x53.Hours], aBox 73 b39 [.string (bs x26.Name), .slice a28 x26.Mends.length c29, .slice a33 x26.First.length c34, .int .i64 x26.Price, .int .i64 x26.Hours]] := SH.ext hS76 hE83
  refine WL.runk 1 [1, 2, 15, 16, 17, 30] [(1, .slice a1' s2_1.length c1'), (2, .func (.func 71) #[] #[]), (15, .slice a0' s1_0.length c0'), (16, .int .i64 (s1_0.length : Int)), (17, .int .i64 st8), (30, .bool (!x80))] (by kernel_rfl) ?_
  refine WL.nil ?_
  refine WQ.then_normal (hK79 _ _ _ ?_)
  refine WP.cond (!x80) rfl rfl (fun hc88 => ?_) (fun hc88 => ?_)
  rotate_left
  · have hm := iteF hm hc88
    refine WP.skip ?_
    refine WQ.block_normal ?_
    refine WQ.then_normal (hK24 _ _ _ ?_)
    refine WP.region ?_
    refine WL.runk 2 [1, 2, 15, 16, 17] [(1, .slice a1' s2_1.length c1'), (2, .func (.func 71) #[] #[]), (15, .slice a0' s1_0.length c0'), (16, .int .i64 (s1_0.length : Int)), (17, .int .i64 (wI64 (st8 + 1)))] (by kernel_rfl) ?_
    refine WL.nil ?_
    obtain rfl := Option.some.inj hm
    exact WQ.round hK15 ⟨(wI64 (st8 + 1)), rfl, hb85, hL86, (SH.take 0 hS87), hl13⟩ (Nat.lt_succ_self _) ⟨rfl, rfl, rfl, rfl, rfl, trivial⟩
  have hm := iteT hm hc88
  refine WP.seq (fun K89 hK89 => ?_)
  refine WP.region ?_
  refine WL.runk 1 [6] [(6, .bool false)] (by kernel_rfl) ?_
  refine WL.nil ?_
  refine WQ.then_normal (hK89 _ _ _ ?_)
  refine WP.ret ?_
  refine WQ.block_ret ?_
  refine WQ.then_ret ?_
  refine WQ.then_ret ?_
  refine WQ.block_ret ?_
  refine WQ.then_ret ?_
  obtain rfl := Option.some.inj hm
  obtain rfl := afterN_done hl13
  have hm := hmo14
  obtain rfl := Option.some.inj hm
  exact WQ.ret1 _ rfl rfl ⟨rfl, hb85⟩

theorem c_31 (n : Nat) (a_0 : List SRepair) (a0' : Option Addr) (c0' : Nat) (b_1 : List SRepair) (a1' : Option Addr) (c1' : Nat) (w : World) {r : Bool} (hm : m_impl_SameRepairs n a_0 b_1 = some r) (h0 : Rd fRepair.ty w a0' a_0) (hle0 : a_0.length ≤ c0') (h1 : Rd fRepair.ty w a1' b_1) (hle1 : b_1.length ≤ c1') :
    CallV Try.prog 31 #[.slice a0' a_0.length c0', .slice a1' b_1.length c1'] w (fun v w' => v = .bool r ∧ Ext w w') := by
  unfold m_impl_SameRepairs at hm
  refine CallV.enter Try.func31 rfl (by kernel_rfl) Try.ntmps31 (env := [(0, .slice a0' a_0.length c0'), (1, .slice a1' b_1.length c1')]) ⟨rfl, rfl, trivial⟩ ?_
  refine WP.seq (fun K1 hK1 => ?_)
  refine WP.region ?_
  refine WL.runk 1 [0, 1] [(0, .slice a0' a_0.length c0'), (1, .slice a1' b_1.length c1')] (by kernel_rfl) ?_
  refine WL.nil ?_
  refine WQ.then_normal (hK1 _ _ _ ?_)
  refine WP.seq (fun K2 hK2 => ?_)
  refine WP.region ?_
  refine WL.runk 2 [5, 6] [(5, .slice a0' a_0.length c0'), (6, .slice a1' b_1.length c1')] (by kernel_rfl) ?_
  obtain ⟨x3, hx4, hm⟩ := bindE hm
  refine WL.call 70 #[.slice a0' a_0.length c0', .slice a1' b_1.length c1', .func (.func 71) #[] #[]] rfl rfl (by kernel_rfl) (c_70_71 n a_0 a0' c0' b_1 a1' c1' w hx4 (Rd.below h0 (Ext.refl w)) hle0 (Rd.below h1 (Ext.refl w)) hle1) ?_
  rintro _ w5 ⟨rfl, hE6⟩
  refine ⟨_, rfl, ?_⟩
  have hb8 : Ext w w5 := Ext.trans (Ext.refl w) hE6
  have hL9 : w.heap.size ≤ w5.heap.size := Nat.le_trans (Nat.le_refl _) hE6.size
  have hS10 : SH w5 w.heap.size [] := SH.ext (SH.nil _ _) hE6
  refine WL.runk 1 [4] [(4, .bool x3)] (by kernel_rfl) ?_
  refine WL.nil ?_
  refine WQ.then_normal (hK2 _ _ _ ?_)
  refine WP.ret ?_
  obtain rfl := Option.some.inj hm
  exact WQ.ret1 _ rfl rfl ⟨rfl, hb8⟩

theorem c_38 (n : Nat) (a_0 : List Int) (a0' : Option Addr) (c0' : Nat) (b_1 : List Int) (a1' : Option Addr) (c1' : Nat) (w : World) {r : Bool} (hm : m_laws_eqInt64S n a_0 b_1 = some r) (h0 : Rd fInt.ty w a0' a_0) (_hle0 : a_0.length ≤ c0') (h1 : Rd fInt.ty w a1' b_1) (_hle1 : b_1.length ≤ c1') :
    CallV Try.prog 38 #[.slice a0' a_0.length c0', .slice a1' b_1.length c1'] w (fun v w' => v = .bool r ∧ Ext w w') := by
  unfold m_laws_eqInt64S at hm
  refine CallV.enter Try.func38 rfl (by kernel_rfl) Try.ntmps38 (env := [(0, .slice a0' a_0.length c0'), (1, .slice a1' b_1.length c1')]) ⟨rfl, rfl, trivial⟩ ?_
  refine WP.seq (fun K1 hK1 => ?_)
  refine WP.region ?_
  refine WL.runk 1 [0, 1] [(0, .slice a0' a_0.length c0'), (1, .slice a1' b_1.length c1')] (by kernel_rfl) ?_
  refine WL.nil ?_
  refine WQ.then_normal (hK1 _ _ _ ?_)
  refine WP.seq (fun K2 hK2 => ?_)
  refine WP.seq (fun K3 hK3 => ?_)
  refine WP.region ?_
  refine WL.runk 5 [0, 1, 10] [(0, .slice a0' a_0.length c0'), (1, .slice a1' b_1.length c1'), (10, .bool ((a_0.length : Int) != (b_1.length : Int)))] (by kernel_rfl) ?_
  refine WL.nil ?_
  refine WQ.then_normal (hK3 _ _ _ ?_)
  refine WP.cond ((a_0.length : Int) != (b_1.length : Int)) rfl rfl (fun hc4 => ?_) (fun hc4 => ?_)
  · have hm := iteT hm hc4
    refine WP.seq (fun K5 hK5 => ?_)
    refine WP.region ?_
    refine WL.runk 1 [4] [(4, .bool false)] (by kernel_rfl) ?_
    refine WL.nil ?_
    refine WQ.then_normal (hK5 _ _ _ ?_)
    refine WP.ret ?_
    refine WQ.then_ret ?_
    obtain rfl := Option.some.inj hm
    exact WQ.ret1 _ rfl rfl ⟨rfl, (Ext.refl w)⟩
  have hm := iteF hm hc4
  refine WP.skip ?_
  refine WQ.then_normal (hK2 _ _ _ ?_)
  refine WP.seq (fun K6 hK6 => ?_)
  refine WP.seq (fun K7 hK7 => ?_)
  refine WP.region ?_
  refine WL.runk 1 [0, 1, 5] [(0, .slice a0' a_0.length c0'), (1, .slice a1' b_1.length c1'), (5, .int .i64 0)] (by kernel_rfl) ?_
  refine WL.nil ?_
  refine WQ.then_normal (hK7 _ _ _ ?_)
  refine WP.block ?_
  obtain ⟨t19, ht20, hm⟩ := bindE hm
  have hmo14 := hm; clear hm
  refine WP.sub [(0, .slice a0' a_0.length c0'), (1, .slice a1' b_1.length c1'), (5, .int .i64 0)] ⟨rfl, rfl, rfl, trivial⟩ ?_
  refine WP.loop (fun n' env' w' => ∃ (st8 : Int) , env' = [(0, .slice a0' a_0.length c0'), (1, .slice a1' b_1.length c1'), (5, .int .i64 st8)] ∧ Ext w w' ∧ w.heap.size ≤ w'.heap.size ∧ SH w' w.heap.size [] ∧ loopN (m_laws_eqInt64S_l1 n a_0 b_1) n' st8 = some t19) n ⟨0, rfl, (Ext.refl w), (Nat.le_refl _), (SH.nil _ _), ht20⟩ ?_
  rintro n16 _ w9 ⟨st8, rfl, hb10, hL11, hS12, hl13⟩ K15 hK15
  obtain ⟨n17, s18, rfl, hm, hl13⟩ := loopN_some hl13
  unfold m_laws_eqInt64S_l1 at hm
  refine WP.seq (fun K21 hK21 => ?_)
  refine WP.seq (fun K22 hK22 => ?_)
  refine WP.region ?_
  refine WL.runk 4 [0, 1, 5, 14] [(0, .slice a0' a_0.length c0'), (1, .slice a1' b_1.length c1'), (5, .int .i64 st8), (14, .bool (decide (st8 < (a_0.length : Int))))] (by kernel_rfl) ?_
  refine WL.nil ?_
  refine WQ.then_normal (hK22 _ _ _ ?_)
  refine WP.cond (decide (st8 < (a_0.length : Int))) rfl rfl (fun hc23 => ?_) (fun hc23 => ?_)
  rotate_left
  · have hm := iteF hm hc23
    refine WP.exit ?_
    refine WQ.then_exit ?_
    refine WQ.then_exit ?_
    refine WQ.block_here ?_
    obtain rfl := Option.some.inj hm
    obtain rfl := afterN_done hl13
    have hm := hmo14
    refine WQ.then_normal (hK6 _ _ _ ?_)
    refine WP.seq (fun K37 hK37 => ?_)
    refine WP.region ?_
    refine WL.runk 1 [4] [(4, .bool true)] (by kernel_rfl) ?_
    refine WL.nil ?_
    refine WQ.then_normal (hK37 _ _ _ ?_)
    refine WP.ret ?_
    obtain rfl := Option.some.inj hm
    exact WQ.ret1 _ rfl rfl ⟨rfl, hb10⟩
  have hm := iteT hm hc23
  refine WP.skip ?_
  refine WQ.then_normal (hK21 _ _ _ ?_)
  refine WP.seq (fun K24 hK24 => ?_)
  refine WP.block ?_
  refine WP.seq (fun K25 hK25 => ?_)
  refine WP.quiet (by kernel_rfl) (by kernel_rfl) ?_
  refine QL.step1v 17 (.slice a0' a_0.length c0') rfl (fun _ => by kernel_rfl) ?_
  refine QL.step1v 18 (.int .i64 st8) rfl (fun _ => by kernel_rfl) ?_
  refine QL.subk [0, 1, 5, 17, 18] [(0, .slice a0' a_0.length c0'), (1, .slice a1' b_1.length c1'), (5, .int .i64 st8), (17, .slice a0' a_0.length c0'), (18, .int .i64 st8)] (by kernel_rfl) ?_
  obtain ⟨x26, hx27, hm⟩ := bindE hm
  refine QL.st (.pointer (some (at_ a0' (Int.toNat st8 * 1)))) (ST.index (T := fInt.ty) (xs := a_0) (Rd.below h0 hb10) hx27 rfl rfl rfl Try.underlying25 (info2).1 (info2).2.1) rfl rfl rfl ?_
  refine QL.st (.int .i64 x26) (ST.load (cell_ext (Rd.flat (F := fInt) (Rd.below h0 hb10) hx27 0 rfl)) rfl rfl Try.underlying2 rfl) rfl rfl rfl ?_
  refine QL.step1v 21 (.slice a1' b_1.length c1') rfl (fun _ => by kernel_rfl) ?_
  refine QL.step1v 22 (.int .i64 st8) rfl (fun _ => by kernel_rfl) ?_
  refine QL.subk [0, 1, 5, 20, 21, 22] [(0, .slice a0' a_0.length c0'), (1, .slice a1' b_1.length c1'), (5, .int .i64 st8), (20, .int .i64 x26), (21, .slice a1' b_1.length c1'), (22, .int .i64 st8)] (by kernel_rfl) ?_
  obtain ⟨x28, hx29, hm⟩ := bindE hm
  refine QL.st (.pointer (some (at_ a1' (Int.toNat st8 * 1)))) (ST.index (T := fInt.ty) (xs := b_1) (Rd.below h1 hb10) hx29 rfl rfl rfl Try.underlying25 (info2).1 (info2).2.1) rfl rfl rfl ?_
  refine QL.st (.int .i64 x28) (ST.load (cell_ext (Rd.flat (F := fInt) (Rd.below h1 hb10) hx29 0 rfl)) rfl rfl Try.underlying2 rfl) rfl rfl rfl ?_
  refine QL.step1v 25 (.bool (x26 != x28)) rfl (fun _ => by kernel_rfl) ?_
  refine QL.subk [0, 1, 5, 25] [(0, .slice a0' a_0.length c0'), (1, .slice a1' b_1.length c1'), (5, .int .i64 st8), (25, .bool (x26 != x28))] (by kernel_rfl) ?_
  refine QL.nil ?_
  intro w30 hE31
  have hb32 : Ext w w30 := Ext.trans hb10 hE31
  have hL33 : w.heap.size ≤ w30.heap.size := Nat.le_trans hL11 hE31.size
  have hS34 : SH w30 w.heap.size [] := SH.ext hS12 hE31
  refine WQ.then_normal (hK25 _ _ _ ?_)
  refine WP.cond (x26 != x28) rfl rfl (fun hc35 => ?_) (fun hc35 => ?_)
  rotate_left
  · have hm := iteF hm hc35
    refine WP.skip ?_
    refine WQ.block_normal ?_
    refine WQ.then_normal (hK24 _ _ _ ?_)
    refine WP.region ?_
    refine WL.runk 3 [0, 1, 5] [(0, .slice a0' a_0.length c0'), (1, .slice a1' b_1.length c1'), (5, .int .i64 (wI64 (st8 + 1)))] (by kernel_rfl) ?_
    refine WL.nil ?_
    obtain rfl := Option.some.inj hm
    exact WQ.round hK15 ⟨(wI64 (st8 + 1)), rfl, hb32, hL33, hS34, hl13⟩ (Nat.lt_succ_self _) ⟨rfl, rfl, rfl, trivial⟩
  have hm := iteT hm hc35
  refine WP.seq (fun K36 hK36 => ?_)
  refine WP.region ?_
  refine WL.runk 1 [4] [(4, .bool false)] (by kernel_rfl) ?_
  refine WL.nil ?_
  refine WQ.then_normal (hK36 _ _ _ ?_)
  refine WP.ret ?_
  refine WQ.block_ret ?_
  refine WQ.then_ret ?_
  refine WQ.then_ret ?_
  refine WQ.block_ret ?_
  refine WQ.then_ret ?_
  obtain rfl := Option.some.inj hm
  obtain rfl := afterN_done hl13
  have hm := hmo14
  obtain rfl := Option.some.inj hm
  exact WQ.ret1 _ rfl rfl ⟨rfl, hb32⟩

theorem c_73 (n : Nat) (a_0 : SRepair) (a0_1' : Option Addr) (c0_1' : Nat) (a0_2' : Option Addr) (c0_2' : Nat) (b_1 : SRepair) (a1_1' : Option Addr) (c1_1' : Nat) (a1_2' : Option Addr) (c1_2' : Nat) (w : World) {r : Bool} (hm : m_laws_eqRepair n a_0 b_1 = some r) (hr0_1 : Rd fInt.ty w a0_1' a_0.Mends) (hle0_1 : a_0.Mends.length ≤ c0_1') (hr0_2 : Rd fInt.ty w a0_2' a_0.First) (hle0_2 : a_0.First.length ≤ c0_2') (hr1_1 : Rd fInt.ty w a1_1' b_1.Mends) (hle1_1 : b_1.Mends.length ≤ c1_1') (hr1_2 : Rd fInt.ty w a1_2' b_1.First) (hle1_2 : b_1.First.length ≤ c1_2') :
    CallV Try.prog 73 #[.agg #[.string (bs a_0.Name), .slice a0_1' a_0.Mends.length c0_1', .slice a0_2' a_0.First.length c0_2', .int .i64 a_0.Price, .int .i64 a_0.Hours], .agg #[.string (bs b_1.Name), .slice a1_1' b_1.Mends.length c1_1', .slice a1_2' b_1.First.length c1_2', .int .i64 b_1.Price, .int .i64 b_1.Hours]] w (fun v w' => v = .bool r ∧ Ext w w') := by
  unfold m_laws_eqRepair at hm
  refine CallV.enter Try.func73 rfl (by kernel_rfl) Try.ntmps73 (env := [(0, .agg #[.string (bs a_0.Name), .slice a0_1' a_0.Mends.length c0_1', .slice a0_2' a_0.First.length c0_2', .int .i64 a_0.Price, .int .i64 a_0.Hours]), (1, .agg #[.string (bs b_1.Name), .slice a1_1' b_1.Mends.length c1_1', .slice a1_2' b_1.First.length c1_2', .int .i64 b_1.Price, .int .i64 b_1.Hours])]) ⟨rfl, rfl, trivial⟩ ?_
  refine WP.seq (fun K1 hK1 => ?_)
  refine WP.region ?_
  refine WL.box 73 [.string (bs a_0.Name), .slice a0_1' a_0.Mends.length c0_1', .slice a0_2' a_0.First.length c0_2', .int .i64 a_0.Price, .int .i64 a_0.Hours] 2 (by kernel_rfl) rfl rfl rfl rfl ?_
  intro b2 w3 hE4 hR5
  have hb7 : Ext w w3 := Ext.trans (Ext.refl w) hE4
  have hL8 : w.heap.size ≤ w3.heap.size := Nat.le_trans (Nat.le_refl _) hE4.size
  have hS9 : SH w3 w.heap.size [aBox 73 b2 [.string (bs a_0.Name), .slice a0_1' a_0.Mends.length c0_1', .slice a0_2' a_0.First.length c0_2', .int .i64 a_0.Price, .int .i64 a_0.Hours]] := SH.add (SH.nil _ _) hE4 (Nat.le_refl _) hR5
  refine WL.box 73 [.string (bs b_1.Name), .slice a1_1' b_1.Mends.length c1_1', .slice a1_2' b_1.First.length c1_2', .int .i64 b_1.Price, .int .i64 b_1.Hours] 3 (by kernel_rfl) rfl rfl rfl rfl ?_
  intro b10 w11 hE12 hR13
  have hb15 : Ext w w11 := Ext.trans hb7 hE12
  have hL16 : w.heap.size ≤ w11.heap.size := Nat.le_trans hL8 hE12.size
  have hS17 : SH w11 w.heap.size [aBox 73 b10 [.string (bs b_1.Name), .slice a1_1' b_1.Mends.length c1_1', .slice a1_2' b_1.First.length c1_2', .int .i64 b_1.Price, .int .i64 b_1.Hours], aBox 73 b2 [.string (bs a_0.Name), .slice a0_1' a_0.Mends.length c0_1', .slice a0_2' a_0.First.length c0_2', .int .i64 a_0.Price, .int .i64 a_0.Hours]] := SH.add hS9 hE12 hL8 hR13
  refine WL.runk 1 [2, 3] [(2, .pointer (some ⟨b2, 0, none⟩)), (3, .pointer (some ⟨b10, 0, none⟩))] (by kernel_rfl) ?_
  refine WL.nil ?_
  refine WQ.then_normal (hK1 _ _ _ ?_)
  refine WP.seq (fun K18 hK18 => ?_)
  refine WP.seq (fun K19 hK19 => ?_)
  refine WP.region ?_
  refine WL.runk 1 [2, 3, 5] [(2, .pointer (some ⟨b2, 0, none⟩)), (3, .pointer (some ⟨b10, 0, none⟩)), (5, .pointer (some ⟨b2, 0, none⟩))] (by kernel_rfl) ?_
  refine WL.st (.string (bs a_0.Name)) (ST.load (cell_ext (SH.boxAt (SH.front 1 hS17) 0 _ rfl)) rfl rfl Try.underlying9 rfl) rfl rfl rfl ?_
  refine WL.runk 1 [2, 3, 6, 7] [(2, .pointer (some ⟨b2, 0, none⟩)), (3, .pointer (some ⟨b10, 0, none⟩)), (6, .string (bs a_0.Name)), (7, .pointer (some ⟨b10, 0, none⟩))] (by kernel_rfl) ?_
  refine WL.st (.string (bs b_1.Name)) (ST.load (cell_ext (SH.boxAt (SH.front 0 hS17) 0 _ rfl)) rfl rfl Try.underlying9 rfl) rfl rfl rfl ?_
  refine WL.st (.bool (!(a_0.Name == b_1.Name))) (ST.strne (x := a_0.Name) (y := b_1.Name) rfl rfl rfl) rfl rfl rfl ?_
  refine WL.sub [(2, .pointer (some ⟨b2, 0, none⟩)), (3, .pointer (some ⟨b10, 0, none⟩)), (9, .bool (!(a_0.Name == b_1.Name)))] ⟨rfl, rfl, rfl, trivial⟩ ?_
  refine WL.nil ?_
  refine WQ.then_normal (hK19 _ _ _ ?_)
  refine WP.cond (!(a_0.Name == b_1.Name)) rfl rfl (fun hc20 => ?_) (fun hc20 => ?_)
  · have hm := iteT hm hc20
    refine WP.seq (fun K21 hK21 => ?_)
    refine WP.region ?_
    refine WL.runk 1 [4] [(4, .bool false)] (by kernel_rfl) ?_
    refine WL.nil ?_
    refine WQ.then_normal (hK21 _ _ _ ?_)
    refine WP.ret ?_
    refine WQ.then_ret ?_
    obtain rfl := Option.some.inj hm
    exact WQ.ret1 _ rfl rfl ⟨rfl, hb15⟩
  have hm := iteF hm hc20
  refine WP.skip ?_
  refine WQ.then_normal (hK18 _ _ _ ?_)
  refine WP.seq (fun K22 hK22 => ?_)
  refine WP.seq (fun K23 hK23 => ?_)
  refine WP.region ?_
  refine WL.runk 1 [2, 3, 10] [(2, .pointer (some ⟨b2, 0, none⟩)), (3, .pointer (some ⟨b10, 0, none⟩)), (10, .pointer (some ⟨b2, 1, none⟩))] (by kernel_rfl) ?_
  refine WL.st (.slice a0_1' a_0.Mends.length c0_1') (ST.load (cell_ext (SH.boxAt (SH.front 1 hS17) 1 _ rfl)) rfl rfl Try.underlying25 rfl) rfl rfl rfl ?_
  refine WL.runk 1 [2, 3, 11, 12] [(2, .pointer (some ⟨b2, 0, none⟩)), (3, .pointer (some ⟨b10, 0, none⟩)), (11, .slice a0_1' a_0.Mends.length c0_1'), (12, .pointer (some ⟨b10, 1, none⟩))] (by kernel_rfl) ?_
  refine WL.st (.slice a1_1' b_1.Mends.length c1_1') (ST.load (cell_ext (SH.boxAt (SH.front 0 hS17) 1 _ rfl)) rfl rfl Try.underlying25 rfl) rfl rfl rfl ?_
  obtain ⟨x24, hx25, hm⟩ := bindE hm
  refine WL.call 38 #[.slice a0_1' a_0.Mends.length c0_1', .slice a1_1' b_1.Mends.length c1_1'] rfl rfl (by kernel_rfl) (c_38 n a_0.Mends a0_1' c0_1' b_1.Mends a1_1' c1_1' w11 hx25 (Rd.below hr0_1 hb15) hle0_1 (Rd.below hr1_1 hb15) hle1_1) ?_
  rintro _ w26 ⟨rfl, hE27⟩
  refine ⟨_, rfl, ?_⟩
  have hb29 : Ext w w26 := Ext.trans hb15 hE27
  have hL30 : w.heap.size ≤ w26.heap.size := Nat.le_trans hL16 hE27.size
  have hS31 : SH w26 w.heap.size [aBox 73 b10 [.string (bs b_1.Name), .slice a1_1' b_1.Mends.length c1_1', .slice a1_2' b_1.First.length c1_2', .int .i64 b_1.Price, .int .i64 b_1.Hours], aBox 73 b2 [.string (bs a_0.Name), .slice a0_1' a_0.Mends.length c0_1', .slice a0_2' a_0.First.length c0_2', .int .i64 a_0.Price, .int .i64 a_0.Hours]] := SH.ext hS17 hE27
  refine WL.runk 1 [2, 3, 15] [(2, .pointer (some ⟨b2, 0, none⟩)), (3, .pointer (some ⟨b10, 0, none⟩)), (15, .bool (!x24))] (by kernel_rfl) ?_
  refine WL.nil ?_
  refine WQ.then_normal (hK23 _ _ _ ?_)
  refine WP.cond (!x24) rfl rfl (fun hc32 => ?_) (fun hc32 => ?_)
  · have hm := iteT hm hc32
    refine WP.seq (fun K33 hK33 => ?_)
    refine WP.region ?_
    refine WL.runk 1 [4] [(4, .bool false)] (by kernel_rfl) ?_
    refine WL.nil ?_
    refine WQ.then_normal (hK33 _ _ _ ?_)
    refine WP.ret ?_
    refine WQ.then_ret ?_
    obtain rfl := Option.some.inj hm
    exact WQ.ret1 _ rfl rfl ⟨rfl, hb29⟩
  have hm := iteF hm hc32
  refine WP.skip ?_
  refine WQ.then_normal (hK22 _ _ _ ?_)
  refine WP.seq (fun K34 hK34 => ?_)
  refine WP.seq (fun K35 hK35 => ?_)
  refine WP.region ?_
  refine WL.runk 1 [2, 3, 16] [(2, .pointer (some ⟨b2, 0, none⟩)), (3, .pointer (some ⟨b10, 0, none⟩)), (16, .pointer (some ⟨b2, 2, none⟩))] (by kernel_rfl) ?_
  refine WL.st (.slice a0_2' a_0.First.length c0_2') (ST.load (cell_ext (SH.boxAt (SH.front 1 hS31) 2 _ rfl)) rfl rfl Try.underlying25 rfl) rfl rfl rfl ?_
  refine WL.runk 1 [2, 3, 17, 18] [(2, .pointer (some ⟨b2, 0, none⟩)), (3, .pointer (some ⟨b10, 0, none⟩)), (17, .slice a0_2' a_0.First.length c0_2'), (18, .pointer (some ⟨b10, 2, none⟩))] (by kernel_rfl) ?_
  refine WL.st (.slice a1_2' b_1.First.length c1_2') (ST.load (cell_ext (SH.boxAt (SH.front 0 hS31) 2 _ rfl)) rfl rfl Try.underlying25 rfl) rfl rfl rfl ?_
  obtain ⟨x36, hx37, hm⟩ := bindE hm
  refine WL.call 38 #[.slice a0_2' a_0.First.length c0_2', .slice a1_2' b_1.First.length c1_2'] rfl rfl (by kernel_rfl) (c_38 n a_0.First a0_2' c0_2' b_1.First a1_2' c1_2' w26 hx37 (Rd.below hr0_2 hb29) hle0_2 (Rd.below hr1_2 hb29) hle1_2) ?_
  rintro _ w38 ⟨rfl, hE39⟩
  refine ⟨_, rfl, ?_⟩
  have hb41 : Ext w w38 := Ext.trans hb29 hE39
  have hL42 : w.heap.size ≤ w38.heap.size := Nat.le_trans hL30 hE39.size
  have hS43 : SH w38 w.heap.size [aBox 73 b10 [.string (bs b_1.Name), .slice a1_1' b_1.Mends.length c1_1', .slice a1_2' b_1.First.length c1_2', .int .i64 b_1.Price, .int .i64 b_1.Hours], aBox 73 b2 [.string (bs a_0.Name), .slice a0_1' a_0.Mends.length c0_1', .slice a0_2' a_0.First.length c0_2', .int .i64 a_0.Price, .int .i64 a_0.Hours]] := SH.ext hS31 hE39
  refine WL.runk 1 [2, 3, 21] [(2, .pointer (some ⟨b2, 0, none⟩)), (3, .pointer (some ⟨b10, 0, none⟩)), (21, .bool (!x36))] (by kernel_rfl) ?_
  refine WL.nil ?_
  refine WQ.then_normal (hK35 _ _ _ ?_)
  refine WP.cond (!x36) rfl rfl (fun hc44 => ?_) (fun hc44 => ?_)
  · have hm := iteT hm hc44
    refine WP.seq (fun K45 hK45 => ?_)
    refine WP.region ?_
    refine WL.runk 1 [4] [(4, .bool false)] (by kernel_rfl) ?_
    refine WL.nil ?_
    refine WQ.then_normal (hK45 _ _ _ ?_)
    refine WP.ret ?_
    refine WQ.then_ret ?_
    obtain rfl := Option.some.inj hm
    exact WQ.ret1 _ rfl rfl ⟨rfl, hb41⟩
  have hm := iteF hm hc44
  refine WP.skip ?_
  refine WQ.then_normal (hK34 _ _ _ ?_)
  refine WP.seq (fun K46 hK46 => ?_)
  refine WP.seq (fun K47 hK47 => ?_)
  refine WP.region ?_
  refine WL.runk 1 [2, 3, 22] [(2, .pointer (some ⟨b2, 0, none⟩)), (3, .pointer (some ⟨b10, 0, none⟩)), (22, .pointer (some ⟨b2, 3, none⟩))] (by kernel_rfl) ?_
  refine WL.st (.int .i64 a_0.Price) (ST.load (cell_ext (SH.boxAt (SH.front 1 hS43) 3 _ rfl)) rfl rfl Try.underlying2 rfl) rfl rfl rfl ?_
  refine WL.runk 1 [2, 3, 23, 24] [(2, .pointer (some ⟨b2, 0, none⟩)), (3, .pointer (some ⟨b10, 0, none⟩)), (23, .int .i64 a_0.Price), (24, .pointer (some ⟨b10, 3, none⟩))] (by kernel_rfl) ?_
  refine WL.st (.int .i64 b_1.Price) (ST.load (cell_ext (SH.boxAt (SH.front 0 hS43) 3 _ rfl)) rfl rfl Try.underlying2 rfl) rfl rfl rfl ?_
  refine WL.runk 1 [2, 3, 26] [(2, .pointer (some ⟨b2, 0, none⟩)), (3, .pointer (some ⟨b10, 0, none⟩)), (26, .bool (a_0.Price != b_1.Price))] (by kernel_rfl) ?_
  refine WL.nil ?_
  refine WQ.then_normal (hK47 _ _ _ ?_)
  refine WP.cond (a_0.Price != b_1.Price) rfl rfl (fun hc48 => ?_) (fun hc48 => ?_)
  · have hm := iteT hm hc48
    refine WP.seq (fun K49 hK49 => ?_)
    refine WP.region ?_
    refine WL.runk 1 [4] [(4, .bool false)] (by kernel_rfl) ?_
    refine WL.nil ?_
    refine WQ.then_normal (hK49 _ _ _ ?_)
    refine WP.ret ?_
    refine WQ.then_ret ?_
    obtain rfl := Option.some.inj hm
    exact WQ.ret1 _ rfl rfl ⟨rfl, hb41⟩
  have hm := iteF hm hc48
  refine WP.skip ?_
  refine WQ.then_normal (hK46 _ _ _ ?_)
  refine WP.seq (fun K50 hK50 => ?_)
  refine WP.seq (fun K51 hK51 => ?_)
  refine WP.region ?_
  refine WL.runk 1 [3, 27] [(3, .pointer (some ⟨b10, 0, none⟩)), (27, .pointer (some ⟨b2, 4, none⟩))] (by kernel_rfl) ?_
  refine WL.st (.int .i64 a_0.Hours) (ST.load (cell_ext (SH.boxAt (SH.front 1 hS43) 4 _ rfl)) rfl rfl Try.underlying2 rfl) rfl rfl rfl ?_
  refine WL.runk 1 [28, 29] [(28, .int .i64 a_0.Hours), (29, .pointer (some ⟨b10, 4, none⟩))] (by kernel_rfl) ?_
  refine WL.st (.int .i64 b_1.Hours) (ST.load (cell_ext (SH.boxAt (SH.front 0 hS43) 4 _ rfl)) rfl rfl Try.underlying2 rfl) rfl rfl rfl ?_
  refine WL.runk 1 [31] [(31, .bool (a_0.Hours != b_1.Hours))] (by kernel_rfl) ?_
  refine WL.nil ?_
  refine WQ.then_normal (hK51 _ _ _ ?_)
  refine WP.cond (a_0.Hours != b_1.Hours) rfl rfl (fun hc52 => ?_) (fun hc52 => ?_)
  · have hm := iteT hm hc52
    refine WP.seq (fun K53 hK53 => ?_)
    refine WP.region ?_
    refine WL.runk 1 [4] [(4, .bool false)] (by kernel_rfl) ?_
    refine WL.nil ?_
    refine WQ.then_normal (hK53 _ _ _ ?_)
    refine WP.ret ?_
    refine WQ.then_ret ?_
    obtain rfl := Option.some.inj hm
    exact WQ.ret1 _ rfl rfl ⟨rfl, hb41⟩
  have hm := iteF hm hc52
  refine WP.skip ?_
  refine WQ.then_normal (hK50 _ _ _ ?_)
  refine WP.seq (fun K54 hK54 => ?_)
  refine WP.region ?_
  refine WL.runk 1 [4] [(4, .bool true)] (by kernel_rfl) ?_
  refine WL.nil ?_
  refine WQ.then_normal (hK54 _ _ _ ?_)
  refine WP.ret ?_
  obtain rfl := Option.some.inj hm
  exact WQ.ret1 _ rfl rfl ⟨rfl, hb41⟩

theorem c_32 (n : Nat) (a_0 : List SRepair) (a0' : Option Addr) (c0' : Nat) (b_1 : List SRepair) (a1' : Option Addr) (c1' : Nat) (w : World) {r : Bool} (hm : m_laws_eqRepairS n a_0 b_1 = some r) (h0 : Rd fRepair.ty w a0' a_0) (_hle0 : a_0.length ≤ c0') (h1 : Rd fRepair.ty w a1' b_1) (_hle1 : b_1.length ≤ c1') :
    CallV Try.prog 32 #[.slice a0' a_0.length c0', .slice a1' b_1.length c1'] w (fun v w' => v = .bool r ∧ Ext w w') := by
  unfold m_laws_eqRepairS at hm
  refine CallV.enter Try.func32 rfl (by kernel_rfl) Try.ntmps32 (env := [(0, .slice a0' a_0.length c0'), (1, .slice a1' b_1.length c1')]) ⟨rfl, rfl, trivial⟩ ?_
  refine WP.seq (fun K1 hK1 => ?_)
  refine WP.region ?_
  refine WL.runk 1 [0, 1] [(0, .slice a0' a_0.length c0'), (1, .slice a1' b_1.length c1')] (by kernel_rfl) ?_
  refine WL.nil ?_
  refine WQ.then_normal (hK1 _ _ _ ?_)
  refine WP.seq (fun K2 hK2 => ?_)
  refine WP.seq (fun K3 hK3 => ?_)
  refine WP.region ?_
  refine WL.runk 5 [0, 1, 10] [(0, .slice a0' a_0.length c0'), (1, .slice a1' b_1.length c1'), (10, .bool ((a_0.length : Int) != (b_1.length : Int)))] (by kernel_rfl) ?_
  refine WL.nil ?_
  refine WQ.then_normal (hK3 _ _ _ ?_)
  refine WP.cond ((a_0.length : Int) != (b_1.length : Int)) rfl rfl (fun hc4 => ?_) (fun hc4 => ?_)
  · have hm := iteT hm hc4
    refine WP.seq (fun K5 hK5 => ?_)
    refine WP.region ?_
    refine WL.runk 1 [4] [(4, .bool false)] (by kernel_rfl) ?_
    refine WL.nil ?_
    refine WQ.then_normal (hK5 _ _ _ ?_)
    refine WP.ret ?_
    refine WQ.then_ret ?_
    obtain rfl := Option.some.inj hm
    exact WQ.ret1 _ rfl rfl ⟨rfl, (Ext.refl w)⟩
  have hm := iteF hm hc4
  refine WP.skip ?_
  refine WQ.then_normal (hK2 _ _ _ ?_)
  refine WP.seq (fun K6 hK6 => ?_)
  refine WP.seq (fun K7 hK7 => ?_)
  refine WP.region ?_
  refine WL.runk 1 [0, 1, 5] [(0, .slice a0' a_0.length c0'), (1, .slice a1' b_1.length c1'), (5, .int .i64 0)] (by kernel_rfl) ?_
  refine WL.nil ?_
  refine WQ.then_normal (hK7 _ _ _ ?_)
  refine WP.block ?_
  obtain ⟨t19, ht20, hm⟩ := bindE hm
  have hmo14 := hm; clear hm
  refine WP.sub [(0, .slice a0' a_0.length c0'), (1, .slice a1' b_1.length c1'), (5, .int .i64 0)] ⟨rfl, rfl, rfl, trivial⟩ ?_
  refine WP.loop (fun n' env' w' => ∃ (st8 : Int) , env' = [(0, .slice a0' a_0.length c0'), (1, .slice a1' b_1.length c1'), (5, .int .i64 st8)] ∧ Ext w w' ∧ w.heap.size ≤ w'.heap.size ∧ SH w' w.heap.size [] ∧ loopN (m_laws_eqRepairS_l1 n a_0 b_1) n' st8 = some t19) n ⟨0, rfl, (Ext.refl w), (Nat.le_refl _), (SH.nil _ _), ht20⟩ ?_
  rintro n16 _ w9 ⟨st8, rfl, hb10, hL11, hS12, hl13⟩ K15 hK15
  obtain ⟨n17, s18, rfl, hm, hl13⟩ := loopN_some hl13
  unfold m_laws_eqRepairS_l1 at hm
  refine WP.seq (fun K21 hK21 => ?_)
  refine WP.seq (fun K22 hK22 => ?_)
  refine WP.region ?_
  refine WL.runk 4 [0, 1, 5, 14] [(0, .slice a0' a_0.length c0'), (1, .slice a1' b_1.length c1'), (5, .int .i64 st8), (14, .bool (decide (st8 < (a_0.length : Int))))] (by kernel_rfl) ?_
  refine WL.nil ?_
  refine WQ.then_normal (hK22 _ _ _ ?_)
  refine WP.cond (decide (st8 < (a_0.length : Int))) rfl rfl (fun hc23 => ?_) (fun hc23 => ?_)
  rotate_left
  · have hm := iteF hm hc23
    refine WP.exit ?_
    refine WQ.then_exit ?_
    refine WQ.then_exit ?_
    refine WQ.block_here ?_
    obtain rfl := Option.some.inj hm
    obtain rfl := afterN_done hl13
    have hm := hmo14
    refine WQ.then_normal (hK6 _ _ _ ?_)
    refine WP.seq (fun K63 hK63 => ?_)
    refine WP.region ?_
    refine WL.runk 1 [4] [(4, .bool true)] (by kernel_rfl) ?_
    refine WL.nil ?_
    refine WQ.then_normal (hK63 _ _ _ ?_)
    refine WP.ret ?_
    obtain rfl := Option.some.inj hm
    exact WQ.ret1 _ rfl rfl ⟨rfl, hb10⟩
  have hm := iteT hm hc23
  refine WP.skip ?_
  refine WQ.then_normal (hK21 _ _ _ ?_)
  refine WP.seq (fun K24 hK24 => ?_)
  refine WP.block ?_
  refine WP.seq (fun K25 hK25 => ?_)
  refine WP.quiet (by kernel_rfl) (by kernel_rfl) ?_
  refine QL.step1v 17 (.slice a0' a_0.length c0') rfl (fun _ => by kernel_rfl) ?_
  refine QL.step1v 18 (.int .i64 st8) rfl (fun _ => by kernel_rfl) ?_
  refine QL.subk [0, 1, 5, 17, 18] [(0, .slice a0' a_0.length c0'), (1, .slice a1' b_1.length c1'), (5, .int .i64 st8), (17, .slice a0' a_0.length c0'), (18, .int .i64 st8)] (by kernel_rfl) ?_
  obtain ⟨x26, hx27, hm⟩ := bindE hm
  obtain ⟨a28, c29, a33, c34, hc38, hR30, hle31, hR35, hle36⟩ := nest_Repair h0 hx27
  refine QL.st (.pointer (some (at_ a0' (Int.toNat st8 * 5)))) (ST.index (T := fRepair.ty) (xs := a_0) (Rd.below h0 hb10) hx27 rfl rfl rfl Try.underlying24 (info73).1 (info73).2.1) rfl rfl rfl ?_
  refine QL.st (.agg #[.string (bs x26.Name), .slice a28 x26.Mends.length c29, .slice a33 x26.First.length c34, .int .i64 x26.Price, .int .i64 x26.Hours]) (ST.loadAgg (vs := [.string (bs x26.Name), .slice a28 x26.Mends.length c29, .slice a33 x26.First.length c34, .int .i64 x26.Price, .int .i64 x26.Hours]) (at_agg (cells_ext hc38 hb10)) rfl rfl rfl Try.underlying73 rfl (info73).1 (info73).2.1) rfl rfl rfl ?_
  refine QL.step1v 21 (.slice a1' b_1.length c1') rfl (fun _ => by kernel_rfl) ?_
  refine QL.step1v 22 (.int .i64 st8) rfl (fun _ => by kernel_rfl) ?_
  refine QL.subk [0, 1, 5, 20, 21, 22] [(0, .slice a0' a_0.length c0'), (1, .slice a1' b_1.length c1'), (5, .int .i64 st8), (20, .agg #[.string (bs x26.Name), .slice a28 x26.Mends.length c29, .slice a33 x26.First.length c34, .int .i64 x26.Price, .int .i64 x26.Hours]), (21, .slice a1' b_1.length c1'), (22, .int .i64 st8)] (by kernel_rfl) ?_
  obtain ⟨x39, hx40, hm⟩ := bindE hm
  obtain ⟨a41, c42, a46, c47, hc51, hR43, hle44, hR48, hle49⟩ := nest_Repair h1 hx40
  refine QL.st (.pointer (some (at_ a1' (Int.toNat st8 * 5)))) (ST.index (T := fRepair.ty) (xs := b_1) (Rd.below h1 hb10) hx40 rfl rfl rfl Try.underlying24 (info73).1 (info73).2.1) rfl rfl rfl ?_
  refine QL.st (.agg #[.string (bs x39.Name), .slice a41 x39.Mends.length c42, .slice a46 x39.First.length c47, .int .i64 x39.Price, .int .i64 x39.Hours]) (ST.loadAgg (vs := [.string (bs x39.Name), .slice a41 x39.Mends.length c42, .slice a46 x39.First.length c47, .int .i64 x39.Price, .int .i64 x39.Hours]) (at_agg (cells_ext hc51 hb10)) rfl rfl rfl Try.underlying73 rfl (info73).1 (info73).2.1) rfl rfl rfl ?_
  obtain ⟨x52, hx53, hm⟩ := bindE hm
  refine QL.call 73 #[.agg #[.string (bs x26.Name), .slice a28 x26.Mends.length c29, .slice a33 x26.First.length c34, .int .i64 x26.Price, .int .i64 x26.Hours], .agg #[.string (bs x39.Name), .slice a41 x39.Mends.length c42, .slice a46 x39.First.length c47, .int .i64 x39.Price, .int .i64 x39.Hours]] (.bool x52) (fun _ => by kernel_rfl) (fun w54 hE55 => c_73 n x26 a28 c29 a33 c34 x39 a41 c42 a46 c47 w54 hx53 (Rd.below (Rd.below hR30 hb10) hE55) hle31 (Rd.below (Rd.below hR35 hb10) hE55) hle36 (Rd.below (Rd.below hR43 hb10) hE55) hle44 (Rd.below (Rd.below hR48 hb10) hE55) hle49) rfl rfl rfl ?_
  refine QL.step1v 26 (.bool (!x52)) rfl (fun _ => by kernel_rfl) ?_
  refine QL.subk [0, 1, 5, 26] [(0, .slice a0' a_0.length c0'), (1, .slice a1' b_1.length c1'), (5, .int .i64 st8), (26, .bool (!x52))] (by kernel_rfl) ?_
  refine QL.nil ?_
  intro w56 hE57
  have hb58 : Ext w w56 := Ext.trans hb10 hE57
  have hL59 : w.heap.size ≤ w56.heap.size := Nat.le_trans hL11 hE57.size
  have hS60 : SH w56 w.heap.size [] := SH.ext hS12 hE57
  refine WQ.then_normal (hK25 _ _ _ ?_)
  refine WP.cond (!x52) rfl rfl (fun hc61 => ?_) (fun hc61 => ?_)
  rotate_left
  · have hm := iteF hm hc61
    refine WP.skip ?_
    refine WQ.block_normal ?_
    refine WQ.then_normal (hK24 _ _ _ ?_)
    refine WP.region ?_
    refine WL.runk 3 [0, 1, 5] [(0, .slice a0' a_0.length c0'), (1, .slice a1' b_1.length c1'), (5, .int .i64 (wI64 (st8 + 1)))] (by kernel_rfl) ?_
    refine WL.nil ?_
    obtain rfl := Option.some.inj hm
    exact WQ.round hK15 ⟨(wI64 (st8 + 1)), rfl, hb58, hL59, hS60, hl13⟩ (Nat.lt_succ_self _) ⟨rfl, rfl, rfl, trivial⟩
  have hm := iteT hm hc61
  refine WP.seq (fun K62 hK62 => ?_)
  refine WP.region ?_
  refine WL.runk 1 [4] [(4, .bool false)] (by kernel_rfl) ?_
  refine WL.nil ?_
  refine WQ.then_normal (hK62 _ _ _ ?_)
  refine WP.ret ?_
  refine WQ.block_ret ?_
  refine WQ.then_ret ?_
  refine WQ.then_ret ?_
  refine WQ.block_ret ?_
  refine WQ.then_ret ?_
  obtain rfl := Option.some.inj hm
  obtain rfl := afterN_done hl13
  have hm := hmo14
  obtain rfl := Option.some.inj hm
  exact WQ.ret1 _ rfl rfl ⟨rfl, hb58⟩

theorem c_4 (n : Nat) (aA_0 : List SRepair) (a0' : Option Addr) (c0' : Nat) (aB_1 : List SRepair) (a1' : Option Addr) (c1' : Nat) (w : World) {r : Bool} (hm : m_laws_FnExactSameRepairs n aA_0 aB_1 = some r) (h0 : Rd fRepair.ty w a0' aA_0) (hle0 : aA_0.length ≤ c0') (h1 : Rd fRepair.ty w a1' aB_1) (hle1 : aB_1.length ≤ c1') :
    CallV Try.prog 4 #[.slice a0' aA_0.length c0', .slice a1' aB_1.length c1'] w (fun v w' => v = .bool r ∧ Ext w w') := by
  unfold m_laws_FnExactSameRepairs at hm
  refine CallV.enter Try.func4 rfl (by kernel_rfl) Try.ntmps4 (env := [(0, .slice a0' aA_0.length c0'), (1, .slice a1' aB_1.length c1')]) ⟨rfl, rfl, trivial⟩ ?_
  refine WP.seq (fun K1 hK1 => ?_)
  refine WP.region ?_
  refine WL.runk 1 [0, 1] [(0, .slice a0' aA_0.length c0'), (1, .slice a1' aB_1.length c1')] (by kernel_rfl) ?_
  refine WL.nil ?_
  refine WQ.then_normal (hK1 _ _ _ ?_)
  refine WP.seq (fun K2 hK2 => ?_)
  refine WP.region ?_
  refine WL.runk 1 [0, 1, 5] [(0, .slice a0' aA_0.length c0'), (1, .slice a1' aB_1.length c1'), (5, .int .i64 1048576)] (by kernel_rfl) ?_
  refine WL.nil ?_
  refine WQ.then_normal (hK2 _ _ _ ?_)
  refine WP.seq (fun K3 hK3 => ?_)
  refine WP.region ?_
  refine WL.runk 2 [0, 1, 10, 11] [(0, .slice a0' aA_0.length c0'), (1, .slice a1' aB_1.length c1'), (10, .slice a0' aA_0.length c0'), (11, .int .i64 1048576)] (by kernel_rfl) ?_
  obtain ⟨x4, hx5, hm⟩ := bindE hm
  refine WL.call 28 #[.slice a0' aA_0.length c0', .int .i64 1048576] rfl rfl (by kernel_rfl) (c_28 n aA_0 a0' c0' 1048576 w hx5 (Rd.below h0 (Ext.refl w)) hle0) ?_
  rintro _ w6 ⟨rfl, hE7⟩
  refine ⟨_, rfl, ?_⟩
  have hb9 : Ext w w6 := Ext.trans (Ext.refl w) hE7
  have hL10 : w.heap.size ≤ w6.heap.size := Nat.le_trans (Nat.le_refl _) hE7.size
  have hS11 : SH w6 w.heap.size [] := SH.ext (SH.nil _ _) hE7
  refine WL.runk 1 [0, 1, 5] [(0, .slice a0' aA_0.length c0'), (1, .slice a1' aB_1.length c1'), (5, .int .i64 x4)] (by kernel_rfl) ?_
  refine WL.nil ?_
  refine WQ.then_normal (hK3 _ _ _ ?_)
  refine WP.seq (fun K12 hK12 => ?_)
  refine WP.seq (fun K13 hK13 => ?_)
  refine WP.region ?_
  refine WL.runk 2 [0, 1, 5, 14] [(0, .slice a0' aA_0.length c0'), (1, .slice a1' aB_1.length c1'), (5, .int .i64 x4), (14, .bool (decide (x4 < 0)))] (by kernel_rfl) ?_
  refine WL.nil ?_
  refine WQ.then_normal (hK13 _ _ _ ?_)
  refine WP.cond (decide (x4 < 0)) rfl rfl (fun hc14 => ?_) (fun hc14 => ?_)
  · have hm := iteT hm hc14
    refine WP.seq (fun K15 hK15 => ?_)
    refine WP.region ?_
    refine WL.runk 1 [4] [(4, .bool true)] (by kernel_rfl) ?_
    refine WL.nil ?_
    refine WQ.then_normal (hK15 _ _ _ ?_)
    refine WP.ret ?_
    refine WQ.then_ret ?_
    obtain rfl := Option.some.inj hm
    exact WQ.ret1 _ rfl rfl ⟨rfl, hb9⟩
  have hm := iteF hm hc14
  refine WP.skip ?_
  refine WQ.then_normal (hK12 _ _ _ ?_)
  refine WP.seq (fun K16 hK16 => ?_)
  refine WP.region ?_
  refine WL.runk 2 [0, 1, 15, 16] [(0, .slice a0' aA_0.length c0'), (1, .slice a1' aB_1.length c1'), (15, .slice a1' aB_1.length c1'), (16, .int .i64 x4)] (by kernel_rfl) ?_
  obtain ⟨x17, hx18, hm⟩ := bindE hm
  refine WL.call 28 #[.slice a1' aB_1.length c1', .int .i64 x4] rfl rfl (by kernel_rfl) (c_28 n aB_1 a1' c1' x4 w6 hx18 (Rd.below h1 hb9) hle1) ?_
  rintro _ w19 ⟨rfl, hE20⟩
  refine ⟨_, rfl, ?_⟩
  have hb22 : Ext w w19 := Ext.trans hb9 hE20
  have hL23 : w.heap.size ≤ w19.heap.size := Nat.le_trans hL10 hE20.size
  have hS24 : SH w19 w.heap.size [] := SH.ext hS11 hE20
  refine WL.runk 1 [0, 1, 5] [(0, .slice a0' aA_0.length c0'), (1, .slice a1' aB_1.length c1'), (5, .int .i64 x17)] (by kernel_rfl) ?_
  refine WL.nil ?_
  refine WQ.then_normal (hK16 _ _ _ ?_)
  refine WP.seq (fun K25 hK25 => ?_)
  refine WP.seq (fun K26 hK26 => ?_)
  refine WP.region ?_
  refine WL.runk 2 [0, 1, 19] [(0, .slice a0' aA_0.length c0'), (1, .slice a1' aB_1.length c1'), (19, .bool (decide (x17 < 0)))] (by kernel_rfl) ?_
  refine WL.nil ?_
  refine WQ.then_normal (hK26 _ _ _ ?_)
  refine WP.cond (decide (x17 < 0)) rfl rfl (fun hc27 => ?_) (fun hc27 => ?_)
  · have hm := iteT hm hc27
    refine WP.seq (fun K28 hK28 => ?_)
    refine WP.region ?_
    refine WL.runk 1 [4] [(4, .bool true)] (by kernel_rfl) ?_
    refine WL.nil ?_
    refine WQ.then_normal (hK28 _ _ _ ?_)
    refine WP.ret ?_
    refine WQ.then_ret ?_
    obtain rfl := Option.some.inj hm
    exact WQ.ret1 _ rfl rfl ⟨rfl, hb22⟩
  have hm := iteF hm hc27
  refine WP.skip ?_
  refine WQ.then_normal (hK25 _ _ _ ?_)
  refine WP.seq (fun K29 hK29 => ?_)
  refine WP.region ?_
  refine WL.runk 1 [0, 1, 20] [(0, .slice a0' aA_0.length c0'), (1, .slice a1' aB_1.length c1'), (20, .slice a0' aA_0.length c0')] (by kernel_rfl) ?_
  obtain ⟨x30, hx31, hm⟩ := bindE hm
  refine WL.call 30 #[.slice a0' aA_0.length c0'] rfl rfl (by kernel_rfl) (c_30 n aA_0 a0' c0' w19 hx31 (Rd.below h0 hb22) hle0) ?_
  rintro _ w35 ⟨a32, c33, rfl, hE36, hR37⟩
  refine ⟨_, rfl, ?_⟩
  have hb38 : Ext w w35 := Ext.trans hb22 hE36
  have hL39 : w.heap.size ≤ w35.heap.size := Nat.le_trans hL23 hE36.size
  have hS40 : SH w35 w.heap.size [aNest fRepair 73 2 a32 c33 x30] := SH.add hS24 hE36 hL23 hR37
  refine WL.runk 1 [0, 1, 21, 22] [(0, .slice a0' aA_0.length c0'), (1, .slice a1' aB_1.length c1'), (21, .slice a32 x30.length c33), (22, .slice a1' aB_1.length c1')] (by kernel_rfl) ?_
  obtain ⟨x41, hx42, hm⟩ := bindE hm
  refine WL.call 30 #[.slice a1' aB_1.length c1'] rfl rfl (by kernel_rfl) (c_30 n aB_1 a1' c1' w35 hx42 (Rd.below h1 hb38) hle1) ?_
  rintro _ w46 ⟨a43, c44, rfl, hE47, hR48⟩
  refine ⟨_, rfl, ?_⟩
  have hb49 : Ext w w46 := Ext.trans hb38 hE47
  have hL50 : w.heap.size ≤ w46.heap.size := Nat.le_trans hL39 hE47.size
  have hS51 : SH w46 w.heap.size [aNest fRepair 73 2 a43 c44 x41, aNest fRepair 73 2 a32 c33 x30] := SH.add hS40 hE47 hL39 hR48
  obtain ⟨x52, hx53, hm⟩ := bindE hm
  refine WL.call 29 #[.slice a32 x30.length c33, .slice a43 x41.length c44] rfl rfl (by kernel_rfl) (c_29 n x30 a32 c33 x41 a43 c44 w46 hx53 (SH.rdN (SH.front 1 hS51)) (SH.leN (SH.front 1 hS51)).1 (SH.rdN (SH.front 0 hS51)) (SH.leN (SH.front 0 hS51)).1) ?_
  rintro _ w54 ⟨rfl, hE55⟩
  refine ⟨_, rfl, ?_⟩
  have hb57 : Ext w w54 := Ext.trans hb49 hE55
  have hL58 : w.heap.size ≤ w54.heap.size := Nat.le_trans hL50 hE55.size
  have hS59 : SH w54 w.heap.size [aNest fRepair 73 2 a43 c44 x41, aNest fRepair 73 2 a32 c33 x30] := SH.ext hS51 hE55
  refine WL.runk 1 [0, 1, 6] [(0, .slice a0' aA_0.length c0'), (1, .slice a1' aB_1.length c1'), (6, .bool x52)] (by kernel_rfl) ?_
  refine WL.nil ?_
  refine WQ.then_normal (hK29 _ _ _ ?_)
  refine WP.seq (fun K60 hK60 => ?_)
  refine WP.region ?_
  refine WL.runk 1 [0, 1, 6, 25] [(0, .slice a0' aA_0.length c0'), (1, .slice a1' aB_1.length c1'), (6, .bool x52), (25, .slice a0' aA_0.length c0')] (by kernel_rfl) ?_
  obtain ⟨x61, hx62, hm⟩ := bindE hm
  refine WL.call 30 #[.slice a0' aA_0.length c0'] rfl rfl (by kernel_rfl) (c_30 n aA_0 a0' c0' w54 hx62 (Rd.below h0 hb57) hle0) ?_
  rintro _ w66 ⟨a63, c64, rfl, hE67, hR68⟩
  refine ⟨_, rfl, ?_⟩
  have hb69 : Ext w w66 := Ext.trans hb57 hE67
  have hL70 : w.heap.size ≤ w66.heap.size := Nat.le_trans hL58 hE67.size
  have hS71 : SH w66 w.heap.size [aNest fRepair 73 2 a63 c64 x61, aNest fRepair 73 2 a43 c44 x41, aNest fRepair 73 2 a32 c33 x30] := SH.add hS59 hE67 hL58 hR68
  refine WL.runk 1 [0, 1, 6, 7] [(0, .slice a0' aA_0.length c0'), (1, .slice a1' aB_1.length c1'), (6, .bool x52), (7, .slice a63 x61.length c64)] (by kernel_rfl) ?_
  refine WL.nil ?_
  refine WQ.then_normal (hK60 _ _ _ ?_)
  refine WP.seq (fun K72 hK72 => ?_)
  refine WP.region ?_
  refine WL.runk 1 [0, 1, 6, 7, 27] [(0, .slice a0' aA_0.length c0'), (1, .slice a1' aB_1.length c1'), (6, .bool x52), (7, .slice a63 x61.length c64), (27, .slice a1' aB_1.length c1')] (by kernel_rfl) ?_
  obtain ⟨x73, hx74, hm⟩ := bindE hm
  refine WL.call 30 #[.slice a1' aB_1.length c1'] rfl rfl (by kernel_rfl) (c_30 n aB_1 a1' c1' w66 hx74 (Rd.below h1 hb69) hle1) ?_
  rintro _ w78 ⟨a75, c76, rfl, hE79, hR80⟩
  refine ⟨_, rfl, ?_⟩
  have hb81 : Ext w w78 := Ext.trans hb69 hE79
  have hL82 : w.heap.size ≤ w78.heap.size := Nat.le_trans hL70 hE79.size
  have hS83 : SH w78 w.heap.size [aNest fRepair 73 2 a75 c76 x73, aNest fRepair 73 2 a63 c64 x61, aNest fRepair 73 2 a43 c44 x41, aNest fRepair 73 2 a32 c33 x30] := SH.add hS71 hE79 hL70 hR80
  refine WL.runk 1 [0, 1, 6, 7, 8] [(0, .slice a0' aA_0.length c0'), (1, .slice a1' aB_1.length c1'), (6, .bool x52), (7, .slice a63 x61.length c64), (8, .slice a75 x73.length c76)] (by kernel_rfl) ?_
  refine WL.nil ?_
  refine WQ.then_normal (hK72 _ _ _ ?_)
  refine WP.seq (fun K84 hK84 => ?_)
  refine WP.region ?_
  refine WL.runk 2 [0, 1, 6, 7, 8, 29, 30] [(0, .slice a0' aA_0.length c0'), (1, .slice a1' aB_1.length c1'), (6, .bool x52), (7, .slice a63 x61.length c64), (8, .slice a75 x73.length c76), (29, .slice a63 x61.length c64), (30, .slice a75 x73.length c76)] (by kernel_rfl) ?_
  obtain ⟨x85, hx86, hm⟩ := bindE hm
  refine WL.call 31 #[.slice a63 x61.length c64, .slice a75 x73.length c76] rfl rfl (by kernel_rfl) (c_31 n x61 a63 c64 x73 a75 c76 w78 hx86 (SH.rdN (SH.front 1 hS83)) (SH.leN (SH.front 1 hS83)).1 (SH.rdN (SH.front 0 hS83)) (SH.leN (SH.front 0 hS83)).1) ?_
  rintro _ w87 ⟨rfl, hE88⟩
  refine ⟨_, rfl, ?_⟩
  have hb90 : Ext w w87 := Ext.trans hb81 hE88
  have hL91 : w.heap.size ≤ w87.heap.size := Nat.le_trans hL82 hE88.size
  have hS92 : SH w87 w.heap.size [aNest fRepair 73 2 a75 c76 x73, aNest fRepair 73 2 a63 c64 x61, aNest fRepair 73 2 a43 c44 x41, aNest fRepair 73 2 a32 c33 x30] := SH.ext hS83 hE88
  refine WL.runk 1 [0, 1, 6, 7, 8, 9] [(0, .slice a0' aA_0.length c0'), (1, .slice a1' aB_1.length c1'), (6, .bool x52), (7, .slice a63 x61.length c64), (8, .slice a75 x73.length c76), (9, .bool x85)] (by kernel_rfl) ?_
  refine WL.nil ?_
  refine WQ.then_normal (hK84 _ _ _ ?_)
  refine WP.seq (fun K93 hK93 => ?_)
  refine WP.seq (fun K94 hK94 => ?_)
  refine WP.region ?_
  refine WL.runk 3 [0, 1, 7, 8, 34] [(0, .slice a0' aA_0.length c0'), (1, .slice a1' aB_1.length c1'), (7, .slice a63 x61.length c64), (8, .slice a75 x73.length c76), (34, .bool (!(x85 == x52)))] (by kernel_rfl) ?_
  refine WL.nil ?_
  refine WQ.then_normal (hK94 _ _ _ ?_)
  refine WP.cond (!(x85 == x52)) rfl rfl (fun hc95 => ?_) (fun hc95 => ?_)
  · have hm := iteT hm hc95
    refine WP.seq (fun K96 hK96 => ?_)
    refine WP.region ?_
    refine WL.runk 1 [4] [(4, .bool false)] (by kernel_rfl) ?_
    refine WL.nil ?_
    refine WQ.then_normal (hK96 _ _ _ ?_)
    refine WP.ret ?_
    refine WQ.then_ret ?_
    obtain rfl := Option.some.inj hm
    exact WQ.ret1 _ rfl rfl ⟨rfl, hb90⟩
  have hm := iteF hm hc95
  refine WP.skip ?_
  refine WQ.then_normal (hK93 _ _ _ ?_)
  refine WP.seq (fun K97 hK97 => ?_)
  refine WP.seq (fun K98 hK98 => ?_)
  refine WP.region ?_
  refine WL.runk 2 [1, 8, 35, 36] [(1, .slice a1' aB_1.length c1'), (8, .slice a75 x73.length c76), (35, .slice a63 x61.length c64), (36, .slice a0' aA_0.length c0')] (by kernel_rfl) ?_
  obtain ⟨x99, hx100, hm⟩ := bindE hm
  refine WL.call 30 #[.slice a0' aA_0.length c0'] rfl rfl (by kernel_rfl) (c_30 n aA_0 a0' c0' w87 hx100 (Rd.below h0 hb90) hle0) ?_
  rintro _ w104 ⟨a101, c102, rfl, hE105, hR106⟩
  refine ⟨_, rfl, ?_⟩
  have hb107 : Ext w w104 := Ext.trans hb90 hE105
  have hL108 : w.heap.size ≤ w104.heap.size := Nat.le_trans hL91 hE105.size
  have hS109 : SH w104 w.heap.size [aNest fRepair 73 2 a101 c102 x99, aNest fRepair 73 2 a75 c76 x73, aNest fRepair 73 2 a63 c64 x61, aNest fRepair 73 2 a43 c44 x41, aNest fRepair 73 2 a32 c33 x30] := SH.add hS92 hE105 hL91 hR106
  obtain ⟨x110, hx111, hm⟩ := bindE hm
  refine WL.call 32 #[.slice a63 x61.length c64, .slice a101 x99.length c102] rfl rfl (by kernel_rfl) (c_32 n x61 a63 c64 x99 a101 c102 w104 hx111 (SH.rdN (SH.front 2 hS109)) (SH.leN (SH.front 2 hS109)).1 (SH.rdN (SH.front 0 hS109)) (SH.leN (SH.front 0 hS109)).1) ?_
  rintro _ w112 ⟨rfl, hE113⟩
  refine ⟨_, rfl, ?_⟩
  have hb115 : Ext w w112 := Ext.trans hb107 hE113
  have hL116 : w.heap.size ≤ w112.heap.size := Nat.le_trans hL108 hE113.size
  have hS117 : SH w112 w.heap.size [aNest fRepair 73 2 a101 c102 x99, aNest fRepair 73 2 a75 c76 x73, aNest fRepair 73 2 a63 c64 x61, aNest fRepair 73 2 a43 c44 x41, aNest fRepair 73 2 a32 c33 x30] := SH.ext hS109 hE113
  refine WL.runk 1 [1, 8, 39] [(1, .slice a1' aB_1.length c1'), (8, .slice a75 x73.length c76), (39, .bool (!x110))] (by kernel_rfl) ?_
  refine WL.nil ?_
  refine WQ.then_normal (hK98 _ _ _ ?_)
  refine WP.cond (!x110) rfl rfl (fun hc118 => ?_) (fun hc118 => ?_)
  · have hm := iteT hm hc118
    refine WP.seq (fun K119 hK119 => ?_)
    refine WP.region ?_
    refine WL.runk 1 [4] [(4, .bool false)] (by kernel_rfl) ?_
    refine WL.nil ?_
    refine WQ.then_normal (hK119 _ _ _ ?_)
    refine WP.ret ?_
    refine WQ.then_ret ?_
    obtain rfl := Option.some.inj hm
    exact WQ.ret1 _ rfl rfl ⟨rfl, hb115⟩
  have hm := iteF hm hc118
  refine WP.skip ?_
  refine WQ.then_normal (hK97 _ _ _ ?_)
  refine WP.seq (fun K120 hK120 => ?_)
  refine WP.seq (fun K121 hK121 => ?_)
  refine WP.region ?_
  refine WL.runk 2 [40, 41] [(40, .slice a75 x73.length c76), (41, .slice a1' aB_1.length c1')] (by kernel_rfl) ?_
  obtain ⟨x122, hx123, hm⟩ := bindE hm
  refine WL.call 30 #[.slice a1' aB_1.length c1'] rfl rfl (by kernel_rfl) (c_30 n aB_1 a1' c1' w112 hx123 (Rd.below h1 hb115) hle1) ?_
  rintro _ w127 ⟨a124, c125, rfl, hE128, hR129⟩
  refine ⟨_, rfl, ?_⟩
  have hb130 : Ext w w127 := Ext.trans hb115 hE128
  have hL131 : w.heap.size ≤ w127.heap.size := Nat.le_trans hL116 hE128.size
  have hS132 : SH w127 w.heap.size [aNest fRepair 73 2 a124 c125 x122, aNest fRepair 73 2 a101 c102 x99, aNest fRepair 73 2 a75 c76 x73, aNest fRepair 73 2 a63 c64 x61, aNest fRepair 73 2 a43 c44 x41, aNest fRepair 73 2 a32 c33 x30] := SH.add hS117 hE128 hL116 hR129
  obtain ⟨x133, hx134, hm⟩ := bindE hm
  refine WL.call 32 #[.slice a75 x73.length c76, .slice a124 x122.length c125] rfl rfl (by kernel_rfl) (c_32 n x73 a75 c76 x122 a124 c125 w127 hx134 (SH.rdN (SH.front 2 hS132)) (SH.leN (SH.front 2 hS132)).1 (SH.rdN (SH.front 0 hS132)) (SH.leN (SH.front 0 hS132)).1) ?_
  rintro _ w135 ⟨rfl, hE136⟩
  refine ⟨_, rfl, ?_⟩
  have hb138 : Ext w w135 := Ext.trans hb130 hE136
  have hL139 : w.heap.size ≤ w135.heap.size := Nat.le_trans hL131 hE136.size
  have hS140 : SH w135 w.heap.size [aNest fRepair 73 2 a124 c125 x122, aNest fRepair 73 2 a101 c102 x99, aNest fRepair 73 2 a75 c76 x73, aNest fRepair 73 2 a63 c64 x61, aNest fRepair 73 2 a43 c44 x41, aNest fRepair 73 2 a32 c33 x30] := SH.ext hS132 hE136
  refine WL.runk 1 [44] [(44, .bool (!x133))] (by kernel_rfl) ?_
  refine WL.nil ?_
  refine WQ.then_normal (hK121 _ _ _ ?_)
  refine WP.cond (!x133) rfl rfl (fun hc141 => ?_) (fun hc141 => ?_)
  · have hm := iteT hm hc141
    refine WP.seq (fun K142 hK142 => ?_)
    refine WP.region ?_
    refine WL.runk 1 [4] [(4, .bool false)] (by kernel_rfl) ?_
    refine WL.nil ?_
    refine WQ.then_normal (hK142 _ _ _ ?_)
    refine WP.ret ?_
    refine WQ.then_ret ?_
    obtain rfl := Option.some.inj hm
    exact WQ.ret1 _ rfl rfl ⟨rfl, hb138⟩
  have hm := iteF hm hc141
  refine WP.skip ?_
  refine WQ.then_normal (hK120 _ _ _ ?_)
  refine WP.seq (fun K143 hK143 => ?_)
  refine WP.region ?_
  refine WL.runk 1 [4] [(4, .bool true)] (by kernel_rfl) ?_
  refine WL.nil ?_
  refine WQ.then_normal (hK143 _ _ _ ?_)
  refine WP.ret ?_
  obtain rfl := Option.some.inj hm
  exact WQ.ret1 _ rfl rfl ⟨rfl, hb138⟩

end Go.Proofs.Ytkglfbcelaphhaa
