/- Each call does what its Lean function says. -/
import Derived.Test.YtkglfbcelaphhaaDoorTi
import Derived.Test.YtkglfbcelaphhaaDoorEq
import Derived.Test.YtkglfbcelaphhaaDoorMo
import Derived.Test.YtkglfbcelaphhaaDoorCh
set_option maxRecDepth 20000
set_option maxHeartbeats 40000000
namespace Go.Proofs.YtkglfbcelaphhaaDoor
open Go Go.Gv Go.RowKit

theorem c_19 (n : Nat) (a_0 : List Int) (a0' : Option Addr) (c0' : Nat) (left_1 : Int) (w : World) {r : Int} (hm : m_laws_szInt64S n a_0 left_1 = some r) (_h0 : Rd fInt.ty w a0' a_0) (_hle0 : a_0.length ≤ c0') :
    CallV Tryd.prog 19 #[.slice a0' a_0.length c0', .int .i64 left_1] w (fun v w' => v = .int .i64 r ∧ Ext w w') := by
  unfold m_laws_szInt64S at hm
  refine CallV.enter Tryd.func19 rfl (by kernel_rfl) Tryd.ntmps19 (env := [(0, .slice a0' a_0.length c0'), (1, .int .i64 left_1)]) ⟨rfl, rfl, trivial⟩ ?_
  refine WP.seq (fun K1 hK1 => ?_)
  refine WP.region ?_
  refine WL.runk 1 [0, 1] [(0, .slice a0' a_0.length c0'), (1, .int .i64 left_1)] (by kernel_rfl) ?_
  refine WL.nil ?_
  refine WQ.then_normal (hK1 _ _ _ ?_)
  refine WP.seq (fun K2 hK2 => ?_)
  refine WP.region ?_
  refine WL.runk 5 [1] [(1, .int .i64 (wI64 (left_1 - (a_0.length : Int))))] (by kernel_rfl) ?_
  refine WL.nil ?_
  refine WQ.then_normal (hK2 _ _ _ ?_)
  refine WP.seq (fun K3 hK3 => ?_)
  refine WP.seq (fun K4 hK4 => ?_)
  refine WP.region ?_
  refine WL.runk 2 [1, 10] [(1, .int .i64 (wI64 (left_1 - (a_0.length : Int)))), (10, .bool (decide ((wI64 (left_1 - (a_0.length : Int))) < 0)))] (by kernel_rfl) ?_
  refine WL.nil ?_
  refine WQ.then_normal (hK4 _ _ _ ?_)
  refine WP.cond (decide ((wI64 (left_1 - (a_0.length : Int))) < 0)) rfl rfl (fun hc5 => ?_) (fun hc5 => ?_)
  · have hm := iteT hm hc5
    refine WP.seq (fun K6 hK6 => ?_)
    refine WP.region ?_
    refine WL.runk 1 [4] [(4, .int .i64 (-1))] (by kernel_rfl) ?_
    refine WL.nil ?_
    refine WQ.then_normal (hK6 _ _ _ ?_)
    refine WP.ret ?_
    refine WQ.then_ret ?_
    obtain rfl := Option.some.inj hm
    exact WQ.ret1 _ rfl rfl ⟨rfl, (Ext.refl w)⟩
  have hm := iteF hm hc5
  refine WP.skip ?_
  refine WQ.then_normal (hK3 _ _ _ ?_)
  refine WP.seq (fun K7 hK7 => ?_)
  refine WP.region ?_
  refine WL.runk 2 [4] [(4, .int .i64 (wI64 (left_1 - (a_0.length : Int))))] (by kernel_rfl) ?_
  refine WL.nil ?_
  refine WQ.then_normal (hK7 _ _ _ ?_)
  refine WP.ret ?_
  obtain rfl := Option.some.inj hm
  exact WQ.ret1 _ rfl rfl ⟨rfl, (Ext.refl w)⟩

theorem c_9 (n : Nat) (a_0 : SRepair) (a0_1' : Option Addr) (c0_1' : Nat) (a0_2' : Option Addr) (c0_2' : Nat) (left_1 : Int) (w : World) {r : Int} (hm : m_laws_szRepair n a_0 left_1 = some r) (hr0_1 : Rd fInt.ty w a0_1' a_0.Mends) (hle0_1 : a_0.Mends.length ≤ c0_1') (hr0_2 : Rd fInt.ty w a0_2' a_0.First) (hle0_2 : a_0.First.length ≤ c0_2') :
    CallV Tryd.prog 9 #[.agg #[.string (bs a_0.Name), .slice a0_1' a_0.Mends.length c0_1', .slice a0_2' a_0.First.length c0_2', .int .i64 a_0.Price, .int .i64 a_0.Hours], .int .i64 left_1] w (fun v w' => v = .int .i64 r ∧ Ext w w') := by
  unfold m_laws_szRepair at hm
  refine CallV.enter Tryd.func9 rfl (by kernel_rfl) Tryd.ntmps9 (env := [(0, .agg #[.string (bs a_0.Name), .slice a0_1' a_0.Mends.length c0_1', .slice a0_2' a_0.First.length c0_2', .int .i64 a_0.Price, .int .i64 a_0.Hours]), (1, .int .i64 left_1)]) ⟨rfl, rfl, trivial⟩ ?_
  refine WP.seq (fun K1 hK1 => ?_)
  refine WP.region ?_
  refine WL.box 32 [.string (bs a_0.Name), .slice a0_1' a_0.Mends.length c0_1', .slice a0_2' a_0.First.length c0_2', .int .i64 a_0.Price, .int .i64 a_0.Hours] 2 (by kernel_rfl) rfl rfl rfl rfl ?_
  intro b2 w3 hE4 hR5
  have hb7 : Ext w w3 := Ext.trans (Ext.refl w) hE4
  have hL8 : w.heap.size ≤ w3.heap.size := Nat.le_trans (Nat.le_refl _) hE4.size
  have hS9 : SH w3 w.heap.size [aBox 32 b2 [.string (bs a_0.Name), .slice a0_1' a_0.Mends.length c0_1', .slice a0_2' a_0.First.length c0_2', .int .i64 a_0.Price, .int .i64 a_0.Hours]] := SH.add (SH.nil _ _) hE4 (Nat.le_refl _) hR5
  refine WL.runk 1 [1, 2] [(1, .int .i64 left_1), (2, .pointer (some ⟨b2, 0, none⟩))] (by kernel_rfl) ?_
  refine WL.nil ?_
  refine WQ.then_normal (hK1 _ _ _ ?_)
  refine WP.seq (fun K10 hK10 => ?_)
  refine WP.region ?_
  refine WL.runk 2 [2, 5, 6] [(2, .pointer (some ⟨b2, 0, none⟩)), (5, .int .i64 left_1), (6, .pointer (some ⟨b2, 0, none⟩))] (by kernel_rfl) ?_
  refine WL.st (.string (bs a_0.Name)) (ST.load (cell_ext (SH.boxAt (SH.front 0 hS9) 0 _ rfl)) rfl rfl Tryd.underlying9 rfl) rfl rfl rfl ?_
  refine WL.runk 3 [1, 2] [(2, .pointer (some ⟨b2, 0, none⟩)), (1, .int .i64 (wI64 (left_1 - (a_0.Name.length : Int))))] (by kernel_rfl) ?_
  refine WL.nil ?_
  refine WQ.then_normal (hK10 _ _ _ ?_)
  refine WP.seq (fun K11 hK11 => ?_)
  refine WP.seq (fun K12 hK12 => ?_)
  refine WP.region ?_
  refine WL.runk 2 [1, 2, 11] [(2, .pointer (some ⟨b2, 0, none⟩)), (1, .int .i64 (wI64 (left_1 - (a_0.Name.length : Int)))), (11, .bool (decide ((wI64 (left_1 - (a_0.Name.length : Int))) < 0)))] (by kernel_rfl) ?_
  refine WL.nil ?_
  refine WQ.then_normal (hK12 _ _ _ ?_)
  refine WP.cond (decide ((wI64 (left_1 - (a_0.Name.length : Int))) < 0)) rfl rfl (fun hc13 => ?_) (fun hc13 => ?_)
  · have hm := iteT hm hc13
    refine WP.seq (fun K14 hK14 => ?_)
    refine WP.region ?_
    refine WL.runk 1 [4] [(4, .int .i64 (-1))] (by kernel_rfl) ?_
    refine WL.nil ?_
    refine WQ.then_normal (hK14 _ _ _ ?_)
    refine WP.ret ?_
    refine WQ.then_ret ?_
    obtain rfl := Option.some.inj hm
    exact WQ.ret1 _ rfl rfl ⟨rfl, hb7⟩
  have hm := iteF hm hc13
  refine WP.skip ?_
  refine WQ.then_normal (hK11 _ _ _ ?_)
  refine WP.seq (fun K15 hK15 => ?_)
  refine WP.region ?_
  refine WL.runk 1 [1, 2, 12] [(2, .pointer (some ⟨b2, 0, none⟩)), (1, .int .i64 (wI64 (left_1 - (a_0.Name.length : Int)))), (12, .pointer (some ⟨b2, 1, none⟩))] (by kernel_rfl) ?_
  refine WL.st (.slice a0_1' a_0.Mends.length c0_1') (ST.load (cell_ext (SH.boxAt (SH.front 0 hS9) 1 _ rfl)) rfl rfl Tryd.underlying30 rfl) rfl rfl rfl ?_
  refine WL.runk 1 [2, 13, 14] [(2, .pointer (some ⟨b2, 0, none⟩)), (13, .slice a0_1' a_0.Mends.length c0_1'), (14, .int .i64 (wI64 (left_1 - (a_0.Name.length : Int))))] (by kernel_rfl) ?_
  obtain ⟨x16, hx17, hm⟩ := bindE hm
  refine WL.call 19 #[.slice a0_1' a_0.Mends.length c0_1', .int .i64 (wI64 (left_1 - (a_0.Name.length : Int)))] rfl rfl (by kernel_rfl) (c_19 n a_0.Mends a0_1' c0_1' (wI64 (left_1 - (a_0.Name.length : Int))) w3 hx17 (Rd.below hr0_1 hb7) hle0_1) ?_
  rintro _ w18 ⟨rfl, hE19⟩
  refine ⟨_, rfl, ?_⟩
  have hb21 : Ext w w18 := Ext.trans hb7 hE19
  have hL22 : w.heap.size ≤ w18.heap.size := Nat.le_trans hL8 hE19.size
  have hS23 : SH w18 w.heap.size [aBox 32 b2 [.string (bs a_0.Name), .slice a0_1' a_0.Mends.length c0_1', .slice a0_2' a_0.First.length c0_2', .int .i64 a_0.Price, .int .i64 a_0.Hours]] := SH.ext hS9 hE19
  refine WL.runk 1 [1, 2] [(2, .pointer (some ⟨b2, 0, none⟩)), (1, .int .i64 x16)] (by kernel_rfl) ?_
  refine WL.nil ?_
  refine WQ.then_normal (hK15 _ _ _ ?_)
  refine WP.seq (fun K24 hK24 => ?_)
  refine WP.seq (fun K25 hK25 => ?_)
  refine WP.region ?_
  refine WL.runk 2 [1, 2, 17] [(2, .pointer (some ⟨b2, 0, none⟩)), (1, .int .i64 x16), (17, .bool (decide (x16 < 0)))] (by kernel_rfl) ?_
  refine WL.nil ?_
  refine WQ.then_normal (hK25 _ _ _ ?_)
  refine WP.cond (decide (x16 < 0)) rfl rfl (fun hc26 => ?_) (fun hc26 => ?_)
  · have hm := iteT hm hc26
    refine WP.seq (fun K27 hK27 => ?_)
    refine WP.region ?_
    refine WL.runk 1 [4] [(4, .int .i64 (-1))] (by kernel_rfl) ?_
    refine WL.nil ?_
    refine WQ.then_normal (hK27 _ _ _ ?_)
    refine WP.ret ?_
    refine WQ.then_ret ?_
    obtain rfl := Option.some.inj hm
    exact WQ.ret1 _ rfl rfl ⟨rfl, hb21⟩
  have hm := iteF hm hc26
  refine WP.skip ?_
  refine WQ.then_normal (hK24 _ _ _ ?_)
  refine WP.seq (fun K28 hK28 => ?_)
  refine WP.region ?_
  refine WL.runk 1 [1, 18] [(1, .int .i64 x16), (18, .pointer (some ⟨b2, 2, none⟩))] (by kernel_rfl) ?_
  refine WL.st (.slice a0_2' a_0.First.length c0_2') (ST.load (cell_ext (SH.boxAt (SH.front 0 hS23) 2 _ rfl)) rfl rfl Tryd.underlying30 rfl) rfl rfl rfl ?_
  refine WL.runk 1 [19, 20] [(19, .slice a0_2' a_0.First.length c0_2'), (20, .int .i64 x16)] (by kernel_rfl) ?_
  obtain ⟨x29, hx30, hm⟩ := bindE hm
  refine WL.call 19 #[.slice a0_2' a_0.First.length c0_2', .int .i64 x16] rfl rfl (by kernel_rfl) (c_19 n a_0.First a0_2' c0_2' x16 w18 hx30 (Rd.below hr0_2 hb21) hle0_2) ?_
  rintro _ w31 ⟨rfl, hE32⟩
  refine ⟨_, rfl, ?_⟩
  have hb34 : Ext w w31 := Ext.trans hb21 hE32
  have hL35 : w.heap.size ≤ w31.heap.size := Nat.le_trans hL22 hE32.size
  have hS36 : SH w31 w.heap.size [aBox 32 b2 [.string (bs a_0.Name), .slice a0_1' a_0.Mends.length c0_1', .slice a0_2' a_0.First.length c0_2', .int .i64 a_0.Price, .int .i64 a_0.Hours]] := SH.ext hS23 hE32
  refine WL.runk 1 [1] [(1, .int .i64 x29)] (by kernel_rfl) ?_
  refine WL.nil ?_
  refine WQ.then_normal (hK28 _ _ _ ?_)
  refine WP.seq (fun K37 hK37 => ?_)
  refine WP.seq (fun K38 hK38 => ?_)
  refine WP.region ?_
  refine WL.runk 2 [1, 23] [(1, .int .i64 x29), (23, .bool (decide (x29 < 0)))] (by kernel_rfl) ?_
  refine WL.nil ?_
  refine WQ.then_normal (hK38 _ _ _ ?_)
  refine WP.cond (decide (x29 < 0)) rfl rfl (fun hc39 => ?_) (fun hc39 => ?_)
  · have hm := iteT hm hc39
    refine WP.seq (fun K40 hK40 => ?_)
    refine WP.region ?_
    refine WL.runk 1 [4] [(4, .int .i64 (-1))] (by kernel_rfl) ?_
    refine WL.nil ?_
    refine WQ.then_normal (hK40 _ _ _ ?_)
    refine WP.ret ?_
    refine WQ.then_ret ?_
    obtain rfl := Option.some.inj hm
    exact WQ.ret1 _ rfl rfl ⟨rfl, hb34⟩
  have hm := iteF hm hc39
  refine WP.skip ?_
  refine WQ.then_normal (hK37 _ _ _ ?_)
  refine WP.seq (fun K41 hK41 => ?_)
  refine WP.region ?_
  refine WL.runk 2 [4] [(4, .int .i64 x29)] (by kernel_rfl) ?_
  refine WL.nil ?_
  refine WQ.then_normal (hK41 _ _ _ ?_)
  refine WP.ret ?_
  obtain rfl := Option.some.inj hm
  exact WQ.ret1 _ rfl rfl ⟨rfl, hb34⟩

theorem c_4 (n : Nat) (a_0 : List SRepair) (a0' : Option Addr) (c0' : Nat) (left_1 : Int) (w : World) {r : Int} (hm : m_laws_szRepairS n a_0 left_1 = some r) (h0 : Rd fRepair.ty w a0' a_0) (_hle0 : a_0.length ≤ c0') :
    CallV Tryd.prog 4 #[.slice a0' a_0.length c0', .int .i64 left_1] w (fun v w' => v = .int .i64 r ∧ Ext w w') := by
  unfold m_laws_szRepairS at hm
  refine CallV.enter Tryd.func4 rfl (by kernel_rfl) Tryd.ntmps4 (env := [(0, .slice a0' a_0.length c0'), (1, .int .i64 left_1)]) ⟨rfl, rfl, trivial⟩ ?_
  refine WP.seq (fun K1 hK1 => ?_)
  refine WP.region ?_
  refine WL.runk 1 [0, 1] [(0, .slice a0' a_0.length c0'), (1, .int .i64 left_1)] (by kernel_rfl) ?_
  refine WL.nil ?_
  refine WQ.then_normal (hK1 _ _ _ ?_)
  refine WP.seq (fun K2 hK2 => ?_)
  refine WP.region ?_
  refine WL.runk 5 [0, 1] [(0, .slice a0' a_0.length c0'), (1, .int .i64 (wI64 (left_1 - (a_0.length : Int))))] (by kernel_rfl) ?_
  refine WL.nil ?_
  refine WQ.then_normal (hK2 _ _ _ ?_)
  refine WP.seq (fun K3 hK3 => ?_)
  refine WP.seq (fun K4 hK4 => ?_)
  refine WP.region ?_
  refine WL.runk 2 [0, 1, 11] [(0, .slice a0' a_0.length c0'), (1, .int .i64 (wI64 (left_1 - (a_0.length : Int)))), (11, .bool (decide ((wI64 (left_1 - (a_0.length : Int))) < 0)))] (by kernel_rfl) ?_
  refine WL.nil ?_
  refine WQ.then_normal (hK4 _ _ _ ?_)
  refine WP.cond (decide ((wI64 (left_1 - (a_0.length : Int))) < 0)) rfl rfl (fun hc5 => ?_) (fun hc5 => ?_)
  · have hm := iteT hm hc5
    refine WP.seq (fun K6 hK6 => ?_)
    refine WP.region ?_
    refine WL.runk 1 [4] [(4, .int .i64 (-1))] (by kernel_rfl) ?_
    refine WL.nil ?_
    refine WQ.then_normal (hK6 _ _ _ ?_)
    refine WP.ret ?_
    refine WQ.then_ret ?_
    obtain rfl := Option.some.inj hm
    exact WQ.ret1 _ rfl rfl ⟨rfl, (Ext.refl w)⟩
  have hm := iteF hm hc5
  refine WP.skip ?_
  refine WQ.then_normal (hK3 _ _ _ ?_)
  refine WP.seq (fun K7 hK7 => ?_)
  refine WP.seq (fun K8 hK8 => ?_)
  refine WP.region ?_
  refine WL.runk 1 [0, 1, 5] [(0, .slice a0' a_0.length c0'), (1, .int .i64 (wI64 (left_1 - (a_0.length : Int)))), (5, .int .i64 0)] (by kernel_rfl) ?_
  refine WL.nil ?_
  refine WQ.then_normal (hK8 _ _ _ ?_)
  refine WP.block ?_
  obtain ⟨t20, ht21, hm⟩ := bindE hm
  have hmo15 := hm; clear hm
  refine WP.sub [(0, .slice a0' a_0.length c0'), (1, .int .i64 (wI64 (left_1 - (a_0.length : Int)))), (5, .int .i64 0)] ⟨rfl, rfl, rfl, trivial⟩ ?_
  refine WP.loop (fun n' env' w' => ∃ (st9 : Int × Int) , env' = [(0, .slice a0' a_0.length c0'), (1, .int .i64 st9.1), (5, .int .i64 st9.2)] ∧ Ext w w' ∧ w.heap.size ≤ w'.heap.size ∧ SH w' w.heap.size [] ∧ loopN (m_laws_szRepairS_l1 n a_0) n' st9 = some t20) n ⟨((wI64 (left_1 - (a_0.length : Int))), 0), rfl, (Ext.refl w), (Nat.le_refl _), (SH.nil _ _), ht21⟩ ?_
  rintro n17 _ w10 ⟨st9, rfl, hb11, hL12, hS13, hl14⟩ K16 hK16
  obtain ⟨n18, s19, rfl, hm, hl14⟩ := loopN_some hl14
  unfold m_laws_szRepairS_l1 at hm
  refine WP.seq (fun K22 hK22 => ?_)
  refine WP.seq (fun K23 hK23 => ?_)
  refine WP.region ?_
  refine WL.runk 4 [0, 1, 5, 15] [(0, .slice a0' a_0.length c0'), (1, .int .i64 st9.1), (5, .int .i64 st9.2), (15, .bool (decide (st9.2 < (a_0.length : Int))))] (by kernel_rfl) ?_
  refine WL.nil ?_
  refine WQ.then_normal (hK23 _ _ _ ?_)
  refine WP.cond (decide (st9.2 < (a_0.length : Int))) rfl rfl (fun hc24 => ?_) (fun hc24 => ?_)
  rotate_left
  · have hm := iteF hm hc24
    refine WP.exit ?_
    refine WQ.then_exit ?_
    refine WQ.then_exit ?_
    refine WQ.block_here ?_
    obtain rfl := Option.some.inj hm
    obtain rfl := afterN_done hl14
    have hm := hmo15
    refine WQ.then_normal (hK7 _ _ _ ?_)
    refine WP.seq (fun K51 hK51 => ?_)
    refine WP.region ?_
    refine WL.runk 2 [4] [(4, .int .i64 st9.1)] (by kernel_rfl) ?_
    refine WL.nil ?_
    refine WQ.then_normal (hK51 _ _ _ ?_)
    refine WP.ret ?_
    obtain rfl := Option.some.inj hm
    exact WQ.ret1 _ rfl rfl ⟨rfl, hb11⟩
  have hm := iteT hm hc24
  refine WP.skip ?_
  refine WQ.then_normal (hK22 _ _ _ ?_)
  refine WP.seq (fun K25 hK25 => ?_)
  refine WP.block ?_
  refine WP.seq (fun K26 hK26 => ?_)
  refine WP.region ?_
  refine WL.runk 2 [0, 1, 5, 18, 19] [(0, .slice a0' a_0.length c0'), (1, .int .i64 st9.1), (5, .int .i64 st9.2), (18, .slice a0' a_0.length c0'), (19, .int .i64 st9.2)] (by kernel_rfl) ?_
  obtain ⟨x27, hx28, hm⟩ := bindE hm
  obtain ⟨a29, c30, a34, c35, hc39, hR31, hle32, hR36, hle37⟩ := nest_Repair h0 hx28
  refine WL.st (.pointer (some (at_ a0' (Int.toNat st9.2 * 5)))) (ST.index (T := fRepair.ty) (xs := a_0) (Rd.below h0 hb11) hx28 rfl rfl rfl Tryd.underlying22 (info32).1 (info32).2.1) rfl rfl rfl ?_
  refine WL.st (.agg #[.string (bs x27.Name), .slice a29 x27.Mends.length c30, .slice a34 x27.First.length c35, .int .i64 x27.Price, .int .i64 x27.Hours]) (ST.loadAgg (vs := [.string (bs x27.Name), .slice a29 x27.Mends.length c30, .slice a34 x27.First.length c35, .int .i64 x27.Price, .int .i64 x27.Hours]) (at_agg (cells_ext hc39 hb11)) rfl rfl rfl Tryd.underlying32 rfl (info32).1 (info32).2.1) rfl rfl rfl ?_
  refine WL.runk 1 [0, 5, 21, 22] [(0, .slice a0' a_0.length c0'), (5, .int .i64 st9.2), (21, .agg #[.string (bs x27.Name), .slice a29 x27.Mends.length c30, .slice a34 x27.First.length c35, .int .i64 x27.Price, .int .i64 x27.Hours]), (22, .int .i64 st9.1)] (by kernel_rfl) ?_
  obtain ⟨x40, hx41, hm⟩ := bindE hm
  refine WL.call 9 #[.agg #[.string (bs x27.Name), .slice a29 x27.Mends.length c30, .slice a34 x27.First.length c35, .int .i64 x27.Price, .int .i64 x27.Hours], .int .i64 st9.1] rfl rfl (by kernel_rfl) (c_9 n x27 a29 c30 a34 c35 st9.1 w10 hx41 (Rd.below hR31 hb11) hle32 (Rd.below hR36 hb11) hle37) ?_
  rintro _ w42 ⟨rfl, hE43⟩
  refine ⟨_, rfl, ?_⟩
  have hb45 : Ext w w42 := Ext.trans hb11 hE43
  have hL46 : w.heap.size ≤ w42.heap.size := Nat.le_trans hL12 hE43.size
  have hS47 : SH w42 w.heap.size [] := SH.ext hS13 hE43
  refine WL.runk 1 [0, 1, 5] [(0, .slice a0' a_0.length c0'), (5, .int .i64 st9.2), (1, .int .i64 x40)] (by kernel_rfl) ?_
  refine WL.nil ?_
  refine WQ.then_normal (hK26 _ _ _ ?_)
  refine WP.seq (fun K48 hK48 => ?_)
  refine WP.region ?_
  refine WL.runk 2 [0, 1, 5, 25] [(0, .slice a0' a_0.length c0'), (5, .int .i64 st9.2), (1, .int .i64 x40), (25, .bool (decide (x40 < 0)))] (by kernel_rfl) ?_
  refine WL.nil ?_
  refine WQ.then_normal (hK48 _ _ _ ?_)
  refine WP.cond (decide (x40 < 0)) rfl rfl (fun hc49 => ?_) (fun hc49 => ?_)
  rotate_left
  · have hm := iteF hm hc49
    refine WP.skip ?_
    refine WQ.block_normal ?_
    refine WQ.then_normal (hK25 _ _ _ ?_)
    refine WP.region ?_
    refine WL.runk 3 [0, 1, 5] [(0, .slice a0' a_0.length c0'), (5, .int .i64 (wI64 (st9.2 + 1))), (1, .int .i64 x40)] (by kernel_rfl) ?_
    refine WL.nil ?_
    obtain rfl := Option.some.inj hm
    exact WQ.round hK16 ⟨(x40, (wI64 (st9.2 + 1))), rfl, hb45, hL46, hS47, hl14⟩ (Nat.lt_succ_self _) ⟨rfl, rfl, rfl, trivial⟩
  have hm := iteT hm hc49
  refine WP.seq (fun K50 hK50 => ?_)
  refine WP.region ?_
  refine WL.runk 1 [4] [(4, .int .i64 (-1))] (by kernel_rfl) ?_
  refine WL.nil ?_
  refine WQ.then_normal (hK50 _ _ _ ?_)
  refine WP.ret ?_
  refine WQ.block_ret ?_
  refine WQ.then_ret ?_
  refine WQ.then_ret ?_
  refine WQ.block_ret ?_
  refine WQ.then_ret ?_
  obtain rfl := Option.some.inj hm
  obtain rfl := afterN_done hl14
  have hm := hmo15
  obtain rfl := Option.some.inj hm
  exact WQ.ret1 _ rfl rfl ⟨rfl, hb45⟩

theorem c_11 (n : Nat) (n_0 : Int) (low_1 : Int) (high_2 : Int) (w : World) {r : Bool} (hm : m_spec_l00In n n_0 low_1 high_2 = some r)  :
    CallV Tryd.prog 11 #[.int .i64 n_0, .int .i64 low_1, .int .i64 high_2] w (fun v w' => v = .bool r ∧ Ext w w') := by
  unfold m_spec_l00In at hm
  refine CallV.enter Tryd.func11 rfl (by kernel_rfl) Tryd.ntmps11 (env := [(0, .int .i64 n_0), (1, .int .i64 low_1), (2, .int .i64 high_2)]) ⟨rfl, rfl, rfl, trivial⟩ ?_
  refine WP.seq (fun K1 hK1 => ?_)
  refine WP.region ?_
  refine WL.runk 1 [0, 1, 2] [(0, .int .i64 n_0), (1, .int .i64 low_1), (2, .int .i64 high_2)] (by kernel_rfl) ?_
  refine WL.nil ?_
  refine WQ.then_normal (hK1 _ _ _ ?_)
  refine WP.seq (fun K2 hK2 => ?_)
  obtain ⟨x4, hx5, hm⟩ := bindE hm
  refine WP.cut (fun env' w' => env' = [(6, .bool x4)] ∧ Ext w w' ∧ w.heap.size ≤ w'.heap.size ∧ SH w' w.heap.size []) ?_ ?_
  rotate_left
  · clear hx5
    rintro _ w7 ⟨rfl, hb8, hL9, hS10⟩
    refine WQ.then_normal (hK2 _ _ _ ?_)
    refine WP.ret ?_
    obtain rfl := Option.some.inj hm
    exact WQ.ret1 _ rfl rfl ⟨rfl, hb8⟩
  have hm := hx5; clear hx5
  refine WP.region ?_
  refine WL.runk 4 [0, 2, 10] [(0, .int .i64 n_0), (2, .int .i64 high_2), (10, .bool (decide (n_0 ≥ low_1)))] (by kernel_rfl) ?_
  refine WL.case (decide (n_0 ≥ low_1)) [10] ⟨rfl, trivial⟩ (fun hc6 => ?_) (fun hc6 => ?_)
  · have hm := iteT hm hc6
    refine WL.runk 5 [6] [(6, .bool (decide (n_0 ≤ high_2)))] (by kernel_rfl) ?_
    refine WL.nil ?_
    obtain rfl := Option.some.inj hm
    exact WQ.post' ⟨rfl, (Ext.refl w), (Nat.le_refl _), (SH.nil _ _)⟩ ⟨rfl, trivial⟩
  have hm := iteF hm hc6
  refine WL.runk 5 [6] [(6, .bool false)] (by kernel_rfl) ?_
  refine WL.nil ?_
  obtain rfl := Option.some.inj hm
  exact WQ.post' ⟨rfl, (Ext.refl w), (Nat.le_refl _), (SH.nil _ _)⟩ ⟨rfl, trivial⟩

theorem c_33 (n : Nat) (c_0 : Int) (w : World) {r : Bool} (hm : m_spec_l01Small n c_0 = some r)  :
    CallV Tryd.prog 33 #[.int .u8 c_0] w (fun v w' => v = .bool r ∧ Ext w w') := by
  unfold m_spec_l01Small at hm
  refine CallV.enter Tryd.func33 rfl (by kernel_rfl) Tryd.ntmps33 (env := [(0, .int .u8 c_0)]) ⟨rfl, trivial⟩ ?_
  refine WP.seq (fun K1 hK1 => ?_)
  refine WP.region ?_
  refine WL.runk 1 [0] [(0, .int .u8 c_0)] (by kernel_rfl) ?_
  refine WL.nil ?_
  refine WQ.then_normal (hK1 _ _ _ ?_)
  refine WP.seq (fun K2 hK2 => ?_)
  obtain ⟨x4, hx5, hm⟩ := bindE hm
  refine WP.cut (fun env' w' => env' = [(2, .bool x4)] ∧ Ext w w' ∧ w.heap.size ≤ w'.heap.size ∧ SH w' w.heap.size []) ?_ ?_
  rotate_left
  · clear hx5
    rintro _ w7 ⟨rfl, hb8, hL9, hS10⟩
    refine WQ.then_normal (hK2 _ _ _ ?_)
    refine WP.ret ?_
    obtain rfl := Option.some.inj hm
    exact WQ.ret1 _ rfl rfl ⟨rfl, hb8⟩
  have hm := hx5; clear hx5
  refine WP.region ?_
  refine WL.runk 3 [0, 5] [(0, .int .u8 c_0), (5, .bool (decide (c_0 ≥ 97)))] (by kernel_rfl) ?_
  refine WL.case (decide (c_0 ≥ 97)) [5] ⟨rfl, trivial⟩ (fun hc6 => ?_) (fun hc6 => ?_)
  · have hm := iteT hm hc6
    refine WL.runk 4 [2] [(2, .bool (decide (c_0 ≤ 122)))] (by kernel_rfl) ?_
    refine WL.nil ?_
    obtain rfl := Option.some.inj hm
    exact WQ.post' ⟨rfl, (Ext.refl w), (Nat.le_refl _), (SH.nil _ _)⟩ ⟨rfl, trivial⟩
  have hm := iteF hm hc6
  refine WL.runk 4 [2] [(2, .bool false)] (by kernel_rfl) ?_
  refine WL.nil ?_
  obtain rfl := Option.some.inj hm
  exact WQ.post' ⟨rfl, (Ext.refl w), (Nat.le_refl _), (SH.nil _ _)⟩ ⟨rfl, trivial⟩

theorem c_34 (n : Nat) (c_0 : Int) (w : World) {r : Bool} (hm : m_spec_l01Digit n c_0 = some r)  :
    CallV Tryd.prog 34 #[.int .u8 c_0] w (fun v w' => v = .bool r ∧ Ext w w') := by
  unfold m_spec_l01Digit at hm
  refine CallV.enter Tryd.func34 rfl (by kernel_rfl) Tryd.ntmps34 (env := [(0, .int .u8 c_0)]) ⟨rfl, trivial⟩ ?_
  refine WP.seq (fun K1 hK1 => ?_)
  refine WP.region ?_
  refine WL.runk 1 [0] [(0, .int .u8 c_0)] (by kernel_rfl) ?_
  refine WL.nil ?_
  refine WQ.then_normal (hK1 _ _ _ ?_)
  refine WP.seq (fun K2 hK2 => ?_)
  obtain ⟨x4, hx5, hm⟩ := bindE hm
  refine WP.cut (fun env' w' => env' = [(2, .bool x4)] ∧ Ext w w' ∧ w.heap.size ≤ w'.heap.size ∧ SH w' w.heap.size []) ?_ ?_
  rotate_left
  · clear hx5
    rintro _ w7 ⟨rfl, hb8, hL9, hS10⟩
    refine WQ.then_normal (hK2 _ _ _ ?_)
    refine WP.ret ?_
    obtain rfl := Option.some.inj hm
    exact WQ.ret1 _ rfl rfl ⟨rfl, hb8⟩
  have hm := hx5; clear hx5
  refine WP.region ?_
  refine WL.runk 3 [0, 5] [(0, .int .u8 c_0), (5, .bool (decide (c_0 ≥ 48)))] (by kernel_rfl) ?_
  refine WL.case (decide (c_0 ≥ 48)) [5] ⟨rfl, trivial⟩ (fun hc6 => ?_) (fun hc6 => ?_)
  · have hm := iteT hm hc6
    refine WL.runk 4 [2] [(2, .bool (decide (c_0 ≤ 57)))] (by kernel_rfl) ?_
    refine WL.nil ?_
    obtain rfl := Option.some.inj hm
    exact WQ.post' ⟨rfl, (Ext.refl w), (Nat.le_refl _), (SH.nil _ _)⟩ ⟨rfl, trivial⟩
  have hm := iteF hm hc6
  refine WL.runk 4 [2] [(2, .bool false)] (by kernel_rfl) ?_
  refine WL.nil ?_
  obtain rfl := Option.some.inj hm
  exact WQ.post' ⟨rfl, (Ext.refl w), (Nat.le_refl _), (SH.nil _ _)⟩ ⟨rfl, trivial⟩

theorem c_20 (n : Nat) (s_0 : List UInt8) (w : World) {r : Bool} (hm : m_spec_IsName n s_0 = some r)  :
    CallV Tryd.prog 20 #[.string (bs s_0)] w (fun v w' => v = .bool r ∧ Ext w w') := by
  unfold m_spec_IsName at hm
  refine CallV.enter Tryd.func20 rfl (by kernel_rfl) Tryd.ntmps20 (env := [(0, .string (bs s_0))]) ⟨rfl, trivial⟩ ?_
  refine WP.seq (fun K1 hK1 => ?_)
  refine WP.region ?_
  refine WL.runk 1 [0] [(0, .string (bs s_0))] (by kernel_rfl) ?_
  refine WL.nil ?_
  refine WQ.then_normal (hK1 _ _ _ ?_)
  refine WP.seq (fun K2 hK2 => ?_)
  refine WP.seq (fun K3 hK3 => ?_)
  obtain ⟨x16, hx17, hm⟩ := bindE hm
  refine WP.cut (fun env' w' => env' = [(0, .string (bs s_0)), (16, .bool x16)] ∧ Ext w w' ∧ w.heap.size ≤ w'.heap.size ∧ SH w' w.heap.size []) ?_ ?_
  · have hm := hx17; clear hx17
    refine WP.region ?_
    refine WL.runk 1 [0, 4] [(0, .string (bs s_0)), (4, .string (bs s_0))] (by kernel_rfl) ?_
    refine WL.st (.bool (s_0 == [])) (ST.streq (x := s_0) (y := []) rfl rfl rfl) rfl rfl rfl ?_
    refine WL.runk 1 [0, 6] [(0, .string (bs s_0)), (6, .bool (s_0 == []))] (by kernel_rfl) ?_
    refine WL.case (s_0 == []) [6] ⟨rfl, trivial⟩ (fun hc18 => ?_) (fun hc18 => ?_)
    · have hm := iteT hm hc18
      refine WL.runk 10 [0, 16] [(0, .string (bs s_0)), (16, .bool true)] (by kernel_rfl) ?_
      refine WL.nil ?_
      obtain rfl := Option.some.inj hm
      exact WQ.post' ⟨rfl, (Ext.refl w), (Nat.le_refl _), (SH.nil _ _)⟩ ⟨rfl, rfl, trivial⟩
    have hm := iteF hm hc18
    refine WL.runk 5 [0, 11] [(0, .string (bs s_0)), (11, .bool (decide ((s_0.length : Int) > 12)))] (by kernel_rfl) ?_
    refine WL.case (decide ((s_0.length : Int) > 12)) [11] ⟨rfl, trivial⟩ (fun hc19 => ?_) (fun hc19 => ?_)
    · have hm := iteT hm hc19
      refine WL.runk 5 [0, 16] [(0, .string (bs s_0)), (16, .bool true)] (by kernel_rfl) ?_
      refine WL.nil ?_
      obtain rfl := Option.some.inj hm
      exact WQ.post' ⟨rfl, (Ext.refl w), (Nat.le_refl _), (SH.nil _ _)⟩ ⟨rfl, rfl, trivial⟩
    have hm := iteF hm hc19
    refine WL.runk 1 [0, 11, 12] [(0, .string (bs s_0)), (11, .bool false), (12, .string (bs s_0))] (by kernel_rfl) ?_
    obtain ⟨x20, hx21, hm⟩ := bindE hm
    refine WL.st (.int .u8 (x20.toNat : Int)) (ST.sindex hx21 rfl rfl rfl Tryd.underlying9) rfl rfl rfl ?_
    obtain ⟨x22, hx23, hm⟩ := bindE hm
    refine WL.call 33 #[.int .u8 (x20.toNat : Int)] rfl rfl (by kernel_rfl) (c_33 n (x20.toNat : Int) w hx23 ) ?_
    rintro _ w24 ⟨rfl, hE25⟩
    refine ⟨_, rfl, ?_⟩
    have hb27 : Ext w w24 := Ext.trans (Ext.refl w) hE25
    have hL28 : w.heap.size ≤ w24.heap.size := Nat.le_trans (Nat.le_refl _) hE25.size
    have hS29 : SH w24 w.heap.size [] := SH.ext (SH.nil _ _) hE25
    refine WL.runk 2 [0, 16] [(0, .string (bs s_0)), (16, .bool (!x22))] (by kernel_rfl) ?_
    refine WL.nil ?_
    obtain rfl := Option.some.inj hm
    exact WQ.post' ⟨rfl, hb27, hL28, hS29⟩ ⟨rfl, rfl, trivial⟩
  clear hx17
  rintro _ w30 ⟨rfl, hb31, hL32, hS33⟩
  refine WQ.then_normal (hK3 _ _ _ ?_)
  refine WP.cond x16 rfl rfl (fun hc34 => ?_) (fun hc34 => ?_)
  · have hm := iteT hm hc34
    refine WP.seq (fun K35 hK35 => ?_)
    refine WP.region ?_
    refine WL.runk 1 [2] [(2, .bool false)] (by kernel_rfl) ?_
    refine WL.nil ?_
    refine WQ.then_normal (hK35 _ _ _ ?_)
    refine WP.ret ?_
    refine WQ.then_ret ?_
    obtain rfl := Option.some.inj hm
    exact WQ.ret1 _ rfl rfl ⟨rfl, hb31⟩
  have hm := iteF hm hc34
  refine WP.skip ?_
  refine WQ.then_normal (hK2 _ _ _ ?_)
  refine WP.seq (fun K36 hK36 => ?_)
  refine WP.seq (fun K37 hK37 => ?_)
  refine WP.region ?_
  refine WL.runk 1 [0, 3] [(0, .string (bs s_0)), (3, .int .i64 0)] (by kernel_rfl) ?_
  refine WL.nil ?_
  refine WQ.then_normal (hK37 _ _ _ ?_)
  refine WP.block ?_
  obtain ⟨t49, ht50, hm⟩ := bindE hm
  have hmo44 := hm; clear hm
  refine WP.sub [(0, .string (bs s_0)), (3, .int .i64 0)] ⟨rfl, rfl, trivial⟩ ?_
  refine WP.loop (fun n' env' w' => ∃ (st38 : Int) , env' = [(0, .string (bs s_0)), (3, .int .i64 st38)] ∧ Ext w w' ∧ w.heap.size ≤ w'.heap.size ∧ SH w' w.heap.size [] ∧ loopN (m_spec_IsName_l1 n s_0) n' st38 = some t49) n ⟨0, rfl, hb31, hL32, hS33, ht50⟩ ?_
  rintro n46 _ w39 ⟨st38, rfl, hb40, hL41, hS42, hl43⟩ K45 hK45
  obtain ⟨n47, s48, rfl, hm, hl43⟩ := loopN_some hl43
  unfold m_spec_IsName_l1 at hm
  refine WP.seq (fun K51 hK51 => ?_)
  refine WP.seq (fun K52 hK52 => ?_)
  refine WP.region ?_
  refine WL.runk 4 [0, 3, 20] [(0, .string (bs s_0)), (3, .int .i64 st38), (20, .bool (decide (st38 < (s_0.length : Int))))] (by kernel_rfl) ?_
  refine WL.nil ?_
  refine WQ.then_normal (hK52 _ _ _ ?_)
  refine WP.cond (decide (st38 < (s_0.length : Int))) rfl rfl (fun hc53 => ?_) (fun hc53 => ?_)
  rotate_left
  · have hm := iteF hm hc53
    refine WP.exit ?_
    refine WQ.then_exit ?_
    refine WQ.then_exit ?_
    refine WQ.block_here ?_
    obtain rfl := Option.some.inj hm
    obtain rfl := afterN_done hl43
    have hm := hmo44
    refine WQ.then_normal (hK36 _ _ _ ?_)
    refine WP.seq (fun K112 hK112 => ?_)
    refine WP.region ?_
    refine WL.runk 1 [2] [(2, .bool true)] (by kernel_rfl) ?_
    refine WL.nil ?_
    refine WQ.then_normal (hK112 _ _ _ ?_)
    refine WP.ret ?_
    obtain rfl := Option.some.inj hm
    exact WQ.ret1 _ rfl rfl ⟨rfl, hb40⟩
  have hm := iteT hm hc53
  refine WP.skip ?_
  refine WQ.then_normal (hK51 _ _ _ ?_)
  refine WP.seq (fun K54 hK54 => ?_)
  refine WP.block ?_
  refine WP.seq (fun K55 hK55 => ?_)
  obtain ⟨x80, hx81, hm⟩ := bindE hm
  refine WP.cut (fun env' w' => env' = [(0, .string (bs s_0)), (3, .int .i64 st38), (40, .bool x80)] ∧ Ext w w' ∧ w.heap.size ≤ w'.heap.size ∧ SH w' w.heap.size []) ?_ ?_
  rotate_left
  · clear hx81
    rintro _ w106 ⟨rfl, hb107, hL108, hS109⟩
    refine WQ.then_normal (hK55 _ _ _ ?_)
    refine WP.cond x80 rfl rfl (fun hc110 => ?_) (fun hc110 => ?_)
    rotate_left
    · have hm := iteF hm hc110
      refine WP.skip ?_
      refine WQ.block_normal ?_
      refine WQ.then_normal (hK54 _ _ _ ?_)
      refine WP.region ?_
      refine WL.runk 3 [0, 3] [(0, .string (bs s_0)), (3, .int .i64 (wI64 (st38 + 1)))] (by kernel_rfl) ?_
      refine WL.nil ?_
      obtain rfl := Option.some.inj hm
      exact WQ.round hK45 ⟨(wI64 (st38 + 1)), rfl, hb107, hL108, hS109, hl43⟩ (Nat.lt_succ_self _) ⟨rfl, rfl, trivial⟩
    have hm := iteT hm hc110
    refine WP.seq (fun K111 hK111 => ?_)
    refine WP.region ?_
    refine WL.runk 1 [2] [(2, .bool false)] (by kernel_rfl) ?_
    refine WL.nil ?_
    refine WQ.then_normal (hK111 _ _ _ ?_)
    refine WP.ret ?_
    refine WQ.block_ret ?_
    refine WQ.then_ret ?_
    refine WQ.then_ret ?_
    refine WQ.block_ret ?_
    refine WQ.then_ret ?_
    obtain rfl := Option.some.inj hm
    obtain rfl := afterN_done hl43
    have hm := hmo44
    obtain rfl := Option.some.inj hm
    exact WQ.ret1 _ rfl rfl ⟨rfl, hb107⟩
  have hm := hx81; clear hx81
  refine WP.region ?_
  refine WL.runk 2 [0, 3, 23, 24] [(0, .string (bs s_0)), (3, .int .i64 st38), (23, .string (bs s_0)), (24, .int .i64 st38)] (by kernel_rfl) ?_
  obtain ⟨x82, hx83, hm⟩ := bindE hm
  refine WL.st (.int .u8 (x82.toNat : Int)) (ST.sindex hx83 rfl rfl rfl Tryd.underlying9) rfl rfl rfl ?_
  obtain ⟨x84, hx85, hm⟩ := bindE hm
  refine WL.call 33 #[.int .u8 (x82.toNat : Int)] rfl rfl (by kernel_rfl) (c_33 n (x82.toNat : Int) w39 hx85 ) ?_
  rintro _ w86 ⟨rfl, hE87⟩
  refine ⟨_, rfl, ?_⟩
  have hb89 : Ext w w86 := Ext.trans hb40 hE87
  have hL90 : w.heap.size ≤ w86.heap.size := Nat.le_trans hL41 hE87.size
  have hS91 : SH w86 w.heap.size [] := SH.ext hS42 hE87
  refine WL.runk 2 [0, 3, 28] [(0, .string (bs s_0)), (3, .int .i64 st38), (28, .bool (!x84))] (by kernel_rfl) ?_
  refine WL.case (!x84) [28] ⟨rfl, trivial⟩ (fun hc92 => ?_) (fun hc92 => ?_)
  rotate_left
  · have hm := iteF hm hc92
    refine WL.runk 12 [0, 3, 40] [(0, .string (bs s_0)), (3, .int .i64 st38), (40, .bool false)] (by kernel_rfl) ?_
    refine WL.nil ?_
    obtain rfl := Option.some.inj hm
    exact WQ.post' ⟨rfl, hb89, hL90, hS91⟩ ⟨rfl, rfl, rfl, trivial⟩
  have hm := iteT hm hc92
  refine WL.runk 2 [0, 3, 28, 29, 30] [(0, .string (bs s_0)), (3, .int .i64 st38), (28, .bool true), (29, .string (bs s_0)), (30, .int .i64 st38)] (by kernel_rfl) ?_
  obtain ⟨x93, hx94, hm⟩ := bindE hm
  refine WL.st (.int .u8 (x93.toNat : Int)) (ST.sindex hx94 rfl rfl rfl Tryd.underlying9) rfl rfl rfl ?_
  obtain ⟨x95, hx96, hm⟩ := bindE hm
  refine WL.call 34 #[.int .u8 (x93.toNat : Int)] rfl rfl (by kernel_rfl) (c_34 n (x93.toNat : Int) w86 hx96 ) ?_
  rintro _ w97 ⟨rfl, hE98⟩
  refine ⟨_, rfl, ?_⟩
  have hb100 : Ext w w97 := Ext.trans hb89 hE98
  have hL101 : w.heap.size ≤ w97.heap.size := Nat.le_trans hL90 hE98.size
  have hS102 : SH w97 w.heap.size [] := SH.ext hS91 hE98
  refine WL.runk 3 [0, 3, 35] [(0, .string (bs s_0)), (3, .int .i64 st38), (35, .bool (!x95))] (by kernel_rfl) ?_
  refine WL.case (!x95) [35] ⟨rfl, trivial⟩ (fun hc103 => ?_) (fun hc103 => ?_)
  rotate_left
  · have hm := iteF hm hc103
    refine WL.runk 5 [0, 3, 40] [(0, .string (bs s_0)), (3, .int .i64 st38), (40, .bool false)] (by kernel_rfl) ?_
    refine WL.nil ?_
    obtain rfl := Option.some.inj hm
    exact WQ.post' ⟨rfl, hb100, hL101, hS102⟩ ⟨rfl, rfl, rfl, trivial⟩
  have hm := iteT hm hc103
  refine WL.runk 2 [0, 3, 35, 36, 37] [(0, .string (bs s_0)), (3, .int .i64 st38), (35, .bool true), (36, .string (bs s_0)), (37, .int .i64 st38)] (by kernel_rfl) ?_
  obtain ⟨x104, hx105, hm⟩ := bindE hm
  refine WL.st (.int .u8 (x104.toNat : Int)) (ST.sindex hx105 rfl rfl rfl Tryd.underlying9) rfl rfl rfl ?_
  refine WL.runk 2 [0, 3, 40] [(0, .string (bs s_0)), (3, .int .i64 st38), (40, .bool ((x104.toNat : Int) != 45))] (by kernel_rfl) ?_
  refine WL.nil ?_
  obtain rfl := Option.some.inj hm
  exact WQ.post' ⟨rfl, hb100, hL101, hS102⟩ ⟨rfl, rfl, rfl, trivial⟩

theorem c_21 (n : Nat) (list_0 : List Int) (a0' : Option Addr) (c0' : Nat) (low_1 : Int) (high_2 : Int) (w : World) {r : Bool} (hm : m_spec_l00Rises n list_0 low_1 high_2 = some r) (h0 : Rd fInt.ty w a0' list_0) (_hle0 : list_0.length ≤ c0') :
    CallV Tryd.prog 21 #[.slice a0' list_0.length c0', .int .i64 low_1, .int .i64 high_2] w (fun v w' => v = .bool r ∧ Ext w w') := by
  unfold m_spec_l00Rises at hm
  refine CallV.enter Tryd.func21 rfl (by kernel_rfl) Tryd.ntmps21 (env := [(0, .slice a0' list_0.length c0'), (1, .int .i64 low_1), (2, .int .i64 high_2)]) ⟨rfl, rfl, rfl, trivial⟩ ?_
  refine WP.seq (fun K1 hK1 => ?_)
  refine WP.region ?_
  refine WL.runk 1 [0, 1, 2] [(0, .slice a0' list_0.length c0'), (1, .int .i64 low_1), (2, .int .i64 high_2)] (by kernel_rfl) ?_
  refine WL.nil ?_
  refine WQ.then_normal (hK1 _ _ _ ?_)
  refine WP.seq (fun K2 hK2 => ?_)
  refine WP.seq (fun K3 hK3 => ?_)
  refine WP.region ?_
  refine WL.runk 1 [0, 1, 2, 7] [(0, .slice a0' list_0.length c0'), (1, .int .i64 low_1), (2, .int .i64 high_2), (7, .int .i64 0)] (by kernel_rfl) ?_
  refine WL.nil ?_
  refine WQ.then_normal (hK3 _ _ _ ?_)
  refine WP.block ?_
  obtain ⟨t15, ht16, hm⟩ := bindE hm
  have hmo10 := hm; clear hm
  refine WP.sub [(0, .slice a0' list_0.length c0'), (1, .int .i64 low_1), (2, .int .i64 high_2), (7, .int .i64 0)] ⟨rfl, rfl, rfl, rfl, trivial⟩ ?_
  refine WP.loop (fun n' env' w' => ∃ (st4 : Int) , env' = [(0, .slice a0' list_0.length c0'), (1, .int .i64 low_1), (2, .int .i64 high_2), (7, .int .i64 st4)] ∧ Ext w w' ∧ w.heap.size ≤ w'.heap.size ∧ SH w' w.heap.size [] ∧ loopN (m_spec_l00Rises_l1 n list_0 low_1 high_2) n' st4 = some t15) n ⟨0, rfl, (Ext.refl w), (Nat.le_refl _), (SH.nil _ _), ht16⟩ ?_
  rintro n12 _ w5 ⟨st4, rfl, hb6, hL7, hS8, hl9⟩ K11 hK11
  obtain ⟨n13, s14, rfl, hm, hl9⟩ := loopN_some hl9
  unfold m_spec_l00Rises_l1 at hm
  refine WP.seq (fun K17 hK17 => ?_)
  refine WP.seq (fun K18 hK18 => ?_)
  refine WP.region ?_
  refine WL.runk 4 [0, 1, 2, 7, 11] [(0, .slice a0' list_0.length c0'), (1, .int .i64 low_1), (2, .int .i64 high_2), (7, .int .i64 st4), (11, .bool (decide (st4 < (list_0.length : Int))))] (by kernel_rfl) ?_
  refine WL.nil ?_
  refine WQ.then_normal (hK18 _ _ _ ?_)
  refine WP.cond (decide (st4 < (list_0.length : Int))) rfl rfl (fun hc19 => ?_) (fun hc19 => ?_)
  rotate_left
  · have hm := iteF hm hc19
    refine WP.exit ?_
    refine WQ.then_exit ?_
    refine WQ.then_exit ?_
    refine WQ.block_here ?_
    obtain rfl := Option.some.inj hm
    obtain rfl := afterN_done hl9
    have hm := hmo10
    refine WQ.then_normal (hK2 _ _ _ ?_)
    refine WP.seq (fun K84 hK84 => ?_)
    refine WP.region ?_
    refine WL.runk 1 [6] [(6, .bool true)] (by kernel_rfl) ?_
    refine WL.nil ?_
    refine WQ.then_normal (hK84 _ _ _ ?_)
    refine WP.ret ?_
    obtain rfl := Option.some.inj hm
    exact WQ.ret1 _ rfl rfl ⟨rfl, hb6⟩
  have hm := iteT hm hc19
  refine WP.skip ?_
  refine WQ.then_normal (hK17 _ _ _ ?_)
  refine WP.seq (fun K20 hK20 => ?_)
  refine WP.block ?_
  refine WP.seq (fun K21 hK21 => ?_)
  obtain ⟨x49, hx50, hm⟩ := bindE hm
  refine WP.cut (fun env' w' => env' = [(0, .slice a0' list_0.length c0'), (1, .int .i64 low_1), (2, .int .i64 high_2), (7, .int .i64 st4), (37, .bool x49)] ∧ Ext w w' ∧ w.heap.size ≤ w'.heap.size ∧ SH w' w.heap.size []) ?_ ?_
  rotate_left
  · clear hx50
    rintro _ w78 ⟨rfl, hb79, hL80, hS81⟩
    refine WQ.then_normal (hK21 _ _ _ ?_)
    refine WP.cond x49 rfl rfl (fun hc82 => ?_) (fun hc82 => ?_)
    rotate_left
    · have hm := iteF hm hc82
      refine WP.skip ?_
      refine WQ.block_normal ?_
      refine WQ.then_normal (hK20 _ _ _ ?_)
      refine WP.region ?_
      refine WL.runk 3 [0, 1, 2, 7] [(0, .slice a0' list_0.length c0'), (1, .int .i64 low_1), (2, .int .i64 high_2), (7, .int .i64 (wI64 (st4 + 1)))] (by kernel_rfl) ?_
      refine WL.nil ?_
      obtain rfl := Option.some.inj hm
      exact WQ.round hK11 ⟨(wI64 (st4 + 1)), rfl, hb79, hL80, hS81, hl9⟩ (Nat.lt_succ_self _) ⟨rfl, rfl, rfl, rfl, trivial⟩
    have hm := iteT hm hc82
    refine WP.seq (fun K83 hK83 => ?_)
    refine WP.region ?_
    refine WL.runk 1 [6] [(6, .bool false)] (by kernel_rfl) ?_
    refine WL.nil ?_
    refine WQ.then_normal (hK83 _ _ _ ?_)
    refine WP.ret ?_
    refine WQ.block_ret ?_
    refine WQ.then_ret ?_
    refine WQ.then_ret ?_
    refine WQ.block_ret ?_
    refine WQ.then_ret ?_
    obtain rfl := Option.some.inj hm
    obtain rfl := afterN_done hl9
    have hm := hmo10
    obtain rfl := Option.some.inj hm
    exact WQ.ret1 _ rfl rfl ⟨rfl, hb79⟩
  have hm := hx50; clear hx50
  refine WP.quiet (by kernel_rfl) (by kernel_rfl) ?_
  refine QL.step1v 14 (.slice a0' list_0.length c0') rfl (fun _ => by kernel_rfl) ?_
  refine QL.step1v 15 (.int .i64 st4) rfl (fun _ => by kernel_rfl) ?_
  refine QL.subk [0, 1, 2, 7, 14, 15] [(0, .slice a0' list_0.length c0'), (1, .int .i64 low_1), (2, .int .i64 high_2), (7, .int .i64 st4), (14, .slice a0' list_0.length c0'), (15, .int .i64 st4)] (by kernel_rfl) ?_
  obtain ⟨x51, hx52, hm⟩ := bindE hm
  refine QL.st (.pointer (some (at_ a0' (Int.toNat st4 * 1)))) (ST.index (T := fInt.ty) (xs := list_0) (Rd.below h0 hb6) hx52 rfl rfl rfl Tryd.underlying30 (info2).1 (info2).2.1) rfl rfl rfl ?_
  refine QL.st (.int .i64 x51) (ST.load (cell_ext (Rd.flat (F := fInt) (Rd.below h0 hb6) hx52 0 rfl)) rfl rfl Tryd.underlying2 rfl) rfl rfl rfl ?_
  refine QL.step1v 18 (.int .i64 low_1) rfl (fun _ => by kernel_rfl) ?_
  refine QL.step1v 19 (.int .i64 high_2) rfl (fun _ => by kernel_rfl) ?_
  refine QL.subk [0, 1, 2, 7, 17, 18, 19] [(0, .slice a0' list_0.length c0'), (1, .int .i64 low_1), (2, .int .i64 high_2), (7, .int .i64 st4), (17, .int .i64 x51), (18, .int .i64 low_1), (19, .int .i64 high_2)] (by kernel_rfl) ?_
  obtain ⟨x53, hx54, hm⟩ := bindE hm
  refine QL.call 11 #[.int .i64 x51, .int .i64 low_1, .int .i64 high_2] (.bool x53) (fun _ => by kernel_rfl) (fun w55 hE56 => c_11 n x51 low_1 high_2 w55 hx54 ) rfl rfl rfl ?_
  refine QL.step1v 21 (.bool (!x53)) rfl (fun _ => by kernel_rfl) ?_
  refine QL.step1v 22 (.bool (!x53)) rfl (fun _ => by kernel_rfl) ?_
  refine QL.subk [0, 1, 2, 7, 22] [(0, .slice a0' list_0.length c0'), (1, .int .i64 low_1), (2, .int .i64 high_2), (7, .int .i64 st4), (22, .bool (!x53))] (by kernel_rfl) ?_
  refine QL.case (!x53) [22] ⟨rfl, trivial⟩ (fun hc57 => ?_) (fun hc57 => ?_)
  · have hm := iteT hm hc57
    refine QL.step1v 23 undef rfl (fun _ => by kernel_rfl) ?_
    refine QL.step1v 24 undef rfl (fun _ => by kernel_rfl) ?_
    refine QL.step1v 25 undef rfl (fun _ => by kernel_rfl) ?_
    refine QL.step1v 26 undef rfl (fun _ => by kernel_rfl) ?_
    refine QL.step1v 27 undef rfl (fun _ => by kernel_rfl) ?_
    refine QL.step1v 28 undef rfl (fun _ => by kernel_rfl) ?_
    refine QL.step1v 29 undef rfl (fun _ => by kernel_rfl) ?_
    refine QL.step1v 30 undef rfl (fun _ => by kernel_rfl) ?_
    refine QL.step1v 31 undef rfl (fun _ => by kernel_rfl) ?_
    refine QL.step1v 32 undef rfl (fun _ => by kernel_rfl) ?_
    refine QL.step1v 33 undef rfl (fun _ => by kernel_rfl) ?_
    refine QL.step1v 34 undef rfl (fun _ => by kernel_rfl) ?_
    refine QL.step1v 35 undef rfl (fun _ => by kernel_rfl) ?_
    refine QL.step1v 36 undef rfl (fun _ => by kernel_rfl) ?_
    refine QL.step1v 37 (.bool true) rfl (fun _ => by kernel_rfl) ?_
    refine QL.subk [0, 1, 2, 7, 37] [(0, .slice a0' list_0.length c0'), (1, .int .i64 low_1), (2, .int .i64 high_2), (7, .int .i64 st4), (37, .bool true)] (by kernel_rfl) ?_
    refine QL.nil ?_
    intro w58 hE59
    have hb60 : Ext w w58 := Ext.trans hb6 hE59
    have hL61 : w.heap.size ≤ w58.heap.size := Nat.le_trans hL7 hE59.size
    have hS62 : SH w58 w.heap.size [] := SH.ext hS8 hE59
    obtain rfl := Option.some.inj hm
    exact WQ.post' ⟨rfl, hb60, hL61, hS62⟩ ⟨rfl, rfl, rfl, rfl, rfl, trivial⟩
  have hm := iteF hm hc57
  refine QL.step1v 23 (.int .i64 st4) rfl (fun _ => by kernel_rfl) ?_
  refine QL.step1v 24 (.bool (decide (st4 > 0))) rfl (fun _ => by kernel_rfl) ?_
  refine QL.step1v 25 (.bool (decide (st4 > 0))) rfl (fun _ => by kernel_rfl) ?_
  refine QL.subk [0, 1, 2, 7, 22, 25] [(0, .slice a0' list_0.length c0'), (1, .int .i64 low_1), (2, .int .i64 high_2), (7, .int .i64 st4), (22, .bool false), (25, .bool (decide (st4 > 0)))] (by kernel_rfl) ?_
  refine QL.case (decide (st4 > 0)) [25] ⟨rfl, trivial⟩ (fun hc63 => ?_) (fun hc63 => ?_)
  rotate_left
  · have hm := iteF hm hc63
    refine QL.step1v 26 undef rfl (fun _ => by kernel_rfl) ?_
    refine QL.step1v 27 undef rfl (fun _ => by kernel_rfl) ?_
    refine QL.step1v 28 undef rfl (fun _ => by kernel_rfl) ?_
    refine QL.step1v 29 undef rfl (fun _ => by kernel_rfl) ?_
    refine QL.step1v 30 undef rfl (fun _ => by kernel_rfl) ?_
    refine QL.step1v 31 undef rfl (fun _ => by kernel_rfl) ?_
    refine QL.step1v 32 undef rfl (fun _ => by kernel_rfl) ?_
    refine QL.step1v 33 undef rfl (fun _ => by kernel_rfl) ?_
    refine QL.step1v 34 undef rfl (fun _ => by kernel_rfl) ?_
    refine QL.step1v 35 undef rfl (fun _ => by kernel_rfl) ?_
    refine QL.step1v 36 (.bool false) rfl (fun _ => by kernel_rfl) ?_
    refine QL.step1v 37 (.bool false) rfl (fun _ => by kernel_rfl) ?_
    refine QL.subk [0, 1, 2, 7, 37] [(0, .slice a0' list_0.length c0'), (1, .int .i64 low_1), (2, .int .i64 high_2), (7, .int .i64 st4), (37, .bool false)] (by kernel_rfl) ?_
    refine QL.nil ?_
    intro w73 hE74
    have hb75 : Ext w w73 := Ext.trans hb6 hE74
    have hL76 : w.heap.size ≤ w73.heap.size := Nat.le_trans hL7 hE74.size
    have hS77 : SH w73 w.heap.size [] := SH.ext hS8 hE74
    obtain rfl := Option.some.inj hm
    exact WQ.post' ⟨rfl, hb75, hL76, hS77⟩ ⟨rfl, rfl, rfl, rfl, rfl, trivial⟩
  have hm := iteT hm hc63
  refine QL.step1v 26 (.slice a0' list_0.length c0') rfl (fun _ => by kernel_rfl) ?_
  refine QL.step1v 27 (.int .i64 st4) rfl (fun _ => by kernel_rfl) ?_
  refine QL.step1v 28 (.int .i64 (wI64 (st4 - 1))) rfl (fun _ => by kernel_rfl) ?_
  refine QL.subk [0, 1, 2, 7, 22, 25, 26, 28] [(0, .slice a0' list_0.length c0'), (1, .int .i64 low_1), (2, .int .i64 high_2), (7, .int .i64 st4), (22, .bool false), (25, .bool true), (26, .slice a0' list_0.length c0'), (28, .int .i64 (wI64 (st4 - 1)))] (by kernel_rfl) ?_
  obtain ⟨x64, hx65, hm⟩ := bindE hm
  refine QL.st (.pointer (some (at_ a0' (Int.toNat (wI64 (st4 - 1)) * 1)))) (ST.index (T := fInt.ty) (xs := list_0) (Rd.below h0 hb6) hx65 rfl rfl rfl Tryd.underlying30 (info2).1 (info2).2.1) rfl rfl rfl ?_
  refine QL.st (.int .i64 x64) (ST.load (cell_ext (Rd.flat (F := fInt) (Rd.below h0 hb6) hx65 0 rfl)) rfl rfl Tryd.underlying2 rfl) rfl rfl rfl ?_
  refine QL.step1v 31 (.slice a0' list_0.length c0') rfl (fun _ => by kernel_rfl) ?_
  refine QL.step1v 32 (.int .i64 st4) rfl (fun _ => by kernel_rfl) ?_
  refine QL.subk [0, 1, 2, 7, 22, 25, 30, 31, 32] [(0, .slice a0' list_0.length c0'), (1, .int .i64 low_1), (2, .int .i64 high_2), (7, .int .i64 st4), (22, .bool false), (25, .bool true), (30, .int .i64 x64), (31, .slice a0' list_0.length c0'), (32, .int .i64 st4)] (by kernel_rfl) ?_
  obtain ⟨x66, hx67, hm⟩ := bindE hm
  refine QL.st (.pointer (some (at_ a0' (Int.toNat st4 * 1)))) (ST.index (T := fInt.ty) (xs := list_0) (Rd.below h0 hb6) hx67 rfl rfl rfl Tryd.underlying30 (info2).1 (info2).2.1) rfl rfl rfl ?_
  refine QL.st (.int .i64 x66) (ST.load (cell_ext (Rd.flat (F := fInt) (Rd.below h0 hb6) hx67 0 rfl)) rfl rfl Tryd.underlying2 rfl) rfl rfl rfl ?_
  refine QL.step1v 35 (.bool (decide (x64 ≥ x66))) rfl (fun _ => by kernel_rfl) ?_
  refine QL.step1v 36 (.bool (decide (x64 ≥ x66))) rfl (fun _ => by kernel_rfl) ?_
  refine QL.step1v 37 (.bool (decide (x64 ≥ x66))) rfl (fun _ => by kernel_rfl) ?_
  refine QL.subk [0, 1, 2, 7, 37] [(0, .slice a0' list_0.length c0'), (1, .int .i64 low_1), (2, .int .i64 high_2), (7, .int .i64 st4), (37, .bool (decide (x64 ≥ x66)))] (by kernel_rfl) ?_
  refine QL.nil ?_
  intro w68 hE69
  have hb70 : Ext w w68 := Ext.trans hb6 hE69
  have hL71 : w.heap.size ≤ w68.heap.size := Nat.le_trans hL7 hE69.size
  have hS72 : SH w68 w.heap.size [] := SH.ext hS8 hE69
  obtain rfl := Option.some.inj hm
  exact WQ.post' ⟨rfl, hb70, hL71, hS72⟩ ⟨rfl, rfl, rfl, rfl, rfl, trivial⟩

theorem c_10 (n : Nat) (list_0 : List SRepair) (a0' : Option Addr) (c0' : Nat) (w : World) {r : Bool} (hm : m_spec_l21Ok n list_0 = some r) (h0 : Rd fRepair.ty w a0' list_0) (_hle0 : list_0.length ≤ c0') :
    CallV Tryd.prog 10 #[.slice a0' list_0.length c0'] w (fun v w' => v = .bool r ∧ Ext w w') := by
  unfold m_spec_l21Ok at hm
  refine CallV.enter Tryd.func10 rfl (by kernel_rfl) Tryd.ntmps10 (env := [(0, .slice a0' list_0.length c0')]) ⟨rfl, trivial⟩ ?_
  refine WP.seq (fun K1 hK1 => ?_)
  refine WP.region ?_
  refine WL.runk 1 [0] [(0, .slice a0' list_0.length c0')] (by kernel_rfl) ?_
  refine WL.nil ?_
  refine WQ.then_normal (hK1 _ _ _ ?_)
  refine WP.seq (fun K2 hK2 => ?_)
  refine WP.seq (fun K3 hK3 => ?_)
  refine WP.region ?_
  refine WL.runk 1 [0, 3] [(0, .slice a0' list_0.length c0'), (3, .int .i64 0)] (by kernel_rfl) ?_
  refine WL.nil ?_
  refine WQ.then_normal (hK3 _ _ _ ?_)
  refine WP.block ?_
  obtain ⟨t15, ht16, hm⟩ := bindE hm
  have hmo10 := hm; clear hm
  refine WP.sub [(0, .slice a0' list_0.length c0'), (3, .int .i64 0)] ⟨rfl, rfl, trivial⟩ ?_
  refine WP.loop (fun n' env' w' => ∃ (st4 : Int) , env' = [(0, .slice a0' list_0.length c0'), (3, .int .i64 st4)] ∧ Ext w w' ∧ w.heap.size ≤ w'.heap.size ∧ SH w' w.heap.size [] ∧ loopN (m_spec_l21Ok_l1 n list_0) n' st4 = some t15) n ⟨0, rfl, (Ext.refl w), (Nat.le_refl _), (SH.nil _ _), ht16⟩ ?_
  rintro n12 _ w5 ⟨st4, rfl, hb6, hL7, hS8, hl9⟩ K11 hK11
  obtain ⟨n13, s14, rfl, hm, hl9⟩ := loopN_some hl9
  unfold m_spec_l21Ok_l1 at hm
  refine WP.seq (fun K17 hK17 => ?_)
  refine WP.seq (fun K18 hK18 => ?_)
  refine WP.region ?_
  refine WL.runk 4 [0, 3, 9] [(0, .slice a0' list_0.length c0'), (3, .int .i64 st4), (9, .bool (decide (st4 < (list_0.length : Int))))] (by kernel_rfl) ?_
  refine WL.nil ?_
  refine WQ.then_normal (hK18 _ _ _ ?_)
  refine WP.cond (decide (st4 < (list_0.length : Int))) rfl rfl (fun hc19 => ?_) (fun hc19 => ?_)
  rotate_left
  · have hm := iteF hm hc19
    refine WP.exit ?_
    refine WQ.then_exit ?_
    refine WQ.then_exit ?_
    refine WQ.block_here ?_
    obtain rfl := Option.some.inj hm
    obtain rfl := afterN_done hl9
    have hm := hmo10
    refine WQ.then_normal (hK2 _ _ _ ?_)
    refine WP.seq (fun K173 hK173 => ?_)
    refine WP.region ?_
    refine WL.runk 4 [2] [(2, .bool (decide ((list_0.length : Int) ≤ 10)))] (by kernel_rfl) ?_
    refine WL.nil ?_
    refine WQ.then_normal (hK173 _ _ _ ?_)
    refine WP.ret ?_
    obtain rfl := Option.some.inj hm
    exact WQ.ret1 _ rfl rfl ⟨rfl, hb6⟩
  have hm := iteT hm hc19
  refine WP.skip ?_
  refine WQ.then_normal (hK17 _ _ _ ?_)
  refine WP.seq (fun K20 hK20 => ?_)
  refine WP.block ?_
  refine WP.seq (fun K21 hK21 => ?_)
  refine WP.region ?_
  refine WL.runk 2 [0, 3, 12, 13] [(0, .slice a0' list_0.length c0'), (3, .int .i64 st4), (12, .slice a0' list_0.length c0'), (13, .int .i64 st4)] (by kernel_rfl) ?_
  obtain ⟨x22, hx23, hm⟩ := bindE hm
  obtain ⟨a24, c25, a29, c30, hc34, hR26, hle27, hR31, hle32⟩ := nest_Repair h0 hx23
  refine WL.st (.pointer (some (at_ a0' (Int.toNat st4 * 5)))) (ST.index (T := fRepair.ty) (xs := list_0) (Rd.below h0 hb6) hx23 rfl rfl rfl Tryd.underlying25 (info36).1 (info36).2.1) rfl rfl rfl ?_
  refine WL.runk 1 [0, 3, 4] [(0, .slice a0' list_0.length c0'), (3, .int .i64 st4), (4, .pointer (some (at_ a0' (Int.toNat st4 * 5))))] (by kernel_rfl) ?_
  refine WL.nil ?_
  refine WQ.then_normal (hK21 _ _ _ ?_)
  refine WP.seq (fun K35 hK35 => ?_)
  refine WP.seq (fun K36 hK36 => ?_)
  obtain ⟨x81, hx82, hm⟩ := bindE hm
  refine WP.cut (fun env' w' => env' = [(0, .slice a0' list_0.length c0'), (3, .int .i64 st4), (4, .pointer (some (at_ a0' (Int.toNat st4 * 5)))), (54, .bool x81)] ∧ Ext w w' ∧ w.heap.size ≤ w'.heap.size ∧ SH w' w.heap.size []) ?_ ?_
  · have hm := hx82; clear hx82
    refine WP.region ?_
    refine WL.runk 3 [0, 3, 4, 17] [(0, .slice a0' list_0.length c0'), (3, .int .i64 st4), (4, .pointer (some (at_ a0' (Int.toNat st4 * 5)))), (17, .pointer (some (at_ a0' (Int.toNat st4 * 5))))] (by kernel_rfl) ?_
    refine WL.st (.string (bs x22.Name)) (ST.load (cell_ext ((cells_ext hc34 hb6) 0 _ rfl)) rfl rfl Tryd.underlying9 rfl) rfl rfl rfl ?_
    obtain ⟨x83, hx84, hm⟩ := bindE hm
    refine WL.call 20 #[.string (bs x22.Name)] rfl rfl (by kernel_rfl) (c_20 n x22.Name w5 hx84 ) ?_
    rintro _ w85 ⟨rfl, hE86⟩
    refine ⟨_, rfl, ?_⟩
    have hb88 : Ext w w85 := Ext.trans hb6 hE86
    have hL89 : w.heap.size ≤ w85.heap.size := Nat.le_trans hL7 hE86.size
    have hS90 : SH w85 w.heap.size [] := SH.ext hS8 hE86
    refine WL.runk 2 [0, 3, 4, 21] [(0, .slice a0' list_0.length c0'), (3, .int .i64 st4), (4, .pointer (some (at_ a0' (Int.toNat st4 * 5)))), (21, .bool (!x83))] (by kernel_rfl) ?_
    refine WL.case (!x83) [21] ⟨rfl, trivial⟩ (fun hc91 => ?_) (fun hc91 => ?_)
    · have hm := iteT hm hc91
      refine WL.runk 33 [0, 3, 4, 54] [(0, .slice a0' list_0.length c0'), (3, .int .i64 st4), (4, .pointer (some (at_ a0' (Int.toNat st4 * 5)))), (54, .bool true)] (by kernel_rfl) ?_
      refine WL.nil ?_
      obtain rfl := Option.some.inj hm
      exact WQ.post' ⟨rfl, hb88, hL89, hS90⟩ ⟨rfl, rfl, rfl, rfl, trivial⟩
    have hm := iteF hm hc91
    refine WL.runk 3 [0, 3, 4, 21, 24] [(0, .slice a0' list_0.length c0'), (3, .int .i64 st4), (4, .pointer (some (at_ a0' (Int.toNat st4 * 5)))), (21, .bool false), (24, .pointer (some (at_ a0' (Int.toNat st4 * 5 + 1))))] (by kernel_rfl) ?_
    refine WL.st (.slice a24 x22.Mends.length c25) (ST.load (cell_ext ((cells_ext hc34 hb88) 1 _ rfl)) rfl rfl Tryd.underlying30 rfl) rfl rfl rfl ?_
    obtain ⟨x92, hx93, hm⟩ := bindE hm
    refine WL.call 21 #[.slice a24 x22.Mends.length c25, .int .i64 0, .int .i64 9] rfl rfl (by kernel_rfl) (c_21 n x22.Mends a24 c25 0 9 w85 hx93 (Rd.below hR26 hb88) hle27) ?_
    rintro _ w94 ⟨rfl, hE95⟩
    refine ⟨_, rfl, ?_⟩
    have hb97 : Ext w w94 := Ext.trans hb88 hE95
    have hL98 : w.heap.size ≤ w94.heap.size := Nat.le_trans hL89 hE95.size
    have hS99 : SH w94 w.heap.size [] := SH.ext hS90 hE95
    refine WL.runk 3 [0, 3, 4, 29] [(0, .slice a0' list_0.length c0'), (3, .int .i64 st4), (4, .pointer (some (at_ a0' (Int.toNat st4 * 5)))), (29, .bool (!x92))] (by kernel_rfl) ?_
    refine WL.case (!x92) [29] ⟨rfl, trivial⟩ (fun hc100 => ?_) (fun hc100 => ?_)
    · have hm := iteT hm hc100
      refine WL.runk 25 [0, 3, 4, 54] [(0, .slice a0' list_0.length c0'), (3, .int .i64 st4), (4, .pointer (some (at_ a0' (Int.toNat st4 * 5)))), (54, .bool true)] (by kernel_rfl) ?_
      refine WL.nil ?_
      obtain rfl := Option.some.inj hm
      exact WQ.post' ⟨rfl, hb97, hL98, hS99⟩ ⟨rfl, rfl, rfl, rfl, trivial⟩
    have hm := iteF hm hc100
    refine WL.runk 3 [0, 3, 4, 29, 32] [(0, .slice a0' list_0.length c0'), (3, .int .i64 st4), (4, .pointer (some (at_ a0' (Int.toNat st4 * 5)))), (29, .bool false), (32, .pointer (some (at_ a0' (Int.toNat st4 * 5 + 2))))] (by kernel_rfl) ?_
    refine WL.st (.slice a29 x22.First.length c30) (ST.load (cell_ext ((cells_ext hc34 hb97) 2 _ rfl)) rfl rfl Tryd.underlying30 rfl) rfl rfl rfl ?_
    refine WL.runk 2 [0, 3, 4, 29, 33, 35] [(0, .slice a0' list_0.length c0'), (3, .int .i64 st4), (4, .pointer (some (at_ a0' (Int.toNat st4 * 5)))), (29, .bool false), (33, .slice a29 x22.First.length c30), (35, .int .i64 (wI64 (st4 - 1)))] (by kernel_rfl) ?_
    obtain ⟨x101, hx102, hm⟩ := bindE hm
    refine WL.call 21 #[.slice a29 x22.First.length c30, .int .i64 0, .int .i64 (wI64 (st4 - 1))] rfl rfl (by kernel_rfl) (c_21 n x22.First a29 c30 0 (wI64 (st4 - 1)) w94 hx102 (Rd.below hR31 hb97) hle32) ?_
    rintro _ w103 ⟨rfl, hE104⟩
    refine ⟨_, rfl, ?_⟩
    have hb106 : Ext w w103 := Ext.trans hb97 hE104
    have hL107 : w.heap.size ≤ w103.heap.size := Nat.le_trans hL98 hE104.size
    have hS108 : SH w103 w.heap.size [] := SH.ext hS99 hE104
    refine WL.runk 3 [0, 3, 4, 39] [(0, .slice a0' list_0.length c0'), (3, .int .i64 st4), (4, .pointer (some (at_ a0' (Int.toNat st4 * 5)))), (39, .bool (!x101))] (by kernel_rfl) ?_
    refine WL.case (!x101) [39] ⟨rfl, trivial⟩ (fun hc109 => ?_) (fun hc109 => ?_)
    · have hm := iteT hm hc109
      refine WL.runk 15 [0, 3, 4, 54] [(0, .slice a0' list_0.length c0'), (3, .int .i64 st4), (4, .pointer (some (at_ a0' (Int.toNat st4 * 5)))), (54, .bool true)] (by kernel_rfl) ?_
      refine WL.nil ?_
      obtain rfl := Option.some.inj hm
      exact WQ.post' ⟨rfl, hb106, hL107, hS108⟩ ⟨rfl, rfl, rfl, rfl, trivial⟩
    have hm := iteF hm hc109
    refine WL.runk 3 [0, 3, 4, 39, 42] [(0, .slice a0' list_0.length c0'), (3, .int .i64 st4), (4, .pointer (some (at_ a0' (Int.toNat st4 * 5)))), (39, .bool false), (42, .pointer (some (at_ a0' (Int.toNat st4 * 5 + 3))))] (by kernel_rfl) ?_
    refine WL.st (.int .i64 x22.Price) (ST.load (cell_ext ((cells_ext hc34 hb106) 3 _ rfl)) rfl rfl Tryd.underlying2 rfl) rfl rfl rfl ?_
    obtain ⟨x110, hx111, hm⟩ := bindE hm
    refine WL.call 11 #[.int .i64 x22.Price, .int .i64 0, .int .i64 100000] rfl rfl (by kernel_rfl) (c_11 n x22.Price 0 100000 w103 hx111 ) ?_
    rintro _ w112 ⟨rfl, hE113⟩
    refine ⟨_, rfl, ?_⟩
    have hb115 : Ext w w112 := Ext.trans hb106 hE113
    have hL116 : w.heap.size ≤ w112.heap.size := Nat.le_trans hL107 hE113.size
    have hS117 : SH w112 w.heap.size [] := SH.ext hS108 hE113
    refine WL.runk 3 [0, 3, 4, 47] [(0, .slice a0' list_0.length c0'), (3, .int .i64 st4), (4, .pointer (some (at_ a0' (Int.toNat st4 * 5)))), (47, .bool (!x110))] (by kernel_rfl) ?_
    refine WL.case (!x110) [47] ⟨rfl, trivial⟩ (fun hc118 => ?_) (fun hc118 => ?_)
    · have hm := iteT hm hc118
      refine WL.runk 7 [0, 3, 4, 54] [(0, .slice a0' list_0.length c0'), (3, .int .i64 st4), (4, .pointer (some (at_ a0' (Int.toNat st4 * 5)))), (54, .bool true)] (by kernel_rfl) ?_
      refine WL.nil ?_
      obtain rfl := Option.some.inj hm
      exact WQ.post' ⟨rfl, hb115, hL116, hS117⟩ ⟨rfl, rfl, rfl, rfl, trivial⟩
    have hm := iteF hm hc118
    refine WL.runk 3 [0, 3, 4, 47, 50] [(0, .slice a0' list_0.length c0'), (3, .int .i64 st4), (4, .pointer (some (at_ a0' (Int.toNat st4 * 5)))), (47, .bool false), (50, .pointer (some (at_ a0' (Int.toNat st4 * 5 + 4))))] (by kernel_rfl) ?_
    refine WL.st (.int .i64 x22.Hours) (ST.load (cell_ext ((cells_ext hc34 hb115) 4 _ rfl)) rfl rfl Tryd.underlying2 rfl) rfl rfl rfl ?_
    obtain ⟨x119, hx120, hm⟩ := bindE hm
    refine WL.call 11 #[.int .i64 x22.Hours, .int .i64 0, .int .i64 1000] rfl rfl (by kernel_rfl) (c_11 n x22.Hours 0 1000 w112 hx120 ) ?_
    rintro _ w121 ⟨rfl, hE122⟩
    refine ⟨_, rfl, ?_⟩
    have hb124 : Ext w w121 := Ext.trans hb115 hE122
    have hL125 : w.heap.size ≤ w121.heap.size := Nat.le_trans hL116 hE122.size
    have hS126 : SH w121 w.heap.size [] := SH.ext hS117 hE122
    refine WL.runk 2 [0, 3, 4, 54] [(0, .slice a0' list_0.length c0'), (3, .int .i64 st4), (4, .pointer (some (at_ a0' (Int.toNat st4 * 5)))), (54, .bool (!x119))] (by kernel_rfl) ?_
    refine WL.nil ?_
    obtain rfl := Option.some.inj hm
    exact WQ.post' ⟨rfl, hb124, hL125, hS126⟩ ⟨rfl, rfl, rfl, rfl, trivial⟩
  clear hx82
  rintro _ w127 ⟨rfl, hb128, hL129, hS130⟩
  refine WQ.then_normal (hK36 _ _ _ ?_)
  refine WP.cond x81 rfl rfl (fun hc131 => ?_) (fun hc131 => ?_)
  · have hm := iteT hm hc131
    refine WP.seq (fun K132 hK132 => ?_)
    refine WP.region ?_
    refine WL.runk 1 [2] [(2, .bool false)] (by kernel_rfl) ?_
    refine WL.nil ?_
    refine WQ.then_normal (hK132 _ _ _ ?_)
    refine WP.ret ?_
    refine WQ.then_ret ?_
    refine WQ.block_ret ?_
    refine WQ.then_ret ?_
    refine WQ.then_ret ?_
    refine WQ.block_ret ?_
    refine WQ.then_ret ?_
    obtain rfl := Option.some.inj hm
    obtain rfl := afterN_done hl9
    have hm := hmo10
    obtain rfl := Option.some.inj hm
    exact WQ.ret1 _ rfl rfl ⟨rfl, hb128⟩
  have hm := iteF hm hc131
  refine WP.skip ?_
  refine WQ.then_normal (hK35 _ _ _ ?_)
  refine WP.seq (fun K133 hK133 => ?_)
  refine WP.region ?_
  refine WL.runk 1 [0, 3, 4, 5] [(0, .slice a0' list_0.length c0'), (3, .int .i64 st4), (4, .pointer (some (at_ a0' (Int.toNat st4 * 5)))), (5, .int .i64 0)] (by kernel_rfl) ?_
  refine WL.nil ?_
  refine WQ.then_normal (hK133 _ _ _ ?_)
  refine WP.block ?_
  obtain ⟨t145, ht146, hm⟩ := bindE hm
  have hmo140 := hm; clear hm
  refine WP.sub [(0, .slice a0' list_0.length c0'), (3, .int .i64 st4), (4, .pointer (some (at_ a0' (Int.toNat st4 * 5)))), (5, .int .i64 0)] ⟨rfl, rfl, rfl, rfl, trivial⟩ ?_
  refine WP.loop (fun n' env' w' => ∃ (st134 : Int) , env' = [(0, .slice a0' list_0.length c0'), (3, .int .i64 st4), (4, .pointer (some (at_ a0' (Int.toNat st4 * 5)))), (5, .int .i64 st134)] ∧ Ext w w' ∧ w.heap.size ≤ w'.heap.size ∧ SH w' w.heap.size [] ∧ loopN (m_spec_l21Ok_l2 n list_0 st4 x22) n' st134 = some t145) n ⟨0, rfl, hb128, hL129, hS130, ht146⟩ ?_
  rintro n142 _ w135 ⟨st134, rfl, hb136, hL137, hS138, hl139⟩ K141 hK141
  obtain ⟨n143, s144, rfl, hm, hl139⟩ := loopN_some hl139
  unfold m_spec_l21Ok_l2 at hm
  refine WP.seq (fun K147 hK147 => ?_)
  refine WP.seq (fun K148 hK148 => ?_)
  refine WP.region ?_
  refine WL.runk 3 [0, 3, 4, 5, 57] [(0, .slice a0' list_0.length c0'), (3, .int .i64 st4), (4, .pointer (some (at_ a0' (Int.toNat st4 * 5)))), (5, .int .i64 st134), (57, .bool (decide (st134 < st4)))] (by kernel_rfl) ?_
  refine WL.nil ?_
  refine WQ.then_normal (hK148 _ _ _ ?_)
  refine WP.cond (decide (st134 < st4)) rfl rfl (fun hc149 => ?_) (fun hc149 => ?_)
  rotate_left
  · have hm := iteF hm hc149
    refine WP.exit ?_
    refine WQ.then_exit ?_
    refine WQ.then_exit ?_
    refine WQ.block_here ?_
    obtain rfl := Option.some.inj hm
    obtain rfl := afterN_done hl139
    have hm := hmo140
    refine WQ.block_normal ?_
    refine WQ.then_normal (hK20 _ _ _ ?_)
    refine WP.region ?_
    refine WL.runk 3 [0, 3] [(0, .slice a0' list_0.length c0'), (3, .int .i64 (wI64 (st4 + 1)))] (by kernel_rfl) ?_
    refine WL.nil ?_
    obtain rfl := Option.some.inj hm
    exact WQ.round hK11 ⟨(wI64 (st4 + 1)), rfl, hb136, hL137, hS138, hl9⟩ (Nat.lt_succ_self _) ⟨rfl, rfl, trivial⟩
  have hm := iteT hm hc149
  refine WP.skip ?_
  refine WQ.then_normal (hK147 _ _ _ ?_)
  refine WP.seq (fun K150 hK150 => ?_)
  refine WP.block ?_
  refine WP.seq (fun K151 hK151 => ?_)
  refine WP.quiet (by kernel_rfl) (by kernel_rfl) ?_
  refine QL.step1v 60 (.slice a0' list_0.length c0') rfl (fun _ => by kernel_rfl) ?_
  refine QL.step1v 61 (.int .i64 st134) rfl (fun _ => by kernel_rfl) ?_
  refine QL.subk [0, 3, 4, 5, 60, 61] [(0, .slice a0' list_0.length c0'), (3, .int .i64 st4), (4, .pointer (some (at_ a0' (Int.toNat st4 * 5)))), (5, .int .i64 st134), (60, .slice a0' list_0.length c0'), (61, .int .i64 st134)] (by kernel_rfl) ?_
  obtain ⟨x152, hx153, hm⟩ := bindE hm
  obtain ⟨a154, c155, a159, c160, hc164, hR156, hle157, hR161, hle162⟩ := nest_Repair h0 hx153
  refine QL.st (.pointer (some (at_ a0' (Int.toNat st134 * 5)))) (ST.index (T := fRepair.ty) (xs := list_0) (Rd.below h0 hb136) hx153 rfl rfl rfl Tryd.underlying25 (info36).1 (info36).2.1) rfl rfl rfl ?_
  refine QL.step1v 63 (.pointer (some (at_ a0' (Int.toNat st134 * 5)))) rfl (fun _ => by kernel_rfl) ?_
  refine QL.subk [0, 3, 4, 5, 63] [(0, .slice a0' list_0.length c0'), (3, .int .i64 st4), (4, .pointer (some (at_ a0' (Int.toNat st4 * 5)))), (5, .int .i64 st134), (63, .pointer (some (at_ a0' (Int.toNat st134 * 5))))] (by kernel_rfl) ?_
  refine QL.st (.string (bs x152.Name)) (ST.load (cell_ext ((cells_ext hc164 hb136) 0 _ rfl)) rfl rfl Tryd.underlying9 rfl) rfl rfl rfl ?_
  refine QL.step1v 65 (.pointer (some (at_ a0' (Int.toNat st4 * 5)))) rfl (fun _ => by kernel_rfl) ?_
  refine QL.step1v 66 (.pointer (some (at_ a0' (Int.toNat st4 * 5)))) rfl (fun _ => by kernel_rfl) ?_
  refine QL.step1v 67 (.pointer (some (at_ a0' (Int.toNat st4 * 5)))) rfl (fun _ => by kernel_rfl) ?_
  refine QL.subk [0, 3, 4, 5, 64, 67] [(0, .slice a0' list_0.length c0'), (3, .int .i64 st4), (4, .pointer (some (at_ a0' (Int.toNat st4 * 5)))), (5, .int .i64 st134), (64, .string (bs x152.Name)), (67, .pointer (some (at_ a0' (Int.toNat st4 * 5))))] (by kernel_rfl) ?_
  refine QL.st (.string (bs x22.Name)) (ST.load (cell_ext ((cells_ext hc34 hb136) 0 _ rfl)) rfl rfl Tryd.underlying9 rfl) rfl rfl rfl ?_
  refine QL.st (.bool (x152.Name == x22.Name)) (ST.streq (x := x152.Name) (y := x22.Name) rfl rfl rfl) rfl rfl rfl ?_
  refine QL.subk [0, 3, 4, 5, 69] [(0, .slice a0' list_0.length c0'), (3, .int .i64 st4), (4, .pointer (some (at_ a0' (Int.toNat st4 * 5)))), (5, .int .i64 st134), (69, .bool (x152.Name == x22.Name))] (by kernel_rfl) ?_
  refine QL.nil ?_
  intro w165 hE166
  have hb167 : Ext w w165 := Ext.trans hb136 hE166
  have hL168 : w.heap.size ≤ w165.heap.size := Nat.le_trans hL137 hE166.size
  have hS169 : SH w165 w.heap.size [] := SH.ext hS138 hE166
  refine WQ.then_normal (hK151 _ _ _ ?_)
  refine WP.cond (x152.Name == x22.Name) rfl rfl (fun hc170 => ?_) (fun hc170 => ?_)
  rotate_left
  · have hm := iteF hm hc170
    refine WP.skip ?_
    refine WQ.block_normal ?_
    refine WQ.then_normal (hK150 _ _ _ ?_)
    refine WP.region ?_
    refine WL.runk 3 [0, 3, 4, 5] [(0, .slice a0' list_0.length c0'), (3, .int .i64 st4), (4, .pointer (some (at_ a0' (Int.toNat st4 * 5)))), (5, .int .i64 (wI64 (st134 + 1)))] (by kernel_rfl) ?_
    refine WL.nil ?_
    obtain rfl := Option.some.inj hm
    exact WQ.round hK141 ⟨(wI64 (st134 + 1)), rfl, hb167, hL168, hS169, hl139⟩ (Nat.lt_succ_self _) ⟨rfl, rfl, rfl, rfl, trivial⟩
  have hm := iteT hm hc170
  refine WP.seq (fun K171 hK171 => ?_)
  refine WP.region ?_
  refine WL.runk 1 [2] [(2, .bool false)] (by kernel_rfl) ?_
  refine WL.nil ?_
  refine WQ.then_normal (hK171 _ _ _ ?_)
  refine WP.ret ?_
  refine WQ.block_ret ?_
  refine WQ.then_ret ?_
  refine WQ.then_ret ?_
  refine WQ.block_ret ?_
  refine WQ.block_ret ?_
  refine WQ.then_ret ?_
  refine WQ.then_ret ?_
  refine WQ.block_ret ?_
  refine WQ.then_ret ?_
  obtain rfl := Option.some.inj hm
  obtain rfl := afterN_done hl139
  have hm := hmo140
  obtain rfl := Option.some.inj hm
  obtain rfl := afterN_done hl9
  have hm := hmo10
  obtain rfl := Option.some.inj hm
  exact WQ.ret1 _ rfl rfl ⟨rfl, hb167⟩

theorem c_12 (n : Nat) (n_0 : Int) (w : World) {r : List UInt8} (hm : m_spec_l01Dec n n_0 = some r)  :
    CallV Tryd.prog 12 #[.int .i64 n_0] w (fun v w' => v = .string (bs r) ∧ Ext w w') := by
  unfold m_spec_l01Dec at hm
  refine CallV.enter Tryd.func12 rfl (by kernel_rfl) Tryd.ntmps12 (env := [(0, .int .i64 n_0)]) ⟨rfl, trivial⟩ ?_
  refine WP.seq (fun K1 hK1 => ?_)
  refine WP.region ?_
  refine WL.runk 1 [0] [(0, .int .i64 n_0)] (by kernel_rfl) ?_
  refine WL.nil ?_
  refine WQ.then_normal (hK1 _ _ _ ?_)
  refine WP.seq (fun K2 hK2 => ?_)
  refine WP.region ?_
  refine WL.row fU8 5 ([] : List Int) 0 #[] 6 (by kernel_rfl) rfl rfl rfl rfl rfl rfl rfl ?_
  intro a3 c4 w5 hE6 hR7
  have hb9 : Ext w w5 := Ext.trans (Ext.refl w) hE6
  have hL10 : w.heap.size ≤ w5.heap.size := Nat.le_trans (Nat.le_refl _) hE6.size
  have hS11 : SH w5 w.heap.size [aOwn fU8 5 a3 c4 ([] : List Int)] := SH.add (SH.nil _ _) hE6 (Nat.le_refl _) hR7
  refine WL.runk 1 [0, 3] [(0, .int .i64 n_0), (3, .slice a3 (([] : List Int).length) c4)] (by kernel_rfl) ?_
  refine WL.nil ?_
  refine WQ.then_normal (hK2 _ _ _ ?_)
  refine WP.seq (fun K12 hK12 => ?_)
  refine WP.seq (fun K13 hK13 => ?_)
  refine WP.region ?_
  refine WL.runk 2 [0, 3, 4] [(0, .int .i64 n_0), (3, .slice a3 (([] : List Int).length) c4), (4, .int .i64 n_0)] (by kernel_rfl) ?_
  refine WL.nil ?_
  refine WQ.then_normal (hK13 _ _ _ ?_)
  refine WP.block ?_
  obtain ⟨t28, ht29, hm⟩ := bindE hm
  have hmo23 := hm; clear hm
  refine WP.sub [(0, .int .i64 n_0), (3, .slice a3 (([] : List Int).length) c4), (4, .int .i64 n_0)] ⟨rfl, rfl, rfl, trivial⟩ ?_
  refine WP.loop (fun n' env' w' => ∃ (st14 : List Int × Int) (a15 : Option Addr) (c16 : Nat), env' = [(0, .int .i64 n_0), (3, .slice a15 st14.1.length c16), (4, .int .i64 st14.2)] ∧ Ext w w' ∧ w.heap.size ≤ w'.heap.size ∧ SH w' w.heap.size [aOwn fU8 5 a15 c16 st14.1] ∧ loopN (m_spec_l01Dec_l1 n) n' st14 = some t28) n ⟨(([] : List Int), n_0), _, _, rfl, hb9, hL10, hS11, ht29⟩ ?_
  rintro n25 _ w18 ⟨st14, a15, c16, rfl, hb19, hL20, hS21, hl22⟩ K24 hK24
  obtain ⟨n26, s27, rfl, hm, hl22⟩ := loopN_some hl22
  unfold m_spec_l01Dec_l1 at hm
  refine WP.seq (fun K30 hK30 => ?_)
  refine WP.seq (fun K31 hK31 => ?_)
  refine WP.region ?_
  refine WL.runk 2 [0, 3, 4, 9] [(0, .int .i64 n_0), (3, .slice a15 st14.1.length c16), (4, .int .i64 st14.2), (9, .bool (st14.2 != 0))] (by kernel_rfl) ?_
  refine WL.nil ?_
  refine WQ.then_normal (hK31 _ _ _ ?_)
  refine WP.cond (st14.2 != 0) rfl rfl (fun hc32 => ?_) (fun hc32 => ?_)
  · have hm := iteT hm hc32
    refine WP.skip ?_
    refine WQ.then_normal (hK30 _ _ _ ?_)
    refine WP.seq (fun K33 hK33 => ?_)
    refine WP.block ?_
    refine WP.seq (fun K34 hK34 => ?_)
    refine WP.region ?_
    refine WL.runk 3 [0, 3, 4, 5] [(0, .int .i64 n_0), (3, .slice a15 st14.1.length c16), (4, .int .i64 st14.2), (5, .int .i64 (Int.tmod st14.2 10))] (by kernel_rfl) ?_
    refine WL.nil ?_
    refine WQ.then_normal (hK34 _ _ _ ?_)
    refine WP.seq (fun K35 hK35 => ?_)
    refine WP.seq (fun K36 hK36 => ?_)
    refine WP.region ?_
    refine WL.runk 2 [0, 3, 4, 5, 15] [(0, .int .i64 n_0), (3, .slice a15 st14.1.length c16), (4, .int .i64 st14.2), (5, .int .i64 (Int.tmod st14.2 10)), (15, .bool (decide ((Int.tmod st14.2 10) < 0)))] (by kernel_rfl) ?_
    refine WL.nil ?_
    refine WQ.then_normal (hK36 _ _ _ ?_)
    obtain ⟨x38, hx39, hm⟩ := bindE hm
    refine WP.cut (fun env' w' => env' = [(0, .int .i64 n_0), (3, .slice a15 st14.1.length c16), (4, .int .i64 st14.2), (5, .int .i64 x38)] ∧ Ext w w' ∧ w.heap.size ≤ w'.heap.size ∧ SH w' w.heap.size [aOwn fU8 5 a15 c16 st14.1]) ?_ ?_
    · have hm := hx39; clear hx39
      refine WP.cond (decide ((Int.tmod st14.2 10) < 0)) rfl rfl (fun hc37 => ?_) (fun hc37 => ?_)
      rotate_left
      · have hm := iteF hm hc37
        refine WP.skip ?_
        obtain rfl := Option.some.inj hm
        exact WQ.post' ⟨rfl, hb19, hL20, hS21⟩ ⟨rfl, rfl, rfl, rfl, trivial⟩
      have hm := iteT hm hc37
      refine WP.region ?_
      refine WL.runk 3 [0, 3, 4, 5] [(0, .int .i64 n_0), (3, .slice a15 st14.1.length c16), (4, .int .i64 st14.2), (5, .int .i64 (wI64 (0 - (Int.tmod st14.2 10))))] (by kernel_rfl) ?_
      refine WL.nil ?_
      obtain rfl := Option.some.inj hm
      exact WQ.post' ⟨rfl, hb19, hL20, hS21⟩ ⟨rfl, rfl, rfl, rfl, trivial⟩
    clear hx39
    rintro _ w40 ⟨rfl, hb41, hL42, hS43⟩
    refine WQ.then_normal (hK35 _ _ _ ?_)
    refine WP.region ?_
    refine WL.runk 3 [0, 3, 4, 20] [(0, .int .i64 n_0), (3, .slice a15 st14.1.length c16), (4, .int .i64 st14.2), (20, .int .u8 (IntKind.u8.wrap (wI64 (48 + x38))))] (by kernel_rfl) ?_
    refine WL.row fU8 5 ([(IntKind.u8.wrap (wI64 (48 + x38)))] : List Int) 1 #[.int .u8 (IntKind.u8.wrap (wI64 (48 + x38)))] 21 (by kernel_rfl) rfl rfl rfl rfl rfl rfl rfl ?_
    intro a44 c45 w46 hE47 hR48
    have hb50 : Ext w w46 := Ext.trans hb41 hE47
    have hL51 : w.heap.size ≤ w46.heap.size := Nat.le_trans hL42 hE47.size
    have hS52 : SH w46 w.heap.size [aOwn fU8 5 a44 c45 ([(IntKind.u8.wrap (wI64 (48 + x38)))] : List Int), aOwn fU8 5 a15 c16 st14.1] := SH.add hS43 hE47 hL42 hR48
    refine WL.runk 1 [0, 4, 21, 22] [(0, .int .i64 n_0), (4, .int .i64 st14.2), (21, .slice a44 (([(IntKind.u8.wrap (wI64 (48 + x38)))] : List Int).length) c45), (22, .slice a15 st14.1.length c16)] (by kernel_rfl) ?_
    obtain ⟨x53, hx54, hm⟩ := bindE hm
    refine WL.append (F := fU8) (xs := ([(IntKind.u8.wrap (wI64 (48 + x38)))] : List Int)) (ys := st14.1) 23 (SH.front 0 hS52) hL51 (SH.rd (SH.front 1 hS52)) hx54 rfl rfl rfl Tryd.underlying45 (info5).1 (info5).2.2.1 (info5).2.1 (info5).2.2.2 rfl rfl rfl rfl rfl ?_
    intro a55 c56 w57 hB58 hS59
    have hb60 : Ext w w57 := Below.trans hb50 hB58
    have hL61 : w.heap.size ≤ w57.heap.size := Nat.le_trans hL51 hB58.size
    refine WL.runk 1 [0, 3, 4] [(0, .int .i64 n_0), (4, .int .i64 st14.2), (3, .slice a55 x53.length c56)] (by kernel_rfl) ?_
    refine WL.nil ?_
    refine WQ.block_normal ?_
    refine WQ.then_normal (hK33 _ _ _ ?_)
    refine WP.region ?_
    refine WL.runk 3 [0, 3, 4] [(0, .int .i64 n_0), (4, .int .i64 (wI64 (Int.tdiv st14.2 10))), (3, .slice a55 x53.length c56)] (by kernel_rfl) ?_
    refine WL.nil ?_
    obtain rfl := Option.some.inj hm
    exact WQ.round hK24 ⟨(x53, (wI64 (Int.tdiv st14.2 10))), _, _, rfl, hb60, hL61, (SH.take 1 hS59), hl22⟩ (Nat.lt_succ_self _) ⟨rfl, rfl, rfl, trivial⟩
  have hm := iteF hm hc32
  refine WP.exit ?_
  refine WQ.then_exit ?_
  refine WQ.then_exit ?_
  refine WQ.block_here ?_
  obtain rfl := Option.some.inj hm
  obtain rfl := afterN_done hl22
  have hm := hmo23
  refine WQ.then_normal (hK12 _ _ _ ?_)
  refine WP.seq (fun K62 hK62 => ?_)
  refine WP.seq (fun K63 hK63 => ?_)
  refine WP.region ?_
  refine WL.runk 3 [0, 3, 26] [(0, .int .i64 n_0), (3, .slice a15 st14.1.length c16), (26, .bool ((st14.1.length : Int) == 0))] (by kernel_rfl) ?_
  refine WL.nil ?_
  refine WQ.then_normal (hK63 _ _ _ ?_)
  refine WP.cond ((st14.1.length : Int) == 0) rfl rfl (fun hc64 => ?_) (fun hc64 => ?_)
  · have hm := iteT hm hc64
    refine WP.seq (fun K65 hK65 => ?_)
    refine WP.region ?_
    refine WL.runk 1 [2] [(2, .string (bs [48]))] (by kernel_rfl) ?_
    refine WL.nil ?_
    refine WQ.then_normal (hK65 _ _ _ ?_)
    refine WP.ret ?_
    refine WQ.then_ret ?_
    obtain rfl := Option.some.inj hm
    exact WQ.ret1 _ rfl rfl ⟨rfl, hb19⟩
  have hm := iteF hm hc64
  refine WP.skip ?_
  refine WQ.then_normal (hK62 _ _ _ ?_)
  refine WP.seq (fun K66 hK66 => ?_)
  refine WP.seq (fun K67 hK67 => ?_)
  refine WP.region ?_
  refine WL.runk 2 [3, 28] [(3, .slice a15 st14.1.length c16), (28, .bool (decide (n_0 < 0)))] (by kernel_rfl) ?_
  refine WL.nil ?_
  refine WQ.then_normal (hK67 _ _ _ ?_)
  refine WP.cond (decide (n_0 < 0)) rfl rfl (fun hc68 => ?_) (fun hc68 => ?_)
  rotate_left
  · have hm := iteF hm hc68
    refine WP.skip ?_
    refine WQ.then_normal (hK66 _ _ _ ?_)
    refine WP.seq (fun K72 hK72 => ?_)
    refine WP.region ?_
    refine WL.runk 1 [32] [(32, .slice a15 st14.1.length c16)] (by kernel_rfl) ?_
    refine WL.st (.string (bs (ofBytes st14.1))) (ST.b2s (SH.rd (SH.front 0 hS21)) (SH.le (SH.front 0 hS21)).2 rfl rfl Tryd.underlying45 Tryd.underlying9 Tryd.underlying5) rfl rfl rfl ?_
    refine WL.runk 1 [2] [(2, .string (bs (ofBytes st14.1)))] (by kernel_rfl) ?_
    refine WL.nil ?_
    refine WQ.then_normal (hK72 _ _ _ ?_)
    refine WP.ret ?_
    obtain rfl := Option.some.inj hm
    exact WQ.ret1 _ rfl rfl ⟨rfl, hb19⟩
  have hm := iteT hm hc68
  refine WP.seq (fun K69 hK69 => ?_)
  refine WP.region ?_
  refine WL.runk 1 [29] [(29, .slice a15 st14.1.length c16)] (by kernel_rfl) ?_
  refine WL.st (.string (bs (ofBytes st14.1))) (ST.b2s (SH.rd (SH.front 0 hS21)) (SH.le (SH.front 0 hS21)).2 rfl rfl Tryd.underlying45 Tryd.underlying9 Tryd.underlying5) rfl rfl rfl ?_
  obtain ⟨x70, hx71, hm⟩ := bindE hm
  refine WL.st (.string (bs x70)) (ST.cat hx71 rfl rfl rfl) rfl rfl rfl ?_
  refine WL.runk 1 [2] [(2, .string (bs x70))] (by kernel_rfl) ?_
  refine WL.nil ?_
  refine WQ.then_normal (hK69 _ _ _ ?_)
  refine WP.ret ?_
  refine WQ.then_ret ?_
  obtain rfl := Option.some.inj hm
  exact WQ.ret1 _ rfl rfl ⟨rfl, hb19⟩

theorem c_5 (n : Nat) (list_0 : List SRepair) (a0' : Option Addr) (c0' : Nat) (k_1 : Int) (w : World) {r : List UInt8} (hm : m_spec_RepairText n list_0 k_1 = some r) (h0 : Rd fRepair.ty w a0' list_0) (hle0 : list_0.length ≤ c0') :
    CallV Tryd.prog 5 #[.slice a0' list_0.length c0', .int .i64 k_1] w (fun v w' => v = .string (bs r) ∧ Ext w w') := by
  unfold m_spec_RepairText at hm
  refine CallV.enter Tryd.func5 rfl (by kernel_rfl) Tryd.ntmps5 (env := [(0, .slice a0' list_0.length c0'), (1, .int .i64 k_1)]) ⟨rfl, rfl, trivial⟩ ?_
  refine WP.seq (fun K1 hK1 => ?_)
  refine WP.region ?_
  refine WL.runk 1 [0, 1] [(0, .slice a0' list_0.length c0'), (1, .int .i64 k_1)] (by kernel_rfl) ?_
  refine WL.nil ?_
  refine WQ.then_normal (hK1 _ _ _ ?_)
  refine WP.seq (fun K2 hK2 => ?_)
  refine WP.seq (fun K3 hK3 => ?_)
  obtain ⟨x21, hx22, hm⟩ := bindE hm
  refine WP.cut (fun env' w' => env' = [(0, .slice a0' list_0.length c0'), (1, .int .i64 k_1), (18, .bool x21)] ∧ Ext w w' ∧ w.heap.size ≤ w'.heap.size ∧ SH w' w.heap.size []) ?_ ?_
  · have hm := hx22; clear hx22
    refine WP.region ?_
    refine WL.runk 1 [0, 1, 8] [(0, .slice a0' list_0.length c0'), (1, .int .i64 k_1), (8, .slice a0' list_0.length c0')] (by kernel_rfl) ?_
    obtain ⟨x23, hx24, hm⟩ := bindE hm
    refine WL.call 10 #[.slice a0' list_0.length c0'] rfl rfl (by kernel_rfl) (c_10 n list_0 a0' c0' w hx24 (Rd.below h0 (Ext.refl w)) hle0) ?_
    rintro _ w25 ⟨rfl, hE26⟩
    refine ⟨_, rfl, ?_⟩
    have hb28 : Ext w w25 := Ext.trans (Ext.refl w) hE26
    have hL29 : w.heap.size ≤ w25.heap.size := Nat.le_trans (Nat.le_refl _) hE26.size
    have hS30 : SH w25 w.heap.size [] := SH.ext (SH.nil _ _) hE26
    refine WL.runk 2 [0, 1, 11] [(0, .slice a0' list_0.length c0'), (1, .int .i64 k_1), (11, .bool (!x23))] (by kernel_rfl) ?_
    refine WL.case (!x23) [11] ⟨rfl, trivial⟩ (fun hc31 => ?_) (fun hc31 => ?_)
    · have hm := iteT hm hc31
      refine WL.runk 7 [0, 1, 18] [(0, .slice a0' list_0.length c0'), (1, .int .i64 k_1), (18, .bool true)] (by kernel_rfl) ?_
      refine WL.nil ?_
      obtain rfl := Option.some.inj hm
      exact WQ.post' ⟨rfl, hb28, hL29, hS30⟩ ⟨rfl, rfl, rfl, trivial⟩
    have hm := iteF hm hc31
    refine WL.runk 4 [0, 1, 11, 12, 15] [(0, .slice a0' list_0.length c0'), (1, .int .i64 k_1), (11, .bool false), (12, .int .i64 k_1), (15, .int .i64 (wI64 ((list_0.length : Int) - 1)))] (by kernel_rfl) ?_
    obtain ⟨x32, hx33, hm⟩ := bindE hm
    refine WL.call 11 #[.int .i64 k_1, .int .i64 0, .int .i64 (wI64 ((list_0.length : Int) - 1))] rfl rfl (by kernel_rfl) (c_11 n k_1 0 (wI64 ((list_0.length : Int) - 1)) w25 hx33 ) ?_
    rintro _ w34 ⟨rfl, hE35⟩
    refine ⟨_, rfl, ?_⟩
    have hb37 : Ext w w34 := Ext.trans hb28 hE35
    have hL38 : w.heap.size ≤ w34.heap.size := Nat.le_trans hL29 hE35.size
    have hS39 : SH w34 w.heap.size [] := SH.ext hS30 hE35
    refine WL.runk 2 [0, 1, 18] [(0, .slice a0' list_0.length c0'), (1, .int .i64 k_1), (18, .bool (!x32))] (by kernel_rfl) ?_
    refine WL.nil ?_
    obtain rfl := Option.some.inj hm
    exact WQ.post' ⟨rfl, hb37, hL38, hS39⟩ ⟨rfl, rfl, rfl, trivial⟩
  clear hx22
  rintro _ w40 ⟨rfl, hb41, hL42, hS43⟩
  refine WQ.then_normal (hK3 _ _ _ ?_)
  refine WP.cond x21 rfl rfl (fun hc44 => ?_) (fun hc44 => ?_)
  · have hm := iteT hm hc44
    refine WP.seq (fun K45 hK45 => ?_)
    refine WP.region ?_
    refine WL.runk 1 [4] [(4, .string (bs []))] (by kernel_rfl) ?_
    refine WL.nil ?_
    refine WQ.then_normal (hK45 _ _ _ ?_)
    refine WP.ret ?_
    refine WQ.then_ret ?_
    obtain rfl := Option.some.inj hm
    exact WQ.ret1 _ rfl rfl ⟨rfl, hb41⟩
  have hm := iteF hm hc44
  refine WP.skip ?_
  refine WQ.then_normal (hK2 _ _ _ ?_)
  refine WP.seq (fun K46 hK46 => ?_)
  refine WP.region ?_
  refine WL.runk 2 [0, 19, 20] [(0, .slice a0' list_0.length c0'), (19, .slice a0' list_0.length c0'), (20, .int .i64 k_1)] (by kernel_rfl) ?_
  obtain ⟨x47, hx48, hm⟩ := bindE hm
  obtain ⟨a49, c50, a54, c55, hc59, hR51, hle52, hR56, hle57⟩ := nest_Repair h0 hx48
  refine WL.st (.pointer (some (at_ a0' (Int.toNat k_1 * 5)))) (ST.index (T := fRepair.ty) (xs := list_0) (Rd.below h0 hb41) hx48 rfl rfl rfl Tryd.underlying25 (info36).1 (info36).2.1) rfl rfl rfl ?_
  refine WL.runk 1 [0, 5] [(0, .slice a0' list_0.length c0'), (5, .pointer (some (at_ a0' (Int.toNat k_1 * 5))))] (by kernel_rfl) ?_
  refine WL.nil ?_
  refine WQ.then_normal (hK46 _ _ _ ?_)
  refine WP.seq (fun K60 hK60 => ?_)
  refine WP.quiet (by kernel_rfl) (by kernel_rfl) ?_
  refine QL.step1v 22 (.pointer (some (at_ a0' (Int.toNat k_1 * 5)))) rfl (fun _ => by kernel_rfl) ?_
  refine QL.step1v 23 (.pointer (some (at_ a0' (Int.toNat k_1 * 5)))) rfl (fun _ => by kernel_rfl) ?_
  refine QL.step1v 24 (.pointer (some (at_ a0' (Int.toNat k_1 * 5)))) rfl (fun _ => by kernel_rfl) ?_
  refine QL.subk [0, 5, 24] [(0, .slice a0' list_0.length c0'), (5, .pointer (some (at_ a0' (Int.toNat k_1 * 5)))), (24, .pointer (some (at_ a0' (Int.toNat k_1 * 5))))] (by kernel_rfl) ?_
  refine QL.st (.string (bs x47.Name)) (ST.load (cell_ext ((cells_ext hc59 hb41) 0 _ rfl)) rfl rfl Tryd.underlying9 rfl) rfl rfl rfl ?_
  obtain ⟨x61, hx62, hm⟩ := bindE hm
  refine QL.st (.string (bs x61)) (ST.cat hx62 rfl rfl rfl) rfl rfl rfl ?_
  refine QL.step1v 27 (.pointer (some (at_ a0' (Int.toNat k_1 * 5)))) rfl (fun _ => by kernel_rfl) ?_
  refine QL.step1v 28 (.pointer (some (at_ a0' (Int.toNat k_1 * 5)))) rfl (fun _ => by kernel_rfl) ?_
  refine QL.step1v 29 (.pointer (some (at_ a0' (Int.toNat k_1 * 5 + 3)))) rfl (fun _ => by kernel_rfl) ?_
  refine QL.subk [0, 5, 26, 29] [(0, .slice a0' list_0.length c0'), (5, .pointer (some (at_ a0' (Int.toNat k_1 * 5)))), (26, .string (bs x61)), (29, .pointer (some (at_ a0' (Int.toNat k_1 * 5 + 3))))] (by kernel_rfl) ?_
  refine QL.st (.int .i64 x47.Price) (ST.load (cell_ext ((cells_ext hc59 hb41) 3 _ rfl)) rfl rfl Tryd.underlying2 rfl) rfl rfl rfl ?_
  obtain ⟨x63, hx64, hm⟩ := bindE hm
  refine QL.call 12 #[.int .i64 x47.Price] (.string (bs x63)) (fun _ => by kernel_rfl) (fun w65 hE66 => c_12 n x47.Price w65 hx64 ) rfl rfl rfl ?_
  obtain ⟨x67, hx68, hm⟩ := bindE hm
  refine QL.st (.string (bs x67)) (ST.cat hx68 rfl rfl rfl) rfl rfl rfl ?_
  obtain ⟨x69, hx70, hm⟩ := bindE hm
  refine QL.st (.string (bs x69)) (ST.cat hx70 rfl rfl rfl) rfl rfl rfl ?_
  refine QL.step1v 34 (.pointer (some (at_ a0' (Int.toNat k_1 * 5)))) rfl (fun _ => by kernel_rfl) ?_
  refine QL.step1v 35 (.pointer (some (at_ a0' (Int.toNat k_1 * 5)))) rfl (fun _ => by kernel_rfl) ?_
  refine QL.step1v 36 (.pointer (some (at_ a0' (Int.toNat k_1 * 5 + 4)))) rfl (fun _ => by kernel_rfl) ?_
  refine QL.subk [0, 5, 33, 36] [(0, .slice a0' list_0.length c0'), (5, .pointer (some (at_ a0' (Int.toNat k_1 * 5)))), (33, .string (bs x69)), (36, .pointer (some (at_ a0' (Int.toNat k_1 * 5 + 4))))] (by kernel_rfl) ?_
  refine QL.st (.int .i64 x47.Hours) (ST.load (cell_ext ((cells_ext hc59 hb41) 4 _ rfl)) rfl rfl Tryd.underlying2 rfl) rfl rfl rfl ?_
  obtain ⟨x71, hx72, hm⟩ := bindE hm
  refine QL.call 12 #[.int .i64 x47.Hours] (.string (bs x71)) (fun _ => by kernel_rfl) (fun w73 hE74 => c_12 n x47.Hours w73 hx72 ) rfl rfl rfl ?_
  obtain ⟨x75, hx76, hm⟩ := bindE hm
  refine QL.st (.string (bs x75)) (ST.cat hx76 rfl rfl rfl) rfl rfl rfl ?_
  refine QL.step1v 6 (.string (bs x75)) rfl (fun _ => by kernel_rfl) ?_
  refine QL.subk [0, 5, 6] [(0, .slice a0' list_0.length c0'), (5, .pointer (some (at_ a0' (Int.toNat k_1 * 5)))), (6, .string (bs x75))] (by kernel_rfl) ?_
  refine QL.nil ?_
  intro w77 hE78
  have hb79 : Ext w w77 := Ext.trans hb41 hE78
  have hL80 : w.heap.size ≤ w77.heap.size := Nat.le_trans hL42 hE78.size
  have hS81 : SH w77 w.heap.size [] := SH.ext hS43 hE78
  refine WQ.then_normal (hK60 _ _ _ ?_)
  refine WP.seq (fun K82 hK82 => ?_)
  refine WP.seq (fun K83 hK83 => ?_)
  refine WP.region ?_
  refine WL.runk 1 [0, 5, 6, 7] [(0, .slice a0' list_0.length c0'), (5, .pointer (some (at_ a0' (Int.toNat k_1 * 5)))), (6, .string (bs x75)), (7, .int .i64 0)] (by kernel_rfl) ?_
  refine WL.nil ?_
  refine WQ.then_normal (hK83 _ _ _ ?_)
  refine WP.block ?_
  obtain ⟨t95, ht96, hm⟩ := bindE hm
  have hmo90 := hm; clear hm
  refine WP.sub [(0, .slice a0' list_0.length c0'), (5, .pointer (some (at_ a0' (Int.toNat k_1 * 5)))), (6, .string (bs x75)), (7, .int .i64 0)] ⟨rfl, rfl, rfl, rfl, trivial⟩ ?_
  refine WP.loop (fun n' env' w' => ∃ (st84 : List UInt8 × Int) , env' = [(0, .slice a0' list_0.length c0'), (5, .pointer (some (at_ a0' (Int.toNat k_1 * 5)))), (6, .string (bs st84.1)), (7, .int .i64 st84.2)] ∧ Ext w w' ∧ w.heap.size ≤ w'.heap.size ∧ SH w' w.heap.size [] ∧ loopN (m_spec_RepairText_l1 n list_0 x47) n' st84 = some t95) n ⟨(x75, 0), rfl, hb79, hL80, hS81, ht96⟩ ?_
  rintro n92 _ w85 ⟨st84, rfl, hb86, hL87, hS88, hl89⟩ K91 hK91
  obtain ⟨n93, s94, rfl, hm, hl89⟩ := loopN_some hl89
  unfold m_spec_RepairText_l1 at hm
  refine WP.seq (fun K97 hK97 => ?_)
  refine WP.seq (fun K98 hK98 => ?_)
  refine WP.region ?_
  refine WL.runk 4 [0, 5, 6, 7, 40, 43] [(0, .slice a0' list_0.length c0'), (5, .pointer (some (at_ a0' (Int.toNat k_1 * 5)))), (6, .string (bs st84.1)), (7, .int .i64 st84.2), (40, .int .i64 st84.2), (43, .pointer (some (at_ a0' (Int.toNat k_1 * 5 + 2))))] (by kernel_rfl) ?_
  refine WL.st (.slice a54 x47.First.length c55) (ST.load (cell_ext ((cells_ext hc59 hb86) 2 _ rfl)) rfl rfl Tryd.underlying30 rfl) rfl rfl rfl ?_
  refine WL.runk 2 [0, 5, 6, 7, 46] [(0, .slice a0' list_0.length c0'), (5, .pointer (some (at_ a0' (Int.toNat k_1 * 5)))), (6, .string (bs st84.1)), (7, .int .i64 st84.2), (46, .bool (decide (st84.2 < (x47.First.length : Int))))] (by kernel_rfl) ?_
  refine WL.nil ?_
  refine WQ.then_normal (hK98 _ _ _ ?_)
  refine WP.cond (decide (st84.2 < (x47.First.length : Int))) rfl rfl (fun hc99 => ?_) (fun hc99 => ?_)
  rotate_left
  · have hm := iteF hm hc99
    refine WP.exit ?_
    refine WQ.then_exit ?_
    refine WQ.then_exit ?_
    refine WQ.block_here ?_
    obtain rfl := Option.some.inj hm
    obtain rfl := afterN_done hl89
    have hm := hmo90
    refine WQ.then_normal (hK82 _ _ _ ?_)
    refine WP.seq (fun K135 hK135 => ?_)
    refine WP.region ?_
    refine WL.runk 2 [4] [(4, .string (bs st84.1))] (by kernel_rfl) ?_
    refine WL.nil ?_
    refine WQ.then_normal (hK135 _ _ _ ?_)
    refine WP.ret ?_
    obtain rfl := Option.some.inj hm
    exact WQ.ret1 _ rfl rfl ⟨rfl, hb86⟩
  have hm := iteT hm hc99
  refine WP.skip ?_
  refine WQ.then_normal (hK97 _ _ _ ?_)
  refine WP.seq (fun K100 hK100 => ?_)
  refine WP.block ?_
  refine WP.seq (fun K101 hK101 => ?_)
  refine WP.seq (fun K102 hK102 => ?_)
  refine WP.region ?_
  refine WL.runk 2 [0, 5, 6, 7, 50] [(0, .slice a0' list_0.length c0'), (5, .pointer (some (at_ a0' (Int.toNat k_1 * 5)))), (6, .string (bs st84.1)), (7, .int .i64 st84.2), (50, .bool (st84.2 == 0))] (by kernel_rfl) ?_
  refine WL.nil ?_
  refine WQ.then_normal (hK102 _ _ _ ?_)
  obtain ⟨x108, hx109, hm⟩ := bindE hm
  refine WP.cut (fun env' w' => env' = [(0, .slice a0' list_0.length c0'), (5, .pointer (some (at_ a0' (Int.toNat k_1 * 5)))), (6, .string (bs x108)), (7, .int .i64 st84.2)] ∧ Ext w w' ∧ w.heap.size ≤ w'.heap.size ∧ SH w' w.heap.size []) ?_ ?_
  · have hm := hx109; clear hx109
    refine WP.cond (st84.2 == 0) rfl rfl (fun hc103 => ?_) (fun hc103 => ?_)
    · have hm := iteT hm hc103
      refine WP.region ?_
      refine WL.runk 1 [0, 5, 7, 51] [(0, .slice a0' list_0.length c0'), (5, .pointer (some (at_ a0' (Int.toNat k_1 * 5)))), (7, .int .i64 st84.2), (51, .string (bs st84.1))] (by kernel_rfl) ?_
      obtain ⟨x110, hx111, hm⟩ := bindE hm
      refine WL.st (.string (bs x110)) (ST.cat hx111 rfl rfl rfl) rfl rfl rfl ?_
      refine WL.runk 1 [0, 5, 6, 7] [(0, .slice a0' list_0.length c0'), (5, .pointer (some (at_ a0' (Int.toNat k_1 * 5)))), (7, .int .i64 st84.2), (6, .string (bs x110))] (by kernel_rfl) ?_
      refine WL.nil ?_
      obtain rfl := Option.some.inj hm
      exact WQ.post' ⟨rfl, hb86, hL87, hS88⟩ ⟨rfl, rfl, rfl, rfl, trivial⟩
    have hm := iteF hm hc103
    refine WP.region ?_
    refine WL.runk 1 [0, 5, 7, 53] [(0, .slice a0' list_0.length c0'), (5, .pointer (some (at_ a0' (Int.toNat k_1 * 5)))), (7, .int .i64 st84.2), (53, .string (bs st84.1))] (by kernel_rfl) ?_
    obtain ⟨x112, hx113, hm⟩ := bindE hm
    refine WL.st (.string (bs x112)) (ST.cat hx113 rfl rfl rfl) rfl rfl rfl ?_
    refine WL.runk 1 [0, 5, 6, 7] [(0, .slice a0' list_0.length c0'), (5, .pointer (some (at_ a0' (Int.toNat k_1 * 5)))), (7, .int .i64 st84.2), (6, .string (bs x112))] (by kernel_rfl) ?_
    refine WL.nil ?_
    obtain rfl := Option.some.inj hm
    exact WQ.post' ⟨rfl, hb86, hL87, hS88⟩ ⟨rfl, rfl, rfl, rfl, trivial⟩
  clear hx109
  rintro _ w114 ⟨rfl, hb115, hL116, hS117⟩
  refine WQ.then_normal (hK101 _ _ _ ?_)
  refine WP.region ?_
  refine WL.runk 5 [0, 5, 7, 55, 56, 59] [(0, .slice a0' list_0.length c0'), (5, .pointer (some (at_ a0' (Int.toNat k_1 * 5)))), (7, .int .i64 st84.2), (55, .string (bs x108)), (56, .slice a0' list_0.length c0'), (59, .pointer (some (at_ a0' (Int.toNat k_1 * 5 + 2))))] (by kernel_rfl) ?_
  refine WL.st (.slice a54 x47.First.length c55) (ST.load (cell_ext ((cells_ext hc59 hb115) 2 _ rfl)) rfl rfl Tryd.underlying30 rfl) rfl rfl rfl ?_
  refine WL.runk 1 [0, 5, 7, 55, 56, 60, 61] [(0, .slice a0' list_0.length c0'), (5, .pointer (some (at_ a0' (Int.toNat k_1 * 5)))), (7, .int .i64 st84.2), (55, .string (bs x108)), (56, .slice a0' list_0.length c0'), (60, .slice a54 x47.First.length c55), (61, .int .i64 st84.2)] (by kernel_rfl) ?_
  obtain ⟨x118, hx119, hm⟩ := bindE hm
  refine WL.st (.pointer (some (at_ a54 (Int.toNat st84.2 * 1)))) (ST.index (T := fInt.ty) (xs := x47.First) (Rd.below hR56 hb115) hx119 rfl rfl rfl Tryd.underlying30 (info2).1 (info2).2.1) rfl rfl rfl ?_
  refine WL.st (.int .i64 x118) (ST.load (cell_ext (Rd.flat (F := fInt) (Rd.below hR56 hb115) hx119 0 rfl)) rfl rfl Tryd.underlying2 rfl) rfl rfl rfl ?_
  obtain ⟨x120, hx121, hm⟩ := bindE hm
  obtain ⟨a122, c123, a127, c128, hc132, hR124, hle125, hR129, hle130⟩ := nest_Repair h0 hx121
  refine WL.st (.pointer (some (at_ a0' (Int.toNat x118 * 5)))) (ST.index (T := fRepair.ty) (xs := list_0) (Rd.below h0 hb115) hx121 rfl rfl rfl Tryd.underlying25 (info36).1 (info36).2.1) rfl rfl rfl ?_
  refine WL.runk 1 [0, 5, 7, 55, 65] [(0, .slice a0' list_0.length c0'), (5, .pointer (some (at_ a0' (Int.toNat k_1 * 5)))), (7, .int .i64 st84.2), (55, .string (bs x108)), (65, .pointer (some (at_ a0' (Int.toNat x118 * 5))))] (by kernel_rfl) ?_
  refine WL.st (.string (bs x120.Name)) (ST.load (cell_ext ((cells_ext hc132 hb115) 0 _ rfl)) rfl rfl Tryd.underlying9 rfl) rfl rfl rfl ?_
  obtain ⟨x133, hx134, hm⟩ := bindE hm
  refine WL.st (.string (bs x133)) (ST.cat hx134 rfl rfl rfl) rfl rfl rfl ?_
  refine WL.runk 1 [0, 5, 6, 7] [(0, .slice a0' list_0.length c0'), (5, .pointer (some (at_ a0' (Int.toNat k_1 * 5)))), (7, .int .i64 st84.2), (6, .string (bs x133))] (by kernel_rfl) ?_
  refine WL.nil ?_
  refine WQ.block_normal ?_
  refine WQ.then_normal (hK100 _ _ _ ?_)
  refine WP.region ?_
  refine WL.runk 3 [0, 5, 6, 7] [(0, .slice a0' list_0.length c0'), (5, .pointer (some (at_ a0' (Int.toNat k_1 * 5)))), (7, .int .i64 (wI64 (st84.2 + 1))), (6, .string (bs x133))] (by kernel_rfl) ?_
  refine WL.nil ?_
  obtain rfl := Option.some.inj hm
  exact WQ.round hK91 ⟨(x133, (wI64 (st84.2 + 1))), rfl, hb115, hL116, hS117, hl89⟩ (Nat.lt_succ_self _) ⟨rfl, rfl, rfl, rfl, trivial⟩

theorem c_22 (n : Nat) (a_0 : List Int) (a0' : Option Addr) (c0' : Nat) (w : World) {r : List Int} (hm : m_laws_toInt64S n a_0 = some r) (h0 : Rd fInt.ty w a0' a_0) (_hle0 : a_0.length ≤ c0') :
    CallV Tryd.prog 22 #[.slice a0' a_0.length c0'] w (fun v w' => ∃ (ra0 : Option Addr) (rc0 : Nat), v = .slice ra0 r.length rc0 ∧ Ext w w' ∧ SH w' w.heap.size [aOwn fInt 2 ra0 rc0 r]) := by
  unfold m_laws_toInt64S at hm
  refine CallV.enter Tryd.func22 rfl (by kernel_rfl) Tryd.ntmps22 (env := [(0, .slice a0' a_0.length c0')]) ⟨rfl, trivial⟩ ?_
  refine WP.seq (fun K1 hK1 => ?_)
  refine WP.region ?_
  refine WL.runk 1 [0] [(0, .slice a0' a_0.length c0')] (by kernel_rfl) ?_
  refine WL.nil ?_
  refine WQ.then_normal (hK1 _ _ _ ?_)
  refine WP.seq (fun K2 hK2 => ?_)
  refine WP.region ?_
  refine WL.runk 2 [0, 6] [(0, .slice a0' a_0.length c0'), (6, .int .i64 (a_0.length : Int))] (by kernel_rfl) ?_
  obtain ⟨x3, hx4, hm⟩ := bindE hm
  refine WL.make fInt 7 hx4 rfl rfl rfl Tryd.underlying30 (info2).1 (info2).2.2.1 (info2).2.1 (info2).2.2.2 rfl rfl rfl rfl rfl ?_
  intro a5 c6 w7 hE8 hR9
  have hb11 : Ext w w7 := Ext.trans (Ext.refl w) hE8
  have hL12 : w.heap.size ≤ w7.heap.size := Nat.le_trans (Nat.le_refl _) hE8.size
  have hS13 : SH w7 w.heap.size [aOwn fInt 2 a5 c6 x3] := SH.add (SH.nil _ _) hE8 (Nat.le_refl _) hR9
  refine WL.runk 1 [0, 3] [(0, .slice a0' a_0.length c0'), (3, .slice a5 x3.length c6)] (by kernel_rfl) ?_
  refine WL.nil ?_
  refine WQ.then_normal (hK2 _ _ _ ?_)
  refine WP.seq (fun K14 hK14 => ?_)
  refine WP.seq (fun K15 hK15 => ?_)
  refine WP.region ?_
  refine WL.runk 1 [0, 3, 4] [(0, .slice a0' a_0.length c0'), (3, .slice a5 x3.length c6), (4, .int .i64 0)] (by kernel_rfl) ?_
  refine WL.nil ?_
  refine WQ.then_normal (hK15 _ _ _ ?_)
  refine WP.block ?_
  obtain ⟨t54, ht55, hm⟩ := bindE hm
  have hmo49 := hm; clear hm
  refine WP.sub [(0, .slice a0' a_0.length c0'), (3, .slice a5 x3.length c6), (4, .int .i64 0)] ⟨rfl, rfl, rfl, trivial⟩ ?_
  refine WP.loop (fun n' env' w' => ∃ (st43 : Int × List Int) , env' = [(0, .slice a0' a_0.length c0'), (3, .slice a5 st43.2.length c6), (4, .int .i64 st43.1)] ∧ Ext w w' ∧ w.heap.size ≤ w'.heap.size ∧ SH w' w.heap.size [aOwn fInt 2 a5 c6 st43.2] ∧ loopN (m_laws_toInt64S_l1 n a_0) n' st43 = some t54) n ⟨(0, x3), rfl, hb11, hL12, hS13, ht55⟩ ?_
  rintro n51 _ w44 ⟨st43, rfl, hb45, hL46, hS47, hl48⟩ K50 hK50
  obtain ⟨n52, s53, rfl, hm, hl48⟩ := loopN_some hl48
  unfold m_laws_toInt64S_l1 at hm
  refine WP.seq (fun K56 hK56 => ?_)
  refine WP.seq (fun K57 hK57 => ?_)
  refine WP.region ?_
  refine WL.runk 4 [0, 3, 4, 11] [(0, .slice a0' a_0.length c0'), (3, .slice a5 st43.2.length c6), (4, .int .i64 st43.1), (11, .bool (decide (st43.1 < (a_0.length : Int))))] (by kernel_rfl) ?_
  refine WL.nil ?_
  refine WQ.then_normal (hK57 _ _ _ ?_)
  refine WP.cond (decide (st43.1 < (a_0.length : Int))) rfl rfl (fun hc58 => ?_) (fun hc58 => ?_)
  rotate_left
  · have hm := iteF hm hc58
    refine WP.exit ?_
    refine WQ.then_exit ?_
    refine WQ.then_exit ?_
    refine WQ.block_here ?_
    obtain rfl := Option.some.inj hm
    obtain rfl := afterN_done hl48
    have hm := hmo49
    refine WQ.then_normal (hK14 _ _ _ ?_)
    refine WP.seq (fun K69 hK69 => ?_)
    refine WP.region ?_
    refine WL.runk 2 [2] [(2, .slice a5 st43.2.length c6)] (by kernel_rfl) ?_
    refine WL.nil ?_
    refine WQ.then_normal (hK69 _ _ _ ?_)
    refine WP.ret ?_
    obtain rfl := Option.some.inj hm
    exact WQ.ret1 _ rfl rfl ⟨_, _, rfl, hb45, hS47⟩
  have hm := iteT hm hc58
  refine WP.skip ?_
  refine WQ.then_normal (hK56 _ _ _ ?_)
  refine WP.seq (fun K59 hK59 => ?_)
  refine WP.block ?_
  refine WP.region ?_
  refine WL.runk 4 [0, 3, 4, 14, 15, 16, 17] [(0, .slice a0' a_0.length c0'), (3, .slice a5 st43.2.length c6), (4, .int .i64 st43.1), (14, .slice a5 st43.2.length c6), (15, .int .i64 st43.1), (16, .slice a0' a_0.length c0'), (17, .int .i64 st43.1)] (by kernel_rfl) ?_
  obtain ⟨x60, hx61, hm⟩ := bindE hm
  refine WL.st (.pointer (some (at_ a0' (Int.toNat st43.1 * 1)))) (ST.index (T := fInt.ty) (xs := a_0) (Rd.below h0 hb45) hx61 rfl rfl rfl Tryd.underlying30 (info2).1 (info2).2.1) rfl rfl rfl ?_
  refine WL.st (.int .i64 x60) (ST.load (cell_ext (Rd.flat (F := fInt) (Rd.below h0 hb45) hx61 0 rfl)) rfl rfl Tryd.underlying2 rfl) rfl rfl rfl ?_
  obtain ⟨x62, hx63, hm⟩ := bindE hm
  refine WL.st (.pointer (some (at_ a5 (Int.toNat st43.1 * 1)))) (ST.index (T := fInt.ty) (xs := st43.2) (SH.rd (SH.front 0 hS47)) hx63 rfl rfl rfl Tryd.underlying30 (info2).1 (info2).2.1) rfl rfl rfl ?_
  refine WL.store (F := fInt) x60 0 [.int .i64 x60] (SH.front 0 hS47) hL46 hx63 rfl rfl rfl rfl rfl rfl rfl (info2).1 (info2).2.1 rfl rfl rfl ?_
  intro w64 hB65 hS66
  have hb67 : Ext w w64 := Below.trans hb45 hB65
  have hL68 : w.heap.size ≤ w64.heap.size := Nat.le_trans hL46 hB65.size
  refine WL.sub [(0, .slice a0' a_0.length c0'), (3, .slice a5 ((st43.2.set (Int.toNat st43.1) x60).length) c6), (4, .int .i64 st43.1), (14, .slice a5 ((st43.2.set (Int.toNat st43.1) x60).length) c6), (15, .int .i64 st43.1), (16, .slice a0' a_0.length c0'), (17, .int .i64 st43.1), (18, .pointer (some (at_ a0' (Int.toNat st43.1 * 1)))), (19, .int .i64 x60)] ⟨rfl, by first | (simp only [List.length_set]; done) | (simp only [List.length_set]; rfl), rfl, by first | (simp only [List.length_set]; done) | (simp only [List.length_set]; rfl), rfl, rfl, rfl, rfl, rfl, trivial⟩ ?_
  refine WL.sub [(0, .slice a0' a_0.length c0'), (3, .slice a5 ((st43.2.set (Int.toNat st43.1) x60).length) c6), (4, .int .i64 st43.1)] ⟨rfl, rfl, rfl, trivial⟩ ?_
  refine WL.nil ?_
  refine WQ.block_normal ?_
  refine WQ.then_normal (hK59 _ _ _ ?_)
  refine WP.region ?_
  refine WL.runk 3 [0, 3, 4] [(0, .slice a0' a_0.length c0'), (3, .slice a5 ((st43.2.set (Int.toNat st43.1) x60).length) c6), (4, .int .i64 (wI64 (st43.1 + 1)))] (by kernel_rfl) ?_
  refine WL.nil ?_
  obtain rfl := Option.some.inj hm
  exact WQ.round hK50 ⟨((wI64 (st43.1 + 1)), (st43.2.set (Int.toNat st43.1) x60)), rfl, hb67, hL68, hS66, hl48⟩ (Nat.lt_succ_self _) ⟨rfl, rfl, rfl, trivial⟩

theorem c_13 (n : Nat) (a_0 : SRepair) (a0_1' : Option Addr) (c0_1' : Nat) (a0_2' : Option Addr) (c0_2' : Nat) (w : World) {r : SRepair} (hm : m_laws_toRepair n a_0 = some r) (hr0_1 : Rd fInt.ty w a0_1' a_0.Mends) (hle0_1 : a_0.Mends.length ≤ c0_1') (hr0_2 : Rd fInt.ty w a0_2' a_0.First) (hle0_2 : a_0.First.length ≤ c0_2') :
    CallV Tryd.prog 13 #[.agg #[.string (bs a_0.Name), .slice a0_1' a_0.Mends.length c0_1', .slice a0_2' a_0.First.length c0_2', .int .i64 a_0.Price, .int .i64 a_0.Hours]] w (fun v w' => ∃ (ra0_1 : Option Addr) (rc0_1 : Nat) (ra0_2 : Option Addr) (rc0_2 : Nat), v = .agg #[.string (bs r.Name), .slice ra0_1 r.Mends.length rc0_1, .slice ra0_2 r.First.length rc0_2, .int .i64 r.Price, .int .i64 r.Hours] ∧ Ext w w' ∧ SH w' w.heap.size [aOwn fInt 2 ra0_1 rc0_1 r.Mends, aOwn fInt 2 ra0_2 rc0_2 r.First]) := by
  unfold m_laws_toRepair at hm
  refine CallV.enter Tryd.func13 rfl (by kernel_rfl) Tryd.ntmps13 (env := [(0, .agg #[.string (bs a_0.Name), .slice a0_1' a_0.Mends.length c0_1', .slice a0_2' a_0.First.length c0_2', .int .i64 a_0.Price, .int .i64 a_0.Hours])]) ⟨rfl, trivial⟩ ?_
  refine WP.seq (fun K1 hK1 => ?_)
  refine WP.region ?_
  refine WL.box 32 [.string (bs a_0.Name), .slice a0_1' a_0.Mends.length c0_1', .slice a0_2' a_0.First.length c0_2', .int .i64 a_0.Price, .int .i64 a_0.Hours] 1 (by kernel_rfl) rfl rfl rfl rfl ?_
  intro b2 w3 hE4 hR5
  have hb7 : Ext w w3 := Ext.trans (Ext.refl w) hE4
  have hL8 : w.heap.size ≤ w3.heap.size := Nat.le_trans (Nat.le_refl _) hE4.size
  have hS9 : SH w3 w.heap.size [aBox 32 b2 [.string (bs a_0.Name), .slice a0_1' a_0.Mends.length c0_1', .slice a0_2' a_0.First.length c0_2', .int .i64 a_0.Price, .int .i64 a_0.Hours]] := SH.add (SH.nil _ _) hE4 (Nat.le_refl _) hR5
  refine WL.box 36 [.string (bs []), .slice none 0 0, .slice none 0 0, .int .i64 0, .int .i64 0] 2 (by kernel_rfl) rfl rfl rfl rfl ?_
  intro b10 w11 hE12 hR13
  have hb15 : Ext w w11 := Ext.trans hb7 hE12
  have hL16 : w.heap.size ≤ w11.heap.size := Nat.le_trans hL8 hE12.size
  have hS17 : SH w11 w.heap.size [aBox 36 b10 [.string (bs []), .slice none 0 0, .slice none 0 0, .int .i64 0, .int .i64 0], aBox 32 b2 [.string (bs a_0.Name), .slice a0_1' a_0.Mends.length c0_1', .slice a0_2' a_0.First.length c0_2', .int .i64 a_0.Price, .int .i64 a_0.Hours]] := SH.add hS9 hE12 hL8 hR13
  refine WL.sub [(1, .pointer (some ⟨b2, 0, none⟩)), (2, .pointer (some ⟨b10, 0, none⟩))] ⟨rfl, rfl, trivial⟩ ?_
  refine WL.nil ?_
  refine WQ.then_normal (hK1 _ _ _ ?_)
  refine WP.seq (fun K18 hK18 => ?_)
  refine WP.region ?_
  refine WL.box 36 [.string (bs []), .slice none 0 0, .slice none 0 0, .int .i64 0, .int .i64 0] 3 (by kernel_rfl) rfl rfl rfl rfl ?_
  intro b19 w20 hE21 hR22
  have hb24 : Ext w w20 := Ext.trans hb15 hE21
  have hL25 : w.heap.size ≤ w20.heap.size := Nat.le_trans hL16 hE21.size
  have hS26 : SH w20 w.heap.size [aBox 36 b19 [.string (bs []), .slice none 0 0, .slice none 0 0, .int .i64 0, .int .i64 0], aBox 36 b10 [.string (bs []), .slice none 0 0, .slice none 0 0, .int .i64 0, .int .i64 0], aBox 32 b2 [.string (bs a_0.Name), .slice a0_1' a_0.Mends.length c0_1', .slice a0_2' a_0.First.length c0_2', .int .i64 a_0.Price, .int .i64 a_0.Hours]] := SH.add hS17 hE21 hL16 hR22
  refine WL.sub [(1, .pointer (some ⟨b2, 0, none⟩)), (2, .pointer (some ⟨b10, 0, none⟩)), (3, .pointer (some ⟨b19, 0, none⟩))] ⟨rfl, rfl, rfl, trivial⟩ ?_
  refine WL.nil ?_
  refine WQ.then_normal (hK18 _ _ _ ?_)
  refine WP.seq (fun K27 hK27 => ?_)
  refine WP.region ?_
  refine WL.runk 1 [1, 2, 3, 4] [(1, .pointer (some ⟨b2, 0, none⟩)), (2, .pointer (some ⟨b10, 0, none⟩)), (3, .pointer (some ⟨b19, 0, none⟩)), (4, .pointer (some ⟨b2, 0, none⟩))] (by kernel_rfl) ?_
  refine WL.st (.string (bs a_0.Name)) (ST.load (cell_ext (SH.boxAt (SH.front 2 hS26) 0 _ rfl)) rfl rfl Tryd.underlying9 rfl) rfl rfl rfl ?_
  refine WL.runk 1 [1, 2, 3, 5, 6] [(1, .pointer (some ⟨b2, 0, none⟩)), (2, .pointer (some ⟨b10, 0, none⟩)), (3, .pointer (some ⟨b19, 0, none⟩)), (5, .string (bs a_0.Name)), (6, .pointer (some ⟨b19, 0, none⟩))] (by kernel_rfl) ?_
  refine WL.boxStore 0 [.string (bs a_0.Name)] [.string (bs a_0.Name), .slice none 0 0, .slice none 0 0, .int .i64 0, .int .i64 0] (SH.front 0 hS26) hL25 rfl rfl rfl rfl rfl rfl rfl (info9).1 (info9).2.1 rfl rfl rfl ?_
  intro w28 hB29 hS30
  have hb31 : Ext w w28 := Below.trans hb24 hB29
  have hL32 : w.heap.size ≤ w28.heap.size := Nat.le_trans hL25 hB29.size
  refine WL.sub [(1, .pointer (some ⟨b2, 0, none⟩)), (2, .pointer (some ⟨b10, 0, none⟩)), (3, .pointer (some ⟨b19, 0, none⟩))] ⟨rfl, rfl, rfl, trivial⟩ ?_
  refine WL.nil ?_
  refine WQ.then_normal (hK27 _ _ _ ?_)
  refine WP.seq (fun K33 hK33 => ?_)
  refine WP.region ?_
  refine WL.runk 1 [1, 2, 3, 7] [(1, .pointer (some ⟨b2, 0, none⟩)), (2, .pointer (some ⟨b10, 0, none⟩)), (3, .pointer (some ⟨b19, 0, none⟩)), (7, .pointer (some ⟨b2, 1, none⟩))] (by kernel_rfl) ?_
  refine WL.st (.slice a0_1' a_0.Mends.length c0_1') (ST.load (cell_ext (SH.boxAt (SH.front 2 hS30) 1 _ rfl)) rfl rfl Tryd.underlying30 rfl) rfl rfl rfl ?_
  obtain ⟨x34, hx35, hm⟩ := bindE hm
  refine WL.call 22 #[.slice a0_1' a_0.Mends.length c0_1'] rfl rfl (by kernel_rfl) (c_22 n a_0.Mends a0_1' c0_1' w28 hx35 (Rd.below hr0_1 hb31) hle0_1) ?_
  rintro _ w39 ⟨a36, c37, rfl, hE40, hR41⟩
  refine ⟨_, rfl, ?_⟩
  have hb42 : Ext w w39 := Ext.trans hb31 hE40
  have hL43 : w.heap.size ≤ w39.heap.size := Nat.le_trans hL32 hE40.size
  have hS44 : SH w39 w.heap.size [aOwn fInt 2 a36 c37 x34, aBox 36 b19 [.string (bs a_0.Name), .slice none 0 0, .slice none 0 0, .int .i64 0, .int .i64 0], aBox 36 b10 [.string (bs []), .slice none 0 0, .slice none 0 0, .int .i64 0, .int .i64 0], aBox 32 b2 [.string (bs a_0.Name), .slice a0_1' a_0.Mends.length c0_1', .slice a0_2' a_0.First.length c0_2', .int .i64 a_0.Price, .int .i64 a_0.Hours]] := SH.add hS30 hE40 hL32 hR41
  refine WL.runk 1 [1, 2, 3, 9, 10] [(1, .pointer (some ⟨b2, 0, none⟩)), (2, .pointer (some ⟨b10, 0, none⟩)), (3, .pointer (some ⟨b19, 0, none⟩)), (9, .slice a36 x34.length c37), (10, .pointer (some ⟨b19, 1, none⟩))] (by kernel_rfl) ?_
  refine WL.boxStore 1 [.slice a36 x34.length c37] [.string (bs a_0.Name), .slice a36 x34.length c37, .slice none 0 0, .int .i64 0, .int .i64 0] (SH.front 1 hS44) hL43 rfl rfl rfl rfl rfl rfl rfl (info30).1 (info30).2.1 rfl rfl rfl ?_
  intro w45 hB46 hS47
  have hb48 : Ext w w45 := Below.trans hb42 hB46
  have hL49 : w.heap.size ≤ w45.heap.size := Nat.le_trans hL43 hB46.size
  refine WL.sub [(1, .pointer (some ⟨b2, 0, none⟩)), (2, .pointer (some ⟨b10, 0, none⟩)), (3, .pointer (some ⟨b19, 0, none⟩))] ⟨rfl, rfl, rfl, trivial⟩ ?_
  refine WL.nil ?_
  refine WQ.then_normal (hK33 _ _ _ ?_)
  refine WP.seq (fun K50 hK50 => ?_)
  refine WP.region ?_
  refine WL.runk 1 [1, 2, 3, 11] [(1, .pointer (some ⟨b2, 0, none⟩)), (2, .pointer (some ⟨b10, 0, none⟩)), (3, .pointer (some ⟨b19, 0, none⟩)), (11, .pointer (some ⟨b2, 2, none⟩))] (by kernel_rfl) ?_
  refine WL.st (.slice a0_2' a_0.First.length c0_2') (ST.load (cell_ext (SH.boxAt (SH.front 3 hS47) 2 _ rfl)) rfl rfl Tryd.underlying30 rfl) rfl rfl rfl ?_
  obtain ⟨x51, hx52, hm⟩ := bindE hm
  refine WL.call 22 #[.slice a0_2' a_0.First.length c0_2'] rfl rfl (by kernel_rfl) (c_22 n a_0.First a0_2' c0_2' w45 hx52 (Rd.below hr0_2 hb48) hle0_2) ?_
  rintro _ w56 ⟨a53, c54, rfl, hE57, hR58⟩
  refine ⟨_, rfl, ?_⟩
  have hb59 : Ext w w56 := Ext.trans hb48 hE57
  have hL60 : w.heap.size ≤ w56.heap.size := Nat.le_trans hL49 hE57.size
  have hS61 : SH w56 w.heap.size [aOwn fInt 2 a53 c54 x51, aBox 36 b19 [.string (bs a_0.Name), .slice a36 x34.length c37, .slice none 0 0, .int .i64 0, .int .i64 0], aOwn fInt 2 a36 c37 x34, aBox 36 b10 [.string (bs []), .slice none 0 0, .slice none 0 0, .int .i64 0, .int .i64 0], aBox 32 b2 [.string (bs a_0.Name), .slice a0_1' a_0.Mends.length c0_1', .slice a0_2' a_0.First.length c0_2', .int .i64 a_0.Price, .int .i64 a_0.Hours]] := SH.add hS47 hE57 hL49 hR58
  refine WL.runk 1 [1, 2, 3, 13, 14] [(1, .pointer (some ⟨b2, 0, none⟩)), (2, .pointer (some ⟨b10, 0, none⟩)), (3, .pointer (some ⟨b19, 0, none⟩)), (13, .slice a53 x51.length c54), (14, .pointer (some ⟨b19, 2, none⟩))] (by kernel_rfl) ?_
  refine WL.boxStore 2 [.slice a53 x51.length c54] [.string (bs a_0.Name), .slice a36 x34.length c37, .slice a53 x51.length c54, .int .i64 0, .int .i64 0] (SH.front 1 hS61) hL60 rfl rfl rfl rfl rfl rfl rfl (info30).1 (info30).2.1 rfl rfl rfl ?_
  intro w62 hB63 hS64
  have hb65 : Ext w w62 := Below.trans hb59 hB63
  have hL66 : w.heap.size ≤ w62.heap.size := Nat.le_trans hL60 hB63.size
  refine WL.sub [(1, .pointer (some ⟨b2, 0, none⟩)), (2, .pointer (some ⟨b10, 0, none⟩)), (3, .pointer (some ⟨b19, 0, none⟩))] ⟨rfl, rfl, rfl, trivial⟩ ?_
  refine WL.nil ?_
  refine WQ.then_normal (hK50 _ _ _ ?_)
  refine WP.seq (fun K67 hK67 => ?_)
  refine WP.region ?_
  refine WL.runk 1 [1, 2, 3, 15] [(1, .pointer (some ⟨b2, 0, none⟩)), (2, .pointer (some ⟨b10, 0, none⟩)), (3, .pointer (some ⟨b19, 0, none⟩)), (15, .pointer (some ⟨b2, 3, none⟩))] (by kernel_rfl) ?_
  refine WL.st (.int .i64 a_0.Price) (ST.load (cell_ext (SH.boxAt (SH.front 4 hS64) 3 _ rfl)) rfl rfl Tryd.underlying2 rfl) rfl rfl rfl ?_
  refine WL.runk 1 [1, 2, 3, 16, 17] [(1, .pointer (some ⟨b2, 0, none⟩)), (2, .pointer (some ⟨b10, 0, none⟩)), (3, .pointer (some ⟨b19, 0, none⟩)), (16, .int .i64 a_0.Price), (17, .pointer (some ⟨b19, 3, none⟩))] (by kernel_rfl) ?_
  refine WL.boxStore 3 [.int .i64 a_0.Price] [.string (bs a_0.Name), .slice a36 x34.length c37, .slice a53 x51.length c54, .int .i64 a_0.Price, .int .i64 0] (SH.front 0 hS64) hL66 rfl rfl rfl rfl rfl rfl rfl (info2).1 (info2).2.1 rfl rfl rfl ?_
  intro w68 hB69 hS70
  have hb71 : Ext w w68 := Below.trans hb65 hB69
  have hL72 : w.heap.size ≤ w68.heap.size := Nat.le_trans hL66 hB69.size
  refine WL.sub [(1, .pointer (some ⟨b2, 0, none⟩)), (2, .pointer (some ⟨b10, 0, none⟩)), (3, .pointer (some ⟨b19, 0, none⟩))] ⟨rfl, rfl, rfl, trivial⟩ ?_
  refine WL.nil ?_
  refine WQ.then_normal (hK67 _ _ _ ?_)
  refine WP.seq (fun K73 hK73 => ?_)
  refine WP.region ?_
  refine WL.runk 1 [2, 3, 18] [(2, .pointer (some ⟨b10, 0, none⟩)), (3, .pointer (some ⟨b19, 0, none⟩)), (18, .pointer (some ⟨b2, 4, none⟩))] (by kernel_rfl) ?_
  refine WL.st (.int .i64 a_0.Hours) (ST.load (cell_ext (SH.boxAt (SH.front 4 hS70) 4 _ rfl)) rfl rfl Tryd.underlying2 rfl) rfl rfl rfl ?_
  refine WL.runk 1 [2, 3, 19, 20] [(2, .pointer (some ⟨b10, 0, none⟩)), (3, .pointer (some ⟨b19, 0, none⟩)), (19, .int .i64 a_0.Hours), (20, .pointer (some ⟨b19, 4, none⟩))] (by kernel_rfl) ?_
  refine WL.boxStore 4 [.int .i64 a_0.Hours] [.string (bs a_0.Name), .slice a36 x34.length c37, .slice a53 x51.length c54, .int .i64 a_0.Price, .int .i64 a_0.Hours] (SH.front 0 hS70) hL72 rfl rfl rfl rfl rfl rfl rfl (info2).1 (info2).2.1 rfl rfl rfl ?_
  intro w74 hB75 hS76
  have hb77 : Ext w w74 := Below.trans hb71 hB75
  have hL78 : w.heap.size ≤ w74.heap.size := Nat.le_trans hL72 hB75.size
  refine WL.sub [(2, .pointer (some ⟨b10, 0, none⟩)), (3, .pointer (some ⟨b19, 0, none⟩))] ⟨rfl, rfl, trivial⟩ ?_
  refine WL.nil ?_
  refine WQ.then_normal (hK73 _ _ _ ?_)
  refine WP.seq (fun K79 hK79 => ?_)
  refine WP.region ?_
  refine WL.st (.agg #[.string (bs a_0.Name), .slice a36 x34.length c37, .slice a53 x51.length c54, .int .i64 a_0.Price, .int .i64 a_0.Hours]) (ST.loadAgg (vs := [.string (bs a_0.Name), .slice a36 x34.length c37, .slice a53 x51.length c54, .int .i64 a_0.Price, .int .i64 a_0.Hours]) (fun j v hv => SH.boxPart (us := [.string (bs a_0.Name), .slice a36 x34.length c37, .slice a53 x51.length c54, .int .i64 a_0.Price, .int .i64 a_0.Hours]) (SH.front 0 hS76) 0 rfl j v hv) rfl rfl rfl Tryd.underlying36 rfl (info36).1 (info36).2.1) rfl rfl rfl ?_
  refine WL.boxStore 0 [.string (bs a_0.Name), .slice a36 x34.length c37, .slice a53 x51.length c54, .int .i64 a_0.Price, .int .i64 a_0.Hours] [.string (bs a_0.Name), .slice a36 x34.length c37, .slice a53 x51.length c54, .int .i64 a_0.Price, .int .i64 a_0.Hours] (SH.front 3 hS76) hL78 rfl rfl rfl rfl rfl rfl rfl (info36).1 (info36).2.1 rfl rfl rfl ?_
  intro w80 hB81 hS82
  have hb83 : Ext w w80 := Below.trans hb77 hB81
  have hL84 : w.heap.size ≤ w80.heap.size := Nat.le_trans hL78 hB81.size
  refine WL.sub [(2, .pointer (some ⟨b10, 0, none⟩))] ⟨rfl, trivial⟩ ?_
  refine WL.nil ?_
  refine WQ.then_normal (hK79 _ _ _ ?_)
  refine WP.ret ?_
  obtain rfl := Option.some.inj hm
  exact WQ.retv1 _ rfl (RVal.box (SH.front 0 hS82) rfl Tryd.underlying36 rfl (info36).1 (info36).2.1) ⟨_, _, _, _, rfl, hb83, (SH.take 2 (SH.front 3 (SH.front 2 hS82)))⟩

theorem c_6 (n : Nat) (a_0 : List SRepair) (a0' : Option Addr) (c0' : Nat) (w : World) {r : List SRepair} (hm : m_laws_toRepairS n a_0 = some r) (h0 : Rd fRepair.ty w a0' a_0) (_hle0 : a_0.length ≤ c0') :
    CallV Tryd.prog 6 #[.slice a0' a_0.length c0'] w (fun v w' => ∃ (ra0 : Option Addr) (rc0 : Nat), v = .slice ra0 r.length rc0 ∧ Ext w w' ∧ SH w' w.heap.size [aNest fRepair 36 2 ra0 rc0 r]) := by
  unfold m_laws_toRepairS at hm
  refine CallV.enter Tryd.func6 rfl (by kernel_rfl) Tryd.ntmps6 (env := [(0, .slice a0' a_0.length c0')]) ⟨rfl, trivial⟩ ?_
  refine WP.seq (fun K1 hK1 => ?_)
  refine WP.region ?_
  refine WL.runk 1 [0] [(0, .slice a0' a_0.length c0')] (by kernel_rfl) ?_
  refine WL.nil ?_
  refine WQ.then_normal (hK1 _ _ _ ?_)
  refine WP.seq (fun K2 hK2 => ?_)
  refine WP.region ?_
  refine WL.runk 2 [0, 6] [(0, .slice a0' a_0.length c0'), (6, .int .i64 (a_0.length : Int))] (by kernel_rfl) ?_
  obtain ⟨x3, hx4, hm⟩ := bindE hm
  refine WL.makeN (ei := 2) fRepair 7 hx4 (.val (Fit.row' rfl (Fit.row' rfl (.val (.val .nil))))) (Emp.row (Emp.row Emp.nil)) rfl rfl rfl Tryd.underlying25 (info36).1 (info36).2.2.1 (info36).2.1 (info36).2.2.2 rfl rfl rfl rfl ?_
  intro a5 c6 w7 hE8 hR9
  have hb11 : Ext w w7 := Ext.trans (Ext.refl w) hE8
  have hL12 : w.heap.size ≤ w7.heap.size := Nat.le_trans (Nat.le_refl _) hE8.size
  have hS13 : SH w7 w.heap.size [aNest fRepair 36 2 a5 c6 x3] := SH.add (SH.nil _ _) hE8 (Nat.le_refl _) hR9
  refine WL.runk 1 [0, 3] [(0, .slice a0' a_0.length c0'), (3, .slice a5 x3.length c6)] (by kernel_rfl) ?_
  refine WL.nil ?_
  refine WQ.then_normal (hK2 _ _ _ ?_)
  refine WP.seq (fun K14 hK14 => ?_)
  refine WP.seq (fun K15 hK15 => ?_)
  refine WP.region ?_
  refine WL.runk 1 [0, 3, 4] [(0, .slice a0' a_0.length c0'), (3, .slice a5 x3.length c6), (4, .int .i64 0)] (by kernel_rfl) ?_
  refine WL.nil ?_
  refine WQ.then_normal (hK15 _ _ _ ?_)
  refine WP.block ?_
  obtain ⟨t87, ht88, hm⟩ := bindE hm
  have hmo82 := hm; clear hm
  refine WP.sub [(0, .slice a0' a_0.length c0'), (3, .slice a5 x3.length c6), (4, .int .i64 0)] ⟨rfl, rfl, rfl, trivial⟩ ?_
  refine WP.loop (fun n' env' w' => ∃ (st76 : Int × List SRepair) , env' = [(0, .slice a0' a_0.length c0'), (3, .slice a5 st76.2.length c6), (4, .int .i64 st76.1)] ∧ Ext w w' ∧ w.heap.size ≤ w'.heap.size ∧ SH w' w.heap.size [aNest fRepair 36 2 a5 c6 st76.2] ∧ loopN (m_laws_toRepairS_l1 n a_0) n' st76 = some t87) n ⟨(0, x3), rfl, hb11, hL12, hS13, ht88⟩ ?_
  rintro n84 _ w77 ⟨st76, rfl, hb78, hL79, hS80, hl81⟩ K83 hK83
  obtain ⟨n85, s86, rfl, hm, hl81⟩ := loopN_some hl81
  unfold m_laws_toRepairS_l1 at hm
  refine WP.seq (fun K89 hK89 => ?_)
  refine WP.seq (fun K90 hK90 => ?_)
  refine WP.region ?_
  refine WL.runk 4 [0, 3, 4, 11] [(0, .slice a0' a_0.length c0'), (3, .slice a5 st76.2.length c6), (4, .int .i64 st76.1), (11, .bool (decide (st76.1 < (a_0.length : Int))))] (by kernel_rfl) ?_
  refine WL.nil ?_
  refine WQ.then_normal (hK90 _ _ _ ?_)
  refine WP.cond (decide (st76.1 < (a_0.length : Int))) rfl rfl (fun hc91 => ?_) (fun hc91 => ?_)
  rotate_left
  · have hm := iteF hm hc91
    refine WP.exit ?_
    refine WQ.then_exit ?_
    refine WQ.then_exit ?_
    refine WQ.block_here ?_
    obtain rfl := Option.some.inj hm
    obtain rfl := afterN_done hl81
    have hm := hmo82
    refine WQ.then_normal (hK14 _ _ _ ?_)
    refine WP.seq (fun K135 hK135 => ?_)
    refine WP.region ?_
    refine WL.runk 2 [2] [(2, .slice a5 st76.2.length c6)] (by kernel_rfl) ?_
    refine WL.nil ?_
    refine WQ.then_normal (hK135 _ _ _ ?_)
    refine WP.ret ?_
    obtain rfl := Option.some.inj hm
    exact WQ.ret1 _ rfl rfl ⟨_, _, rfl, hb78, hS80⟩
  have hm := iteT hm hc91
  refine WP.skip ?_
  refine WQ.then_normal (hK89 _ _ _ ?_)
  refine WP.seq (fun K92 hK92 => ?_)
  refine WP.block ?_
  refine WP.region ?_
  refine WL.runk 4 [0, 3, 4, 14, 15, 16, 17] [(0, .slice a0' a_0.length c0'), (3, .slice a5 st76.2.length c6), (4, .int .i64 st76.1), (14, .slice a5 st76.2.length c6), (15, .int .i64 st76.1), (16, .slice a0' a_0.length c0'), (17, .int .i64 st76.1)] (by kernel_rfl) ?_
  obtain ⟨x93, hx94, hm⟩ := bindE hm
  obtain ⟨a95, c96, a100, c101, hc105, hR97, hle98, hR102, hle103⟩ := nest_Repair h0 hx94
  refine WL.st (.pointer (some (at_ a0' (Int.toNat st76.1 * 5)))) (ST.index (T := fRepair.ty) (xs := a_0) (Rd.below h0 hb78) hx94 rfl rfl rfl Tryd.underlying22 (info32).1 (info32).2.1) rfl rfl rfl ?_
  refine WL.st (.agg #[.string (bs x93.Name), .slice a95 x93.Mends.length c96, .slice a100 x93.First.length c101, .int .i64 x93.Price, .int .i64 x93.Hours]) (ST.loadAgg (vs := [.string (bs x93.Name), .slice a95 x93.Mends.length c96, .slice a100 x93.First.length c101, .int .i64 x93.Price, .int .i64 x93.Hours]) (at_agg (cells_ext hc105 hb78)) rfl rfl rfl Tryd.underlying32 rfl (info32).1 (info32).2.1) rfl rfl rfl ?_
  obtain ⟨x106, hx107, hm⟩ := bindE hm
  refine WL.call 13 #[.agg #[.string (bs x93.Name), .slice a95 x93.Mends.length c96, .slice a100 x93.First.length c101, .int .i64 x93.Price, .int .i64 x93.Hours]] rfl rfl (by kernel_rfl) (c_13 n x93 a95 c96 a100 c101 w77 hx107 (Rd.below hR97 hb78) hle98 (Rd.below hR102 hb78) hle103) ?_
  rintro _ w114 ⟨a108, c109, a111, c112, rfl, hE115, hR116⟩
  refine ⟨_, rfl, ?_⟩
  have hb117 : Ext w w114 := Ext.trans hb78 hE115
  have hL118 : w.heap.size ≤ w114.heap.size := Nat.le_trans hL79 hE115.size
  have hS119 : SH w114 w.heap.size [aOwn fInt 2 a108 c109 x106.Mends, aOwn fInt 2 a111 c112 x106.First, aNest fRepair 36 2 a5 c6 st76.2] := SH.add hS80 hE115 hL79 hR116
  obtain ⟨x120, hx121, hm⟩ := bindE hm
  obtain ⟨a122, c123, a125, c126, hS128⟩ := elem_Repair (SH.front 2 hS119) hx121
  refine WL.st (.pointer (some (at_ a5 (Int.toNat st76.1 * 5)))) (ST.index (T := fRepair.ty) (xs := st76.2) (SH.rdN (SH.front 2 hS119)) hx121 rfl rfl rfl Tryd.underlying25 (info36).1 (info36).2.1) rfl rfl rfl ?_
  refine WL.holeStore 0 [.string (bs x106.Name), .slice a108 x106.Mends.length c109, .slice a111 x106.First.length c112, .int .i64 x106.Price, .int .i64 x106.Hours] [.string (bs x106.Name), .slice a108 x106.Mends.length c109, .slice a111 x106.First.length c112, .int .i64 x106.Price, .int .i64 x106.Hours] (SH.front 2 hS128) hL118 rfl rfl rfl rfl rfl rfl rfl (info36).1 (info36).2.1 rfl rfl rfl ?_
  intro w129 hB130 hS131
  have hb132 : Ext w w129 := Below.trans hb117 hB130
  have hL133 : w.heap.size ≤ w129.heap.size := Nat.le_trans hL118 hB130.size
  refine WL.sub [(0, .slice a0' a_0.length c0'), (3, .slice a5 st76.2.length c6), (4, .int .i64 st76.1)] ⟨rfl, rfl, rfl, trivial⟩ ?_
  have hS134 : SH w129 w.heap.size [aNest fRepair 36 2 a5 c6 (st76.2.set (Int.toNat st76.1) x106), aOwn fInt 2 a122 c123 x120.Mends, aOwn fInt 2 a125 c126 x120.First] := SH.elemBack (Ix := [aOwn fInt 2 a108 c109 x106.Mends, aOwn fInt 2 a111 c112 x106.First]) (x' := x106) (SH.front 4 (SH.front 4 (SH.front 2 (SH.front 2 (SH.front 2 hS131))))) (.val (Fit.row' rfl (Fit.row' rfl (.val (.val .nil)))))
  refine WL.sub [(0, .slice a0' a_0.length c0'), (3, .slice a5 ((st76.2.set (Int.toNat st76.1) x106).length) c6), (4, .int .i64 st76.1)] ⟨rfl, by first | (simp only [List.length_set]; done) | (simp only [List.length_set]; rfl), rfl, trivial⟩ ?_
  refine WL.nil ?_
  refine WQ.block_normal ?_
  refine WQ.then_normal (hK92 _ _ _ ?_)
  refine WP.region ?_
  refine WL.runk 3 [0, 3, 4] [(0, .slice a0' a_0.length c0'), (3, .slice a5 ((st76.2.set (Int.toNat st76.1) x106).length) c6), (4, .int .i64 (wI64 (st76.1 + 1)))] (by kernel_rfl) ?_
  refine WL.nil ?_
  obtain rfl := Option.some.inj hm
  exact WQ.round hK83 ⟨((wI64 (st76.1 + 1)), (st76.2.set (Int.toNat st76.1) x106)), rfl, hb132, hL133, (SH.take 1 hS134), hl81⟩ (Nat.lt_succ_self _) ⟨rfl, rfl, rfl, trivial⟩

theorem c_15 (n : Nat) (n_0 : Int) (low_1 : Int) (high_2 : Int) (w : World) {r : Bool} (hm : m_impl_within n n_0 low_1 high_2 = some r)  :
    CallV Tryd.prog 15 #[.int .i64 n_0, .int .i64 low_1, .int .i64 high_2] w (fun v w' => v = .bool r ∧ Ext w w') := by
  unfold m_impl_within at hm
  refine CallV.enter Tryd.func15 rfl (by kernel_rfl) Tryd.ntmps15 (env := [(0, .int .i64 n_0), (1, .int .i64 low_1), (2, .int .i64 high_2)]) ⟨rfl, rfl, rfl, trivial⟩ ?_
  refine WP.seq (fun K1 hK1 => ?_)
  refine WP.region ?_
  refine WL.runk 1 [0, 1, 2] [(0, .int .i64 n_0), (1, .int .i64 low_1), (2, .int .i64 high_2)] (by kernel_rfl) ?_
  refine WL.nil ?_
  refine WQ.then_normal (hK1 _ _ _ ?_)
  refine WP.seq (fun K2 hK2 => ?_)
  obtain ⟨x4, hx5, hm⟩ := bindE hm
  refine WP.cut (fun env' w' => env' = [(6, .bool x4)] ∧ Ext w w' ∧ w.heap.size ≤ w'.heap.size ∧ SH w' w.heap.size []) ?_ ?_
  rotate_left
  · clear hx5
    rintro _ w7 ⟨rfl, hb8, hL9, hS10⟩
    refine WQ.then_normal (hK2 _ _ _ ?_)
    refine WP.ret ?_
    obtain rfl := Option.some.inj hm
    exact WQ.ret1 _ rfl rfl ⟨rfl, hb8⟩
  have hm := hx5; clear hx5
  refine WP.region ?_
  refine WL.runk 4 [0, 2, 10] [(0, .int .i64 n_0), (2, .int .i64 high_2), (10, .bool (decide (n_0 ≥ low_1)))] (by kernel_rfl) ?_
  refine WL.case (decide (n_0 ≥ low_1)) [10] ⟨rfl, trivial⟩ (fun hc6 => ?_) (fun hc6 => ?_)
  · have hm := iteT hm hc6
    refine WL.runk 5 [6] [(6, .bool (decide (n_0 ≤ high_2)))] (by kernel_rfl) ?_
    refine WL.nil ?_
    obtain rfl := Option.some.inj hm
    exact WQ.post' ⟨rfl, (Ext.refl w), (Nat.le_refl _), (SH.nil _ _)⟩ ⟨rfl, trivial⟩
  have hm := iteF hm hc6
  refine WL.runk 5 [6] [(6, .bool false)] (by kernel_rfl) ?_
  refine WL.nil ?_
  obtain rfl := Option.some.inj hm
  exact WQ.post' ⟨rfl, (Ext.refl w), (Nat.le_refl _), (SH.nil _ _)⟩ ⟨rfl, trivial⟩

theorem c_23 (n : Nat) (s_0 : List UInt8) (w : World) {r : Bool} (hm : m_impl_IsName n s_0 = some r)  :
    CallV Tryd.prog 23 #[.string (bs s_0)] w (fun v w' => v = .bool r ∧ Ext w w') := by
  unfold m_impl_IsName at hm
  refine CallV.enter Tryd.func23 rfl (by kernel_rfl) Tryd.ntmps23 (env := [(0, .string (bs s_0))]) ⟨rfl, trivial⟩ ?_
  refine WP.seq (fun K1 hK1 => ?_)
  refine WP.region ?_
  refine WL.runk 1 [0] [(0, .string (bs s_0))] (by kernel_rfl) ?_
  refine WL.nil ?_
  refine WQ.then_normal (hK1 _ _ _ ?_)
  refine WP.seq (fun K2 hK2 => ?_)
  refine WP.seq (fun K3 hK3 => ?_)
  obtain ⟨x11, hx12, hm⟩ := bindE hm
  refine WP.cut (fun env' w' => env' = [(0, .string (bs s_0)), (21, .bool x11)] ∧ Ext w w' ∧ w.heap.size ≤ w'.heap.size ∧ SH w' w.heap.size []) ?_ ?_
  · have hm := hx12; clear hx12
    refine WP.region ?_
    refine WL.runk 4 [0, 7] [(0, .string (bs s_0)), (7, .bool (decide ((s_0.length : Int) < 1)))] (by kernel_rfl) ?_
    refine WL.case (decide ((s_0.length : Int) < 1)) [7] ⟨rfl, trivial⟩ (fun hc13 => ?_) (fun hc13 => ?_)
    · have hm := iteT hm hc13
      refine WL.runk 14 [0, 21] [(0, .string (bs s_0)), (21, .bool true)] (by kernel_rfl) ?_
      refine WL.nil ?_
      obtain rfl := Option.some.inj hm
      exact WQ.post' ⟨rfl, (Ext.refl w), (Nat.le_refl _), (SH.nil _ _)⟩ ⟨rfl, rfl, trivial⟩
    have hm := iteF hm hc13
    refine WL.runk 5 [0, 12] [(0, .string (bs s_0)), (12, .bool (decide ((s_0.length : Int) > 12)))] (by kernel_rfl) ?_
    refine WL.case (decide ((s_0.length : Int) > 12)) [12] ⟨rfl, trivial⟩ (fun hc14 => ?_) (fun hc14 => ?_)
    · have hm := iteT hm hc14
      refine WL.runk 9 [0, 21] [(0, .string (bs s_0)), (21, .bool true)] (by kernel_rfl) ?_
      refine WL.nil ?_
      obtain rfl := Option.some.inj hm
      exact WQ.post' ⟨rfl, (Ext.refl w), (Nat.le_refl _), (SH.nil _ _)⟩ ⟨rfl, rfl, trivial⟩
    have hm := iteF hm hc14
    refine WL.runk 1 [0, 12, 13] [(0, .string (bs s_0)), (12, .bool false), (13, .string (bs s_0))] (by kernel_rfl) ?_
    obtain ⟨x15, hx16, hm⟩ := bindE hm
    refine WL.st (.int .u8 (x15.toNat : Int)) (ST.sindex hx16 rfl rfl rfl Tryd.underlying9) rfl rfl rfl ?_
    refine WL.runk 3 [0, 17] [(0, .string (bs s_0)), (17, .bool (decide ((x15.toNat : Int) < 97)))] (by kernel_rfl) ?_
    refine WL.case (decide ((x15.toNat : Int) < 97)) [17] ⟨rfl, trivial⟩ (fun hc17 => ?_) (fun hc17 => ?_)
    · have hm := iteT hm hc17
      refine WL.runk 4 [0, 21] [(0, .string (bs s_0)), (21, .bool true)] (by kernel_rfl) ?_
      refine WL.nil ?_
      obtain rfl := Option.some.inj hm
      exact WQ.post' ⟨rfl, (Ext.refl w), (Nat.le_refl _), (SH.nil _ _)⟩ ⟨rfl, rfl, trivial⟩
    have hm := iteF hm hc17
    refine WL.runk 1 [0, 17, 18] [(0, .string (bs s_0)), (17, .bool false), (18, .string (bs s_0))] (by kernel_rfl) ?_
    obtain ⟨x18, hx19, hm⟩ := bindE hm
    refine WL.st (.int .u8 (x18.toNat : Int)) (ST.sindex hx19 rfl rfl rfl Tryd.underlying9) rfl rfl rfl ?_
    refine WL.runk 2 [0, 21] [(0, .string (bs s_0)), (21, .bool (decide ((x18.toNat : Int) > 122)))] (by kernel_rfl) ?_
    refine WL.nil ?_
    obtain rfl := Option.some.inj hm
    exact WQ.post' ⟨rfl, (Ext.refl w), (Nat.le_refl _), (SH.nil _ _)⟩ ⟨rfl, rfl, trivial⟩
  clear hx12
  rintro _ w20 ⟨rfl, hb21, hL22, hS23⟩
  refine WQ.then_normal (hK3 _ _ _ ?_)
  refine WP.cond x11 rfl rfl (fun hc24 => ?_) (fun hc24 => ?_)
  · have hm := iteT hm hc24
    refine WP.seq (fun K25 hK25 => ?_)
    refine WP.region ?_
    refine WL.runk 1 [2] [(2, .bool false)] (by kernel_rfl) ?_
    refine WL.nil ?_
    refine WQ.then_normal (hK25 _ _ _ ?_)
    refine WP.ret ?_
    refine WQ.then_ret ?_
    obtain rfl := Option.some.inj hm
    exact WQ.ret1 _ rfl rfl ⟨rfl, hb21⟩
  have hm := iteF hm hc24
  refine WP.skip ?_
  refine WQ.then_normal (hK2 _ _ _ ?_)
  refine WP.seq (fun K26 hK26 => ?_)
  refine WP.seq (fun K27 hK27 => ?_)
  refine WP.region ?_
  refine WL.runk 1 [0, 3] [(0, .string (bs s_0)), (3, .int .i64 1)] (by kernel_rfl) ?_
  refine WL.nil ?_
  refine WQ.then_normal (hK27 _ _ _ ?_)
  refine WP.block ?_
  obtain ⟨t39, ht40, hm⟩ := bindE hm
  have hmo34 := hm; clear hm
  refine WP.sub [(0, .string (bs s_0)), (3, .int .i64 1)] ⟨rfl, rfl, trivial⟩ ?_
  refine WP.loop (fun n' env' w' => ∃ (st28 : Int) , env' = [(0, .string (bs s_0)), (3, .int .i64 st28)] ∧ Ext w w' ∧ w.heap.size ≤ w'.heap.size ∧ SH w' w.heap.size [] ∧ loopN (m_impl_IsName_l1 n s_0) n' st28 = some t39) n ⟨1, rfl, hb21, hL22, hS23, ht40⟩ ?_
  rintro n36 _ w29 ⟨st28, rfl, hb30, hL31, hS32, hl33⟩ K35 hK35
  obtain ⟨n37, s38, rfl, hm, hl33⟩ := loopN_some hl33
  unfold m_impl_IsName_l1 at hm
  refine WP.seq (fun K41 hK41 => ?_)
  refine WP.seq (fun K42 hK42 => ?_)
  refine WP.region ?_
  refine WL.runk 4 [0, 3, 25] [(0, .string (bs s_0)), (3, .int .i64 st28), (25, .bool (decide (st28 < (s_0.length : Int))))] (by kernel_rfl) ?_
  refine WL.nil ?_
  refine WQ.then_normal (hK42 _ _ _ ?_)
  refine WP.cond (decide (st28 < (s_0.length : Int))) rfl rfl (fun hc43 => ?_) (fun hc43 => ?_)
  rotate_left
  · have hm := iteF hm hc43
    refine WP.exit ?_
    refine WQ.then_exit ?_
    refine WQ.then_exit ?_
    refine WQ.block_here ?_
    obtain rfl := Option.some.inj hm
    obtain rfl := afterN_done hl33
    have hm := hmo34
    refine WQ.then_normal (hK26 _ _ _ ?_)
    refine WP.seq (fun K106 hK106 => ?_)
    refine WP.region ?_
    refine WL.runk 1 [2] [(2, .bool true)] (by kernel_rfl) ?_
    refine WL.nil ?_
    refine WQ.then_normal (hK106 _ _ _ ?_)
    refine WP.ret ?_
    obtain rfl := Option.some.inj hm
    exact WQ.ret1 _ rfl rfl ⟨rfl, hb30⟩
  have hm := iteT hm hc43
  refine WP.skip ?_
  refine WQ.then_normal (hK41 _ _ _ ?_)
  refine WP.seq (fun K44 hK44 => ?_)
  refine WP.block ?_
  refine WP.seq (fun K45 hK45 => ?_)
  obtain ⟨x72, hx73, hm⟩ := bindE hm
  refine WP.cut (fun env' w' => env' = [(0, .string (bs s_0)), (3, .int .i64 st28), (55, .bool x72)] ∧ Ext w w' ∧ w.heap.size ≤ w'.heap.size ∧ SH w' w.heap.size []) ?_ ?_
  rotate_left
  · clear hx73
    rintro _ w100 ⟨rfl, hb101, hL102, hS103⟩
    refine WQ.then_normal (hK45 _ _ _ ?_)
    refine WP.cond x72 rfl rfl (fun hc104 => ?_) (fun hc104 => ?_)
    rotate_left
    · have hm := iteF hm hc104
      refine WP.skip ?_
      refine WQ.block_normal ?_
      refine WQ.then_normal (hK44 _ _ _ ?_)
      refine WP.region ?_
      refine WL.runk 3 [0, 3] [(0, .string (bs s_0)), (3, .int .i64 (wI64 (st28 + 1)))] (by kernel_rfl) ?_
      refine WL.nil ?_
      obtain rfl := Option.some.inj hm
      exact WQ.round hK35 ⟨(wI64 (st28 + 1)), rfl, hb101, hL102, hS103, hl33⟩ (Nat.lt_succ_self _) ⟨rfl, rfl, trivial⟩
    have hm := iteT hm hc104
    refine WP.seq (fun K105 hK105 => ?_)
    refine WP.region ?_
    refine WL.runk 1 [2] [(2, .bool false)] (by kernel_rfl) ?_
    refine WL.nil ?_
    refine WQ.then_normal (hK105 _ _ _ ?_)
    refine WP.ret ?_
    refine WQ.block_ret ?_
    refine WQ.then_ret ?_
    refine WQ.then_ret ?_
    refine WQ.block_ret ?_
    refine WQ.then_ret ?_
    obtain rfl := Option.some.inj hm
    obtain rfl := afterN_done hl33
    have hm := hmo34
    obtain rfl := Option.some.inj hm
    exact WQ.ret1 _ rfl rfl ⟨rfl, hb101⟩
  have hm := hx73; clear hx73
  refine WP.region ?_
  refine WL.runk 2 [0, 3, 28, 29] [(0, .string (bs s_0)), (3, .int .i64 st28), (28, .string (bs s_0)), (29, .int .i64 st28)] (by kernel_rfl) ?_
  obtain ⟨x74, hx75, hm⟩ := bindE hm
  refine WL.st (.int .u8 (x74.toNat : Int)) (ST.sindex hx75 rfl rfl rfl Tryd.underlying9) rfl rfl rfl ?_
  refine WL.runk 2 [0, 3, 32] [(0, .string (bs s_0)), (3, .int .i64 st28), (32, .bool (decide ((x74.toNat : Int) < 97)))] (by kernel_rfl) ?_
  refine WL.case (decide ((x74.toNat : Int) < 97)) [32] ⟨rfl, trivial⟩ (fun hc76 => ?_) (fun hc76 => ?_)
  · have hm := iteT hm hc76
    refine WL.runk 8 [0, 3, 38, 39, 40] [(0, .string (bs s_0)), (3, .int .i64 st28), (38, .bool true), (39, .string (bs s_0)), (40, .int .i64 st28)] (by kernel_rfl) ?_
    obtain ⟨x77, hx78, hm⟩ := bindE hm
    refine WL.st (.int .u8 (x77.toNat : Int)) (ST.sindex hx78 rfl rfl rfl Tryd.underlying9) rfl rfl rfl ?_
    refine WL.runk 2 [0, 3, 38, 43] [(0, .string (bs s_0)), (3, .int .i64 st28), (38, .bool true), (43, .bool (decide ((x77.toNat : Int) < 48)))] (by kernel_rfl) ?_
    refine WL.case (decide ((x77.toNat : Int) < 48)) [43] ⟨rfl, trivial⟩ (fun hc79 => ?_) (fun hc79 => ?_)
    · have hm := iteT hm hc79
      refine WL.runk 9 [0, 3, 50, 51, 52] [(0, .string (bs s_0)), (3, .int .i64 st28), (50, .bool true), (51, .string (bs s_0)), (52, .int .i64 st28)] (by kernel_rfl) ?_
      obtain ⟨x80, hx81, hm⟩ := bindE hm
      refine WL.st (.int .u8 (x80.toNat : Int)) (ST.sindex hx81 rfl rfl rfl Tryd.underlying9) rfl rfl rfl ?_
      refine WL.runk 2 [0, 3, 55] [(0, .string (bs s_0)), (3, .int .i64 st28), (55, .bool ((x80.toNat : Int) != 45))] (by kernel_rfl) ?_
      refine WL.nil ?_
      obtain rfl := Option.some.inj hm
      exact WQ.post' ⟨rfl, hb30, hL31, hS32⟩ ⟨rfl, rfl, rfl, trivial⟩
    have hm := iteF hm hc79
    refine WL.runk 2 [0, 3, 38, 43, 44, 45] [(0, .string (bs s_0)), (3, .int .i64 st28), (38, .bool true), (43, .bool false), (44, .string (bs s_0)), (45, .int .i64 st28)] (by kernel_rfl) ?_
    obtain ⟨x82, hx83, hm⟩ := bindE hm
    refine WL.st (.int .u8 (x82.toNat : Int)) (ST.sindex hx83 rfl rfl rfl Tryd.underlying9) rfl rfl rfl ?_
    refine WL.runk 4 [0, 3, 50] [(0, .string (bs s_0)), (3, .int .i64 st28), (50, .bool (decide ((x82.toNat : Int) > 57)))] (by kernel_rfl) ?_
    refine WL.case (decide ((x82.toNat : Int) > 57)) [50] ⟨rfl, trivial⟩ (fun hc84 => ?_) (fun hc84 => ?_)
    rotate_left
    · have hm := iteF hm hc84
      refine WL.runk 5 [0, 3, 55] [(0, .string (bs s_0)), (3, .int .i64 st28), (55, .bool false)] (by kernel_rfl) ?_
      refine WL.nil ?_
      obtain rfl := Option.some.inj hm
      exact WQ.post' ⟨rfl, hb30, hL31, hS32⟩ ⟨rfl, rfl, rfl, trivial⟩
    have hm := iteT hm hc84
    refine WL.runk 2 [0, 3, 50, 51, 52] [(0, .string (bs s_0)), (3, .int .i64 st28), (50, .bool true), (51, .string (bs s_0)), (52, .int .i64 st28)] (by kernel_rfl) ?_
    obtain ⟨x85, hx86, hm⟩ := bindE hm
    refine WL.st (.int .u8 (x85.toNat : Int)) (ST.sindex hx86 rfl rfl rfl Tryd.underlying9) rfl rfl rfl ?_
    refine WL.runk 2 [0, 3, 55] [(0, .string (bs s_0)), (3, .int .i64 st28), (55, .bool ((x85.toNat : Int) != 45))] (by kernel_rfl) ?_
    refine WL.nil ?_
    obtain rfl := Option.some.inj hm
    exact WQ.post' ⟨rfl, hb30, hL31, hS32⟩ ⟨rfl, rfl, rfl, trivial⟩
  have hm := iteF hm hc76
  refine WL.runk 2 [0, 3, 32, 33, 34] [(0, .string (bs s_0)), (3, .int .i64 st28), (32, .bool false), (33, .string (bs s_0)), (34, .int .i64 st28)] (by kernel_rfl) ?_
  obtain ⟨x87, hx88, hm⟩ := bindE hm
  refine WL.st (.int .u8 (x87.toNat : Int)) (ST.sindex hx88 rfl rfl rfl Tryd.underlying9) rfl rfl rfl ?_
  refine WL.runk 3 [0, 3, 38] [(0, .string (bs s_0)), (3, .int .i64 st28), (38, .bool (decide ((x87.toNat : Int) > 122)))] (by kernel_rfl) ?_
  refine WL.case (decide ((x87.toNat : Int) > 122)) [38] ⟨rfl, trivial⟩ (fun hc89 => ?_) (fun hc89 => ?_)
  rotate_left
  · have hm := iteF hm hc89
    refine WL.runk 17 [0, 3, 55] [(0, .string (bs s_0)), (3, .int .i64 st28), (55, .bool false)] (by kernel_rfl) ?_
    refine WL.nil ?_
    obtain rfl := Option.some.inj hm
    exact WQ.post' ⟨rfl, hb30, hL31, hS32⟩ ⟨rfl, rfl, rfl, trivial⟩
  have hm := iteT hm hc89
  refine WL.runk 2 [0, 3, 38, 39, 40] [(0, .string (bs s_0)), (3, .int .i64 st28), (38, .bool true), (39, .string (bs s_0)), (40, .int .i64 st28)] (by kernel_rfl) ?_
  obtain ⟨x90, hx91, hm⟩ := bindE hm
  refine WL.st (.int .u8 (x90.toNat : Int)) (ST.sindex hx91 rfl rfl rfl Tryd.underlying9) rfl rfl rfl ?_
  refine WL.runk 2 [0, 3, 38, 43] [(0, .string (bs s_0)), (3, .int .i64 st28), (38, .bool true), (43, .bool (decide ((x90.toNat : Int) < 48)))] (by kernel_rfl) ?_
  refine WL.case (decide ((x90.toNat : Int) < 48)) [43] ⟨rfl, trivial⟩ (fun hc92 => ?_) (fun hc92 => ?_)
  · have hm := iteT hm hc92
    refine WL.runk 9 [0, 3, 50, 51, 52] [(0, .string (bs s_0)), (3, .int .i64 st28), (50, .bool true), (51, .string (bs s_0)), (52, .int .i64 st28)] (by kernel_rfl) ?_
    obtain ⟨x93, hx94, hm⟩ := bindE hm
    refine WL.st (.int .u8 (x93.toNat : Int)) (ST.sindex hx94 rfl rfl rfl Tryd.underlying9) rfl rfl rfl ?_
    refine WL.runk 2 [0, 3, 55] [(0, .string (bs s_0)), (3, .int .i64 st28), (55, .bool ((x93.toNat : Int) != 45))] (by kernel_rfl) ?_
    refine WL.nil ?_
    obtain rfl := Option.some.inj hm
    exact WQ.post' ⟨rfl, hb30, hL31, hS32⟩ ⟨rfl, rfl, rfl, trivial⟩
  have hm := iteF hm hc92
  refine WL.runk 2 [0, 3, 38, 43, 44, 45] [(0, .string (bs s_0)), (3, .int .i64 st28), (38, .bool true), (43, .bool false), (44, .string (bs s_0)), (45, .int .i64 st28)] (by kernel_rfl) ?_
  obtain ⟨x95, hx96, hm⟩ := bindE hm
  refine WL.st (.int .u8 (x95.toNat : Int)) (ST.sindex hx96 rfl rfl rfl Tryd.underlying9) rfl rfl rfl ?_
  refine WL.runk 4 [0, 3, 50] [(0, .string (bs s_0)), (3, .int .i64 st28), (50, .bool (decide ((x95.toNat : Int) > 57)))] (by kernel_rfl) ?_
  refine WL.case (decide ((x95.toNat : Int) > 57)) [50] ⟨rfl, trivial⟩ (fun hc97 => ?_) (fun hc97 => ?_)
  rotate_left
  · have hm := iteF hm hc97
    refine WL.runk 5 [0, 3, 55] [(0, .string (bs s_0)), (3, .int .i64 st28), (55, .bool false)] (by kernel_rfl) ?_
    refine WL.nil ?_
    obtain rfl := Option.some.inj hm
    exact WQ.post' ⟨rfl, hb30, hL31, hS32⟩ ⟨rfl, rfl, rfl, trivial⟩
  have hm := iteT hm hc97
  refine WL.runk 2 [0, 3, 50, 51, 52] [(0, .string (bs s_0)), (3, .int .i64 st28), (50, .bool true), (51, .string (bs s_0)), (52, .int .i64 st28)] (by kernel_rfl) ?_
  obtain ⟨x98, hx99, hm⟩ := bindE hm
  refine WL.st (.int .u8 (x98.toNat : Int)) (ST.sindex hx99 rfl rfl rfl Tryd.underlying9) rfl rfl rfl ?_
  refine WL.runk 2 [0, 3, 55] [(0, .string (bs s_0)), (3, .int .i64 st28), (55, .bool ((x98.toNat : Int) != 45))] (by kernel_rfl) ?_
  refine WL.nil ?_
  obtain rfl := Option.some.inj hm
  exact WQ.post' ⟨rfl, hb30, hL31, hS32⟩ ⟨rfl, rfl, rfl, trivial⟩

theorem c_25 (n : Nat) (list_0 : List Int) (a0' : Option Addr) (c0' : Nat) (low_1 : Int) (high_2 : Int) (w : World) {r : Bool} (hm : m_impl_isIncreasing n list_0 low_1 high_2 = some r) (h0 : Rd fInt.ty w a0' list_0) (_hle0 : list_0.length ≤ c0') :
    CallV Tryd.prog 25 #[.slice a0' list_0.length c0', .int .i64 low_1, .int .i64 high_2] w (fun v w' => v = .bool r ∧ Ext w w') := by
  unfold m_impl_isIncreasing at hm
  refine CallV.enter Tryd.func25 rfl (by kernel_rfl) Tryd.ntmps25 (env := [(0, .slice a0' list_0.length c0'), (1, .int .i64 low_1), (2, .int .i64 high_2)]) ⟨rfl, rfl, rfl, trivial⟩ ?_
  refine WP.seq (fun K1 hK1 => ?_)
  refine WP.region ?_
  refine WL.runk 1 [0, 1, 2] [(0, .slice a0' list_0.length c0'), (1, .int .i64 low_1), (2, .int .i64 high_2)] (by kernel_rfl) ?_
  refine WL.nil ?_
  refine WQ.then_normal (hK1 _ _ _ ?_)
  refine WP.seq (fun K2 hK2 => ?_)
  refine WP.seq (fun K3 hK3 => ?_)
  refine WP.region ?_
  refine WL.runk 3 [0, 1, 2, 9, 10, 11] [(0, .slice a0' list_0.length c0'), (1, .int .i64 low_1), (2, .int .i64 high_2), (9, .slice a0' list_0.length c0'), (10, .int .i64 (list_0.length : Int)), (11, .int .i64 0)] (by kernel_rfl) ?_
  refine WL.nil ?_
  refine WQ.then_normal (hK3 _ _ _ ?_)
  refine WP.block ?_
  obtain ⟨t15, ht16, hm⟩ := bindE hm
  have hmo10 := hm; clear hm
  refine WP.sub [(0, .slice a0' list_0.length c0'), (1, .int .i64 low_1), (2, .int .i64 high_2), (9, .slice a0' list_0.length c0'), (10, .int .i64 (list_0.length : Int)), (11, .int .i64 0)] ⟨rfl, rfl, rfl, rfl, rfl, rfl, trivial⟩ ?_
  refine WP.loop (fun n' env' w' => ∃ (st4 : Int) , env' = [(0, .slice a0' list_0.length c0'), (1, .int .i64 low_1), (2, .int .i64 high_2), (9, .slice a0' list_0.length c0'), (10, .int .i64 (list_0.length : Int)), (11, .int .i64 st4)] ∧ Ext w w' ∧ w.heap.size ≤ w'.heap.size ∧ SH w' w.heap.size [] ∧ loopN (m_impl_isIncreasing_l1 n list_0 low_1 high_2) n' st4 = some t15) n ⟨0, rfl, (Ext.refl w), (Nat.le_refl _), (SH.nil _ _), ht16⟩ ?_
  rintro n12 _ w5 ⟨st4, rfl, hb6, hL7, hS8, hl9⟩ K11 hK11
  obtain ⟨n13, s14, rfl, hm, hl9⟩ := loopN_some hl9
  unfold m_impl_isIncreasing_l1 at hm
  refine WP.seq (fun K17 hK17 => ?_)
  refine WP.region ?_
  refine WL.runk 1 [0, 1, 2, 9, 10, 11, 12] [(0, .slice a0' list_0.length c0'), (1, .int .i64 low_1), (2, .int .i64 high_2), (9, .slice a0' list_0.length c0'), (10, .int .i64 (list_0.length : Int)), (11, .int .i64 st4), (12, .bool (decide (st4 < (list_0.length : Int))))] (by kernel_rfl) ?_
  refine WL.nil ?_
  refine WQ.then_normal (hK17 _ _ _ ?_)
  refine WP.seq (fun K18 hK18 => ?_)
  refine WP.cond (decide (st4 < (list_0.length : Int))) rfl rfl (fun hc19 => ?_) (fun hc19 => ?_)
  rotate_left
  · have hm := iteF hm hc19
    refine WP.exit ?_
    refine WQ.then_exit ?_
    refine WQ.then_exit ?_
    refine WQ.block_here ?_
    obtain rfl := Option.some.inj hm
    obtain rfl := afterN_done hl9
    have hm := hmo10
    refine WQ.then_normal (hK2 _ _ _ ?_)
    refine WP.seq (fun K57 hK57 => ?_)
    refine WP.region ?_
    refine WL.runk 1 [6] [(6, .bool true)] (by kernel_rfl) ?_
    refine WL.nil ?_
    refine WQ.then_normal (hK57 _ _ _ ?_)
    refine WP.ret ?_
    obtain rfl := Option.some.inj hm
    exact WQ.ret1 _ rfl rfl ⟨rfl, hb6⟩
  have hm := iteT hm hc19
  refine WP.skip ?_
  refine WQ.then_normal (hK18 _ _ _ ?_)
  refine WP.seq (fun K20 hK20 => ?_)
  refine WP.block ?_
  refine WP.seq (fun K21 hK21 => ?_)
  refine WP.region ?_
  refine WL.runk 1 [0, 1, 2, 9, 10, 11, 13] [(0, .slice a0' list_0.length c0'), (1, .int .i64 low_1), (2, .int .i64 high_2), (9, .slice a0' list_0.length c0'), (10, .int .i64 (list_0.length : Int)), (11, .int .i64 st4), (13, .int .i64 st4)] (by kernel_rfl) ?_
  obtain ⟨x22, hx23, hm⟩ := bindE hm
  refine WL.st (.pointer (some (at_ a0' (Int.toNat st4 * 1)))) (ST.index (T := fInt.ty) (xs := list_0) (Rd.below h0 hb6) hx23 rfl rfl rfl Tryd.underlying30 (info2).1 (info2).2.1) rfl rfl rfl ?_
  refine WL.st (.int .i64 x22) (ST.load (cell_ext (Rd.flat (F := fInt) (Rd.below h0 hb6) hx23 0 rfl)) rfl rfl Tryd.underlying2 rfl) rfl rfl rfl ?_
  refine WL.runk 2 [0, 1, 2, 7, 8, 9, 10, 11] [(0, .slice a0' list_0.length c0'), (1, .int .i64 low_1), (2, .int .i64 high_2), (9, .slice a0' list_0.length c0'), (10, .int .i64 (list_0.length : Int)), (11, .int .i64 st4), (7, .int .i64 st4), (8, .int .i64 x22)] (by kernel_rfl) ?_
  refine WL.nil ?_
  refine WQ.then_normal (hK21 _ _ _ ?_)
  refine WP.seq (fun K24 hK24 => ?_)
  obtain ⟨x37, hx38, hm⟩ := bindE hm
  refine WP.cut (fun env' w' => env' = [(0, .slice a0' list_0.length c0'), (1, .int .i64 low_1), (2, .int .i64 high_2), (9, .slice a0' list_0.length c0'), (10, .int .i64 (list_0.length : Int)), (11, .int .i64 st4), (33, .bool x37)] ∧ Ext w w' ∧ w.heap.size ≤ w'.heap.size ∧ SH w' w.heap.size []) ?_ ?_
  rotate_left
  · clear hx38
    rintro _ w51 ⟨rfl, hb52, hL53, hS54⟩
    refine WQ.then_normal (hK24 _ _ _ ?_)
    refine WP.cond x37 rfl rfl (fun hc55 => ?_) (fun hc55 => ?_)
    rotate_left
    · have hm := iteF hm hc55
      refine WP.skip ?_
      refine WQ.block_normal ?_
      refine WQ.then_normal (hK20 _ _ _ ?_)
      refine WP.region ?_
      refine WL.runk 2 [0, 1, 2, 9, 10, 11] [(0, .slice a0' list_0.length c0'), (1, .int .i64 low_1), (2, .int .i64 high_2), (9, .slice a0' list_0.length c0'), (10, .int .i64 (list_0.length : Int)), (11, .int .i64 (wI64 (st4 + 1)))] (by kernel_rfl) ?_
      refine WL.nil ?_
      obtain rfl := Option.some.inj hm
      exact WQ.round hK11 ⟨(wI64 (st4 + 1)), rfl, hb52, hL53, hS54, hl9⟩ (Nat.lt_succ_self _) ⟨rfl, rfl, rfl, rfl, rfl, rfl, trivial⟩
    have hm := iteT hm hc55
    refine WP.seq (fun K56 hK56 => ?_)
    refine WP.region ?_
    refine WL.runk 1 [6] [(6, .bool false)] (by kernel_rfl) ?_
    refine WL.nil ?_
    refine WQ.then_normal (hK56 _ _ _ ?_)
    refine WP.ret ?_
    refine WQ.block_ret ?_
    refine WQ.then_ret ?_
    refine WQ.then_ret ?_
    refine WQ.block_ret ?_
    refine WQ.then_ret ?_
    obtain rfl := Option.some.inj hm
    obtain rfl := afterN_done hl9
    have hm := hmo10
    obtain rfl := Option.some.inj hm
    exact WQ.ret1 _ rfl rfl ⟨rfl, hb52⟩
  have hm := hx38; clear hx38
  refine WP.region ?_
  refine WL.runk 3 [0, 1, 2, 7, 8, 9, 10, 11, 16, 17, 18] [(0, .slice a0' list_0.length c0'), (1, .int .i64 low_1), (2, .int .i64 high_2), (9, .slice a0' list_0.length c0'), (10, .int .i64 (list_0.length : Int)), (11, .int .i64 st4), (7, .int .i64 st4), (8, .int .i64 x22), (16, .int .i64 x22), (17, .int .i64 low_1), (18, .int .i64 high_2)] (by kernel_rfl) ?_
  obtain ⟨x39, hx40, hm⟩ := bindE hm
  refine WL.call 15 #[.int .i64 x22, .int .i64 low_1, .int .i64 high_2] rfl rfl (by kernel_rfl) (c_15 n x22 low_1 high_2 w5 hx40 ) ?_
  rintro _ w41 ⟨rfl, hE42⟩
  refine ⟨_, rfl, ?_⟩
  have hb44 : Ext w w41 := Ext.trans hb6 hE42
  have hL45 : w.heap.size ≤ w41.heap.size := Nat.le_trans hL7 hE42.size
  have hS46 : SH w41 w.heap.size [] := SH.ext hS8 hE42
  refine WL.runk 2 [0, 1, 2, 7, 8, 9, 10, 11, 21] [(0, .slice a0' list_0.length c0'), (1, .int .i64 low_1), (2, .int .i64 high_2), (9, .slice a0' list_0.length c0'), (10, .int .i64 (list_0.length : Int)), (11, .int .i64 st4), (7, .int .i64 st4), (8, .int .i64 x22), (21, .bool (!x39))] (by kernel_rfl) ?_
  refine WL.case (!x39) [21] ⟨rfl, trivial⟩ (fun hc47 => ?_) (fun hc47 => ?_)
  · have hm := iteT hm hc47
    refine WL.runk 12 [0, 1, 2, 9, 10, 11, 33] [(0, .slice a0' list_0.length c0'), (1, .int .i64 low_1), (2, .int .i64 high_2), (9, .slice a0' list_0.length c0'), (10, .int .i64 (list_0.length : Int)), (11, .int .i64 st4), (33, .bool true)] (by kernel_rfl) ?_
    refine WL.nil ?_
    obtain rfl := Option.some.inj hm
    exact WQ.post' ⟨rfl, hb44, hL45, hS46⟩ ⟨rfl, rfl, rfl, rfl, rfl, rfl, rfl, trivial⟩
  have hm := iteF hm hc47
  refine WL.runk 3 [0, 1, 2, 7, 8, 9, 10, 11, 21, 24] [(0, .slice a0' list_0.length c0'), (1, .int .i64 low_1), (2, .int .i64 high_2), (9, .slice a0' list_0.length c0'), (10, .int .i64 (list_0.length : Int)), (11, .int .i64 st4), (7, .int .i64 st4), (8, .int .i64 x22), (21, .bool false), (24, .bool (decide (st4 > 0)))] (by kernel_rfl) ?_
  refine WL.case (decide (st4 > 0)) [24] ⟨rfl, trivial⟩ (fun hc48 => ?_) (fun hc48 => ?_)
  rotate_left
  · have hm := iteF hm hc48
    refine WL.runk 9 [0, 1, 2, 9, 10, 11, 33] [(0, .slice a0' list_0.length c0'), (1, .int .i64 low_1), (2, .int .i64 high_2), (9, .slice a0' list_0.length c0'), (10, .int .i64 (list_0.length : Int)), (11, .int .i64 st4), (33, .bool false)] (by kernel_rfl) ?_
    refine WL.nil ?_
    obtain rfl := Option.some.inj hm
    exact WQ.post' ⟨rfl, hb44, hL45, hS46⟩ ⟨rfl, rfl, rfl, rfl, rfl, rfl, rfl, trivial⟩
  have hm := iteT hm hc48
  refine WL.runk 3 [0, 1, 2, 8, 9, 10, 11, 21, 24, 25, 27] [(0, .slice a0' list_0.length c0'), (1, .int .i64 low_1), (2, .int .i64 high_2), (9, .slice a0' list_0.length c0'), (10, .int .i64 (list_0.length : Int)), (11, .int .i64 st4), (8, .int .i64 x22), (21, .bool false), (24, .bool true), (25, .slice a0' list_0.length c0'), (27, .int .i64 (wI64 (st4 - 1)))] (by kernel_rfl) ?_
  obtain ⟨x49, hx50, hm⟩ := bindE hm
  refine WL.st (.pointer (some (at_ a0' (Int.toNat (wI64 (st4 - 1)) * 1)))) (ST.index (T := fInt.ty) (xs := list_0) (Rd.below h0 hb44) hx50 rfl rfl rfl Tryd.underlying30 (info2).1 (info2).2.1) rfl rfl rfl ?_
  refine WL.st (.int .i64 x49) (ST.load (cell_ext (Rd.flat (F := fInt) (Rd.below h0 hb44) hx50 0 rfl)) rfl rfl Tryd.underlying2 rfl) rfl rfl rfl ?_
  refine WL.runk 4 [0, 1, 2, 9, 10, 11, 33] [(0, .slice a0' list_0.length c0'), (1, .int .i64 low_1), (2, .int .i64 high_2), (9, .slice a0' list_0.length c0'), (10, .int .i64 (list_0.length : Int)), (11, .int .i64 st4), (33, .bool (decide (x49 ≥ x22)))] (by kernel_rfl) ?_
  refine WL.nil ?_
  obtain rfl := Option.some.inj hm
  exact WQ.post' ⟨rfl, hb44, hL45, hS46⟩ ⟨rfl, rfl, rfl, rfl, rfl, rfl, rfl, trivial⟩

theorem c_24 (n : Nat) (faults_0 : List Int) (a0' : Option Addr) (c0' : Nat) (w : World) {r : Bool} (hm : m_impl_areFaults n faults_0 = some r) (h0 : Rd fInt.ty w a0' faults_0) (hle0 : faults_0.length ≤ c0') :
    CallV Tryd.prog 24 #[.slice a0' faults_0.length c0'] w (fun v w' => v = .bool r ∧ Ext w w') := by
  unfold m_impl_areFaults at hm
  refine CallV.enter Tryd.func24 rfl (by kernel_rfl) Tryd.ntmps24 (env := [(0, .slice a0' faults_0.length c0')]) ⟨rfl, trivial⟩ ?_
  refine WP.seq (fun K1 hK1 => ?_)
  refine WP.region ?_
  refine WL.runk 1 [0] [(0, .slice a0' faults_0.length c0')] (by kernel_rfl) ?_
  refine WL.nil ?_
  refine WQ.then_normal (hK1 _ _ _ ?_)
  refine WP.seq (fun K2 hK2 => ?_)
  refine WP.region ?_
  refine WL.runk 1 [3] [(3, .slice a0' faults_0.length c0')] (by kernel_rfl) ?_
  obtain ⟨x3, hx4, hm⟩ := bindE hm
  refine WL.call 25 #[.slice a0' faults_0.length c0', .int .i64 0, .int .i64 9] rfl rfl (by kernel_rfl) (c_25 n faults_0 a0' c0' 0 9 w hx4 (Rd.below h0 (Ext.refl w)) hle0) ?_
  rintro _ w5 ⟨rfl, hE6⟩
  refine ⟨_, rfl, ?_⟩
  have hb8 : Ext w w5 := Ext.trans (Ext.refl w) hE6
  have hL9 : w.heap.size ≤ w5.heap.size := Nat.le_trans (Nat.le_refl _) hE6.size
  have hS10 : SH w5 w.heap.size [] := SH.ext (SH.nil _ _) hE6
  refine WL.runk 1 [2] [(2, .bool x3)] (by kernel_rfl) ?_
  refine WL.nil ?_
  refine WQ.then_normal (hK2 _ _ _ ?_)
  refine WP.ret ?_
  obtain rfl := Option.some.inj hm
  exact WQ.ret1 _ rfl rfl ⟨rfl, hb8⟩

theorem c_27 (n : Nat) (o_0 : SRepair) (a0_1' : Option Addr) (c0_1' : Nat) (a0_2' : Option Addr) (c0_2' : Nat) (cap_1 : SRepair) (b1' o1' : Nat) (aB1_1' : Option Addr) (cB1_1' : Nat) (aB1_2' : Option Addr) (cB1_2' : Nat) (w : World) {r : Bool} (hm : m_impl_ValidRepairs_1 n o_0 cap_1 = some r) (_hr0_1 : Rd fInt.ty w a0_1' o_0.Mends) (_hle0_1 : o_0.Mends.length ≤ c0_1') (_hr0_2 : Rd fInt.ty w a0_2' o_0.First) (_hle0_2 : o_0.First.length ≤ c0_2') (h1 : RdB w b1' o1' [.string (bs cap_1.Name), .slice aB1_1' cap_1.Mends.length cB1_1', .slice aB1_2' cap_1.First.length cB1_2', .int .i64 cap_1.Price, .int .i64 cap_1.Hours]) (_hrB1_1 : Rd fInt.ty w aB1_1' cap_1.Mends) (_hleB1_1 : cap_1.Mends.length ≤ cB1_1') (_hrB1_2 : Rd fInt.ty w aB1_2' cap_1.First) (_hleB1_2 : cap_1.First.length ≤ cB1_2') :
    CallV Tryd.prog 27 #[.agg #[.string (bs o_0.Name), .slice a0_1' o_0.Mends.length c0_1', .slice a0_2' o_0.First.length c0_2', .int .i64 o_0.Price, .int .i64 o_0.Hours], .pointer (some ⟨b1', o1', none⟩)] w (fun v w' => v = .bool r ∧ Ext w w') := by
  unfold m_impl_ValidRepairs_1 at hm
  refine CallV.enter Tryd.func27 rfl (by kernel_rfl) Tryd.ntmps27 (env := [(0, .agg #[.string (bs o_0.Name), .slice a0_1' o_0.Mends.length c0_1', .slice a0_2' o_0.First.length c0_2', .int .i64 o_0.Price, .int .i64 o_0.Hours]), (1, .pointer (some ⟨b1', o1', none⟩))]) ⟨rfl, rfl, trivial⟩ ?_
  refine WP.seq (fun K1 hK1 => ?_)
  refine WP.region ?_
  refine WL.box 36 [.string (bs o_0.Name), .slice a0_1' o_0.Mends.length c0_1', .slice a0_2' o_0.First.length c0_2', .int .i64 o_0.Price, .int .i64 o_0.Hours] 2 (by kernel_rfl) rfl rfl rfl rfl ?_
  intro b2 w3 hE4 hR5
  have hb7 : Ext w w3 := Ext.trans (Ext.refl w) hE4
  have hL8 : w.heap.size ≤ w3.heap.size := Nat.le_trans (Nat.le_refl _) hE4.size
  have hS9 : SH w3 w.heap.size [aBox 36 b2 [.string (bs o_0.Name), .slice a0_1' o_0.Mends.length c0_1', .slice a0_2' o_0.First.length c0_2', .int .i64 o_0.Price, .int .i64 o_0.Hours]] := SH.add (SH.nil _ _) hE4 (Nat.le_refl _) hR5
  refine WL.runk 1 [1, 2] [(1, .pointer (some ⟨b1', o1', none⟩)), (2, .pointer (some ⟨b2, 0, none⟩))] (by kernel_rfl) ?_
  refine WL.nil ?_
  refine WQ.then_normal (hK1 _ _ _ ?_)
  refine WP.seq (fun K10 hK10 => ?_)
  refine WP.region ?_
  refine WL.runk 1 [1, 4] [(1, .pointer (some ⟨b1', o1', none⟩)), (4, .pointer (some ⟨b2, 0, none⟩))] (by kernel_rfl) ?_
  refine WL.st (.string (bs o_0.Name)) (ST.load (cell_ext (SH.boxAt (SH.front 0 hS9) 0 _ rfl)) rfl rfl Tryd.underlying9 rfl) rfl rfl rfl ?_
  refine WL.runk 1 [5, 6] [(5, .string (bs o_0.Name)), (6, .pointer (some ⟨b1', o1', none⟩))] (by kernel_rfl) ?_
  refine WL.st (.string (bs cap_1.Name)) (ST.load (cell_ext (RdB.at (RdB.below h1 hb7) 0 _ rfl)) rfl rfl Tryd.underlying9 rfl) rfl rfl rfl ?_
  refine WL.st (.bool (o_0.Name == cap_1.Name)) (ST.streq (x := o_0.Name) (y := cap_1.Name) rfl rfl rfl) rfl rfl rfl ?_
  refine WL.runk 1 [3] [(3, .bool (o_0.Name == cap_1.Name))] (by kernel_rfl) ?_
  refine WL.nil ?_
  refine WQ.then_normal (hK10 _ _ _ ?_)
  refine WP.ret ?_
  obtain rfl := Option.some.inj hm
  exact WQ.ret1 _ rfl rfl ⟨rfl, hb7⟩

theorem c_35_27 (n : Nat) (s_0 : List SRepair) (a0' : Option Addr) (c0' : Nat) (cap_1_0 : SRepair) (b1_0' o1_0' : Nat) (aB1_0_1' : Option Addr) (cB1_0_1' : Nat) (aB1_0_2' : Option Addr) (cB1_0_2' : Nat) (w : World) {r : Int} (hm : m_slices_IndexFunc_impl_Repair_impl_Repair_f27 n s_0 cap_1_0 = some r) (h0 : Rd fRepair.ty w a0' s_0) (_hle0 : s_0.length ≤ c0') (h1_0 : RdB w b1_0' o1_0' [.string (bs cap_1_0.Name), .slice aB1_0_1' cap_1_0.Mends.length cB1_0_1', .slice aB1_0_2' cap_1_0.First.length cB1_0_2', .int .i64 cap_1_0.Price, .int .i64 cap_1_0.Hours]) (hrB1_0_1 : Rd fInt.ty w aB1_0_1' cap_1_0.Mends) (hleB1_0_1 : cap_1_0.Mends.length ≤ cB1_0_1') (hrB1_0_2 : Rd fInt.ty w aB1_0_2' cap_1_0.First) (hleB1_0_2 : cap_1_0.First.length ≤ cB1_0_2') :
    CallV Tryd.prog 35 #[.slice a0' s_0.length c0', .func (.func 27) #[] #[.pointer (some ⟨b1_0', o1_0', none⟩)]] w (fun v w' => v = .int .i64 r ∧ Ext w w') := by
  unfold m_slices_IndexFunc_impl_Repair_impl_Repair_f27 at hm
  refine CallV.enter Tryd.func35 rfl (by kernel_rfl) Tryd.ntmps35 (env := [(0, .slice a0' s_0.length c0'), (1, .func (.func 27) #[] #[.pointer (some ⟨b1_0', o1_0', none⟩)])]) ⟨rfl, rfl, trivial⟩ ?_
  refine WP.seq (fun K1 hK1 => ?_)
  refine WP.region ?_
  refine WL.runk 1 [0, 1] [(0, .slice a0' s_0.length c0'), (1, .func (.func 27) #[] #[.pointer (some ⟨b1_0', o1_0', none⟩)])] (by kernel_rfl) ?_
  refine WL.nil ?_
  refine WQ.then_normal (hK1 _ _ _ ?_)
  refine WP.seq (fun K2 hK2 => ?_)
  refine WP.seq (fun K3 hK3 => ?_)
  refine WP.region ?_
  refine WL.runk 3 [0, 1, 7, 8] [(0, .slice a0' s_0.length c0'), (1, .func (.func 27) #[] #[.pointer (some ⟨b1_0', o1_0', none⟩)]), (7, .int .i64 (s_0.length : Int)), (8, .int .i64 0)] (by kernel_rfl) ?_
  refine WL.nil ?_
  refine WQ.then_normal (hK3 _ _ _ ?_)
  refine WP.block ?_
  obtain ⟨t15, ht16, hm⟩ := bindE hm
  have hmo10 := hm; clear hm
  refine WP.sub [(0, .slice a0' s_0.length c0'), (1, .func (.func 27) #[] #[.pointer (some ⟨b1_0', o1_0', none⟩)]), (7, .int .i64 (s_0.length : Int)), (8, .int .i64 0)] ⟨rfl, rfl, rfl, rfl, trivial⟩ ?_
  refine WP.loop (fun n' env' w' => ∃ (st4 : Int) , env' = [(0, .slice a0' s_0.length c0'), (1, .func (.func 27) #[] #[.pointer (some ⟨b1_0', o1_0', none⟩)]), (7, .int .i64 (s_0.length : Int)), (8, .int .i64 st4)] ∧ Ext w w' ∧ w.heap.size ≤ w'.heap.size ∧ SH w' w.heap.size [] ∧ loopN (m_slices_IndexFunc_impl_Repair_impl_Repair_f27_l1 n s_0 cap_1_0) n' st4 = some t15) n ⟨0, rfl, (Ext.refl w), (Nat.le_refl _), (SH.nil _ _), ht16⟩ ?_
  rintro n12 _ w5 ⟨st4, rfl, hb6, hL7, hS8, hl9⟩ K11 hK11
  obtain ⟨n13, s14, rfl, hm, hl9⟩ := loopN_some hl9
  unfold m_slices_IndexFunc_impl_Repair_impl_Repair_f27_l1 at hm
  refine WP.seq (fun K17 hK17 => ?_)
  refine WP.region ?_
  refine WL.runk 1 [0, 1, 7, 8, 9] [(0, .slice a0' s_0.length c0'), (1, .func (.func 27) #[] #[.pointer (some ⟨b1_0', o1_0', none⟩)]), (7, .int .i64 (s_0.length : Int)), (8, .int .i64 st4), (9, .bool (decide (st4 < (s_0.length : Int))))] (by kernel_rfl) ?_
  refine WL.nil ?_
  refine WQ.then_normal (hK17 _ _ _ ?_)
  refine WP.seq (fun K18 hK18 => ?_)
  refine WP.cond (decide (st4 < (s_0.length : Int))) rfl rfl (fun hc19 => ?_) (fun hc19 => ?_)
  rotate_left
  · have hm := iteF hm hc19
    refine WP.exit ?_
    refine WQ.then_exit ?_
    refine WQ.then_exit ?_
    refine WQ.block_here ?_
    obtain rfl := Option.some.inj hm
    obtain rfl := afterN_done hl9
    have hm := hmo10
    refine WQ.then_normal (hK2 _ _ _ ?_)
    refine WP.seq (fun K46 hK46 => ?_)
    refine WP.region ?_
    refine WL.runk 1 [4] [(4, .int .i64 (-1))] (by kernel_rfl) ?_
    refine WL.nil ?_
    refine WQ.then_normal (hK46 _ _ _ ?_)
    refine WP.ret ?_
    obtain rfl := Option.some.inj hm
    exact WQ.ret1 _ rfl rfl ⟨rfl, hb6⟩
  have hm := iteT hm hc19
  refine WP.skip ?_
  refine WQ.then_normal (hK18 _ _ _ ?_)
  refine WP.seq (fun K20 hK20 => ?_)
  refine WP.block ?_
  refine WP.seq (fun K21 hK21 => ?_)
  refine WP.region ?_
  refine WL.runk 2 [0, 1, 5, 7, 8] [(0, .slice a0' s_0.length c0'), (1, .func (.func 27) #[] #[.pointer (some ⟨b1_0', o1_0', none⟩)]), (7, .int .i64 (s_0.length : Int)), (8, .int .i64 st4), (5, .int .i64 st4)] (by kernel_rfl) ?_
  refine WL.nil ?_
  refine WQ.then_normal (hK21 _ _ _ ?_)
  refine WP.seq (fun K22 hK22 => ?_)
  refine WP.region ?_
  refine WL.runk 3 [0, 1, 5, 7, 8, 11, 12, 13] [(0, .slice a0' s_0.length c0'), (1, .func (.func 27) #[] #[.pointer (some ⟨b1_0', o1_0', none⟩)]), (7, .int .i64 (s_0.length : Int)), (8, .int .i64 st4), (5, .int .i64 st4), (11, .func (.func 27) #[] #[.pointer (some ⟨b1_0', o1_0', none⟩)]), (12, .slice a0' s_0.length c0'), (13, .int .i64 st4)] (by kernel_rfl) ?_
  obtain ⟨x23, hx24, hm⟩ := bindE hm
  obtain ⟨a25, c26, a30, c31, hc35, hR27, hle28, hR32, hle33⟩ := nest_Repair h0 hx24
  refine WL.st (.pointer (some (at_ a0' (Int.toNat st4 * 5)))) (ST.index (T := fRepair.ty) (xs := s_0) (Rd.below h0 hb6) hx24 rfl rfl rfl Tryd.underlying25 (info36).1 (info36).2.1) rfl rfl rfl ?_
  refine WL.st (.agg #[.string (bs x23.Name), .slice a25 x23.Mends.length c26, .slice a30 x23.First.length c31, .int .i64 x23.Price, .int .i64 x23.Hours]) (ST.loadAgg (vs := [.string (bs x23.Name), .slice a25 x23.Mends.length c26, .slice a30 x23.First.length c31, .int .i64 x23.Price, .int .i64 x23.Hours]) (at_agg (cells_ext hc35 hb6)) rfl rfl rfl Tryd.underlying36 rfl (info36).1 (info36).2.1) rfl rfl rfl ?_
  obtain ⟨x36, hx37, hm⟩ := bindE hm
  refine WL.call 27 #[.agg #[.string (bs x23.Name), .slice a25 x23.Mends.length c26, .slice a30 x23.First.length c31, .int .i64 x23.Price, .int .i64 x23.Hours], .pointer (some ⟨b1_0', o1_0', none⟩)] rfl rfl (by kernel_rfl) (c_27 n x23 a25 c26 a30 c31 cap_1_0 b1_0' o1_0' aB1_0_1' cB1_0_1' aB1_0_2' cB1_0_2' w5 hx37 (Rd.below hR27 hb6) hle28 (Rd.below hR32 hb6) hle33 (RdB.below h1_0 hb6) (Rd.below hrB1_0_1 hb6) hleB1_0_1 (Rd.below hrB1_0_2 hb6) hleB1_0_2) ?_
  rintro _ w38 ⟨rfl, hE39⟩
  refine ⟨_, rfl, ?_⟩
  have hb41 : Ext w w38 := Ext.trans hb6 hE39
  have hL42 : w.heap.size ≤ w38.heap.size := Nat.le_trans hL7 hE39.size
  have hS43 : SH w38 w.heap.size [] := SH.ext hS8 hE39
  refine WL.sub [(0, .slice a0' s_0.length c0'), (1, .func (.func 27) #[] #[.pointer (some ⟨b1_0', o1_0', none⟩)]), (7, .int .i64 (s_0.length : Int)), (8, .int .i64 st4), (5, .int .i64 st4), (16, .bool x36)] ⟨rfl, rfl, rfl, rfl, rfl, rfl, trivial⟩ ?_
  refine WL.nil ?_
  refine WQ.then_normal (hK22 _ _ _ ?_)
  refine WP.cond x36 rfl rfl (fun hc44 => ?_) (fun hc44 => ?_)
  rotate_left
  · have hm := iteF hm hc44
    refine WP.skip ?_
    refine WQ.block_normal ?_
    refine WQ.then_normal (hK20 _ _ _ ?_)
    refine WP.region ?_
    refine WL.runk 2 [0, 1, 7, 8] [(0, .slice a0' s_0.length c0'), (1, .func (.func 27) #[] #[.pointer (some ⟨b1_0', o1_0', none⟩)]), (7, .int .i64 (s_0.length : Int)), (8, .int .i64 (wI64 (st4 + 1)))] (by kernel_rfl) ?_
    refine WL.nil ?_
    obtain rfl := Option.some.inj hm
    exact WQ.round hK11 ⟨(wI64 (st4 + 1)), rfl, hb41, hL42, hS43, hl9⟩ (Nat.lt_succ_self _) ⟨rfl, rfl, rfl, rfl, trivial⟩
  have hm := iteT hm hc44
  refine WP.seq (fun K45 hK45 => ?_)
  refine WP.region ?_
  refine WL.runk 2 [4] [(4, .int .i64 st4)] (by kernel_rfl) ?_
  refine WL.nil ?_
  refine WQ.then_normal (hK45 _ _ _ ?_)
  refine WP.ret ?_
  refine WQ.block_ret ?_
  refine WQ.then_ret ?_
  refine WQ.then_ret ?_
  refine WQ.block_ret ?_
  refine WQ.then_ret ?_
  obtain rfl := Option.some.inj hm
  obtain rfl := afterN_done hl9
  have hm := hmo10
  obtain rfl := Option.some.inj hm
  exact WQ.ret1 _ rfl rfl ⟨rfl, hb41⟩

theorem c_26_27 (n : Nat) (s_0 : List SRepair) (a0' : Option Addr) (c0' : Nat) (cap_1_0 : SRepair) (b1_0' o1_0' : Nat) (aB1_0_1' : Option Addr) (cB1_0_1' : Nat) (aB1_0_2' : Option Addr) (cB1_0_2' : Nat) (w : World) {r : Bool} (hm : m_slices_ContainsFunc_impl_Repair_impl_Repair_f27 n s_0 cap_1_0 = some r) (h0 : Rd fRepair.ty w a0' s_0) (hle0 : s_0.length ≤ c0') (h1_0 : RdB w b1_0' o1_0' [.string (bs cap_1_0.Name), .slice aB1_0_1' cap_1_0.Mends.length cB1_0_1', .slice aB1_0_2' cap_1_0.First.length cB1_0_2', .int .i64 cap_1_0.Price, .int .i64 cap_1_0.Hours]) (hrB1_0_1 : Rd fInt.ty w aB1_0_1' cap_1_0.Mends) (hleB1_0_1 : cap_1_0.Mends.length ≤ cB1_0_1') (hrB1_0_2 : Rd fInt.ty w aB1_0_2' cap_1_0.First) (hleB1_0_2 : cap_1_0.First.length ≤ cB1_0_2') :
    CallV Tryd.prog 26 #[.slice a0' s_0.length c0', .func (.func 27) #[] #[.pointer (some ⟨b1_0', o1_0', none⟩)]] w (fun v w' => v = .bool r ∧ Ext w w') := by
  unfold m_slices_ContainsFunc_impl_Repair_impl_Repair_f27 at hm
  refine CallV.enter Tryd.func26 rfl (by kernel_rfl) Tryd.ntmps26 (env := [(0, .slice a0' s_0.length c0'), (1, .func (.func 27) #[] #[.pointer (some ⟨b1_0', o1_0', none⟩)])]) ⟨rfl, rfl, trivial⟩ ?_
  refine WP.seq (fun K1 hK1 => ?_)
  refine WP.region ?_
  refine WL.runk 1 [0, 1] [(0, .slice a0' s_0.length c0'), (1, .func (.func 27) #[] #[.pointer (some ⟨b1_0', o1_0', none⟩)])] (by kernel_rfl) ?_
  refine WL.nil ?_
  refine WQ.then_normal (hK1 _ _ _ ?_)
  refine WP.seq (fun K2 hK2 => ?_)
  refine WP.region ?_
  refine WL.runk 2 [5, 6] [(5, .slice a0' s_0.length c0'), (6, .func (.func 27) #[] #[.pointer (some ⟨b1_0', o1_0', none⟩)])] (by kernel_rfl) ?_
  obtain ⟨x3, hx4, hm⟩ := bindE hm
  refine WL.call 35 #[.slice a0' s_0.length c0', .func (.func 27) #[] #[.pointer (some ⟨b1_0', o1_0', none⟩)]] rfl rfl (by kernel_rfl) (c_35_27 n s_0 a0' c0' cap_1_0 b1_0' o1_0' aB1_0_1' cB1_0_1' aB1_0_2' cB1_0_2' w hx4 (Rd.below h0 (Ext.refl w)) hle0 (RdB.below h1_0 (Ext.refl w)) (Rd.below hrB1_0_1 (Ext.refl w)) hleB1_0_1 (Rd.below hrB1_0_2 (Ext.refl w)) hleB1_0_2) ?_
  rintro _ w5 ⟨rfl, hE6⟩
  refine ⟨_, rfl, ?_⟩
  have hb8 : Ext w w5 := Ext.trans (Ext.refl w) hE6
  have hL9 : w.heap.size ≤ w5.heap.size := Nat.le_trans (Nat.le_refl _) hE6.size
  have hS10 : SH w5 w.heap.size [] := SH.ext (SH.nil _ _) hE6
  refine WL.runk 2 [4] [(4, .bool (decide (x3 ≥ 0)))] (by kernel_rfl) ?_
  refine WL.nil ?_
  refine WQ.then_normal (hK2 _ _ _ ?_)
  refine WP.ret ?_
  obtain rfl := Option.some.inj hm
  exact WQ.ret1 _ rfl rfl ⟨rfl, hb8⟩

theorem c_14 (n : Nat) (list_0 : List SRepair) (a0' : Option Addr) (c0' : Nat) (w : World) {r : Bool} (hm : m_impl_ValidRepairs n list_0 = some r) (h0 : Rd fRepair.ty w a0' list_0) (hle0 : list_0.length ≤ c0') :
    CallV Tryd.prog 14 #[.slice a0' list_0.length c0'] w (fun v w' => v = .bool r ∧ Ext w w') := by
  unfold m_impl_ValidRepairs at hm
  refine CallV.enter Tryd.func14 rfl (by kernel_rfl) Tryd.ntmps14 (env := [(0, .slice a0' list_0.length c0')]) ⟨rfl, trivial⟩ ?_
  refine WP.seq (fun K1 hK1 => ?_)
  refine WP.region ?_
  refine WL.runk 1 [0] [(0, .slice a0' list_0.length c0')] (by kernel_rfl) ?_
  refine WL.nil ?_
  refine WQ.then_normal (hK1 _ _ _ ?_)
  refine WP.seq (fun K2 hK2 => ?_)
  refine WP.seq (fun K3 hK3 => ?_)
  refine WP.region ?_
  refine WL.runk 3 [0, 5, 6, 7] [(0, .slice a0' list_0.length c0'), (5, .slice a0' list_0.length c0'), (6, .int .i64 (list_0.length : Int)), (7, .int .i64 0)] (by kernel_rfl) ?_
  refine WL.nil ?_
  refine WQ.then_normal (hK3 _ _ _ ?_)
  refine WP.block ?_
  obtain ⟨t15, ht16, hm⟩ := bindE hm
  have hmo10 := hm; clear hm
  refine WP.sub [(0, .slice a0' list_0.length c0'), (5, .slice a0' list_0.length c0'), (6, .int .i64 (list_0.length : Int)), (7, .int .i64 0)] ⟨rfl, rfl, rfl, rfl, trivial⟩ ?_
  refine WP.loop (fun n' env' w' => ∃ (st4 : Int) , env' = [(0, .slice a0' list_0.length c0'), (5, .slice a0' list_0.length c0'), (6, .int .i64 (list_0.length : Int)), (7, .int .i64 st4)] ∧ Ext w w' ∧ w.heap.size ≤ w'.heap.size ∧ SH w' w.heap.size [] ∧ loopN (m_impl_ValidRepairs_l1 n list_0) n' st4 = some t15) n ⟨0, rfl, (Ext.refl w), (Nat.le_refl _), (SH.nil _ _), ht16⟩ ?_
  rintro n12 _ w5 ⟨st4, rfl, hb6, hL7, hS8, hl9⟩ K11 hK11
  obtain ⟨n13, s14, rfl, hm, hl9⟩ := loopN_some hl9
  unfold m_impl_ValidRepairs_l1 at hm
  refine WP.seq (fun K17 hK17 => ?_)
  refine WP.region ?_
  refine WL.runk 1 [0, 5, 6, 7, 8] [(0, .slice a0' list_0.length c0'), (5, .slice a0' list_0.length c0'), (6, .int .i64 (list_0.length : Int)), (7, .int .i64 st4), (8, .bool (decide (st4 < (list_0.length : Int))))] (by kernel_rfl) ?_
  refine WL.nil ?_
  refine WQ.then_normal (hK17 _ _ _ ?_)
  refine WP.seq (fun K18 hK18 => ?_)
  refine WP.cond (decide (st4 < (list_0.length : Int))) rfl rfl (fun hc19 => ?_) (fun hc19 => ?_)
  rotate_left
  · have hm := iteF hm hc19
    refine WP.exit ?_
    refine WQ.then_exit ?_
    refine WQ.then_exit ?_
    refine WQ.block_here ?_
    obtain rfl := Option.some.inj hm
    obtain rfl := afterN_done hl9
    have hm := hmo10
    refine WQ.then_normal (hK2 _ _ _ ?_)
    refine WP.seq (fun K179 hK179 => ?_)
    refine WP.region ?_
    refine WL.runk 4 [2] [(2, .bool (decide ((list_0.length : Int) ≤ 10)))] (by kernel_rfl) ?_
    refine WL.nil ?_
    refine WQ.then_normal (hK179 _ _ _ ?_)
    refine WP.ret ?_
    obtain rfl := Option.some.inj hm
    exact WQ.ret1 _ rfl rfl ⟨rfl, hb6⟩
  have hm := iteT hm hc19
  refine WP.skip ?_
  refine WQ.then_normal (hK18 _ _ _ ?_)
  refine WP.seq (fun K20 hK20 => ?_)
  refine WP.block ?_
  refine WP.seq (fun K21 hK21 => ?_)
  refine WP.region ?_
  refine WL.runk 1 [0, 5, 6, 7, 9] [(0, .slice a0' list_0.length c0'), (5, .slice a0' list_0.length c0'), (6, .int .i64 (list_0.length : Int)), (7, .int .i64 st4), (9, .int .i64 st4)] (by kernel_rfl) ?_
  obtain ⟨x22, hx23, hm⟩ := bindE hm
  obtain ⟨a24, c25, a29, c30, hc34, hR26, hle27, hR31, hle32⟩ := nest_Repair h0 hx23
  refine WL.st (.pointer (some (at_ a0' (Int.toNat st4 * 5)))) (ST.index (T := fRepair.ty) (xs := list_0) (Rd.below h0 hb6) hx23 rfl rfl rfl Tryd.underlying25 (info36).1 (info36).2.1) rfl rfl rfl ?_
  refine WL.st (.agg #[.string (bs x22.Name), .slice a24 x22.Mends.length c25, .slice a29 x22.First.length c30, .int .i64 x22.Price, .int .i64 x22.Hours]) (ST.loadAgg (vs := [.string (bs x22.Name), .slice a24 x22.Mends.length c25, .slice a29 x22.First.length c30, .int .i64 x22.Price, .int .i64 x22.Hours]) (at_agg (cells_ext hc34 hb6)) rfl rfl rfl Tryd.underlying36 rfl (info36).1 (info36).2.1) rfl rfl rfl ?_
  refine WL.box 36 [.string (bs []), .slice none 0 0, .slice none 0 0, .int .i64 0, .int .i64 0] 4 (by kernel_rfl) rfl rfl rfl rfl ?_
  intro b35 w36 hE37 hR38
  have hb40 : Ext w w36 := Ext.trans hb6 hE37
  have hL41 : w.heap.size ≤ w36.heap.size := Nat.le_trans hL7 hE37.size
  have hS42 : SH w36 w.heap.size [aBox 36 b35 [.string (bs []), .slice none 0 0, .slice none 0 0, .int .i64 0, .int .i64 0]] := SH.add hS8 hE37 hL7 hR38
  refine WL.runk 1 [0, 3, 4, 5, 6, 7, 11] [(0, .slice a0' list_0.length c0'), (5, .slice a0' list_0.length c0'), (6, .int .i64 (list_0.length : Int)), (7, .int .i64 st4), (11, .agg #[.string (bs x22.Name), .slice a24 x22.Mends.length c25, .slice a29 x22.First.length c30, .int .i64 x22.Price, .int .i64 x22.Hours]), (4, .pointer (some ⟨b35, 0, none⟩)), (3, .int .i64 st4)] (by kernel_rfl) ?_
  refine WL.boxStore 0 [.string (bs x22.Name), .slice a24 x22.Mends.length c25, .slice a29 x22.First.length c30, .int .i64 x22.Price, .int .i64 x22.Hours] [.string (bs x22.Name), .slice a24 x22.Mends.length c25, .slice a29 x22.First.length c30, .int .i64 x22.Price, .int .i64 x22.Hours] (SH.front 0 hS42) hL41 rfl rfl rfl rfl rfl rfl rfl (info36).1 (info36).2.1 rfl rfl rfl ?_
  intro w43 hB44 hS45
  have hb46 : Ext w w43 := Below.trans hb40 hB44
  have hL47 : w.heap.size ≤ w43.heap.size := Nat.le_trans hL41 hB44.size
  refine WL.sub [(0, .slice a0' list_0.length c0'), (5, .slice a0' list_0.length c0'), (6, .int .i64 (list_0.length : Int)), (7, .int .i64 st4), (4, .pointer (some ⟨b35, 0, none⟩)), (3, .int .i64 st4)] ⟨rfl, rfl, rfl, rfl, rfl, rfl, trivial⟩ ?_
  refine WL.nil ?_
  refine WQ.then_normal (hK21 _ _ _ ?_)
  refine WP.seq (fun K48 hK48 => ?_)
  obtain ⟨x110, hx111, hm⟩ := bindE hm
  refine WP.cut (fun env' w' => env' = [(0, .slice a0' list_0.length c0'), (5, .slice a0' list_0.length c0'), (6, .int .i64 (list_0.length : Int)), (7, .int .i64 st4), (48, .bool x110)] ∧ Ext w w' ∧ w.heap.size ≤ w'.heap.size ∧ SH w' w.heap.size [aBox 36 b35 [.string (bs x22.Name), .slice a24 x22.Mends.length c25, .slice a29 x22.First.length c30, .int .i64 x22.Price, .int .i64 x22.Hours]]) ?_ ?_
  rotate_left
  · clear hx111
    rintro _ w173 ⟨rfl, hb174, hL175, hS176⟩
    refine WQ.then_normal (hK48 _ _ _ ?_)
    refine WP.cond x110 rfl rfl (fun hc177 => ?_) (fun hc177 => ?_)
    rotate_left
    · have hm := iteF hm hc177
      refine WP.skip ?_
      refine WQ.block_normal ?_
      refine WQ.then_normal (hK20 _ _ _ ?_)
      refine WP.region ?_
      refine WL.runk 2 [0, 5, 6, 7] [(0, .slice a0' list_0.length c0'), (5, .slice a0' list_0.length c0'), (6, .int .i64 (list_0.length : Int)), (7, .int .i64 (wI64 (st4 + 1)))] (by kernel_rfl) ?_
      refine WL.nil ?_
      obtain rfl := Option.some.inj hm
      exact WQ.round hK11 ⟨(wI64 (st4 + 1)), rfl, hb174, hL175, (SH.take 0 hS176), hl9⟩ (Nat.lt_succ_self _) ⟨rfl, rfl, rfl, rfl, trivial⟩
    have hm := iteT hm hc177
    refine WP.seq (fun K178 hK178 => ?_)
    refine WP.region ?_
    refine WL.runk 1 [2] [(2, .bool false)] (by kernel_rfl) ?_
    refine WL.nil ?_
    refine WQ.then_normal (hK178 _ _ _ ?_)
    refine WP.ret ?_
    refine WQ.block_ret ?_
    refine WQ.then_ret ?_
    refine WQ.then_ret ?_
    refine WQ.block_ret ?_
    refine WQ.then_ret ?_
    obtain rfl := Option.some.inj hm
    obtain rfl := afterN_done hl9
    have hm := hmo10
    obtain rfl := Option.some.inj hm
    exact WQ.ret1 _ rfl rfl ⟨rfl, hb174⟩
  have hm := hx111; clear hx111
  refine WP.region ?_
  refine WL.runk 1 [0, 3, 4, 5, 6, 7, 12] [(0, .slice a0' list_0.length c0'), (5, .slice a0' list_0.length c0'), (6, .int .i64 (list_0.length : Int)), (7, .int .i64 st4), (4, .pointer (some ⟨b35, 0, none⟩)), (3, .int .i64 st4), (12, .pointer (some ⟨b35, 0, none⟩))] (by kernel_rfl) ?_
  refine WL.st (.string (bs x22.Name)) (ST.load (cell_ext (SH.boxAt (SH.front 0 hS45) 0 _ rfl)) rfl rfl Tryd.underlying9 rfl) rfl rfl rfl ?_
  obtain ⟨x112, hx113, hm⟩ := bindE hm
  refine WL.call 23 #[.string (bs x22.Name)] rfl rfl (by kernel_rfl) (c_23 n x22.Name w43 hx113 ) ?_
  rintro _ w114 ⟨rfl, hE115⟩
  refine ⟨_, rfl, ?_⟩
  have hb117 : Ext w w114 := Ext.trans hb46 hE115
  have hL118 : w.heap.size ≤ w114.heap.size := Nat.le_trans hL47 hE115.size
  have hS119 : SH w114 w.heap.size [aBox 36 b35 [.string (bs x22.Name), .slice a24 x22.Mends.length c25, .slice a29 x22.First.length c30, .int .i64 x22.Price, .int .i64 x22.Hours]] := SH.ext hS45 hE115
  refine WL.runk 2 [0, 3, 4, 5, 6, 7, 16] [(0, .slice a0' list_0.length c0'), (5, .slice a0' list_0.length c0'), (6, .int .i64 (list_0.length : Int)), (7, .int .i64 st4), (4, .pointer (some ⟨b35, 0, none⟩)), (3, .int .i64 st4), (16, .bool (!x112))] (by kernel_rfl) ?_
  refine WL.case (!x112) [16] ⟨rfl, trivial⟩ (fun hc120 => ?_) (fun hc120 => ?_)
  · have hm := iteT hm hc120
    refine WL.runk 32 [0, 5, 6, 7, 48] [(0, .slice a0' list_0.length c0'), (5, .slice a0' list_0.length c0'), (6, .int .i64 (list_0.length : Int)), (7, .int .i64 st4), (48, .bool true)] (by kernel_rfl) ?_
    refine WL.nil ?_
    obtain rfl := Option.some.inj hm
    exact WQ.post' ⟨rfl, hb117, hL118, hS119⟩ ⟨rfl, rfl, rfl, rfl, rfl, trivial⟩
  have hm := iteF hm hc120
  refine WL.runk 1 [0, 3, 4, 5, 6, 7, 16, 17] [(0, .slice a0' list_0.length c0'), (5, .slice a0' list_0.length c0'), (6, .int .i64 (list_0.length : Int)), (7, .int .i64 st4), (4, .pointer (some ⟨b35, 0, none⟩)), (3, .int .i64 st4), (16, .bool false), (17, .pointer (some ⟨b35, 1, none⟩))] (by kernel_rfl) ?_
  refine WL.st (.slice a24 x22.Mends.length c25) (ST.load (cell_ext (SH.boxAt (SH.front 0 hS119) 1 _ rfl)) rfl rfl Tryd.underlying30 rfl) rfl rfl rfl ?_
  obtain ⟨x121, hx122, hm⟩ := bindE hm
  refine WL.call 24 #[.slice a24 x22.Mends.length c25] rfl rfl (by kernel_rfl) (c_24 n x22.Mends a24 c25 w114 hx122 (Rd.below hR26 hb117) hle27) ?_
  rintro _ w123 ⟨rfl, hE124⟩
  refine ⟨_, rfl, ?_⟩
  have hb126 : Ext w w123 := Ext.trans hb117 hE124
  have hL127 : w.heap.size ≤ w123.heap.size := Nat.le_trans hL118 hE124.size
  have hS128 : SH w123 w.heap.size [aBox 36 b35 [.string (bs x22.Name), .slice a24 x22.Mends.length c25, .slice a29 x22.First.length c30, .int .i64 x22.Price, .int .i64 x22.Hours]] := SH.ext hS119 hE124
  refine WL.runk 3 [0, 3, 4, 5, 6, 7, 22] [(0, .slice a0' list_0.length c0'), (5, .slice a0' list_0.length c0'), (6, .int .i64 (list_0.length : Int)), (7, .int .i64 st4), (4, .pointer (some ⟨b35, 0, none⟩)), (3, .int .i64 st4), (22, .bool (!x121))] (by kernel_rfl) ?_
  refine WL.case (!x121) [22] ⟨rfl, trivial⟩ (fun hc129 => ?_) (fun hc129 => ?_)
  · have hm := iteT hm hc129
    refine WL.runk 26 [0, 5, 6, 7, 48] [(0, .slice a0' list_0.length c0'), (5, .slice a0' list_0.length c0'), (6, .int .i64 (list_0.length : Int)), (7, .int .i64 st4), (48, .bool true)] (by kernel_rfl) ?_
    refine WL.nil ?_
    obtain rfl := Option.some.inj hm
    exact WQ.post' ⟨rfl, hb126, hL127, hS128⟩ ⟨rfl, rfl, rfl, rfl, rfl, trivial⟩
  have hm := iteF hm hc129
  refine WL.runk 1 [0, 3, 4, 5, 6, 7, 22, 23] [(0, .slice a0' list_0.length c0'), (5, .slice a0' list_0.length c0'), (6, .int .i64 (list_0.length : Int)), (7, .int .i64 st4), (4, .pointer (some ⟨b35, 0, none⟩)), (3, .int .i64 st4), (22, .bool false), (23, .pointer (some ⟨b35, 2, none⟩))] (by kernel_rfl) ?_
  refine WL.st (.slice a29 x22.First.length c30) (ST.load (cell_ext (SH.boxAt (SH.front 0 hS128) 2 _ rfl)) rfl rfl Tryd.underlying30 rfl) rfl rfl rfl ?_
  refine WL.runk 2 [0, 3, 4, 5, 6, 7, 22, 24, 26] [(0, .slice a0' list_0.length c0'), (5, .slice a0' list_0.length c0'), (6, .int .i64 (list_0.length : Int)), (7, .int .i64 st4), (4, .pointer (some ⟨b35, 0, none⟩)), (3, .int .i64 st4), (22, .bool false), (24, .slice a29 x22.First.length c30), (26, .int .i64 (wI64 (st4 - 1)))] (by kernel_rfl) ?_
  obtain ⟨x130, hx131, hm⟩ := bindE hm
  refine WL.call 25 #[.slice a29 x22.First.length c30, .int .i64 0, .int .i64 (wI64 (st4 - 1))] rfl rfl (by kernel_rfl) (c_25 n x22.First a29 c30 0 (wI64 (st4 - 1)) w123 hx131 (Rd.below hR31 hb126) hle32) ?_
  rintro _ w132 ⟨rfl, hE133⟩
  refine ⟨_, rfl, ?_⟩
  have hb135 : Ext w w132 := Ext.trans hb126 hE133
  have hL136 : w.heap.size ≤ w132.heap.size := Nat.le_trans hL127 hE133.size
  have hS137 : SH w132 w.heap.size [aBox 36 b35 [.string (bs x22.Name), .slice a24 x22.Mends.length c25, .slice a29 x22.First.length c30, .int .i64 x22.Price, .int .i64 x22.Hours]] := SH.ext hS128 hE133
  refine WL.runk 3 [0, 3, 4, 5, 6, 7, 30] [(0, .slice a0' list_0.length c0'), (5, .slice a0' list_0.length c0'), (6, .int .i64 (list_0.length : Int)), (7, .int .i64 st4), (4, .pointer (some ⟨b35, 0, none⟩)), (3, .int .i64 st4), (30, .bool (!x130))] (by kernel_rfl) ?_
  refine WL.case (!x130) [30] ⟨rfl, trivial⟩ (fun hc138 => ?_) (fun hc138 => ?_)
  · have hm := iteT hm hc138
    refine WL.runk 18 [0, 5, 6, 7, 48] [(0, .slice a0' list_0.length c0'), (5, .slice a0' list_0.length c0'), (6, .int .i64 (list_0.length : Int)), (7, .int .i64 st4), (48, .bool true)] (by kernel_rfl) ?_
    refine WL.nil ?_
    obtain rfl := Option.some.inj hm
    exact WQ.post' ⟨rfl, hb135, hL136, hS137⟩ ⟨rfl, rfl, rfl, rfl, rfl, trivial⟩
  have hm := iteF hm hc138
  refine WL.runk 1 [0, 3, 4, 5, 6, 7, 30, 31] [(0, .slice a0' list_0.length c0'), (5, .slice a0' list_0.length c0'), (6, .int .i64 (list_0.length : Int)), (7, .int .i64 st4), (4, .pointer (some ⟨b35, 0, none⟩)), (3, .int .i64 st4), (30, .bool false), (31, .pointer (some ⟨b35, 3, none⟩))] (by kernel_rfl) ?_
  refine WL.st (.int .i64 x22.Price) (ST.load (cell_ext (SH.boxAt (SH.front 0 hS137) 3 _ rfl)) rfl rfl Tryd.underlying2 rfl) rfl rfl rfl ?_
  obtain ⟨x139, hx140, hm⟩ := bindE hm
  refine WL.call 15 #[.int .i64 x22.Price, .int .i64 0, .int .i64 100000] rfl rfl (by kernel_rfl) (c_15 n x22.Price 0 100000 w132 hx140 ) ?_
  rintro _ w141 ⟨rfl, hE142⟩
  refine ⟨_, rfl, ?_⟩
  have hb144 : Ext w w141 := Ext.trans hb135 hE142
  have hL145 : w.heap.size ≤ w141.heap.size := Nat.le_trans hL136 hE142.size
  have hS146 : SH w141 w.heap.size [aBox 36 b35 [.string (bs x22.Name), .slice a24 x22.Mends.length c25, .slice a29 x22.First.length c30, .int .i64 x22.Price, .int .i64 x22.Hours]] := SH.ext hS137 hE142
  refine WL.runk 3 [0, 3, 4, 5, 6, 7, 36] [(0, .slice a0' list_0.length c0'), (5, .slice a0' list_0.length c0'), (6, .int .i64 (list_0.length : Int)), (7, .int .i64 st4), (4, .pointer (some ⟨b35, 0, none⟩)), (3, .int .i64 st4), (36, .bool (!x139))] (by kernel_rfl) ?_
  refine WL.case (!x139) [36] ⟨rfl, trivial⟩ (fun hc147 => ?_) (fun hc147 => ?_)
  · have hm := iteT hm hc147
    refine WL.runk 12 [0, 5, 6, 7, 48] [(0, .slice a0' list_0.length c0'), (5, .slice a0' list_0.length c0'), (6, .int .i64 (list_0.length : Int)), (7, .int .i64 st4), (48, .bool true)] (by kernel_rfl) ?_
    refine WL.nil ?_
    obtain rfl := Option.some.inj hm
    exact WQ.post' ⟨rfl, hb144, hL145, hS146⟩ ⟨rfl, rfl, rfl, rfl, rfl, trivial⟩
  have hm := iteF hm hc147
  refine WL.runk 1 [0, 3, 4, 5, 6, 7, 36, 37] [(0, .slice a0' list_0.length c0'), (5, .slice a0' list_0.length c0'), (6, .int .i64 (list_0.length : Int)), (7, .int .i64 st4), (4, .pointer (some ⟨b35, 0, none⟩)), (3, .int .i64 st4), (36, .bool false), (37, .pointer (some ⟨b35, 4, none⟩))] (by kernel_rfl) ?_
  refine WL.st (.int .i64 x22.Hours) (ST.load (cell_ext (SH.boxAt (SH.front 0 hS146) 4 _ rfl)) rfl rfl Tryd.underlying2 rfl) rfl rfl rfl ?_
  obtain ⟨x148, hx149, hm⟩ := bindE hm
  refine WL.call 15 #[.int .i64 x22.Hours, .int .i64 0, .int .i64 1000] rfl rfl (by kernel_rfl) (c_15 n x22.Hours 0 1000 w141 hx149 ) ?_
  rintro _ w150 ⟨rfl, hE151⟩
  refine ⟨_, rfl, ?_⟩
  have hb153 : Ext w w150 := Ext.trans hb144 hE151
  have hL154 : w.heap.size ≤ w150.heap.size := Nat.le_trans hL145 hE151.size
  have hS155 : SH w150 w.heap.size [aBox 36 b35 [.string (bs x22.Name), .slice a24 x22.Mends.length c25, .slice a29 x22.First.length c30, .int .i64 x22.Price, .int .i64 x22.Hours]] := SH.ext hS146 hE151
  refine WL.runk 3 [0, 3, 4, 5, 6, 7, 42] [(0, .slice a0' list_0.length c0'), (5, .slice a0' list_0.length c0'), (6, .int .i64 (list_0.length : Int)), (7, .int .i64 st4), (4, .pointer (some ⟨b35, 0, none⟩)), (3, .int .i64 st4), (42, .bool (!x148))] (by kernel_rfl) ?_
  refine WL.case (!x148) [42] ⟨rfl, trivial⟩ (fun hc156 => ?_) (fun hc156 => ?_)
  · have hm := iteT hm hc156
    refine WL.runk 6 [0, 5, 6, 7, 48] [(0, .slice a0' list_0.length c0'), (5, .slice a0' list_0.length c0'), (6, .int .i64 (list_0.length : Int)), (7, .int .i64 st4), (48, .bool true)] (by kernel_rfl) ?_
    refine WL.nil ?_
    obtain rfl := Option.some.inj hm
    exact WQ.post' ⟨rfl, hb153, hL154, hS155⟩ ⟨rfl, rfl, rfl, rfl, rfl, trivial⟩
  have hm := iteF hm hc156
  refine WL.runk 2 [0, 4, 5, 6, 7, 42, 43, 44] [(0, .slice a0' list_0.length c0'), (5, .slice a0' list_0.length c0'), (6, .int .i64 (list_0.length : Int)), (7, .int .i64 st4), (4, .pointer (some ⟨b35, 0, none⟩)), (42, .bool false), (43, .slice a0' list_0.length c0'), (44, .int .i64 st4)] (by kernel_rfl) ?_
  obtain ⟨x157, hx158, hm⟩ := bindE hm
  refine WL.rsub (T := fRepair.ty) 45 h0 hb153 hle0 hx158 rfl rfl Tryd.underlying25 (info36).1 (info36).2.1 rfl ⟨_, rfl⟩ rfl rfl rfl rfl ?_
  intro a159 c160 hR162 hle163
  refine WL.runk 1 [0, 5, 6, 7, 42, 45, 46] [(0, .slice a0' list_0.length c0'), (5, .slice a0' list_0.length c0'), (6, .int .i64 (list_0.length : Int)), (7, .int .i64 st4), (42, .bool false), (45, .slice a159 x157.length c160), (46, .func (.func 27) #[] #[.pointer (some ⟨b35, 0, none⟩)])] (by kernel_rfl) ?_
  obtain ⟨x165, hx166, hm⟩ := bindE hm
  refine WL.call 26 #[.slice a159 x157.length c160, .func (.func 27) #[] #[.pointer (some ⟨b35, 0, none⟩)]] rfl rfl (by kernel_rfl) (c_26_27 n x157 a159 c160 x22 b35 0 a24 c25 a29 c30 w150 hx166 (Rd.below hR162 hb153) hle163 (SH.boxRd (SH.front 0 hS155)) (Rd.below hR26 hb153) hle27 (Rd.below hR31 hb153) hle32) ?_
  rintro _ w167 ⟨rfl, hE168⟩
  refine ⟨_, rfl, ?_⟩
  have hb170 : Ext w w167 := Ext.trans hb153 hE168
  have hL171 : w.heap.size ≤ w167.heap.size := Nat.le_trans hL154 hE168.size
  have hS172 : SH w167 w.heap.size [aBox 36 b35 [.string (bs x22.Name), .slice a24 x22.Mends.length c25, .slice a29 x22.First.length c30, .int .i64 x22.Price, .int .i64 x22.Hours]] := SH.ext hS155 hE168
  refine WL.runk 1 [0, 5, 6, 7, 48] [(0, .slice a0' list_0.length c0'), (5, .slice a0' list_0.length c0'), (6, .int .i64 (list_0.length : Int)), (7, .int .i64 st4), (48, .bool x165)] (by kernel_rfl) ?_
  refine WL.nil ?_
  obtain rfl := Option.some.inj hm
  exact WQ.post' ⟨rfl, hb170, hL171, hS172⟩ ⟨rfl, rfl, rfl, rfl, rfl, trivial⟩

theorem c_16 (n : Nat) (n_0 : Int) (w : World) {r : List UInt8} (hm : m_impl_Decimal n n_0 = some r) (hG : GL 2 w) :
    CallV Tryd.prog 16 #[.int .i64 n_0] w (fun v w' => v = .string (bs r) ∧ Ext w w') := by
  unfold m_impl_Decimal at hm
  refine CallV.enter Tryd.func16 rfl (by kernel_rfl) Tryd.ntmps16 (env := [(0, .int .i64 n_0)]) ⟨rfl, trivial⟩ ?_
  refine WP.seq (fun K1 hK1 => ?_)
  refine WP.region ?_
  refine WL.runk 1 [0] [(0, .int .i64 n_0)] (by kernel_rfl) ?_
  refine WL.nil ?_
  refine WQ.then_normal (hK1 _ _ _ ?_)
  refine WP.seq (fun K2 hK2 => ?_)
  refine WP.region ?_
  refine WL.runk 1 [3] [(3, .int .i64 n_0)] (by kernel_rfl) ?_
  obtain ⟨x3, hx4, hm⟩ := bindE hm
  refine WL.call 28 #[.int .i64 n_0, .int .i64 10] rfl rfl (by kernel_rfl) (c_28 n n_0 10 w hx4 (GL.below hG (Ext.refl w))) ?_
  rintro _ w5 ⟨rfl, hE6⟩
  refine ⟨_, rfl, ?_⟩
  have hb8 : Ext w w5 := Ext.trans (Ext.refl w) hE6
  have hL9 : w.heap.size ≤ w5.heap.size := Nat.le_trans (Nat.le_refl _) hE6.size
  have hS10 : SH w5 w.heap.size [] := SH.ext (SH.nil _ _) hE6
  refine WL.runk 1 [2] [(2, .string (bs x3))] (by kernel_rfl) ?_
  refine WL.nil ?_
  refine WQ.then_normal (hK2 _ _ _ ?_)
  refine WP.ret ?_
  obtain rfl := Option.some.inj hm
  exact WQ.ret1 _ rfl rfl ⟨rfl, hb8⟩

theorem c_7 (n : Nat) (list_0 : List SRepair) (a0' : Option Addr) (c0' : Nat) (k_1 : Int) (w : World) {r : List UInt8} (hm : m_impl_RepairText n list_0 k_1 = some r) (hG : GL 2 w) (h0 : Rd fRepair.ty w a0' list_0) (hle0 : list_0.length ≤ c0') :
    CallV Tryd.prog 7 #[.slice a0' list_0.length c0', .int .i64 k_1] w (fun v w' => v = .string (bs r) ∧ Ext w w') := by
  unfold m_impl_RepairText at hm
  refine CallV.enter Tryd.func7 rfl (by kernel_rfl) Tryd.ntmps7 (env := [(0, .slice a0' list_0.length c0'), (1, .int .i64 k_1)]) ⟨rfl, rfl, trivial⟩ ?_
  refine WP.seq (fun K1 hK1 => ?_)
  refine WP.region ?_
  refine WL.runk 1 [0, 1] [(0, .slice a0' list_0.length c0'), (1, .int .i64 k_1)] (by kernel_rfl) ?_
  refine WL.nil ?_
  refine WQ.then_normal (hK1 _ _ _ ?_)
  refine WP.seq (fun K2 hK2 => ?_)
  refine WP.seq (fun K3 hK3 => ?_)
  obtain ⟨x21, hx22, hm⟩ := bindE hm
  refine WP.cut (fun env' w' => env' = [(0, .slice a0' list_0.length c0'), (1, .int .i64 k_1), (20, .bool x21)] ∧ Ext w w' ∧ w.heap.size ≤ w'.heap.size ∧ SH w' w.heap.size []) ?_ ?_
  · have hm := hx22; clear hx22
    refine WP.region ?_
    refine WL.runk 1 [0, 1, 10] [(0, .slice a0' list_0.length c0'), (1, .int .i64 k_1), (10, .slice a0' list_0.length c0')] (by kernel_rfl) ?_
    obtain ⟨x23, hx24, hm⟩ := bindE hm
    refine WL.call 14 #[.slice a0' list_0.length c0'] rfl rfl (by kernel_rfl) (c_14 n list_0 a0' c0' w hx24 (Rd.below h0 (Ext.refl w)) hle0) ?_
    rintro _ w25 ⟨rfl, hE26⟩
    refine ⟨_, rfl, ?_⟩
    have hb28 : Ext w w25 := Ext.trans (Ext.refl w) hE26
    have hL29 : w.heap.size ≤ w25.heap.size := Nat.le_trans (Nat.le_refl _) hE26.size
    have hS30 : SH w25 w.heap.size [] := SH.ext (SH.nil _ _) hE26
    refine WL.runk 2 [0, 1, 13] [(0, .slice a0' list_0.length c0'), (1, .int .i64 k_1), (13, .bool (!x23))] (by kernel_rfl) ?_
    refine WL.case (!x23) [13] ⟨rfl, trivial⟩ (fun hc31 => ?_) (fun hc31 => ?_)
    · have hm := iteT hm hc31
      refine WL.runk 7 [0, 1, 20] [(0, .slice a0' list_0.length c0'), (1, .int .i64 k_1), (20, .bool true)] (by kernel_rfl) ?_
      refine WL.nil ?_
      obtain rfl := Option.some.inj hm
      exact WQ.post' ⟨rfl, hb28, hL29, hS30⟩ ⟨rfl, rfl, rfl, trivial⟩
    have hm := iteF hm hc31
    refine WL.runk 4 [0, 1, 13, 14, 17] [(0, .slice a0' list_0.length c0'), (1, .int .i64 k_1), (13, .bool false), (14, .int .i64 k_1), (17, .int .i64 (wI64 ((list_0.length : Int) - 1)))] (by kernel_rfl) ?_
    obtain ⟨x32, hx33, hm⟩ := bindE hm
    refine WL.call 15 #[.int .i64 k_1, .int .i64 0, .int .i64 (wI64 ((list_0.length : Int) - 1))] rfl rfl (by kernel_rfl) (c_15 n k_1 0 (wI64 ((list_0.length : Int) - 1)) w25 hx33 ) ?_
    rintro _ w34 ⟨rfl, hE35⟩
    refine ⟨_, rfl, ?_⟩
    have hb37 : Ext w w34 := Ext.trans hb28 hE35
    have hL38 : w.heap.size ≤ w34.heap.size := Nat.le_trans hL29 hE35.size
    have hS39 : SH w34 w.heap.size [] := SH.ext hS30 hE35
    refine WL.runk 2 [0, 1, 20] [(0, .slice a0' list_0.length c0'), (1, .int .i64 k_1), (20, .bool (!x32))] (by kernel_rfl) ?_
    refine WL.nil ?_
    obtain rfl := Option.some.inj hm
    exact WQ.post' ⟨rfl, hb37, hL38, hS39⟩ ⟨rfl, rfl, rfl, trivial⟩
  clear hx22
  rintro _ w40 ⟨rfl, hb41, hL42, hS43⟩
  refine WQ.then_normal (hK3 _ _ _ ?_)
  refine WP.cond x21 rfl rfl (fun hc44 => ?_) (fun hc44 => ?_)
  · have hm := iteT hm hc44
    refine WP.seq (fun K45 hK45 => ?_)
    refine WP.region ?_
    refine WL.runk 1 [4] [(4, .string (bs []))] (by kernel_rfl) ?_
    refine WL.nil ?_
    refine WQ.then_normal (hK45 _ _ _ ?_)
    refine WP.ret ?_
    refine WQ.then_ret ?_
    obtain rfl := Option.some.inj hm
    exact WQ.ret1 _ rfl rfl ⟨rfl, hb41⟩
  have hm := iteF hm hc44
  refine WP.skip ?_
  refine WQ.then_normal (hK2 _ _ _ ?_)
  refine WP.seq (fun K46 hK46 => ?_)
  refine WP.region ?_
  refine WL.runk 2 [0, 21, 22] [(0, .slice a0' list_0.length c0'), (21, .slice a0' list_0.length c0'), (22, .int .i64 k_1)] (by kernel_rfl) ?_
  obtain ⟨x47, hx48, hm⟩ := bindE hm
  obtain ⟨a49, c50, a54, c55, hc59, hR51, hle52, hR56, hle57⟩ := nest_Repair h0 hx48
  refine WL.st (.pointer (some (at_ a0' (Int.toNat k_1 * 5)))) (ST.index (T := fRepair.ty) (xs := list_0) (Rd.below h0 hb41) hx48 rfl rfl rfl Tryd.underlying25 (info36).1 (info36).2.1) rfl rfl rfl ?_
  refine WL.st (.agg #[.string (bs x47.Name), .slice a49 x47.Mends.length c50, .slice a54 x47.First.length c55, .int .i64 x47.Price, .int .i64 x47.Hours]) (ST.loadAgg (vs := [.string (bs x47.Name), .slice a49 x47.Mends.length c50, .slice a54 x47.First.length c55, .int .i64 x47.Price, .int .i64 x47.Hours]) (at_agg (cells_ext hc59 hb41)) rfl rfl rfl Tryd.underlying36 rfl (info36).1 (info36).2.1) rfl rfl rfl ?_
  refine WL.row fStr 9 ([] : List (List UInt8)) 0 #[] 25 (by kernel_rfl) rfl rfl rfl rfl rfl rfl rfl ?_
  intro a60 c61 w62 hE63 hR64
  have hb66 : Ext w w62 := Ext.trans hb41 hE63
  have hL67 : w.heap.size ≤ w62.heap.size := Nat.le_trans hL42 hE63.size
  have hS68 : SH w62 w.heap.size [aOwn fStr 9 a60 c61 ([] : List (List UInt8))] := SH.add hS43 hE63 hL42 hR64
  refine WL.box 36 [.string (bs []), .slice none 0 0, .slice none 0 0, .int .i64 0, .int .i64 0] 5 (by kernel_rfl) rfl rfl rfl rfl ?_
  intro b69 w70 hE71 hR72
  have hb74 : Ext w w70 := Ext.trans hb66 hE71
  have hL75 : w.heap.size ≤ w70.heap.size := Nat.le_trans hL67 hE71.size
  have hS76 : SH w70 w.heap.size [aBox 36 b69 [.string (bs []), .slice none 0 0, .slice none 0 0, .int .i64 0, .int .i64 0], aOwn fStr 9 a60 c61 ([] : List (List UInt8))] := SH.add hS68 hE71 hL67 hR72
  refine WL.boxStore 0 [.string (bs x47.Name), .slice a49 x47.Mends.length c50, .slice a54 x47.First.length c55, .int .i64 x47.Price, .int .i64 x47.Hours] [.string (bs x47.Name), .slice a49 x47.Mends.length c50, .slice a54 x47.First.length c55, .int .i64 x47.Price, .int .i64 x47.Hours] (SH.front 0 hS76) hL75 rfl rfl rfl rfl rfl rfl rfl (info36).1 (info36).2.1 rfl rfl rfl ?_
  intro w77 hB78 hS79
  have hb80 : Ext w w77 := Below.trans hb74 hB78
  have hL81 : w.heap.size ≤ w77.heap.size := Nat.le_trans hL75 hB78.size
  refine WL.runk 1 [0, 5, 6] [(0, .slice a0' list_0.length c0'), (5, .pointer (some ⟨b69, 0, none⟩)), (6, .slice a60 (([] : List (List UInt8)).length) c61)] (by kernel_rfl) ?_
  refine WL.nil ?_
  refine WQ.then_normal (hK46 _ _ _ ?_)
  refine WP.seq (fun K82 hK82 => ?_)
  refine WP.seq (fun K83 hK83 => ?_)
  refine WP.region ?_
  refine WL.runk 1 [0, 5, 6, 26] [(0, .slice a0' list_0.length c0'), (5, .pointer (some ⟨b69, 0, none⟩)), (6, .slice a60 (([] : List (List UInt8)).length) c61), (26, .pointer (some ⟨b69, 2, none⟩))] (by kernel_rfl) ?_
  refine WL.st (.slice a54 x47.First.length c55) (ST.load (cell_ext (SH.boxAt (SH.front 0 hS79) 2 _ rfl)) rfl rfl Tryd.underlying30 rfl) rfl rfl rfl ?_
  refine WL.runk 2 [0, 5, 6, 27, 28, 29] [(0, .slice a0' list_0.length c0'), (5, .pointer (some ⟨b69, 0, none⟩)), (6, .slice a60 (([] : List (List UInt8)).length) c61), (27, .slice a54 x47.First.length c55), (28, .int .i64 (x47.First.length : Int)), (29, .int .i64 0)] (by kernel_rfl) ?_
  refine WL.nil ?_
  refine WQ.then_normal (hK83 _ _ _ ?_)
  refine WP.block ?_
  obtain ⟨t98, ht99, hm⟩ := bindE hm
  have hmo93 := hm; clear hm
  refine WP.sub [(0, .slice a0' list_0.length c0'), (5, .pointer (some ⟨b69, 0, none⟩)), (6, .slice a60 (([] : List (List UInt8)).length) c61), (27, .slice a54 x47.First.length c55), (28, .int .i64 (x47.First.length : Int)), (29, .int .i64 0)] ⟨rfl, rfl, rfl, rfl, rfl, rfl, trivial⟩ ?_
  refine WP.loop (fun n' env' w' => ∃ (st84 : List (List UInt8) × Int) (a85 : Option Addr) (c86 : Nat), env' = [(0, .slice a0' list_0.length c0'), (5, .pointer (some ⟨b69, 0, none⟩)), (6, .slice a85 st84.1.length c86), (27, .slice a54 x47.First.length c55), (28, .int .i64 (x47.First.length : Int)), (29, .int .i64 st84.2)] ∧ Ext w w' ∧ w.heap.size ≤ w'.heap.size ∧ SH w' w.heap.size [aOwn fStr 9 a85 c86 st84.1, aBox 36 b69 [.string (bs x47.Name), .slice a49 x47.Mends.length c50, .slice a54 x47.First.length c55, .int .i64 x47.Price, .int .i64 x47.Hours]] ∧ loopN (m_impl_RepairText_l1 n list_0 x47) n' st84 = some t98) n ⟨(([] : List (List UInt8)), 0), _, _, rfl, hb80, hL81, (SH.front 1 hS79), ht99⟩ ?_
  rintro n95 _ w88 ⟨st84, a85, c86, rfl, hb89, hL90, hS91, hl92⟩ K94 hK94
  obtain ⟨n96, s97, rfl, hm, hl92⟩ := loopN_some hl92
  unfold m_impl_RepairText_l1 at hm
  refine WP.seq (fun K100 hK100 => ?_)
  refine WP.region ?_
  refine WL.runk 1 [0, 5, 6, 27, 28, 29, 30] [(0, .slice a0' list_0.length c0'), (5, .pointer (some ⟨b69, 0, none⟩)), (6, .slice a85 st84.1.length c86), (27, .slice a54 x47.First.length c55), (28, .int .i64 (x47.First.length : Int)), (29, .int .i64 st84.2), (30, .bool (decide (st84.2 < (x47.First.length : Int))))] (by kernel_rfl) ?_
  refine WL.nil ?_
  refine WQ.then_normal (hK100 _ _ _ ?_)
  refine WP.seq (fun K101 hK101 => ?_)
  refine WP.cond (decide (st84.2 < (x47.First.length : Int))) rfl rfl (fun hc102 => ?_) (fun hc102 => ?_)
  · have hm := iteT hm hc102
    refine WP.skip ?_
    refine WQ.then_normal (hK101 _ _ _ ?_)
    refine WP.seq (fun K103 hK103 => ?_)
    refine WP.block ?_
    refine WP.seq (fun K104 hK104 => ?_)
    refine WP.region ?_
    obtain ⟨x105, hx106, hm⟩ := bindE hm
    refine WL.st (.pointer (some (at_ a54 (Int.toNat st84.2 * 1)))) (ST.index (T := fInt.ty) (xs := x47.First) (Rd.below hR56 hb89) hx106 rfl rfl rfl Tryd.underlying30 (info2).1 (info2).2.1) rfl rfl rfl ?_
    refine WL.st (.int .i64 x105) (ST.load (cell_ext (Rd.flat (F := fInt) (Rd.below hR56 hb89) hx106 0 rfl)) rfl rfl Tryd.underlying2 rfl) rfl rfl rfl ?_
    refine WL.runk 1 [0, 5, 6, 8, 27, 28, 29] [(0, .slice a0' list_0.length c0'), (5, .pointer (some ⟨b69, 0, none⟩)), (6, .slice a85 st84.1.length c86), (27, .slice a54 x47.First.length c55), (28, .int .i64 (x47.First.length : Int)), (29, .int .i64 st84.2), (8, .int .i64 x105)] (by kernel_rfl) ?_
    refine WL.nil ?_
    refine WQ.then_normal (hK104 _ _ _ ?_)
    refine WP.region ?_
    refine WL.runk 3 [0, 5, 27, 28, 29, 33, 34, 35] [(0, .slice a0' list_0.length c0'), (5, .pointer (some ⟨b69, 0, none⟩)), (27, .slice a54 x47.First.length c55), (28, .int .i64 (x47.First.length : Int)), (29, .int .i64 st84.2), (33, .slice a85 st84.1.length c86), (34, .slice a0' list_0.length c0'), (35, .int .i64 x105)] (by kernel_rfl) ?_
    obtain ⟨x107, hx108, hm⟩ := bindE hm
    obtain ⟨a109, c110, a114, c115, hc119, hR111, hle112, hR116, hle117⟩ := nest_Repair h0 hx108
    refine WL.st (.pointer (some (at_ a0' (Int.toNat x105 * 5)))) (ST.index (T := fRepair.ty) (xs := list_0) (Rd.below h0 hb89) hx108 rfl rfl rfl Tryd.underlying25 (info36).1 (info36).2.1) rfl rfl rfl ?_
    refine WL.runk 1 [0, 5, 27, 28, 29, 33, 37] [(0, .slice a0' list_0.length c0'), (5, .pointer (some ⟨b69, 0, none⟩)), (27, .slice a54 x47.First.length c55), (28, .int .i64 (x47.First.length : Int)), (29, .int .i64 st84.2), (33, .slice a85 st84.1.length c86), (37, .pointer (some (at_ a0' (Int.toNat x105 * 5))))] (by kernel_rfl) ?_
    refine WL.st (.string (bs x107.Name)) (ST.load (cell_ext ((cells_ext hc119 hb89) 0 _ rfl)) rfl rfl Tryd.underlying9 rfl) rfl rfl rfl ?_
    refine WL.row fStr 9 ([x107.Name] : List (List UInt8)) 1 #[.string (bs x107.Name)] 39 (by kernel_rfl) rfl rfl rfl rfl rfl rfl rfl ?_
    intro a120 c121 w122 hE123 hR124
    have hb126 : Ext w w122 := Ext.trans hb89 hE123
    have hL127 : w.heap.size ≤ w122.heap.size := Nat.le_trans hL90 hE123.size
    have hS128 : SH w122 w.heap.size [aOwn fStr 9 a120 c121 ([x107.Name] : List (List UInt8)), aOwn fStr 9 a85 c86 st84.1, aBox 36 b69 [.string (bs x47.Name), .slice a49 x47.Mends.length c50, .slice a54 x47.First.length c55, .int .i64 x47.Price, .int .i64 x47.Hours]] := SH.add hS91 hE123 hL90 hR124
    obtain ⟨x129, hx130, hm⟩ := bindE hm
    refine WL.append (F := fStr) (xs := st84.1) (ys := ([x107.Name] : List (List UInt8))) 40 (SH.front 1 hS128) hL127 (SH.rd (SH.front 0 hS128)) hx130 rfl rfl rfl Tryd.underlying39 (info9).1 (info9).2.2.1 (info9).2.1 (info9).2.2.2 rfl rfl rfl rfl rfl ?_
    intro a131 c132 w133 hB134 hS135
    have hb136 : Ext w w133 := Below.trans hb126 hB134
    have hL137 : w.heap.size ≤ w133.heap.size := Nat.le_trans hL127 hB134.size
    refine WL.runk 1 [0, 5, 6, 27, 28, 29] [(0, .slice a0' list_0.length c0'), (5, .pointer (some ⟨b69, 0, none⟩)), (27, .slice a54 x47.First.length c55), (28, .int .i64 (x47.First.length : Int)), (29, .int .i64 st84.2), (6, .slice a131 x129.length c132)] (by kernel_rfl) ?_
    refine WL.nil ?_
    refine WQ.block_normal ?_
    refine WQ.then_normal (hK103 _ _ _ ?_)
    refine WP.region ?_
    refine WL.runk 2 [0, 5, 6, 27, 28, 29] [(0, .slice a0' list_0.length c0'), (5, .pointer (some ⟨b69, 0, none⟩)), (27, .slice a54 x47.First.length c55), (28, .int .i64 (x47.First.length : Int)), (29, .int .i64 (wI64 (st84.2 + 1))), (6, .slice a131 x129.length c132)] (by kernel_rfl) ?_
    refine WL.nil ?_
    obtain rfl := Option.some.inj hm
    exact WQ.round hK94 ⟨(x129, (wI64 (st84.2 + 1))), _, _, rfl, hb136, hL137, (SH.take 2 (SH.front 1 (SH.front 2 hS135))), hl92⟩ (Nat.lt_succ_self _) ⟨rfl, rfl, rfl, rfl, rfl, rfl, trivial⟩
  have hm := iteF hm hc102
  refine WP.exit ?_
  refine WQ.then_exit ?_
  refine WQ.then_exit ?_
  refine WQ.block_here ?_
  obtain rfl := Option.some.inj hm
  obtain rfl := afterN_done hl92
  have hm := hmo93
  refine WQ.then_normal (hK82 _ _ _ ?_)
  refine WP.seq (fun K138 hK138 => ?_)
  refine WP.quiet (by kernel_rfl) (by kernel_rfl) ?_
  refine QL.step1v 42 (.pointer (some ⟨b69, 0, none⟩)) rfl (fun _ => by kernel_rfl) ?_
  refine QL.subk [5, 6, 42] [(5, .pointer (some ⟨b69, 0, none⟩)), (6, .slice a85 st84.1.length c86), (42, .pointer (some ⟨b69, 0, none⟩))] (by kernel_rfl) ?_
  refine QL.st (.string (bs x47.Name)) (ST.load (cell_ext (SH.boxAt (SH.front 1 hS91) 0 _ rfl)) rfl rfl Tryd.underlying9 rfl) rfl rfl rfl ?_
  obtain ⟨x139, hx140, hm⟩ := bindE hm
  refine QL.st (.string (bs x139)) (ST.cat hx140 rfl rfl rfl) rfl rfl rfl ?_
  refine QL.step1v 45 (.pointer (some ⟨b69, 3, none⟩)) rfl (fun _ => by kernel_rfl) ?_
  refine QL.subk [5, 6, 44, 45] [(5, .pointer (some ⟨b69, 0, none⟩)), (6, .slice a85 st84.1.length c86), (44, .string (bs x139)), (45, .pointer (some ⟨b69, 3, none⟩))] (by kernel_rfl) ?_
  refine QL.st (.int .i64 x47.Price) (ST.load (cell_ext (SH.boxAt (SH.front 1 hS91) 3 _ rfl)) rfl rfl Tryd.underlying2 rfl) rfl rfl rfl ?_
  obtain ⟨x141, hx142, hm⟩ := bindE hm
  refine QL.call 16 #[.int .i64 x47.Price] (.string (bs x141)) (fun _ => by kernel_rfl) (fun w143 hE144 => c_16 n x47.Price w143 hx142 (GL.below (GL.below hG hb89) hE144)) rfl rfl rfl ?_
  obtain ⟨x145, hx146, hm⟩ := bindE hm
  refine QL.st (.string (bs x145)) (ST.cat hx146 rfl rfl rfl) rfl rfl rfl ?_
  obtain ⟨x147, hx148, hm⟩ := bindE hm
  refine QL.st (.string (bs x147)) (ST.cat hx148 rfl rfl rfl) rfl rfl rfl ?_
  refine QL.step1v 50 (.pointer (some ⟨b69, 4, none⟩)) rfl (fun _ => by kernel_rfl) ?_
  refine QL.subk [6, 49, 50] [(6, .slice a85 st84.1.length c86), (49, .string (bs x147)), (50, .pointer (some ⟨b69, 4, none⟩))] (by kernel_rfl) ?_
  refine QL.st (.int .i64 x47.Hours) (ST.load (cell_ext (SH.boxAt (SH.front 1 hS91) 4 _ rfl)) rfl rfl Tryd.underlying2 rfl) rfl rfl rfl ?_
  obtain ⟨x149, hx150, hm⟩ := bindE hm
  refine QL.call 16 #[.int .i64 x47.Hours] (.string (bs x149)) (fun _ => by kernel_rfl) (fun w151 hE152 => c_16 n x47.Hours w151 hx150 (GL.below (GL.below hG hb89) hE152)) rfl rfl rfl ?_
  obtain ⟨x153, hx154, hm⟩ := bindE hm
  refine QL.st (.string (bs x153)) (ST.cat hx154 rfl rfl rfl) rfl rfl rfl ?_
  refine QL.step1v 9 (.string (bs x153)) rfl (fun _ => by kernel_rfl) ?_
  refine QL.subk [6, 9] [(6, .slice a85 st84.1.length c86), (9, .string (bs x153))] (by kernel_rfl) ?_
  refine QL.nil ?_
  intro w155 hE156
  have hb157 : Ext w w155 := Ext.trans hb89 hE156
  have hL158 : w.heap.size ≤ w155.heap.size := Nat.le_trans hL90 hE156.size
  have hS159 : SH w155 w.heap.size [aOwn fStr 9 a85 c86 st84.1, aBox 36 b69 [.string (bs x47.Name), .slice a49 x47.Mends.length c50, .slice a54 x47.First.length c55, .int .i64 x47.Price, .int .i64 x47.Hours]] := SH.ext hS91 hE156
  refine WQ.then_normal (hK138 _ _ _ ?_)
  refine WP.seq (fun K160 hK160 => ?_)
  refine WP.seq (fun K161 hK161 => ?_)
  refine WP.region ?_
  refine WL.runk 3 [6, 9, 56] [(6, .slice a85 st84.1.length c86), (9, .string (bs x153)), (56, .bool (decide ((st84.1.length : Int) > 0)))] (by kernel_rfl) ?_
  refine WL.nil ?_
  refine WQ.then_normal (hK161 _ _ _ ?_)
  obtain ⟨x175, hx176, hm⟩ := bindE hm
  refine WP.cut (fun env' w' => env' = [(9, .string (bs x175))] ∧ Ext w w' ∧ w.heap.size ≤ w'.heap.size ∧ SH w' w.heap.size [aBox 36 b69 [.string (bs x47.Name), .slice a49 x47.Mends.length c50, .slice a54 x47.First.length c55, .int .i64 x47.Price, .int .i64 x47.Hours]]) ?_ ?_
  rotate_left
  · clear hx176
    rintro _ w189 ⟨rfl, hb190, hL191, hS192⟩
    refine WQ.then_normal (hK160 _ _ _ ?_)
    refine WP.seq (fun K193 hK193 => ?_)
    refine WP.region ?_
    refine WL.runk 2 [4] [(4, .string (bs x175))] (by kernel_rfl) ?_
    refine WL.nil ?_
    refine WQ.then_normal (hK193 _ _ _ ?_)
    refine WP.ret ?_
    obtain rfl := Option.some.inj hm
    exact WQ.ret1 _ rfl rfl ⟨rfl, hb190⟩
  have hm := hx176; clear hx176
  refine WP.cond (decide ((st84.1.length : Int) > 0)) rfl rfl (fun hc162 => ?_) (fun hc162 => ?_)
  rotate_left
  · have hm := iteF hm hc162
    refine WP.skip ?_
    obtain rfl := Option.some.inj hm
    exact WQ.post' ⟨rfl, hb157, hL158, (SH.take 1 (SH.front 1 hS159))⟩ ⟨rfl, trivial⟩
  have hm := iteT hm hc162
  refine WP.region ?_
  refine WL.runk 2 [57, 58] [(57, .string (bs x153)), (58, .slice a85 st84.1.length c86)] (by kernel_rfl) ?_
  obtain ⟨x177, hx178, hm⟩ := bindE hm
  refine WL.call 17 #[.slice a85 st84.1.length c86, .string (bs [44])] rfl rfl (by kernel_rfl) (c_17 n st84.1 a85 c86 [44] w155 hx178 (SH.rd (SH.front 0 hS159)) (SH.le (SH.front 0 hS159)).1) ?_
  rintro _ w179 ⟨rfl, hE180⟩
  refine ⟨_, rfl, ?_⟩
  have hb182 : Ext w w179 := Ext.trans hb157 hE180
  have hL183 : w.heap.size ≤ w179.heap.size := Nat.le_trans hL158 hE180.size
  have hS184 : SH w179 w.heap.size [aOwn fStr 9 a85 c86 st84.1, aBox 36 b69 [.string (bs x47.Name), .slice a49 x47.Mends.length c50, .slice a54 x47.First.length c55, .int .i64 x47.Price, .int .i64 x47.Hours]] := SH.ext hS159 hE180
  obtain ⟨x185, hx186, hm⟩ := bindE hm
  refine WL.st (.string (bs x185)) (ST.cat hx186 rfl rfl rfl) rfl rfl rfl ?_
  obtain ⟨x187, hx188, hm⟩ := bindE hm
  refine WL.st (.string (bs x187)) (ST.cat hx188 rfl rfl rfl) rfl rfl rfl ?_
  refine WL.runk 1 [9] [(9, .string (bs x187))] (by kernel_rfl) ?_
  refine WL.nil ?_
  obtain rfl := Option.some.inj hm
  exact WQ.post' ⟨rfl, hb182, hL183, (SH.take 1 (SH.front 1 hS184))⟩ ⟨rfl, trivial⟩

theorem c_32 (n : Nat) (a_0 : List Int) (a0' : Option Addr) (c0' : Nat) (b_1 : List Int) (a1' : Option Addr) (c1' : Nat) (w : World) {r : Bool} (hm : m_laws_eqInt64S n a_0 b_1 = some r) (h0 : Rd fInt.ty w a0' a_0) (_hle0 : a_0.length ≤ c0') (h1 : Rd fInt.ty w a1' b_1) (_hle1 : b_1.length ≤ c1') :
    CallV Tryd.prog 32 #[.slice a0' a_0.length c0', .slice a1' b_1.length c1'] w (fun v w' => v = .bool r ∧ Ext w w') := by
  unfold m_laws_eqInt64S at hm
  refine CallV.enter Tryd.func32 rfl (by kernel_rfl) Tryd.ntmps32 (env := [(0, .slice a0' a_0.length c0'), (1, .slice a1' b_1.length c1')]) ⟨rfl, rfl, trivial⟩ ?_
  refine WP.seq (fun K1 hK1 => ?_)
  refine WP.region ?_
  refine WL.runk 1 [0, 1] [(0, .slice a0' a_0.length c0'), (1, .slice a1' b_1.length c1')] (by kernel_rfl) ?_
  refine WL.nil ?_
  refine WQ.then_normal (hK1 _ _ _ ?_)
  refine WP.seq (fun K2 hK2 => ?_)
  refine WP.seq (fun K3 hK3 => ?_)
  refine WP.region ?_
  refine WL.runk 5 [0, 1, 10] [(0, .slice a0' a_0.length c0'), (1, .slice a1' b_1.length c1'), (10, .bool ((a_0.length : Int) != (b_1.length : Int)))] (by kernel_rfl) ?_
  refine WL.nil ?_
  refine WQ.then_normal (hK3 _ _ _ ?_)
  refine WP.cond ((a_0.length : Int) != (b_1.length : Int)) rfl rfl (fun hc4 => ?_) (fun hc4 => ?_)
  · have hm := iteT hm hc4
    refine WP.seq (fun K5 hK5 => ?_)
    refine WP.region ?_
    refine WL.runk 1 [4] [(4, .bool false)] (by kernel_rfl) ?_
    refine WL.nil ?_
    refine WQ.then_normal (hK5 _ _ _ ?_)
    refine WP.ret ?_
    refine WQ.then_ret ?_
    obtain rfl := Option.some.inj hm
    exact WQ.ret1 _ rfl rfl ⟨rfl, (Ext.refl w)⟩
  have hm := iteF hm hc4
  refine WP.skip ?_
  refine WQ.then_normal (hK2 _ _ _ ?_)
  refine WP.seq (fun K6 hK6 => ?_)
  refine WP.seq (fun K7 hK7 => ?_)
  refine WP.region ?_
  refine WL.runk 1 [0, 1, 5] [(0, .slice a0' a_0.length c0'), (1, .slice a1' b_1.length c1'), (5, .int .i64 0)] (by kernel_rfl) ?_
  refine WL.nil ?_
  refine WQ.then_normal (hK7 _ _ _ ?_)
  refine WP.block ?_
  obtain ⟨t19, ht20, hm⟩ := bindE hm
  have hmo14 := hm; clear hm
  refine WP.sub [(0, .slice a0' a_0.length c0'), (1, .slice a1' b_1.length c1'), (5, .int .i64 0)] ⟨rfl, rfl, rfl, trivial⟩ ?_
  refine WP.loop (fun n' env' w' => ∃ (st8 : Int) , env' = [(0, .slice a0' a_0.length c0'), (1, .slice a1' b_1.length c1'), (5, .int .i64 st8)] ∧ Ext w w' ∧ w.heap.size ≤ w'.heap.size ∧ SH w' w.heap.size [] ∧ loopN (m_laws_eqInt64S_l1 n a_0 b_1) n' st8 = some t19) n ⟨0, rfl, (Ext.refl w), (Nat.le_refl _), (SH.nil _ _), ht20⟩ ?_
  rintro n16 _ w9 ⟨st8, rfl, hb10, hL11, hS12, hl13⟩ K15 hK15
  obtain ⟨n17, s18, rfl, hm, hl13⟩ := loopN_some hl13
  unfold m_laws_eqInt64S_l1 at hm
  refine WP.seq (fun K21 hK21 => ?_)
  refine WP.seq (fun K22 hK22 => ?_)
  refine WP.region ?_
  refine WL.runk 4 [0, 1, 5, 14] [(0, .slice a0' a_0.length c0'), (1, .slice a1' b_1.length c1'), (5, .int .i64 st8), (14, .bool (decide (st8 < (a_0.length : Int))))] (by kernel_rfl) ?_
  refine WL.nil ?_
  refine WQ.then_normal (hK22 _ _ _ ?_)
  refine WP.cond (decide (st8 < (a_0.length : Int))) rfl rfl (fun hc23 => ?_) (fun hc23 => ?_)
  rotate_left
  · have hm := iteF hm hc23
    refine WP.exit ?_
    refine WQ.then_exit ?_
    refine WQ.then_exit ?_
    refine WQ.block_here ?_
    obtain rfl := Option.some.inj hm
    obtain rfl := afterN_done hl13
    have hm := hmo14
    refine WQ.then_normal (hK6 _ _ _ ?_)
    refine WP.seq (fun K37 hK37 => ?_)
    refine WP.region ?_
    refine WL.runk 1 [4] [(4, .bool true)] (by kernel_rfl) ?_
    refine WL.nil ?_
    refine WQ.then_normal (hK37 _ _ _ ?_)
    refine WP.ret ?_
    obtain rfl := Option.some.inj hm
    exact WQ.ret1 _ rfl rfl ⟨rfl, hb10⟩
  have hm := iteT hm hc23
  refine WP.skip ?_
  refine WQ.then_normal (hK21 _ _ _ ?_)
  refine WP.seq (fun K24 hK24 => ?_)
  refine WP.block ?_
  refine WP.seq (fun K25 hK25 => ?_)
  refine WP.quiet (by kernel_rfl) (by kernel_rfl) ?_
  refine QL.step1v 17 (.slice a0' a_0.length c0') rfl (fun _ => by kernel_rfl) ?_
  refine QL.step1v 18 (.int .i64 st8) rfl (fun _ => by kernel_rfl) ?_
  refine QL.subk [0, 1, 5, 17, 18] [(0, .slice a0' a_0.length c0'), (1, .slice a1' b_1.length c1'), (5, .int .i64 st8), (17, .slice a0' a_0.length c0'), (18, .int .i64 st8)] (by kernel_rfl) ?_
  obtain ⟨x26, hx27, hm⟩ := bindE hm
  refine QL.st (.pointer (some (at_ a0' (Int.toNat st8 * 1)))) (ST.index (T := fInt.ty) (xs := a_0) (Rd.below h0 hb10) hx27 rfl rfl rfl Tryd.underlying30 (info2).1 (info2).2.1) rfl rfl rfl ?_
  refine QL.st (.int .i64 x26) (ST.load (cell_ext (Rd.flat (F := fInt) (Rd.below h0 hb10) hx27 0 rfl)) rfl rfl Tryd.underlying2 rfl) rfl rfl rfl ?_
  refine QL.step1v 21 (.slice a1' b_1.length c1') rfl (fun _ => by kernel_rfl) ?_
  refine QL.step1v 22 (.int .i64 st8) rfl (fun _ => by kernel_rfl) ?_
  refine QL.subk [0, 1, 5, 20, 21, 22] [(0, .slice a0' a_0.length c0'), (1, .slice a1' b_1.length c1'), (5, .int .i64 st8), (20, .int .i64 x26), (21, .slice a1' b_1.length c1'), (22, .int .i64 st8)] (by kernel_rfl) ?_
  obtain ⟨x28, hx29, hm⟩ := bindE hm
  refine QL.st (.pointer (some (at_ a1' (Int.toNat st8 * 1)))) (ST.index (T := fInt.ty) (xs := b_1) (Rd.below h1 hb10) hx29 rfl rfl rfl Tryd.underlying30 (info2).1 (info2).2.1) rfl rfl rfl ?_
  refine QL.st (.int .i64 x28) (ST.load (cell_ext (Rd.flat (F := fInt) (Rd.below h1 hb10) hx29 0 rfl)) rfl rfl Tryd.underlying2 rfl) rfl rfl rfl ?_
  refine QL.step1v 25 (.bool (x26 != x28)) rfl (fun _ => by kernel_rfl) ?_
  refine QL.subk [0, 1, 5, 25] [(0, .slice a0' a_0.length c0'), (1, .slice a1' b_1.length c1'), (5, .int .i64 st8), (25, .bool (x26 != x28))] (by kernel_rfl) ?_
  refine QL.nil ?_
  intro w30 hE31
  have hb32 : Ext w w30 := Ext.trans hb10 hE31
  have hL33 : w.heap.size ≤ w30.heap.size := Nat.le_trans hL11 hE31.size
  have hS34 : SH w30 w.heap.size [] := SH.ext hS12 hE31
  refine WQ.then_normal (hK25 _ _ _ ?_)
  refine WP.cond (x26 != x28) rfl rfl (fun hc35 => ?_) (fun hc35 => ?_)
  rotate_left
  · have hm := iteF hm hc35
    refine WP.skip ?_
    refine WQ.block_normal ?_
    refine WQ.then_normal (hK24 _ _ _ ?_)
    refine WP.region ?_
    refine WL.runk 3 [0, 1, 5] [(0, .slice a0' a_0.length c0'), (1, .slice a1' b_1.length c1'), (5, .int .i64 (wI64 (st8 + 1)))] (by kernel_rfl) ?_
    refine WL.nil ?_
    obtain rfl := Option.some.inj hm
    exact WQ.round hK15 ⟨(wI64 (st8 + 1)), rfl, hb32, hL33, hS34, hl13⟩ (Nat.lt_succ_self _) ⟨rfl, rfl, rfl, trivial⟩
  have hm := iteT hm hc35
  refine WP.seq (fun K36 hK36 => ?_)
  refine WP.region ?_
  refine WL.runk 1 [4] [(4, .bool false)] (by kernel_rfl) ?_
  refine WL.nil ?_
  refine WQ.then_normal (hK36 _ _ _ ?_)
  refine WP.ret ?_
  refine WQ.block_ret ?_
  refine WQ.then_ret ?_
  refine WQ.then_ret ?_
  refine WQ.block_ret ?_
  refine WQ.then_ret ?_
  obtain rfl := Option.some.inj hm
  obtain rfl := afterN_done hl13
  have hm := hmo14
  obtain rfl := Option.some.inj hm
  exact WQ.ret1 _ rfl rfl ⟨rfl, hb32⟩

theorem c_18 (n : Nat) (a_0 : SRepair) (a0_1' : Option Addr) (c0_1' : Nat) (a0_2' : Option Addr) (c0_2' : Nat) (b_1 : SRepair) (a1_1' : Option Addr) (c1_1' : Nat) (a1_2' : Option Addr) (c1_2' : Nat) (w : World) {r : Bool} (hm : m_laws_eqRepair n a_0 b_1 = some r) (hr0_1 : Rd fInt.ty w a0_1' a_0.Mends) (hle0_1 : a_0.Mends.length ≤ c0_1') (hr0_2 : Rd fInt.ty w a0_2' a_0.First) (hle0_2 : a_0.First.length ≤ c0_2') (hr1_1 : Rd fInt.ty w a1_1' b_1.Mends) (hle1_1 : b_1.Mends.length ≤ c1_1') (hr1_2 : Rd fInt.ty w a1_2' b_1.First) (hle1_2 : b_1.First.length ≤ c1_2') :
    CallV Tryd.prog 18 #[.agg #[.string (bs a_0.Name), .slice a0_1' a_0.Mends.length c0_1', .slice a0_2' a_0.First.length c0_2', .int .i64 a_0.Price, .int .i64 a_0.Hours], .agg #[.string (bs b_1.Name), .slice a1_1' b_1.Mends.length c1_1', .slice a1_2' b_1.First.length c1_2', .int .i64 b_1.Price, .int .i64 b_1.Hours]] w (fun v w' => v = .bool r ∧ Ext w w') := by
  unfold m_laws_eqRepair at hm
  refine CallV.enter Tryd.func18 rfl (by kernel_rfl) Tryd.ntmps18 (env := [(0, .agg #[.string (bs a_0.Name), .slice a0_1' a_0.Mends.length c0_1', .slice a0_2' a_0.First.length c0_2', .int .i64 a_0.Price, .int .i64 a_0.Hours]), (1, .agg #[.string (bs b_1.Name), .slice a1_1' b_1.Mends.length c1_1', .slice a1_2' b_1.First.length c1_2', .int .i64 b_1.Price, .int .i64 b_1.Hours])]) ⟨rfl, rfl, trivial⟩ ?_
  refine WP.seq (fun K1 hK1 => ?_)
  refine WP.region ?_
  refine WL.box 36 [.string (bs a_0.Name), .slice a0_1' a_0.Mends.length c0_1', .slice a0_2' a_0.First.length c0_2', .int .i64 a_0.Price, .int .i64 a_0.Hours] 2 (by kernel_rfl) rfl rfl rfl rfl ?_
  intro b2 w3 hE4 hR5
  have hb7 : Ext w w3 := Ext.trans (Ext.refl w) hE4
  have hL8 : w.heap.size ≤ w3.heap.size := Nat.le_trans (Nat.le_refl _) hE4.size
  have hS9 : SH w3 w.heap.size [aBox 36 b2 [.string (bs a_0.Name), .slice a0_1' a_0.Mends.length c0_1', .slice a0_2' a_0.First.length c0_2', .int .i64 a_0.Price, .int .i64 a_0.Hours]] := SH.add (SH.nil _ _) hE4 (Nat.le_refl _) hR5
  refine WL.box 36 [.string (bs b_1.Name), .slice a1_1' b_1.Mends.length c1_1', .slice a1_2' b_1.First.length c1_2', .int .i64 b_1.Price, .int .i64 b_1.Hours] 3 (by kernel_rfl) rfl rfl rfl rfl ?_
  intro b10 w11 hE12 hR13
  have hb15 : Ext w w11 := Ext.trans hb7 hE12
  have hL16 : w.heap.size ≤ w11.heap.size := Nat.le_trans hL8 hE12.size
  have hS17 : SH w11 w.heap.size [aBox 36 b10 [.string (bs b_1.Name), .slice a1_1' b_1.Mends.length c1_1', .slice a1_2' b_1.First.length c1_2', .int .i64 b_1.Price, .int .i64 b_1.Hours], aBox 36 b2 [.string (bs a_0.Name), .slice a0_1' a_0.Mends.length c0_1', .slice a0_2' a_0.First.length c0_2', .int .i64 a_0.Price, .int .i64 a_0.Hours]] := SH.add hS9 hE12 hL8 hR13
  refine WL.runk 1 [2, 3] [(2, .pointer (some ⟨b2, 0, none⟩)), (3, .pointer (some ⟨b10, 0, none⟩))] (by kernel_rfl) ?_
  refine WL.nil ?_
  refine WQ.then_normal (hK1 _ _ _ ?_)
  refine WP.seq (fun K18 hK18 => ?_)
  refine WP.seq (fun K19 hK19 => ?_)
  refine WP.region ?_
  refine WL.runk 1 [2, 3, 5] [(2, .pointer (some ⟨b2, 0, none⟩)), (3, .pointer (some ⟨b10, 0, none⟩)), (5, .pointer (some ⟨b2, 0, none⟩))] (by kernel_rfl) ?_
  refine WL.st (.string (bs a_0.Name)) (ST.load (cell_ext (SH.boxAt (SH.front 1 hS17) 0 _ rfl)) rfl rfl Tryd.underlying9 rfl) rfl rfl rfl ?_
  refine WL.runk 1 [2, 3, 6, 7] [(2, .pointer (some ⟨b2, 0, none⟩)), (3, .pointer (some ⟨b10, 0, none⟩)), (6, .string (bs a_0.Name)), (7, .pointer (some ⟨b10, 0, none⟩))] (by kernel_rfl) ?_
  refine WL.st (.string (bs b_1.Name)) (ST.load (cell_ext (SH.boxAt (SH.front 0 hS17) 0 _ rfl)) rfl rfl Tryd.underlying9 rfl) rfl rfl rfl ?_
  refine WL.st (.bool (!(a_0.Name == b_1.Name))) (ST.strne (x := a_0.Name) (y := b_1.Name) rfl rfl rfl) rfl rfl rfl ?_
  refine WL.sub [(2, .pointer (some ⟨b2, 0, none⟩)), (3, .pointer (some ⟨b10, 0, none⟩)), (9, .bool (!(a_0.Name == b_1.Name)))] ⟨rfl, rfl, rfl, trivial⟩ ?_
  refine WL.nil ?_
  refine WQ.then_normal (hK19 _ _ _ ?_)
  refine WP.cond (!(a_0.Name == b_1.Name)) rfl rfl (fun hc20 => ?_) (fun hc20 => ?_)
  · have hm := iteT hm hc20
    refine WP.seq (fun K21 hK21 => ?_)
    refine WP.region ?_
    refine WL.runk 1 [4] [(4, .bool false)] (by kernel_rfl) ?_
    refine WL.nil ?_
    refine WQ.then_normal (hK21 _ _ _ ?_)
    refine WP.ret ?_
    refine WQ.then_ret ?_
    obtain rfl := Option.some.inj hm
    exact WQ.ret1 _ rfl rfl ⟨rfl, hb15⟩
  have hm := iteF hm hc20
  refine WP.skip ?_
  refine WQ.then_normal (hK18 _ _ _ ?_)
  refine WP.seq (fun K22 hK22 => ?_)
  refine WP.seq (fun K23 hK23 => ?_)
  refine WP.region ?_
  refine WL.runk 1 [2, 3, 10] [(2, .pointer (some ⟨b2, 0, none⟩)), (3, .pointer (some ⟨b10, 0, none⟩)), (10, .pointer (some ⟨b2, 1, none⟩))] (by kernel_rfl) ?_
  refine WL.st (.slice a0_1' a_0.Mends.length c0_1') (ST.load (cell_ext (SH.boxAt (SH.front 1 hS17) 1 _ rfl)) rfl rfl Tryd.underlying30 rfl) rfl rfl rfl ?_
  refine WL.runk 1 [2, 3, 11, 12] [(2, .pointer (some ⟨b2, 0, none⟩)), (3, .pointer (some ⟨b10, 0, none⟩)), (11, .slice a0_1' a_0.Mends.length c0_1'), (12, .pointer (some ⟨b10, 1, none⟩))] (by kernel_rfl) ?_
  refine WL.st (.slice a1_1' b_1.Mends.length c1_1') (ST.load (cell_ext (SH.boxAt (SH.front 0 hS17) 1 _ rfl)) rfl rfl Tryd.underlying30 rfl) rfl rfl rfl ?_
  obtain ⟨x24, hx25, hm⟩ := bindE hm
  refine WL.call 32 #[.slice a0_1' a_0.Mends.length c0_1', .slice a1_1' b_1.Mends.length c1_1'] rfl rfl (by kernel_rfl) (c_32 n a_0.Mends a0_1' c0_1' b_1.Mends a1_1' c1_1' w11 hx25 (Rd.below hr0_1 hb15) hle0_1 (Rd.below hr1_1 hb15) hle1_1) ?_
  rintro _ w26 ⟨rfl, hE27⟩
  refine ⟨_, rfl, ?_⟩
  have hb29 : Ext w w26 := Ext.trans hb15 hE27
  have hL30 : w.heap.size ≤ w26.heap.size := Nat.le_trans hL16 hE27.size
  have hS31 : SH w26 w.heap.size [aBox 36 b10 [.string (bs b_1.Name), .slice a1_1' b_1.Mends.length c1_1', .slice a1_2' b_1.First.length c1_2', .int .i64 b_1.Price, .int .i64 b_1.Hours], aBox 36 b2 [.string (bs a_0.Name), .slice a0_1' a_0.Mends.length c0_1', .slice a0_2' a_0.First.length c0_2', .int .i64 a_0.Price, .int .i64 a_0.Hours]] := SH.ext hS17 hE27
  refine WL.runk 1 [2, 3, 15] [(2, .pointer (some ⟨b2, 0, none⟩)), (3, .pointer (some ⟨b10, 0, none⟩)), (15, .bool (!x24))] (by kernel_rfl) ?_
  refine WL.nil ?_
  refine WQ.then_normal (hK23 _ _ _ ?_)
  refine WP.cond (!x24) rfl rfl (fun hc32 => ?_) (fun hc32 => ?_)
  · have hm := iteT hm hc32
    refine WP.seq (fun K33 hK33 => ?_)
    refine WP.region ?_
    refine WL.runk 1 [4] [(4, .bool false)] (by kernel_rfl) ?_
    refine WL.nil ?_
    refine WQ.then_normal (hK33 _ _ _ ?_)
    refine WP.ret ?_
    refine WQ.then_ret ?_
    obtain rfl := Option.some.inj hm
    exact WQ.ret1 _ rfl rfl ⟨rfl, hb29⟩
  have hm := iteF hm hc32
  refine WP.skip ?_
  refine WQ.then_normal (hK22 _ _ _ ?_)
  refine WP.seq (fun K34 hK34 => ?_)
  refine WP.seq (fun K35 hK35 => ?_)
  refine WP.region ?_
  refine WL.runk 1 [2, 3, 16] [(2, .pointer (some ⟨b2, 0, none⟩)), (3, .pointer (some ⟨b10, 0, none⟩)), (16, .pointer (some ⟨b2, 2, none⟩))] (by kernel_rfl) ?_
  refine WL.st (.slice a0_2' a_0.First.length c0_2') (ST.load (cell_ext (SH.boxAt (SH.front 1 hS31) 2 _ rfl)) rfl rfl Tryd.underlying30 rfl) rfl rfl rfl ?_
  refine WL.runk 1 [2, 3, 17, 18] [(2, .pointer (some ⟨b2, 0, none⟩)), (3, .pointer (some ⟨b10, 0, none⟩)), (17, .slice a0_2' a_0.First.length c0_2'), (18, .pointer (some ⟨b10, 2, none⟩))] (by kernel_rfl) ?_
  refine WL.st (.slice a1_2' b_1.First.length c1_2') (ST.load (cell_ext (SH.boxAt (SH.front 0 hS31) 2 _ rfl)) rfl rfl Tryd.underlying30 rfl) rfl rfl rfl ?_
  obtain ⟨x36, hx37, hm⟩ := bindE hm
  refine WL.call 32 #[.slice a0_2' a_0.First.length c0_2', .slice a1_2' b_1.First.length c1_2'] rfl rfl (by kernel_rfl) (c_32 n a_0.First a0_2' c0_2' b_1.First a1_2' c1_2' w26 hx37 (Rd.below hr0_2 hb29) hle0_2 (Rd.below hr1_2 hb29) hle1_2) ?_
  rintro _ w38 ⟨rfl, hE39⟩
  refine ⟨_, rfl, ?_⟩
  have hb41 : Ext w w38 := Ext.trans hb29 hE39
  have hL42 : w.heap.size ≤ w38.heap.size := Nat.le_trans hL30 hE39.size
  have hS43 : SH w38 w.heap.size [aBox 36 b10 [.string (bs b_1.Name), .slice a1_1' b_1.Mends.length c1_1', .slice a1_2' b_1.First.length c1_2', .int .i64 b_1.Price, .int .i64 b_1.Hours], aBox 36 b2 [.string (bs a_0.Name), .slice a0_1' a_0.Mends.length c0_1', .slice a0_2' a_0.First.length c0_2', .int .i64 a_0.Price, .int .i64 a_0.Hours]] := SH.ext hS31 hE39
  refine WL.runk 1 [2, 3, 21] [(2, .pointer (some ⟨b2, 0, none⟩)), (3, .pointer (some ⟨b10, 0, none⟩)), (21, .bool (!x36))] (by kernel_rfl) ?_
  refine WL.nil ?_
  refine WQ.then_normal (hK35 _ _ _ ?_)
  refine WP.cond (!x36) rfl rfl (fun hc44 => ?_) (fun hc44 => ?_)
  · have hm := iteT hm hc44
    refine WP.seq (fun K45 hK45 => ?_)
    refine WP.region ?_
    refine WL.runk 1 [4] [(4, .bool false)] (by kernel_rfl) ?_
    refine WL.nil ?_
    refine WQ.then_normal (hK45 _ _ _ ?_)
    refine WP.ret ?_
    refine WQ.then_ret ?_
    obtain rfl := Option.some.inj hm
    exact WQ.ret1 _ rfl rfl ⟨rfl, hb41⟩
  have hm := iteF hm hc44
  refine WP.skip ?_
  refine WQ.then_normal (hK34 _ _ _ ?_)
  refine WP.seq (fun K46 hK46 => ?_)
  refine WP.seq (fun K47 hK47 => ?_)
  refine WP.region ?_
  refine WL.runk 1 [2, 3, 22] [(2, .pointer (some ⟨b2, 0, none⟩)), (3, .pointer (some ⟨b10, 0, none⟩)), (22, .pointer (some ⟨b2, 3, none⟩))] (by kernel_rfl) ?_
  refine WL.st (.int .i64 a_0.Price) (ST.load (cell_ext (SH.boxAt (SH.front 1 hS43) 3 _ rfl)) rfl rfl Tryd.underlying2 rfl) rfl rfl rfl ?_
  refine WL.runk 1 [2, 3, 23, 24] [(2, .pointer (some ⟨b2, 0, none⟩)), (3, .pointer (some ⟨b10, 0, none⟩)), (23, .int .i64 a_0.Price), (24, .pointer (some ⟨b10, 3, none⟩))] (by kernel_rfl) ?_
  refine WL.st (.int .i64 b_1.Price) (ST.load (cell_ext (SH.boxAt (SH.front 0 hS43) 3 _ rfl)) rfl rfl Tryd.underlying2 rfl) rfl rfl rfl ?_
  refine WL.runk 1 [2, 3, 26] [(2, .pointer (some ⟨b2, 0, none⟩)), (3, .pointer (some ⟨b10, 0, none⟩)), (26, .bool (a_0.Price != b_1.Price))] (by kernel_rfl) ?_
  refine WL.nil ?_
  refine WQ.then_normal (hK47 _ _ _ ?_)
  refine WP.cond (a_0.Price != b_1.Price) rfl rfl (fun hc48 => ?_) (fun hc48 => ?_)
  · have hm := iteT hm hc48
    refine WP.seq (fun K49 hK49 => ?_)
    refine WP.region ?_
    refine WL.runk 1 [4] [(4, .bool false)] (by kernel_rfl) ?_
    refine WL.nil ?_
    refine WQ.then_normal (hK49 _ _ _ ?_)
    refine WP.ret ?_
    refine WQ.then_ret ?_
    obtain rfl := Option.some.inj hm
    exact WQ.ret1 _ rfl rfl ⟨rfl, hb41⟩
  have hm := iteF hm hc48
  refine WP.skip ?_
  refine WQ.then_normal (hK46 _ _ _ ?_)
  refine WP.seq (fun K50 hK50 => ?_)
  refine WP.seq (fun K51 hK51 => ?_)
  refine WP.region ?_
  refine WL.runk 1 [3, 27] [(3, .pointer (some ⟨b10, 0, none⟩)), (27, .pointer (some ⟨b2, 4, none⟩))] (by kernel_rfl) ?_
  refine WL.st (.int .i64 a_0.Hours) (ST.load (cell_ext (SH.boxAt (SH.front 1 hS43) 4 _ rfl)) rfl rfl Tryd.underlying2 rfl) rfl rfl rfl ?_
  refine WL.runk 1 [28, 29] [(28, .int .i64 a_0.Hours), (29, .pointer (some ⟨b10, 4, none⟩))] (by kernel_rfl) ?_
  refine WL.st (.int .i64 b_1.Hours) (ST.load (cell_ext (SH.boxAt (SH.front 0 hS43) 4 _ rfl)) rfl rfl Tryd.underlying2 rfl) rfl rfl rfl ?_
  refine WL.runk 1 [31] [(31, .bool (a_0.Hours != b_1.Hours))] (by kernel_rfl) ?_
  refine WL.nil ?_
  refine WQ.then_normal (hK51 _ _ _ ?_)
  refine WP.cond (a_0.Hours != b_1.Hours) rfl rfl (fun hc52 => ?_) (fun hc52 => ?_)
  · have hm := iteT hm hc52
    refine WP.seq (fun K53 hK53 => ?_)
    refine WP.region ?_
    refine WL.runk 1 [4] [(4, .bool false)] (by kernel_rfl) ?_
    refine WL.nil ?_
    refine WQ.then_normal (hK53 _ _ _ ?_)
    refine WP.ret ?_
    refine WQ.then_ret ?_
    obtain rfl := Option.some.inj hm
    exact WQ.ret1 _ rfl rfl ⟨rfl, hb41⟩
  have hm := iteF hm hc52
  refine WP.skip ?_
  refine WQ.then_normal (hK50 _ _ _ ?_)
  refine WP.seq (fun K54 hK54 => ?_)
  refine WP.region ?_
  refine WL.runk 1 [4] [(4, .bool true)] (by kernel_rfl) ?_
  refine WL.nil ?_
  refine WQ.then_normal (hK54 _ _ _ ?_)
  refine WP.ret ?_
  obtain rfl := Option.some.inj hm
  exact WQ.ret1 _ rfl rfl ⟨rfl, hb41⟩

theorem c_8 (n : Nat) (a_0 : List SRepair) (a0' : Option Addr) (c0' : Nat) (b_1 : List SRepair) (a1' : Option Addr) (c1' : Nat) (w : World) {r : Bool} (hm : m_laws_eqRepairS n a_0 b_1 = some r) (h0 : Rd fRepair.ty w a0' a_0) (_hle0 : a_0.length ≤ c0') (h1 : Rd fRepair.ty w a1' b_1) (_hle1 : b_1.length ≤ c1') :
    CallV Tryd.prog 8 #[.slice a0' a_0.length c0', .slice a1' b_1.length c1'] w (fun v w' => v = .bool r ∧ Ext w w') := by
  unfold m_laws_eqRepairS at hm
  refine CallV.enter Tryd.func8 rfl (by kernel_rfl) Tryd.ntmps8 (env := [(0, .slice a0' a_0.length c0'), (1, .slice a1' b_1.length c1')]) ⟨rfl, rfl, trivial⟩ ?_
  refine WP.seq (fun K1 hK1 => ?_)
  refine WP.region ?_
  refine WL.runk 1 [0, 1] [(0, .slice a0' a_0.length c0'), (1, .slice a1' b_1.length c1')] (by kernel_rfl) ?_
  refine WL.nil ?_
  refine WQ.then_normal (hK1 _ _ _ ?_)
  refine WP.seq (fun K2 hK2 => ?_)
  refine WP.seq (fun K3 hK3 => ?_)
  refine WP.region ?_
  refine WL.runk 5 [0, 1, 10] [(0, .slice a0' a_0.length c0'), (1, .slice a1' b_1.length c1'), (10, .bool ((a_0.length : Int) != (b_1.length : Int)))] (by kernel_rfl) ?_
  refine WL.nil ?_
  refine WQ.then_normal (hK3 _ _ _ ?_)
  refine WP.cond ((a_0.length : Int) != (b_1.length : Int)) rfl rfl (fun hc4 => ?_) (fun hc4 => ?_)
  · have hm := iteT hm hc4
    refine WP.seq (fun K5 hK5 => ?_)
    refine WP.region ?_
    refine WL.runk 1 [4] [(4, .bool false)] (by kernel_rfl) ?_
    refine WL.nil ?_
    refine WQ.then_normal (hK5 _ _ _ ?_)
    refine WP.ret ?_
    refine WQ.then_ret ?_
    obtain rfl := Option.some.inj hm
    exact WQ.ret1 _ rfl rfl ⟨rfl, (Ext.refl w)⟩
  have hm := iteF hm hc4
  refine WP.skip ?_
  refine WQ.then_normal (hK2 _ _ _ ?_)
  refine WP.seq (fun K6 hK6 => ?_)
  refine WP.seq (fun K7 hK7 => ?_)
  refine WP.region ?_
  refine WL.runk 1 [0, 1, 5] [(0, .slice a0' a_0.length c0'), (1, .slice a1' b_1.length c1'), (5, .int .i64 0)] (by kernel_rfl) ?_
  refine WL.nil ?_
  refine WQ.then_normal (hK7 _ _ _ ?_)
  refine WP.block ?_
  obtain ⟨t19, ht20, hm⟩ := bindE hm
  have hmo14 := hm; clear hm
  refine WP.sub [(0, .slice a0' a_0.length c0'), (1, .slice a1' b_1.length c1'), (5, .int .i64 0)] ⟨rfl, rfl, rfl, trivial⟩ ?_
  refine WP.loop (fun n' env' w' => ∃ (st8 : Int) , env' = [(0, .slice a0' a_0.length c0'), (1, .slice a1' b_1.length c1'), (5, .int .i64 st8)] ∧ Ext w w' ∧ w.heap.size ≤ w'.heap.size ∧ SH w' w.heap.size [] ∧ loopN (m_laws_eqRepairS_l1 n a_0 b_1) n' st8 = some t19) n ⟨0, rfl, (Ext.refl w), (Nat.le_refl _), (SH.nil _ _), ht20⟩ ?_
  rintro n16 _ w9 ⟨st8, rfl, hb10, hL11, hS12, hl13⟩ K15 hK15
  obtain ⟨n17, s18, rfl, hm, hl13⟩ := loopN_some hl13
  unfold m_laws_eqRepairS_l1 at hm
  refine WP.seq (fun K21 hK21 => ?_)
  refine WP.seq (fun K22 hK22 => ?_)
  refine WP.region ?_
  refine WL.runk 4 [0, 1, 5, 14] [(0, .slice a0' a_0.length c0'), (1, .slice a1' b_1.length c1'), (5, .int .i64 st8), (14, .bool (decide (st8 < (a_0.length : Int))))] (by kernel_rfl) ?_
  refine WL.nil ?_
  refine WQ.then_normal (hK22 _ _ _ ?_)
  refine WP.cond (decide (st8 < (a_0.length : Int))) rfl rfl (fun hc23 => ?_) (fun hc23 => ?_)
  rotate_left
  · have hm := iteF hm hc23
    refine WP.exit ?_
    refine WQ.then_exit ?_
    refine WQ.then_exit ?_
    refine WQ.block_here ?_
    obtain rfl := Option.some.inj hm
    obtain rfl := afterN_done hl13
    have hm := hmo14
    refine WQ.then_normal (hK6 _ _ _ ?_)
    refine WP.seq (fun K63 hK63 => ?_)
    refine WP.region ?_
    refine WL.runk 1 [4] [(4, .bool true)] (by kernel_rfl) ?_
    refine WL.nil ?_
    refine WQ.then_normal (hK63 _ _ _ ?_)
    refine WP.ret ?_
    obtain rfl := Option.some.inj hm
    exact WQ.ret1 _ rfl rfl ⟨rfl, hb10⟩
  have hm := iteT hm hc23
  refine WP.skip ?_
  refine WQ.then_normal (hK21 _ _ _ ?_)
  refine WP.seq (fun K24 hK24 => ?_)
  refine WP.block ?_
  refine WP.seq (fun K25 hK25 => ?_)
  refine WP.quiet (by kernel_rfl) (by kernel_rfl) ?_
  refine QL.step1v 17 (.slice a0' a_0.length c0') rfl (fun _ => by kernel_rfl) ?_
  refine QL.step1v 18 (.int .i64 st8) rfl (fun _ => by kernel_rfl) ?_
  refine QL.subk [0, 1, 5, 17, 18] [(0, .slice a0' a_0.length c0'), (1, .slice a1' b_1.length c1'), (5, .int .i64 st8), (17, .slice a0' a_0.length c0'), (18, .int .i64 st8)] (by kernel_rfl) ?_
  obtain ⟨x26, hx27, hm⟩ := bindE hm
  obtain ⟨a28, c29, a33, c34, hc38, hR30, hle31, hR35, hle36⟩ := nest_Repair h0 hx27
  refine QL.st (.pointer (some (at_ a0' (Int.toNat st8 * 5)))) (ST.index (T := fRepair.ty) (xs := a_0) (Rd.below h0 hb10) hx27 rfl rfl rfl Tryd.underlying25 (info36).1 (info36).2.1) rfl rfl rfl ?_
  refine QL.st (.agg #[.string (bs x26.Name), .slice a28 x26.Mends.length c29, .slice a33 x26.First.length c34, .int .i64 x26.Price, .int .i64 x26.Hours]) (ST.loadAgg (vs := [.string (bs x26.Name), .slice a28 x26.Mends.length c29, .slice a33 x26.First.length c34, .int .i64 x26.Price, .int .i64 x26.Hours]) (at_agg (cells_ext hc38 hb10)) rfl rfl rfl Tryd.underlying36 rfl (info36).1 (info36).2.1) rfl rfl rfl ?_
  refine QL.step1v 21 (.slice a1' b_1.length c1') rfl (fun _ => by kernel_rfl) ?_
  refine QL.step1v 22 (.int .i64 st8) rfl (fun _ => by kernel_rfl) ?_
  refine QL.subk [0, 1, 5, 20, 21, 22] [(0, .slice a0' a_0.length c0'), (1, .slice a1' b_1.length c1'), (5, .int .i64 st8), (20, .agg #[.string (bs x26.Name), .slice a28 x26.Mends.length c29, .slice a33 x26.First.length c34, .int .i64 x26.Price, .int .i64 x26.Hours]), (21, .slice a1' b_1.length c1'), (22, .int .i64 st8)] (by kernel_rfl) ?_
  obtain ⟨x39, hx40, hm⟩ := bindE hm
  obtain ⟨a41, c42, a46, c47, hc51, hR43, hle44, hR48, hle49⟩ := nest_Repair h1 hx40
  refine QL.st (.pointer (some (at_ a1' (Int.toNat st8 * 5)))) (ST.index (T := fRepair.ty) (xs := b_1) (Rd.below h1 hb10) hx40 rfl rfl rfl Tryd.underlying25 (info36).1 (info36).2.1) rfl rfl rfl ?_
  refine QL.st (.agg #[.string (bs x39.Name), .slice a41 x39.Mends.length c42, .slice a46 x39.First.length c47, .int .i64 x39.Price, .int .i64 x39.Hours]) (ST.loadAgg (vs := [.string (bs x39.Name), .slice a41 x39.Mends.length c42, .slice a46 x39.First.length c47, .int .i64 x39.Price, .int .i64 x39.Hours]) (at_agg (cells_ext hc51 hb10)) rfl rfl rfl Tryd.underlying36 rfl (info36).1 (info36).2.1) rfl rfl rfl ?_
  obtain ⟨x52, hx53, hm⟩ := bindE hm
  refine QL.call 18 #[.agg #[.string (bs x26.Name), .slice a28 x26.Mends.length c29, .slice a33 x26.First.length c34, .int .i64 x26.Price, .int .i64 x26.Hours], .agg #[.string (bs x39.Name), .slice a41 x39.Mends.length c42, .slice a46 x39.First.length c47, .int .i64 x39.Price, .int .i64 x39.Hours]] (.bool x52) (fun _ => by kernel_rfl) (fun w54 hE55 => c_18 n x26 a28 c29 a33 c34 x39 a41 c42 a46 c47 w54 hx53 (Rd.below (Rd.below hR30 hb10) hE55) hle31 (Rd.below (Rd.below hR35 hb10) hE55) hle36 (Rd.below (Rd.below hR43 hb10) hE55) hle44 (Rd.below (Rd.below hR48 hb10) hE55) hle49) rfl rfl rfl ?_
  refine QL.step1v 26 (.bool (!x52)) rfl (fun _ => by kernel_rfl) ?_
  refine QL.subk [0, 1, 5, 26] [(0, .slice a0' a_0.length c0'), (1, .slice a1' b_1.length c1'), (5, .int .i64 st8), (26, .bool (!x52))] (by kernel_rfl) ?_
  refine QL.nil ?_
  intro w56 hE57
  have hb58 : Ext w w56 := Ext.trans hb10 hE57
  have hL59 : w.heap.size ≤ w56.heap.size := Nat.le_trans hL11 hE57.size
  have hS60 : SH w56 w.heap.size [] := SH.ext hS12 hE57
  refine WQ.then_normal (hK25 _ _ _ ?_)
  refine WP.cond (!x52) rfl rfl (fun hc61 => ?_) (fun hc61 => ?_)
  rotate_left
  · have hm := iteF hm hc61
    refine WP.skip ?_
    refine WQ.block_normal ?_
    refine WQ.then_normal (hK24 _ _ _ ?_)
    refine WP.region ?_
    refine WL.runk 3 [0, 1, 5] [(0, .slice a0' a_0.length c0'), (1, .slice a1' b_1.length c1'), (5, .int .i64 (wI64 (st8 + 1)))] (by kernel_rfl) ?_
    refine WL.nil ?_
    obtain rfl := Option.some.inj hm
    exact WQ.round hK15 ⟨(wI64 (st8 + 1)), rfl, hb58, hL59, hS60, hl13⟩ (Nat.lt_succ_self _) ⟨rfl, rfl, rfl, trivial⟩
  have hm := iteT hm hc61
  refine WP.seq (fun K62 hK62 => ?_)
  refine WP.region ?_
  refine WL.runk 1 [4] [(4, .bool false)] (by kernel_rfl) ?_
  refine WL.nil ?_
  refine WQ.then_normal (hK62 _ _ _ ?_)
  refine WP.ret ?_
  refine WQ.block_ret ?_
  refine WQ.then_ret ?_
  refine WQ.then_ret ?_
  refine WQ.block_ret ?_
  refine WQ.then_ret ?_
  obtain rfl := Option.some.inj hm
  obtain rfl := afterN_done hl13
  have hm := hmo14
  obtain rfl := Option.some.inj hm
  exact WQ.ret1 _ rfl rfl ⟨rfl, hb58⟩

theorem c_3 (n : Nat) (aList_0 : List SRepair) (a0' : Option Addr) (c0' : Nat) (aK_1 : Int) (w : World) {r : Bool} (hm : m_laws_FnExactRepairText n aList_0 aK_1 = some r) (hG : GL 2 w) (h0 : Rd fRepair.ty w a0' aList_0) (hle0 : aList_0.length ≤ c0') :
    CallV Tryd.prog 3 #[.slice a0' aList_0.length c0', .int .i64 aK_1] w (fun v w' => v = .bool r ∧ Ext w w') := by
  unfold m_laws_FnExactRepairText at hm
  refine CallV.enter Tryd.func3 rfl (by kernel_rfl) Tryd.ntmps3 (env := [(0, .slice a0' aList_0.length c0'), (1, .int .i64 aK_1)]) ⟨rfl, rfl, trivial⟩ ?_
  refine WP.seq (fun K1 hK1 => ?_)
  refine WP.region ?_
  refine WL.runk 1 [0, 1] [(0, .slice a0' aList_0.length c0'), (1, .int .i64 aK_1)] (by kernel_rfl) ?_
  refine WL.nil ?_
  refine WQ.then_normal (hK1 _ _ _ ?_)
  refine WP.seq (fun K2 hK2 => ?_)
  refine WP.region ?_
  refine WL.runk 1 [0, 1, 5] [(0, .slice a0' aList_0.length c0'), (1, .int .i64 aK_1), (5, .int .i64 1048576)] (by kernel_rfl) ?_
  refine WL.nil ?_
  refine WQ.then_normal (hK2 _ _ _ ?_)
  refine WP.seq (fun K3 hK3 => ?_)
  refine WP.region ?_
  refine WL.runk 2 [0, 1, 9, 10] [(0, .slice a0' aList_0.length c0'), (1, .int .i64 aK_1), (9, .slice a0' aList_0.length c0'), (10, .int .i64 1048576)] (by kernel_rfl) ?_
  obtain ⟨x4, hx5, hm⟩ := bindE hm
  refine WL.call 4 #[.slice a0' aList_0.length c0', .int .i64 1048576] rfl rfl (by kernel_rfl) (c_4 n aList_0 a0' c0' 1048576 w hx5 (Rd.below h0 (Ext.refl w)) hle0) ?_
  rintro _ w6 ⟨rfl, hE7⟩
  refine ⟨_, rfl, ?_⟩
  have hb9 : Ext w w6 := Ext.trans (Ext.refl w) hE7
  have hL10 : w.heap.size ≤ w6.heap.size := Nat.le_trans (Nat.le_refl _) hE7.size
  have hS11 : SH w6 w.heap.size [] := SH.ext (SH.nil _ _) hE7
  refine WL.runk 1 [0, 1, 5] [(0, .slice a0' aList_0.length c0'), (1, .int .i64 aK_1), (5, .int .i64 x4)] (by kernel_rfl) ?_
  refine WL.nil ?_
  refine WQ.then_normal (hK3 _ _ _ ?_)
  refine WP.seq (fun K12 hK12 => ?_)
  refine WP.seq (fun K13 hK13 => ?_)
  refine WP.region ?_
  refine WL.runk 2 [0, 1, 13] [(0, .slice a0' aList_0.length c0'), (1, .int .i64 aK_1), (13, .bool (decide (x4 < 0)))] (by kernel_rfl) ?_
  refine WL.nil ?_
  refine WQ.then_normal (hK13 _ _ _ ?_)
  refine WP.cond (decide (x4 < 0)) rfl rfl (fun hc14 => ?_) (fun hc14 => ?_)
  · have hm := iteT hm hc14
    refine WP.seq (fun K15 hK15 => ?_)
    refine WP.region ?_
    refine WL.runk 1 [4] [(4, .bool true)] (by kernel_rfl) ?_
    refine WL.nil ?_
    refine WQ.then_normal (hK15 _ _ _ ?_)
    refine WP.ret ?_
    refine WQ.then_ret ?_
    obtain rfl := Option.some.inj hm
    exact WQ.ret1 _ rfl rfl ⟨rfl, hb9⟩
  have hm := iteF hm hc14
  refine WP.skip ?_
  refine WQ.then_normal (hK12 _ _ _ ?_)
  refine WP.seq (fun K16 hK16 => ?_)
  refine WP.region ?_
  refine WL.runk 1 [0, 1, 14] [(0, .slice a0' aList_0.length c0'), (1, .int .i64 aK_1), (14, .slice a0' aList_0.length c0')] (by kernel_rfl) ?_
  obtain ⟨x17, hx18, hm⟩ := bindE hm
  refine WL.call 6 #[.slice a0' aList_0.length c0'] rfl rfl (by kernel_rfl) (c_6 n aList_0 a0' c0' w6 hx18 (Rd.below h0 hb9) hle0) ?_
  rintro _ w22 ⟨a19, c20, rfl, hE23, hR24⟩
  refine ⟨_, rfl, ?_⟩
  have hb25 : Ext w w22 := Ext.trans hb9 hE23
  have hL26 : w.heap.size ≤ w22.heap.size := Nat.le_trans hL10 hE23.size
  have hS27 : SH w22 w.heap.size [aNest fRepair 36 2 a19 c20 x17] := SH.add hS11 hE23 hL10 hR24
  refine WL.runk 1 [0, 1, 15, 16] [(0, .slice a0' aList_0.length c0'), (1, .int .i64 aK_1), (15, .slice a19 x17.length c20), (16, .int .i64 aK_1)] (by kernel_rfl) ?_
  obtain ⟨x28, hx29, hm⟩ := bindE hm
  refine WL.call 5 #[.slice a19 x17.length c20, .int .i64 aK_1] rfl rfl (by kernel_rfl) (c_5 n x17 a19 c20 aK_1 w22 hx29 (SH.rdN (SH.front 0 hS27)) (SH.leN (SH.front 0 hS27)).1) ?_
  rintro _ w30 ⟨rfl, hE31⟩
  refine ⟨_, rfl, ?_⟩
  have hb33 : Ext w w30 := Ext.trans hb25 hE31
  have hL34 : w.heap.size ≤ w30.heap.size := Nat.le_trans hL26 hE31.size
  have hS35 : SH w30 w.heap.size [aNest fRepair 36 2 a19 c20 x17] := SH.ext hS27 hE31
  refine WL.runk 1 [0, 1, 6] [(0, .slice a0' aList_0.length c0'), (1, .int .i64 aK_1), (6, .string (bs x28))] (by kernel_rfl) ?_
  refine WL.nil ?_
  refine WQ.then_normal (hK16 _ _ _ ?_)
  refine WP.seq (fun K36 hK36 => ?_)
  refine WP.region ?_
  refine WL.runk 1 [0, 1, 6, 18] [(0, .slice a0' aList_0.length c0'), (1, .int .i64 aK_1), (6, .string (bs x28)), (18, .slice a0' aList_0.length c0')] (by kernel_rfl) ?_
  obtain ⟨x37, hx38, hm⟩ := bindE hm
  refine WL.call 6 #[.slice a0' aList_0.length c0'] rfl rfl (by kernel_rfl) (c_6 n aList_0 a0' c0' w30 hx38 (Rd.below h0 hb33) hle0) ?_
  rintro _ w42 ⟨a39, c40, rfl, hE43, hR44⟩
  refine ⟨_, rfl, ?_⟩
  have hb45 : Ext w w42 := Ext.trans hb33 hE43
  have hL46 : w.heap.size ≤ w42.heap.size := Nat.le_trans hL34 hE43.size
  have hS47 : SH w42 w.heap.size [aNest fRepair 36 2 a39 c40 x37, aNest fRepair 36 2 a19 c20 x17] := SH.add hS35 hE43 hL34 hR44
  refine WL.runk 1 [0, 1, 6, 7] [(0, .slice a0' aList_0.length c0'), (1, .int .i64 aK_1), (6, .string (bs x28)), (7, .slice a39 x37.length c40)] (by kernel_rfl) ?_
  refine WL.nil ?_
  refine WQ.then_normal (hK36 _ _ _ ?_)
  refine WP.seq (fun K48 hK48 => ?_)
  refine WP.region ?_
  refine WL.runk 2 [0, 6, 7, 20, 21] [(0, .slice a0' aList_0.length c0'), (6, .string (bs x28)), (7, .slice a39 x37.length c40), (20, .slice a39 x37.length c40), (21, .int .i64 aK_1)] (by kernel_rfl) ?_
  obtain ⟨x49, hx50, hm⟩ := bindE hm
  refine WL.call 7 #[.slice a39 x37.length c40, .int .i64 aK_1] rfl rfl (by kernel_rfl) (c_7 n x37 a39 c40 aK_1 w42 hx50 (GL.below hG hb45) (SH.rdN (SH.front 0 hS47)) (SH.leN (SH.front 0 hS47)).1) ?_
  rintro _ w51 ⟨rfl, hE52⟩
  refine ⟨_, rfl, ?_⟩
  have hb54 : Ext w w51 := Ext.trans hb45 hE52
  have hL55 : w.heap.size ≤ w51.heap.size := Nat.le_trans hL46 hE52.size
  have hS56 : SH w51 w.heap.size [aNest fRepair 36 2 a39 c40 x37, aNest fRepair 36 2 a19 c20 x17] := SH.ext hS47 hE52
  refine WL.runk 1 [0, 6, 7, 8] [(0, .slice a0' aList_0.length c0'), (6, .string (bs x28)), (7, .slice a39 x37.length c40), (8, .string (bs x49))] (by kernel_rfl) ?_
  refine WL.nil ?_
  refine WQ.then_normal (hK48 _ _ _ ?_)
  refine WP.seq (fun K57 hK57 => ?_)
  refine WP.seq (fun K58 hK58 => ?_)
  refine WP.region ?_
  refine WL.runk 2 [0, 7, 23, 24] [(0, .slice a0' aList_0.length c0'), (7, .slice a39 x37.length c40), (23, .string (bs x49)), (24, .string (bs x28))] (by kernel_rfl) ?_
  refine WL.st (.bool (!(x49 == x28))) (ST.strne (x := x49) (y := x28) rfl rfl rfl) rfl rfl rfl ?_
  refine WL.sub [(0, .slice a0' aList_0.length c0'), (7, .slice a39 x37.length c40), (25, .bool (!(x49 == x28)))] ⟨rfl, rfl, rfl, trivial⟩ ?_
  refine WL.nil ?_
  refine WQ.then_normal (hK58 _ _ _ ?_)
  refine WP.cond (!(x49 == x28)) rfl rfl (fun hc59 => ?_) (fun hc59 => ?_)
  · have hm := iteT hm hc59
    refine WP.seq (fun K60 hK60 => ?_)
    refine WP.region ?_
    refine WL.runk 1 [4] [(4, .bool false)] (by kernel_rfl) ?_
    refine WL.nil ?_
    refine WQ.then_normal (hK60 _ _ _ ?_)
    refine WP.ret ?_
    refine WQ.then_ret ?_
    obtain rfl := Option.some.inj hm
    exact WQ.ret1 _ rfl rfl ⟨rfl, hb54⟩
  have hm := iteF hm hc59
  refine WP.skip ?_
  refine WQ.then_normal (hK57 _ _ _ ?_)
  refine WP.seq (fun K61 hK61 => ?_)
  refine WP.seq (fun K62 hK62 => ?_)
  refine WP.region ?_
  refine WL.runk 2 [26, 27] [(26, .slice a39 x37.length c40), (27, .slice a0' aList_0.length c0')] (by kernel_rfl) ?_
  obtain ⟨x63, hx64, hm⟩ := bindE hm
  refine WL.call 6 #[.slice a0' aList_0.length c0'] rfl rfl (by kernel_rfl) (c_6 n aList_0 a0' c0' w51 hx64 (Rd.below h0 hb54) hle0) ?_
  rintro _ w68 ⟨a65, c66, rfl, hE69, hR70⟩
  refine ⟨_, rfl, ?_⟩
  have hb71 : Ext w w68 := Ext.trans hb54 hE69
  have hL72 : w.heap.size ≤ w68.heap.size := Nat.le_trans hL55 hE69.size
  have hS73 : SH w68 w.heap.size [aNest fRepair 36 2 a65 c66 x63, aNest fRepair 36 2 a39 c40 x37, aNest fRepair 36 2 a19 c20 x17] := SH.add hS56 hE69 hL55 hR70
  obtain ⟨x74, hx75, hm⟩ := bindE hm
  refine WL.call 8 #[.slice a39 x37.length c40, .slice a65 x63.length c66] rfl rfl (by kernel_rfl) (c_8 n x37 a39 c40 x63 a65 c66 w68 hx75 (SH.rdN (SH.front 1 hS73)) (SH.leN (SH.front 1 hS73)).1 (SH.rdN (SH.front 0 hS73)) (SH.leN (SH.front 0 hS73)).1) ?_
  rintro _ w76 ⟨rfl, hE77⟩
  refine ⟨_, rfl, ?_⟩
  have hb79 : Ext w w76 := Ext.trans hb71 hE77
  have hL80 : w.heap.size ≤ w76.heap.size := Nat.le_trans hL72 hE77.size
  have hS81 : SH w76 w.heap.size [aNest fRepair 36 2 a65 c66 x63, aNest fRepair 36 2 a39 c40 x37, aNest fRepair 36 2 a19 c20 x17] := SH.ext hS73 hE77
  refine WL.runk 1 [30] [(30, .bool (!x74))] (by kernel_rfl) ?_
  refine WL.nil ?_
  refine WQ.then_normal (hK62 _ _ _ ?_)
  refine WP.cond (!x74) rfl rfl (fun hc82 => ?_) (fun hc82 => ?_)
  · have hm := iteT hm hc82
    refine WP.seq (fun K83 hK83 => ?_)
    refine WP.region ?_
    refine WL.runk 1 [4] [(4, .bool false)] (by kernel_rfl) ?_
    refine WL.nil ?_
    refine WQ.then_normal (hK83 _ _ _ ?_)
    refine WP.ret ?_
    refine WQ.then_ret ?_
    obtain rfl := Option.some.inj hm
    exact WQ.ret1 _ rfl rfl ⟨rfl, hb79⟩
  have hm := iteF hm hc82
  refine WP.skip ?_
  refine WQ.then_normal (hK61 _ _ _ ?_)
  refine WP.seq (fun K84 hK84 => ?_)
  refine WP.region ?_
  refine WL.runk 1 [4] [(4, .bool true)] (by kernel_rfl) ?_
  refine WL.nil ?_
  refine WQ.then_normal (hK84 _ _ _ ?_)
  refine WP.ret ?_
  obtain rfl := Option.some.inj hm
  exact WQ.ret1 _ rfl rfl ⟨rfl, hb79⟩

end Go.Proofs.YtkglfbcelaphhaaDoor
