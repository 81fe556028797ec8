/- Each call does what its Lean function says. -/
import Derived.Test.YtkpdicajinionaaTi
import Derived.Test.YtkpdicajinionaaEq
import Derived.Test.YtkpdicajinionaaMo
set_option maxRecDepth 20000
set_option maxHeartbeats 40000000
namespace Go.Proofs.Ytkpdicajinionaa
open Go Go.Gv Go.RowKit

theorem c_39 (n : Nat) (a_0 : SGood) (left_1 : Int) (w : World) {r : Int} (hm : m_laws_szGood n a_0 left_1 = some r)  :
    CallV Try.prog 39 #[.agg #[.string (bs a_0.Name), .int .i64 a_0.OnHand, .int .i64 a_0.Reserved, .int .i64 a_0.Least], .int .i64 left_1] w (fun v w' => v = .int .i64 r ∧ Ext w w') := by
  unfold m_laws_szGood at hm
  refine CallV.enter Try.func39 rfl (by kernel_rfl) Try.ntmps39 (env := [(0, .agg #[.string (bs a_0.Name), .int .i64 a_0.OnHand, .int .i64 a_0.Reserved, .int .i64 a_0.Least]), (1, .int .i64 left_1)]) ⟨rfl, rfl, trivial⟩ ?_
  refine WP.seq (fun K1 hK1 => ?_)
  refine WP.region ?_
  refine WL.box 53 [.string (bs a_0.Name), .int .i64 a_0.OnHand, .int .i64 a_0.Reserved, .int .i64 a_0.Least] 2 (by kernel_rfl) rfl rfl rfl rfl ?_
  intro b2 w3 hE4 hR5
  have hb7 : Ext w w3 := Ext.trans (Ext.refl w) hE4
  have hL8 : w.heap.size ≤ w3.heap.size := Nat.le_trans (Nat.le_refl _) hE4.size
  have hS9 : SH w3 w.heap.size [aBox 53 b2 [.string (bs a_0.Name), .int .i64 a_0.OnHand, .int .i64 a_0.Reserved, .int .i64 a_0.Least]] := SH.add (SH.nil _ _) hE4 (Nat.le_refl _) hR5
  refine WL.runk 1 [1, 2] [(1, .int .i64 left_1), (2, .pointer (some ⟨b2, 0, none⟩))] (by kernel_rfl) ?_
  refine WL.nil ?_
  refine WQ.then_normal (hK1 _ _ _ ?_)
  refine WP.seq (fun K10 hK10 => ?_)
  refine WP.region ?_
  refine WL.runk 2 [5, 6] [(5, .int .i64 left_1), (6, .pointer (some ⟨b2, 0, none⟩))] (by kernel_rfl) ?_
  refine WL.st (.string (bs a_0.Name)) (ST.load (cell_ext (SH.boxAt (SH.front 0 hS9) 0 _ rfl)) rfl rfl Try.underlying9 rfl) rfl rfl rfl ?_
  refine WL.runk 3 [1] [(1, .int .i64 (wI64 (left_1 - (a_0.Name.length : Int))))] (by kernel_rfl) ?_
  refine WL.nil ?_
  refine WQ.then_normal (hK10 _ _ _ ?_)
  refine WP.seq (fun K11 hK11 => ?_)
  refine WP.seq (fun K12 hK12 => ?_)
  refine WP.region ?_
  refine WL.runk 2 [1, 11] [(1, .int .i64 (wI64 (left_1 - (a_0.Name.length : Int)))), (11, .bool (decide ((wI64 (left_1 - (a_0.Name.length : Int))) < 0)))] (by kernel_rfl) ?_
  refine WL.nil ?_
  refine WQ.then_normal (hK12 _ _ _ ?_)
  refine WP.cond (decide ((wI64 (left_1 - (a_0.Name.length : Int))) < 0)) rfl rfl (fun hc13 => ?_) (fun hc13 => ?_)
  · have hm := iteT hm hc13
    refine WP.seq (fun K14 hK14 => ?_)
    refine WP.region ?_
    refine WL.runk 1 [4] [(4, .int .i64 (-1))] (by kernel_rfl) ?_
    refine WL.nil ?_
    refine WQ.then_normal (hK14 _ _ _ ?_)
    refine WP.ret ?_
    refine WQ.then_ret ?_
    obtain rfl := Option.some.inj hm
    exact WQ.ret1 _ rfl rfl ⟨rfl, hb7⟩
  have hm := iteF hm hc13
  refine WP.skip ?_
  refine WQ.then_normal (hK11 _ _ _ ?_)
  refine WP.seq (fun K15 hK15 => ?_)
  refine WP.region ?_
  refine WL.runk 2 [4] [(4, .int .i64 (wI64 (left_1 - (a_0.Name.length : Int))))] (by kernel_rfl) ?_
  refine WL.nil ?_
  refine WQ.then_normal (hK15 _ _ _ ?_)
  refine WP.ret ?_
  obtain rfl := Option.some.inj hm
  exact WQ.ret1 _ rfl rfl ⟨rfl, hb7⟩

theorem c_13 (n : Nat) (a_0 : List SGood) (a0' : Option Addr) (c0' : Nat) (left_1 : Int) (w : World) {r : Int} (hm : m_laws_szGoodS n a_0 left_1 = some r) (h0 : Rd fGood.ty w a0' a_0) (_hle0 : a_0.length ≤ c0') :
    CallV Try.prog 13 #[.slice a0' a_0.length c0', .int .i64 left_1] w (fun v w' => v = .int .i64 r ∧ Ext w w') := by
  unfold m_laws_szGoodS at hm
  refine CallV.enter Try.func13 rfl (by kernel_rfl) Try.ntmps13 (env := [(0, .slice a0' a_0.length c0'), (1, .int .i64 left_1)]) ⟨rfl, rfl, trivial⟩ ?_
  refine WP.seq (fun K1 hK1 => ?_)
  refine WP.region ?_
  refine WL.runk 1 [0, 1] [(0, .slice a0' a_0.length c0'), (1, .int .i64 left_1)] (by kernel_rfl) ?_
  refine WL.nil ?_
  refine WQ.then_normal (hK1 _ _ _ ?_)
  refine WP.seq (fun K2 hK2 => ?_)
  refine WP.region ?_
  refine WL.runk 5 [0, 1] [(0, .slice a0' a_0.length c0'), (1, .int .i64 (wI64 (left_1 - (a_0.length : Int))))] (by kernel_rfl) ?_
  refine WL.nil ?_
  refine WQ.then_normal (hK2 _ _ _ ?_)
  refine WP.seq (fun K3 hK3 => ?_)
  refine WP.seq (fun K4 hK4 => ?_)
  refine WP.region ?_
  refine WL.runk 2 [0, 1, 11] [(0, .slice a0' a_0.length c0'), (1, .int .i64 (wI64 (left_1 - (a_0.length : Int)))), (11, .bool (decide ((wI64 (left_1 - (a_0.length : Int))) < 0)))] (by kernel_rfl) ?_
  refine WL.nil ?_
  refine WQ.then_normal (hK4 _ _ _ ?_)
  refine WP.cond (decide ((wI64 (left_1 - (a_0.length : Int))) < 0)) rfl rfl (fun hc5 => ?_) (fun hc5 => ?_)
  · have hm := iteT hm hc5
    refine WP.seq (fun K6 hK6 => ?_)
    refine WP.region ?_
    refine WL.runk 1 [4] [(4, .int .i64 (-1))] (by kernel_rfl) ?_
    refine WL.nil ?_
    refine WQ.then_normal (hK6 _ _ _ ?_)
    refine WP.ret ?_
    refine WQ.then_ret ?_
    obtain rfl := Option.some.inj hm
    exact WQ.ret1 _ rfl rfl ⟨rfl, (Ext.refl w)⟩
  have hm := iteF hm hc5
  refine WP.skip ?_
  refine WQ.then_normal (hK3 _ _ _ ?_)
  refine WP.seq (fun K7 hK7 => ?_)
  refine WP.seq (fun K8 hK8 => ?_)
  refine WP.region ?_
  refine WL.runk 1 [0, 1, 5] [(0, .slice a0' a_0.length c0'), (1, .int .i64 (wI64 (left_1 - (a_0.length : Int)))), (5, .int .i64 0)] (by kernel_rfl) ?_
  refine WL.nil ?_
  refine WQ.then_normal (hK8 _ _ _ ?_)
  refine WP.block ?_
  obtain ⟨t20, ht21, hm⟩ := bindE hm
  have hmo15 := hm; clear hm
  refine WP.sub [(0, .slice a0' a_0.length c0'), (1, .int .i64 (wI64 (left_1 - (a_0.length : Int)))), (5, .int .i64 0)] ⟨rfl, rfl, rfl, trivial⟩ ?_
  refine WP.loop (fun n' env' w' => ∃ (st9 : Int × Int) , env' = [(0, .slice a0' a_0.length c0'), (1, .int .i64 st9.1), (5, .int .i64 st9.2)] ∧ Ext w w' ∧ w.heap.size ≤ w'.heap.size ∧ SH w' w.heap.size [] ∧ loopN (m_laws_szGoodS_l1 n a_0) n' st9 = some t20) n ⟨((wI64 (left_1 - (a_0.length : Int))), 0), rfl, (Ext.refl w), (Nat.le_refl _), (SH.nil _ _), ht21⟩ ?_
  rintro n17 _ w10 ⟨st9, rfl, hb11, hL12, hS13, hl14⟩ K16 hK16
  obtain ⟨n18, s19, rfl, hm, hl14⟩ := loopN_some hl14
  unfold m_laws_szGoodS_l1 at hm
  refine WP.seq (fun K22 hK22 => ?_)
  refine WP.seq (fun K23 hK23 => ?_)
  refine WP.region ?_
  refine WL.runk 4 [0, 1, 5, 15] [(0, .slice a0' a_0.length c0'), (1, .int .i64 st9.1), (5, .int .i64 st9.2), (15, .bool (decide (st9.2 < (a_0.length : Int))))] (by kernel_rfl) ?_
  refine WL.nil ?_
  refine WQ.then_normal (hK23 _ _ _ ?_)
  refine WP.cond (decide (st9.2 < (a_0.length : Int))) rfl rfl (fun hc24 => ?_) (fun hc24 => ?_)
  rotate_left
  · have hm := iteF hm hc24
    refine WP.exit ?_
    refine WQ.then_exit ?_
    refine WQ.then_exit ?_
    refine WQ.block_here ?_
    obtain rfl := Option.some.inj hm
    obtain rfl := afterN_done hl14
    have hm := hmo15
    refine WQ.then_normal (hK7 _ _ _ ?_)
    refine WP.seq (fun K40 hK40 => ?_)
    refine WP.region ?_
    refine WL.runk 2 [4] [(4, .int .i64 st9.1)] (by kernel_rfl) ?_
    refine WL.nil ?_
    refine WQ.then_normal (hK40 _ _ _ ?_)
    refine WP.ret ?_
    obtain rfl := Option.some.inj hm
    exact WQ.ret1 _ rfl rfl ⟨rfl, hb11⟩
  have hm := iteT hm hc24
  refine WP.skip ?_
  refine WQ.then_normal (hK22 _ _ _ ?_)
  refine WP.seq (fun K25 hK25 => ?_)
  refine WP.block ?_
  refine WP.seq (fun K26 hK26 => ?_)
  refine WP.region ?_
  refine WL.runk 2 [0, 1, 5, 18, 19] [(0, .slice a0' a_0.length c0'), (1, .int .i64 st9.1), (5, .int .i64 st9.2), (18, .slice a0' a_0.length c0'), (19, .int .i64 st9.2)] (by kernel_rfl) ?_
  obtain ⟨x27, hx28, hm⟩ := bindE hm
  refine WL.st (.pointer (some (at_ a0' (Int.toNat st9.2 * 4)))) (ST.index (T := fGood.ty) (xs := a_0) (Rd.below h0 hb11) hx28 rfl rfl rfl Try.underlying22 (info53).1 (info53).2.1) rfl rfl rfl ?_
  refine WL.st (.agg #[.string (bs x27.Name), .int .i64 x27.OnHand, .int .i64 x27.Reserved, .int .i64 x27.Least]) (ST.loadAgg (vs := fGood.leaf x27) (fun j v hv => Rd.flatA (F := fGood) (Rd.below h0 hb11) hx28 j hv) rfl rfl rfl Try.underlying53 rfl (info53).1 (info53).2.1) rfl rfl rfl ?_
  refine WL.runk 1 [0, 5, 21, 22] [(0, .slice a0' a_0.length c0'), (5, .int .i64 st9.2), (21, .agg #[.string (bs x27.Name), .int .i64 x27.OnHand, .int .i64 x27.Reserved, .int .i64 x27.Least]), (22, .int .i64 st9.1)] (by kernel_rfl) ?_
  obtain ⟨x29, hx30, hm⟩ := bindE hm
  refine WL.call 39 #[.agg #[.string (bs x27.Name), .int .i64 x27.OnHand, .int .i64 x27.Reserved, .int .i64 x27.Least], .int .i64 st9.1] rfl rfl (by kernel_rfl) (c_39 n x27 st9.1 w10 hx30 ) ?_
  rintro _ w31 ⟨rfl, hE32⟩
  refine ⟨_, rfl, ?_⟩
  have hb34 : Ext w w31 := Ext.trans hb11 hE32
  have hL35 : w.heap.size ≤ w31.heap.size := Nat.le_trans hL12 hE32.size
  have hS36 : SH w31 w.heap.size [] := SH.ext hS13 hE32
  refine WL.runk 1 [0, 1, 5] [(0, .slice a0' a_0.length c0'), (5, .int .i64 st9.2), (1, .int .i64 x29)] (by kernel_rfl) ?_
  refine WL.nil ?_
  refine WQ.then_normal (hK26 _ _ _ ?_)
  refine WP.seq (fun K37 hK37 => ?_)
  refine WP.region ?_
  refine WL.runk 2 [0, 1, 5, 25] [(0, .slice a0' a_0.length c0'), (5, .int .i64 st9.2), (1, .int .i64 x29), (25, .bool (decide (x29 < 0)))] (by kernel_rfl) ?_
  refine WL.nil ?_
  refine WQ.then_normal (hK37 _ _ _ ?_)
  refine WP.cond (decide (x29 < 0)) rfl rfl (fun hc38 => ?_) (fun hc38 => ?_)
  rotate_left
  · have hm := iteF hm hc38
    refine WP.skip ?_
    refine WQ.block_normal ?_
    refine WQ.then_normal (hK25 _ _ _ ?_)
    refine WP.region ?_
    refine WL.runk 3 [0, 1, 5] [(0, .slice a0' a_0.length c0'), (5, .int .i64 (wI64 (st9.2 + 1))), (1, .int .i64 x29)] (by kernel_rfl) ?_
    refine WL.nil ?_
    obtain rfl := Option.some.inj hm
    exact WQ.round hK16 ⟨(x29, (wI64 (st9.2 + 1))), rfl, hb34, hL35, hS36, hl14⟩ (Nat.lt_succ_self _) ⟨rfl, rfl, rfl, trivial⟩
  have hm := iteT hm hc38
  refine WP.seq (fun K39 hK39 => ?_)
  refine WP.region ?_
  refine WL.runk 1 [4] [(4, .int .i64 (-1))] (by kernel_rfl) ?_
  refine WL.nil ?_
  refine WQ.then_normal (hK39 _ _ _ ?_)
  refine WP.ret ?_
  refine WQ.block_ret ?_
  refine WQ.then_ret ?_
  refine WQ.then_ret ?_
  refine WQ.block_ret ?_
  refine WQ.then_ret ?_
  obtain rfl := Option.some.inj hm
  obtain rfl := afterN_done hl14
  have hm := hmo15
  obtain rfl := Option.some.inj hm
  exact WQ.ret1 _ rfl rfl ⟨rfl, hb34⟩

theorem c_41 (n : Nat) (a_0 : SGood) (w : World) {r : SGood} (hm : m_laws_toGood n a_0 = some r)  :
    CallV Try.prog 41 #[.agg #[.string (bs a_0.Name), .int .i64 a_0.OnHand, .int .i64 a_0.Reserved, .int .i64 a_0.Least]] w (fun v w' => v = .agg #[.string (bs r.Name), .int .i64 r.OnHand, .int .i64 r.Reserved, .int .i64 r.Least] ∧ Ext w w') := by
  unfold m_laws_toGood at hm
  refine CallV.enter Try.func41 rfl (by kernel_rfl) Try.ntmps41 (env := [(0, .agg #[.string (bs a_0.Name), .int .i64 a_0.OnHand, .int .i64 a_0.Reserved, .int .i64 a_0.Least])]) ⟨rfl, trivial⟩ ?_
  refine WP.seq (fun K1 hK1 => ?_)
  refine WP.region ?_
  refine WL.box 53 [.string (bs a_0.Name), .int .i64 a_0.OnHand, .int .i64 a_0.Reserved, .int .i64 a_0.Least] 1 (by kernel_rfl) rfl rfl rfl rfl ?_
  intro b2 w3 hE4 hR5
  have hb7 : Ext w w3 := Ext.trans (Ext.refl w) hE4
  have hL8 : w.heap.size ≤ w3.heap.size := Nat.le_trans (Nat.le_refl _) hE4.size
  have hS9 : SH w3 w.heap.size [aBox 53 b2 [.string (bs a_0.Name), .int .i64 a_0.OnHand, .int .i64 a_0.Reserved, .int .i64 a_0.Least]] := SH.add (SH.nil _ _) hE4 (Nat.le_refl _) hR5
  refine WL.box 56 [.string (bs []), .int .i64 0, .int .i64 0, .int .i64 0] 2 (by kernel_rfl) rfl rfl rfl rfl ?_
  intro b10 w11 hE12 hR13
  have hb15 : Ext w w11 := Ext.trans hb7 hE12
  have hL16 : w.heap.size ≤ w11.heap.size := Nat.le_trans hL8 hE12.size
  have hS17 : SH w11 w.heap.size [aBox 56 b10 [.string (bs []), .int .i64 0, .int .i64 0, .int .i64 0], aBox 53 b2 [.string (bs a_0.Name), .int .i64 a_0.OnHand, .int .i64 a_0.Reserved, .int .i64 a_0.Least]] := SH.add hS9 hE12 hL8 hR13
  refine WL.sub [(1, .pointer (some ⟨b2, 0, none⟩)), (2, .pointer (some ⟨b10, 0, none⟩))] ⟨rfl, rfl, trivial⟩ ?_
  refine WL.nil ?_
  refine WQ.then_normal (hK1 _ _ _ ?_)
  refine WP.seq (fun K18 hK18 => ?_)
  refine WP.region ?_
  refine WL.box 56 [.string (bs []), .int .i64 0, .int .i64 0, .int .i64 0] 3 (by kernel_rfl) rfl rfl rfl rfl ?_
  intro b19 w20 hE21 hR22
  have hb24 : Ext w w20 := Ext.trans hb15 hE21
  have hL25 : w.heap.size ≤ w20.heap.size := Nat.le_trans hL16 hE21.size
  have hS26 : SH w20 w.heap.size [aBox 56 b19 [.string (bs []), .int .i64 0, .int .i64 0, .int .i64 0], aBox 56 b10 [.string (bs []), .int .i64 0, .int .i64 0, .int .i64 0], aBox 53 b2 [.string (bs a_0.Name), .int .i64 a_0.OnHand, .int .i64 a_0.Reserved, .int .i64 a_0.Least]] := SH.add hS17 hE21 hL16 hR22
  refine WL.sub [(1, .pointer (some ⟨b2, 0, none⟩)), (2, .pointer (some ⟨b10, 0, none⟩)), (3, .pointer (some ⟨b19, 0, none⟩))] ⟨rfl, rfl, rfl, trivial⟩ ?_
  refine WL.nil ?_
  refine WQ.then_normal (hK18 _ _ _ ?_)
  refine WP.seq (fun K27 hK27 => ?_)
  refine WP.region ?_
  refine WL.runk 1 [1, 2, 3, 4] [(1, .pointer (some ⟨b2, 0, none⟩)), (2, .pointer (some ⟨b10, 0, none⟩)), (3, .pointer (some ⟨b19, 0, none⟩)), (4, .pointer (some ⟨b2, 0, none⟩))] (by kernel_rfl) ?_
  refine WL.st (.string (bs a_0.Name)) (ST.load (cell_ext (SH.boxAt (SH.front 2 hS26) 0 _ rfl)) rfl rfl Try.underlying9 rfl) rfl rfl rfl ?_
  refine WL.runk 1 [1, 2, 3, 5, 6] [(1, .pointer (some ⟨b2, 0, none⟩)), (2, .pointer (some ⟨b10, 0, none⟩)), (3, .pointer (some ⟨b19, 0, none⟩)), (5, .string (bs a_0.Name)), (6, .pointer (some ⟨b19, 0, none⟩))] (by kernel_rfl) ?_
  refine WL.boxStore 0 [.string (bs a_0.Name)] [.string (bs a_0.Name), .int .i64 0, .int .i64 0, .int .i64 0] (SH.front 0 hS26) hL25 rfl rfl rfl rfl rfl rfl rfl (info9).1 (info9).2.1 rfl rfl rfl ?_
  intro w28 hB29 hS30
  have hb31 : Ext w w28 := Below.trans hb24 hB29
  have hL32 : w.heap.size ≤ w28.heap.size := Nat.le_trans hL25 hB29.size
  refine WL.sub [(1, .pointer (some ⟨b2, 0, none⟩)), (2, .pointer (some ⟨b10, 0, none⟩)), (3, .pointer (some ⟨b19, 0, none⟩))] ⟨rfl, rfl, rfl, trivial⟩ ?_
  refine WL.nil ?_
  refine WQ.then_normal (hK27 _ _ _ ?_)
  refine WP.seq (fun K33 hK33 => ?_)
  refine WP.region ?_
  refine WL.runk 1 [1, 2, 3, 7] [(1, .pointer (some ⟨b2, 0, none⟩)), (2, .pointer (some ⟨b10, 0, none⟩)), (3, .pointer (some ⟨b19, 0, none⟩)), (7, .pointer (some ⟨b2, 1, none⟩))] (by kernel_rfl) ?_
  refine WL.st (.int .i64 a_0.OnHand) (ST.load (cell_ext (SH.boxAt (SH.front 2 hS30) 1 _ rfl)) rfl rfl Try.underlying2 rfl) rfl rfl rfl ?_
  refine WL.runk 1 [1, 2, 3, 8, 9] [(1, .pointer (some ⟨b2, 0, none⟩)), (2, .pointer (some ⟨b10, 0, none⟩)), (3, .pointer (some ⟨b19, 0, none⟩)), (8, .int .i64 a_0.OnHand), (9, .pointer (some ⟨b19, 1, none⟩))] (by kernel_rfl) ?_
  refine WL.boxStore 1 [.int .i64 a_0.OnHand] [.string (bs a_0.Name), .int .i64 a_0.OnHand, .int .i64 0, .int .i64 0] (SH.front 0 hS30) hL32 rfl rfl rfl rfl rfl rfl rfl (info2).1 (info2).2.1 rfl rfl rfl ?_
  intro w34 hB35 hS36
  have hb37 : Ext w w34 := Below.trans hb31 hB35
  have hL38 : w.heap.size ≤ w34.heap.size := Nat.le_trans hL32 hB35.size
  refine WL.sub [(1, .pointer (some ⟨b2, 0, none⟩)), (2, .pointer (some ⟨b10, 0, none⟩)), (3, .pointer (some ⟨b19, 0, none⟩))] ⟨rfl, rfl, rfl, trivial⟩ ?_
  refine WL.nil ?_
  refine WQ.then_normal (hK33 _ _ _ ?_)
  refine WP.seq (fun K39 hK39 => ?_)
  refine WP.region ?_
  refine WL.runk 1 [1, 2, 3, 10] [(1, .pointer (some ⟨b2, 0, none⟩)), (2, .pointer (some ⟨b10, 0, none⟩)), (3, .pointer (some ⟨b19, 0, none⟩)), (10, .pointer (some ⟨b2, 2, none⟩))] (by kernel_rfl) ?_
  refine WL.st (.int .i64 a_0.Reserved) (ST.load (cell_ext (SH.boxAt (SH.front 2 hS36) 2 _ rfl)) rfl rfl Try.underlying2 rfl) rfl rfl rfl ?_
  refine WL.runk 1 [1, 2, 3, 11, 12] [(1, .pointer (some ⟨b2, 0, none⟩)), (2, .pointer (some ⟨b10, 0, none⟩)), (3, .pointer (some ⟨b19, 0, none⟩)), (11, .int .i64 a_0.Reserved), (12, .pointer (some ⟨b19, 2, none⟩))] (by kernel_rfl) ?_
  refine WL.boxStore 2 [.int .i64 a_0.Reserved] [.string (bs a_0.Name), .int .i64 a_0.OnHand, .int .i64 a_0.Reserved, .int .i64 0] (SH.front 0 hS36) hL38 rfl rfl rfl rfl rfl rfl rfl (info2).1 (info2).2.1 rfl rfl rfl ?_
  intro w40 hB41 hS42
  have hb43 : Ext w w40 := Below.trans hb37 hB41
  have hL44 : w.heap.size ≤ w40.heap.size := Nat.le_trans hL38 hB41.size
  refine WL.sub [(1, .pointer (some ⟨b2, 0, none⟩)), (2, .pointer (some ⟨b10, 0, none⟩)), (3, .pointer (some ⟨b19, 0, none⟩))] ⟨rfl, rfl, rfl, trivial⟩ ?_
  refine WL.nil ?_
  refine WQ.then_normal (hK39 _ _ _ ?_)
  refine WP.seq (fun K45 hK45 => ?_)
  refine WP.region ?_
  refine WL.runk 1 [2, 3, 13] [(2, .pointer (some ⟨b10, 0, none⟩)), (3, .pointer (some ⟨b19, 0, none⟩)), (13, .pointer (some ⟨b2, 3, none⟩))] (by kernel_rfl) ?_
  refine WL.st (.int .i64 a_0.Least) (ST.load (cell_ext (SH.boxAt (SH.front 2 hS42) 3 _ rfl)) rfl rfl Try.underlying2 rfl) rfl rfl rfl ?_
  refine WL.runk 1 [2, 3, 14, 15] [(2, .pointer (some ⟨b10, 0, none⟩)), (3, .pointer (some ⟨b19, 0, none⟩)), (14, .int .i64 a_0.Least), (15, .pointer (some ⟨b19, 3, none⟩))] (by kernel_rfl) ?_
  refine WL.boxStore 3 [.int .i64 a_0.Least] [.string (bs a_0.Name), .int .i64 a_0.OnHand, .int .i64 a_0.Reserved, .int .i64 a_0.Least] (SH.front 0 hS42) hL44 rfl rfl rfl rfl rfl rfl rfl (info2).1 (info2).2.1 rfl rfl rfl ?_
  intro w46 hB47 hS48
  have hb49 : Ext w w46 := Below.trans hb43 hB47
  have hL50 : w.heap.size ≤ w46.heap.size := Nat.le_trans hL44 hB47.size
  refine WL.sub [(2, .pointer (some ⟨b10, 0, none⟩)), (3, .pointer (some ⟨b19, 0, none⟩))] ⟨rfl, rfl, trivial⟩ ?_
  refine WL.nil ?_
  refine WQ.then_normal (hK45 _ _ _ ?_)
  refine WP.seq (fun K51 hK51 => ?_)
  refine WP.region ?_
  refine WL.st (.agg #[.string (bs a_0.Name), .int .i64 a_0.OnHand, .int .i64 a_0.Reserved, .int .i64 a_0.Least]) (ST.loadAgg (vs := [.string (bs a_0.Name), .int .i64 a_0.OnHand, .int .i64 a_0.Reserved, .int .i64 a_0.Least]) (fun j v hv => SH.boxPart (us := [.string (bs a_0.Name), .int .i64 a_0.OnHand, .int .i64 a_0.Reserved, .int .i64 a_0.Least]) (SH.front 0 hS48) 0 rfl j v hv) rfl rfl rfl Try.underlying56 rfl (info56).1 (info56).2.1) rfl rfl rfl ?_
  refine WL.boxStore 0 [.string (bs a_0.Name), .int .i64 a_0.OnHand, .int .i64 a_0.Reserved, .int .i64 a_0.Least] [.string (bs a_0.Name), .int .i64 a_0.OnHand, .int .i64 a_0.Reserved, .int .i64 a_0.Least] (SH.front 1 hS48) hL50 rfl rfl rfl rfl rfl rfl rfl (info56).1 (info56).2.1 rfl rfl rfl ?_
  intro w52 hB53 hS54
  have hb55 : Ext w w52 := Below.trans hb49 hB53
  have hL56 : w.heap.size ≤ w52.heap.size := Nat.le_trans hL50 hB53.size
  refine WL.sub [(2, .pointer (some ⟨b10, 0, none⟩))] ⟨rfl, trivial⟩ ?_
  refine WL.nil ?_
  refine WQ.then_normal (hK51 _ _ _ ?_)
  refine WP.ret ?_
  obtain rfl := Option.some.inj hm
  exact WQ.retv1 _ rfl (RVal.box (SH.front 0 hS54) rfl Try.underlying56 rfl (info56).1 (info56).2.1) ⟨rfl, hb55⟩

theorem c_15 (n : Nat) (a_0 : List SGood) (a0' : Option Addr) (c0' : Nat) (w : World) {r : List SGood} (hm : m_laws_toGoodS n a_0 = some r) (h0 : Rd fGood.ty w a0' a_0) (_hle0 : a_0.length ≤ c0') :
    CallV Try.prog 15 #[.slice a0' a_0.length c0'] w (fun v w' => ∃ (ra0 : Option Addr) (rc0 : Nat), v = .slice ra0 r.length rc0 ∧ Ext w w' ∧ SH w' w.heap.size [aOwn fGood 56 ra0 rc0 r]) := by
  unfold m_laws_toGoodS at hm
  refine CallV.enter Try.func15 rfl (by kernel_rfl) Try.ntmps15 (env := [(0, .slice a0' a_0.length c0')]) ⟨rfl, trivial⟩ ?_
  refine WP.seq (fun K1 hK1 => ?_)
  refine WP.region ?_
  refine WL.runk 1 [0] [(0, .slice a0' a_0.length c0')] (by kernel_rfl) ?_
  refine WL.nil ?_
  refine WQ.then_normal (hK1 _ _ _ ?_)
  refine WP.seq (fun K2 hK2 => ?_)
  refine WP.region ?_
  refine WL.runk 2 [0, 6] [(0, .slice a0' a_0.length c0'), (6, .int .i64 (a_0.length : Int))] (by kernel_rfl) ?_
  obtain ⟨x3, hx4, hm⟩ := bindE hm
  refine WL.make fGood 7 hx4 rfl rfl rfl Try.underlying25 (info56).1 (info56).2.2.1 (info56).2.1 (info56).2.2.2 rfl rfl rfl rfl rfl ?_
  intro a5 c6 w7 hE8 hR9
  have hb11 : Ext w w7 := Ext.trans (Ext.refl w) hE8
  have hL12 : w.heap.size ≤ w7.heap.size := Nat.le_trans (Nat.le_refl _) hE8.size
  have hS13 : SH w7 w.heap.size [aOwn fGood 56 a5 c6 x3] := SH.add (SH.nil _ _) hE8 (Nat.le_refl _) hR9
  refine WL.runk 1 [0, 3] [(0, .slice a0' a_0.length c0'), (3, .slice a5 x3.length c6)] (by kernel_rfl) ?_
  refine WL.nil ?_
  refine WQ.then_normal (hK2 _ _ _ ?_)
  refine WP.seq (fun K14 hK14 => ?_)
  refine WP.seq (fun K15 hK15 => ?_)
  refine WP.region ?_
  refine WL.runk 1 [0, 3, 4] [(0, .slice a0' a_0.length c0'), (3, .slice a5 x3.length c6), (4, .int .i64 0)] (by kernel_rfl) ?_
  refine WL.nil ?_
  refine WQ.then_normal (hK15 _ _ _ ?_)
  refine WP.block ?_
  obtain ⟨t62, ht63, hm⟩ := bindE hm
  have hmo57 := hm; clear hm
  refine WP.sub [(0, .slice a0' a_0.length c0'), (3, .slice a5 x3.length c6), (4, .int .i64 0)] ⟨rfl, rfl, rfl, trivial⟩ ?_
  refine WP.loop (fun n' env' w' => ∃ (st51 : Int × List SGood) , env' = [(0, .slice a0' a_0.length c0'), (3, .slice a5 st51.2.length c6), (4, .int .i64 st51.1)] ∧ Ext w w' ∧ w.heap.size ≤ w'.heap.size ∧ SH w' w.heap.size [aOwn fGood 56 a5 c6 st51.2] ∧ loopN (m_laws_toGoodS_l1 n a_0) n' st51 = some t62) n ⟨(0, x3), rfl, hb11, hL12, hS13, ht63⟩ ?_
  rintro n59 _ w52 ⟨st51, rfl, hb53, hL54, hS55, hl56⟩ K58 hK58
  obtain ⟨n60, s61, rfl, hm, hl56⟩ := loopN_some hl56
  unfold m_laws_toGoodS_l1 at hm
  refine WP.seq (fun K64 hK64 => ?_)
  refine WP.seq (fun K65 hK65 => ?_)
  refine WP.region ?_
  refine WL.runk 4 [0, 3, 4, 11] [(0, .slice a0' a_0.length c0'), (3, .slice a5 st51.2.length c6), (4, .int .i64 st51.1), (11, .bool (decide (st51.1 < (a_0.length : Int))))] (by kernel_rfl) ?_
  refine WL.nil ?_
  refine WQ.then_normal (hK65 _ _ _ ?_)
  refine WP.cond (decide (st51.1 < (a_0.length : Int))) rfl rfl (fun hc66 => ?_) (fun hc66 => ?_)
  rotate_left
  · have hm := iteF hm hc66
    refine WP.exit ?_
    refine WQ.then_exit ?_
    refine WQ.then_exit ?_
    refine WQ.block_here ?_
    obtain rfl := Option.some.inj hm
    obtain rfl := afterN_done hl56
    have hm := hmo57
    refine WQ.then_normal (hK14 _ _ _ ?_)
    refine WP.seq (fun K85 hK85 => ?_)
    refine WP.region ?_
    refine WL.runk 2 [2] [(2, .slice a5 st51.2.length c6)] (by kernel_rfl) ?_
    refine WL.nil ?_
    refine WQ.then_normal (hK85 _ _ _ ?_)
    refine WP.ret ?_
    obtain rfl := Option.some.inj hm
    exact WQ.ret1 _ rfl rfl ⟨_, _, rfl, hb53, hS55⟩
  have hm := iteT hm hc66
  refine WP.skip ?_
  refine WQ.then_normal (hK64 _ _ _ ?_)
  refine WP.seq (fun K67 hK67 => ?_)
  refine WP.block ?_
  refine WP.region ?_
  refine WL.runk 4 [0, 3, 4, 14, 15, 16, 17] [(0, .slice a0' a_0.length c0'), (3, .slice a5 st51.2.length c6), (4, .int .i64 st51.1), (14, .slice a5 st51.2.length c6), (15, .int .i64 st51.1), (16, .slice a0' a_0.length c0'), (17, .int .i64 st51.1)] (by kernel_rfl) ?_
  obtain ⟨x68, hx69, hm⟩ := bindE hm
  refine WL.st (.pointer (some (at_ a0' (Int.toNat st51.1 * 4)))) (ST.index (T := fGood.ty) (xs := a_0) (Rd.below h0 hb53) hx69 rfl rfl rfl Try.underlying22 (info53).1 (info53).2.1) rfl rfl rfl ?_
  refine WL.st (.agg #[.string (bs x68.Name), .int .i64 x68.OnHand, .int .i64 x68.Reserved, .int .i64 x68.Least]) (ST.loadAgg (vs := fGood.leaf x68) (fun j v hv => Rd.flatA (F := fGood) (Rd.below h0 hb53) hx69 j hv) rfl rfl rfl Try.underlying53 rfl (info53).1 (info53).2.1) rfl rfl rfl ?_
  obtain ⟨x70, hx71, hm⟩ := bindE hm
  refine WL.call 41 #[.agg #[.string (bs x68.Name), .int .i64 x68.OnHand, .int .i64 x68.Reserved, .int .i64 x68.Least]] rfl rfl (by kernel_rfl) (c_41 n x68 w52 hx71 ) ?_
  rintro _ w72 ⟨rfl, hE73⟩
  refine ⟨_, rfl, ?_⟩
  have hb75 : Ext w w72 := Ext.trans hb53 hE73
  have hL76 : w.heap.size ≤ w72.heap.size := Nat.le_trans hL54 hE73.size
  have hS77 : SH w72 w.heap.size [aOwn fGood 56 a5 c6 st51.2] := SH.ext hS55 hE73
  obtain ⟨x78, hx79, hm⟩ := bindE hm
  refine WL.st (.pointer (some (at_ a5 (Int.toNat st51.1 * 4)))) (ST.index (T := fGood.ty) (xs := st51.2) (SH.rd (SH.front 0 hS77)) hx79 rfl rfl rfl Try.underlying25 (info56).1 (info56).2.1) rfl rfl rfl ?_
  refine WL.store (F := fGood) x70 0 [.string (bs x70.Name), .int .i64 x70.OnHand, .int .i64 x70.Reserved, .int .i64 x70.Least] (SH.front 0 hS77) hL76 hx79 rfl rfl rfl rfl rfl rfl rfl (info56).1 (info56).2.1 rfl rfl rfl ?_
  intro w80 hB81 hS82
  have hb83 : Ext w w80 := Below.trans hb75 hB81
  have hL84 : w.heap.size ≤ w80.heap.size := Nat.le_trans hL76 hB81.size
  refine WL.sub [(0, .slice a0' a_0.length c0'), (3, .slice a5 ((st51.2.set (Int.toNat st51.1) x70).length) c6), (4, .int .i64 st51.1), (14, .slice a5 ((st51.2.set (Int.toNat st51.1) x70).length) c6), (15, .int .i64 st51.1), (16, .slice a0' a_0.length c0'), (17, .int .i64 st51.1), (18, .pointer (some (at_ a0' (Int.toNat st51.1 * 4)))), (19, .agg #[.string (bs x68.Name), .int .i64 x68.OnHand, .int .i64 x68.Reserved, .int .i64 x68.Least]), (20, .agg #[.string (bs x70.Name), .int .i64 x70.OnHand, .int .i64 x70.Reserved, .int .i64 x70.Least])] ⟨rfl, by first | (simp only [List.length_set]; done) | (simp only [List.length_set]; rfl), rfl, by first | (simp only [List.length_set]; done) | (simp only [List.length_set]; rfl), rfl, rfl, rfl, rfl, rfl, rfl, trivial⟩ ?_
  refine WL.sub [(0, .slice a0' a_0.length c0'), (3, .slice a5 ((st51.2.set (Int.toNat st51.1) x70).length) c6), (4, .int .i64 st51.1)] ⟨rfl, rfl, rfl, trivial⟩ ?_
  refine WL.nil ?_
  refine WQ.block_normal ?_
  refine WQ.then_normal (hK67 _ _ _ ?_)
  refine WP.region ?_
  refine WL.runk 3 [0, 3, 4] [(0, .slice a0' a_0.length c0'), (3, .slice a5 ((st51.2.set (Int.toNat st51.1) x70).length) c6), (4, .int .i64 (wI64 (st51.1 + 1)))] (by kernel_rfl) ?_
  refine WL.nil ?_
  obtain rfl := Option.some.inj hm
  exact WQ.round hK58 ⟨((wI64 (st51.1 + 1)), (st51.2.set (Int.toNat st51.1) x70)), rfl, hb83, hL84, hS82, hl56⟩ (Nat.lt_succ_self _) ⟨rfl, rfl, rfl, trivial⟩

theorem c_51 (n : Nat) (a_0 : SGood) (b_1 : SGood) (w : World) {r : Bool} (hm : m_laws_eqGood n a_0 b_1 = some r)  :
    CallV Try.prog 51 #[.agg #[.string (bs a_0.Name), .int .i64 a_0.OnHand, .int .i64 a_0.Reserved, .int .i64 a_0.Least], .agg #[.string (bs b_1.Name), .int .i64 b_1.OnHand, .int .i64 b_1.Reserved, .int .i64 b_1.Least]] w (fun v w' => v = .bool r ∧ Ext w w') := by
  unfold m_laws_eqGood at hm
  refine CallV.enter Try.func51 rfl (by kernel_rfl) Try.ntmps51 (env := [(0, .agg #[.string (bs a_0.Name), .int .i64 a_0.OnHand, .int .i64 a_0.Reserved, .int .i64 a_0.Least]), (1, .agg #[.string (bs b_1.Name), .int .i64 b_1.OnHand, .int .i64 b_1.Reserved, .int .i64 b_1.Least])]) ⟨rfl, rfl, trivial⟩ ?_
  refine WP.seq (fun K1 hK1 => ?_)
  refine WP.region ?_
  refine WL.box 56 [.string (bs a_0.Name), .int .i64 a_0.OnHand, .int .i64 a_0.Reserved, .int .i64 a_0.Least] 2 (by kernel_rfl) rfl rfl rfl rfl ?_
  intro b2 w3 hE4 hR5
  have hb7 : Ext w w3 := Ext.trans (Ext.refl w) hE4
  have hL8 : w.heap.size ≤ w3.heap.size := Nat.le_trans (Nat.le_refl _) hE4.size
  have hS9 : SH w3 w.heap.size [aBox 56 b2 [.string (bs a_0.Name), .int .i64 a_0.OnHand, .int .i64 a_0.Reserved, .int .i64 a_0.Least]] := SH.add (SH.nil _ _) hE4 (Nat.le_refl _) hR5
  refine WL.box 56 [.string (bs b_1.Name), .int .i64 b_1.OnHand, .int .i64 b_1.Reserved, .int .i64 b_1.Least] 3 (by kernel_rfl) rfl rfl rfl rfl ?_
  intro b10 w11 hE12 hR13
  have hb15 : Ext w w11 := Ext.trans hb7 hE12
  have hL16 : w.heap.size ≤ w11.heap.size := Nat.le_trans hL8 hE12.size
  have hS17 : SH w11 w.heap.size [aBox 56 b10 [.string (bs b_1.Name), .int .i64 b_1.OnHand, .int .i64 b_1.Reserved, .int .i64 b_1.Least], aBox 56 b2 [.string (bs a_0.Name), .int .i64 a_0.OnHand, .int .i64 a_0.Reserved, .int .i64 a_0.Least]] := SH.add hS9 hE12 hL8 hR13
  refine WL.runk 1 [2, 3] [(2, .pointer (some ⟨b2, 0, none⟩)), (3, .pointer (some ⟨b10, 0, none⟩))] (by kernel_rfl) ?_
  refine WL.nil ?_
  refine WQ.then_normal (hK1 _ _ _ ?_)
  refine WP.seq (fun K18 hK18 => ?_)
  refine WP.seq (fun K19 hK19 => ?_)
  refine WP.region ?_
  refine WL.runk 1 [2, 3, 5] [(2, .pointer (some ⟨b2, 0, none⟩)), (3, .pointer (some ⟨b10, 0, none⟩)), (5, .pointer (some ⟨b2, 0, none⟩))] (by kernel_rfl) ?_
  refine WL.st (.string (bs a_0.Name)) (ST.load (cell_ext (SH.boxAt (SH.front 1 hS17) 0 _ rfl)) rfl rfl Try.underlying9 rfl) rfl rfl rfl ?_
  refine WL.runk 1 [2, 3, 6, 7] [(2, .pointer (some ⟨b2, 0, none⟩)), (3, .pointer (some ⟨b10, 0, none⟩)), (6, .string (bs a_0.Name)), (7, .pointer (some ⟨b10, 0, none⟩))] (by kernel_rfl) ?_
  refine WL.st (.string (bs b_1.Name)) (ST.load (cell_ext (SH.boxAt (SH.front 0 hS17) 0 _ rfl)) rfl rfl Try.underlying9 rfl) rfl rfl rfl ?_
  refine WL.st (.bool (!(a_0.Name == b_1.Name))) (ST.strne (x := a_0.Name) (y := b_1.Name) rfl rfl rfl) rfl rfl rfl ?_
  refine WL.sub [(2, .pointer (some ⟨b2, 0, none⟩)), (3, .pointer (some ⟨b10, 0, none⟩)), (9, .bool (!(a_0.Name == b_1.Name)))] ⟨rfl, rfl, rfl, trivial⟩ ?_
  refine WL.nil ?_
  refine WQ.then_normal (hK19 _ _ _ ?_)
  refine WP.cond (!(a_0.Name == b_1.Name)) rfl rfl (fun hc20 => ?_) (fun hc20 => ?_)
  · have hm := iteT hm hc20
    refine WP.seq (fun K21 hK21 => ?_)
    refine WP.region ?_
    refine WL.runk 1 [4] [(4, .bool false)] (by kernel_rfl) ?_
    refine WL.nil ?_
    refine WQ.then_normal (hK21 _ _ _ ?_)
    refine WP.ret ?_
    refine WQ.then_ret ?_
    obtain rfl := Option.some.inj hm
    exact WQ.ret1 _ rfl rfl ⟨rfl, hb15⟩
  have hm := iteF hm hc20
  refine WP.skip ?_
  refine WQ.then_normal (hK18 _ _ _ ?_)
  refine WP.seq (fun K22 hK22 => ?_)
  refine WP.seq (fun K23 hK23 => ?_)
  refine WP.region ?_
  refine WL.runk 1 [2, 3, 10] [(2, .pointer (some ⟨b2, 0, none⟩)), (3, .pointer (some ⟨b10, 0, none⟩)), (10, .pointer (some ⟨b2, 1, none⟩))] (by kernel_rfl) ?_
  refine WL.st (.int .i64 a_0.OnHand) (ST.load (cell_ext (SH.boxAt (SH.front 1 hS17) 1 _ rfl)) rfl rfl Try.underlying2 rfl) rfl rfl rfl ?_
  refine WL.runk 1 [2, 3, 11, 12] [(2, .pointer (some ⟨b2, 0, none⟩)), (3, .pointer (some ⟨b10, 0, none⟩)), (11, .int .i64 a_0.OnHand), (12, .pointer (some ⟨b10, 1, none⟩))] (by kernel_rfl) ?_
  refine WL.st (.int .i64 b_1.OnHand) (ST.load (cell_ext (SH.boxAt (SH.front 0 hS17) 1 _ rfl)) rfl rfl Try.underlying2 rfl) rfl rfl rfl ?_
  refine WL.runk 1 [2, 3, 14] [(2, .pointer (some ⟨b2, 0, none⟩)), (3, .pointer (some ⟨b10, 0, none⟩)), (14, .bool (a_0.OnHand != b_1.OnHand))] (by kernel_rfl) ?_
  refine WL.nil ?_
  refine WQ.then_normal (hK23 _ _ _ ?_)
  refine WP.cond (a_0.OnHand != b_1.OnHand) rfl rfl (fun hc24 => ?_) (fun hc24 => ?_)
  · have hm := iteT hm hc24
    refine WP.seq (fun K25 hK25 => ?_)
    refine WP.region ?_
    refine WL.runk 1 [4] [(4, .bool false)] (by kernel_rfl) ?_
    refine WL.nil ?_
    refine WQ.then_normal (hK25 _ _ _ ?_)
    refine WP.ret ?_
    refine WQ.then_ret ?_
    obtain rfl := Option.some.inj hm
    exact WQ.ret1 _ rfl rfl ⟨rfl, hb15⟩
  have hm := iteF hm hc24
  refine WP.skip ?_
  refine WQ.then_normal (hK22 _ _ _ ?_)
  refine WP.seq (fun K26 hK26 => ?_)
  refine WP.seq (fun K27 hK27 => ?_)
  refine WP.region ?_
  refine WL.runk 1 [2, 3, 15] [(2, .pointer (some ⟨b2, 0, none⟩)), (3, .pointer (some ⟨b10, 0, none⟩)), (15, .pointer (some ⟨b2, 2, none⟩))] (by kernel_rfl) ?_
  refine WL.st (.int .i64 a_0.Reserved) (ST.load (cell_ext (SH.boxAt (SH.front 1 hS17) 2 _ rfl)) rfl rfl Try.underlying2 rfl) rfl rfl rfl ?_
  refine WL.runk 1 [2, 3, 16, 17] [(2, .pointer (some ⟨b2, 0, none⟩)), (3, .pointer (some ⟨b10, 0, none⟩)), (16, .int .i64 a_0.Reserved), (17, .pointer (some ⟨b10, 2, none⟩))] (by kernel_rfl) ?_
  refine WL.st (.int .i64 b_1.Reserved) (ST.load (cell_ext (SH.boxAt (SH.front 0 hS17) 2 _ rfl)) rfl rfl Try.underlying2 rfl) rfl rfl rfl ?_
  refine WL.runk 1 [2, 3, 19] [(2, .pointer (some ⟨b2, 0, none⟩)), (3, .pointer (some ⟨b10, 0, none⟩)), (19, .bool (a_0.Reserved != b_1.Reserved))] (by kernel_rfl) ?_
  refine WL.nil ?_
  refine WQ.then_normal (hK27 _ _ _ ?_)
  refine WP.cond (a_0.Reserved != b_1.Reserved) rfl rfl (fun hc28 => ?_) (fun hc28 => ?_)
  · have hm := iteT hm hc28
    refine WP.seq (fun K29 hK29 => ?_)
    refine WP.region ?_
    refine WL.runk 1 [4] [(4, .bool false)] (by kernel_rfl) ?_
    refine WL.nil ?_
    refine WQ.then_normal (hK29 _ _ _ ?_)
    refine WP.ret ?_
    refine WQ.then_ret ?_
    obtain rfl := Option.some.inj hm
    exact WQ.ret1 _ rfl rfl ⟨rfl, hb15⟩
  have hm := iteF hm hc28
  refine WP.skip ?_
  refine WQ.then_normal (hK26 _ _ _ ?_)
  refine WP.seq (fun K30 hK30 => ?_)
  refine WP.seq (fun K31 hK31 => ?_)
  refine WP.region ?_
  refine WL.runk 1 [3, 20] [(3, .pointer (some ⟨b10, 0, none⟩)), (20, .pointer (some ⟨b2, 3, none⟩))] (by kernel_rfl) ?_
  refine WL.st (.int .i64 a_0.Least) (ST.load (cell_ext (SH.boxAt (SH.front 1 hS17) 3 _ rfl)) rfl rfl Try.underlying2 rfl) rfl rfl rfl ?_
  refine WL.runk 1 [21, 22] [(21, .int .i64 a_0.Least), (22, .pointer (some ⟨b10, 3, none⟩))] (by kernel_rfl) ?_
  refine WL.st (.int .i64 b_1.Least) (ST.load (cell_ext (SH.boxAt (SH.front 0 hS17) 3 _ rfl)) rfl rfl Try.underlying2 rfl) rfl rfl rfl ?_
  refine WL.runk 1 [24] [(24, .bool (a_0.Least != b_1.Least))] (by kernel_rfl) ?_
  refine WL.nil ?_
  refine WQ.then_normal (hK31 _ _ _ ?_)
  refine WP.cond (a_0.Least != b_1.Least) rfl rfl (fun hc32 => ?_) (fun hc32 => ?_)
  · have hm := iteT hm hc32
    refine WP.seq (fun K33 hK33 => ?_)
    refine WP.region ?_
    refine WL.runk 1 [4] [(4, .bool false)] (by kernel_rfl) ?_
    refine WL.nil ?_
    refine WQ.then_normal (hK33 _ _ _ ?_)
    refine WP.ret ?_
    refine WQ.then_ret ?_
    obtain rfl := Option.some.inj hm
    exact WQ.ret1 _ rfl rfl ⟨rfl, hb15⟩
  have hm := iteF hm hc32
  refine WP.skip ?_
  refine WQ.then_normal (hK30 _ _ _ ?_)
  refine WP.seq (fun K34 hK34 => ?_)
  refine WP.region ?_
  refine WL.runk 1 [4] [(4, .bool true)] (by kernel_rfl) ?_
  refine WL.nil ?_
  refine WQ.then_normal (hK34 _ _ _ ?_)
  refine WP.ret ?_
  obtain rfl := Option.some.inj hm
  exact WQ.ret1 _ rfl rfl ⟨rfl, hb15⟩

theorem c_17 (n : Nat) (a_0 : List SGood) (a0' : Option Addr) (c0' : Nat) (b_1 : List SGood) (a1' : Option Addr) (c1' : Nat) (w : World) {r : Bool} (hm : m_laws_eqGoodS n a_0 b_1 = some r) (h0 : Rd fGood.ty w a0' a_0) (_hle0 : a_0.length ≤ c0') (h1 : Rd fGood.ty w a1' b_1) (_hle1 : b_1.length ≤ c1') :
    CallV Try.prog 17 #[.slice a0' a_0.length c0', .slice a1' b_1.length c1'] w (fun v w' => v = .bool r ∧ Ext w w') := by
  unfold m_laws_eqGoodS at hm
  refine CallV.enter Try.func17 rfl (by kernel_rfl) Try.ntmps17 (env := [(0, .slice a0' a_0.length c0'), (1, .slice a1' b_1.length c1')]) ⟨rfl, rfl, trivial⟩ ?_
  refine WP.seq (fun K1 hK1 => ?_)
  refine WP.region ?_
  refine WL.runk 1 [0, 1] [(0, .slice a0' a_0.length c0'), (1, .slice a1' b_1.length c1')] (by kernel_rfl) ?_
  refine WL.nil ?_
  refine WQ.then_normal (hK1 _ _ _ ?_)
  refine WP.seq (fun K2 hK2 => ?_)
  refine WP.seq (fun K3 hK3 => ?_)
  refine WP.region ?_
  refine WL.runk 5 [0, 1, 10] [(0, .slice a0' a_0.length c0'), (1, .slice a1' b_1.length c1'), (10, .bool ((a_0.length : Int) != (b_1.length : Int)))] (by kernel_rfl) ?_
  refine WL.nil ?_
  refine WQ.then_normal (hK3 _ _ _ ?_)
  refine WP.cond ((a_0.length : Int) != (b_1.length : Int)) rfl rfl (fun hc4 => ?_) (fun hc4 => ?_)
  · have hm := iteT hm hc4
    refine WP.seq (fun K5 hK5 => ?_)
    refine WP.region ?_
    refine WL.runk 1 [4] [(4, .bool false)] (by kernel_rfl) ?_
    refine WL.nil ?_
    refine WQ.then_normal (hK5 _ _ _ ?_)
    refine WP.ret ?_
    refine WQ.then_ret ?_
    obtain rfl := Option.some.inj hm
    exact WQ.ret1 _ rfl rfl ⟨rfl, (Ext.refl w)⟩
  have hm := iteF hm hc4
  refine WP.skip ?_
  refine WQ.then_normal (hK2 _ _ _ ?_)
  refine WP.seq (fun K6 hK6 => ?_)
  refine WP.seq (fun K7 hK7 => ?_)
  refine WP.region ?_
  refine WL.runk 1 [0, 1, 5] [(0, .slice a0' a_0.length c0'), (1, .slice a1' b_1.length c1'), (5, .int .i64 0)] (by kernel_rfl) ?_
  refine WL.nil ?_
  refine WQ.then_normal (hK7 _ _ _ ?_)
  refine WP.block ?_
  obtain ⟨t19, ht20, hm⟩ := bindE hm
  have hmo14 := hm; clear hm
  refine WP.sub [(0, .slice a0' a_0.length c0'), (1, .slice a1' b_1.length c1'), (5, .int .i64 0)] ⟨rfl, rfl, rfl, trivial⟩ ?_
  refine WP.loop (fun n' env' w' => ∃ (st8 : Int) , env' = [(0, .slice a0' a_0.length c0'), (1, .slice a1' b_1.length c1'), (5, .int .i64 st8)] ∧ Ext w w' ∧ w.heap.size ≤ w'.heap.size ∧ SH w' w.heap.size [] ∧ loopN (m_laws_eqGoodS_l1 n a_0 b_1) n' st8 = some t19) n ⟨0, rfl, (Ext.refl w), (Nat.le_refl _), (SH.nil _ _), ht20⟩ ?_
  rintro n16 _ w9 ⟨st8, rfl, hb10, hL11, hS12, hl13⟩ K15 hK15
  obtain ⟨n17, s18, rfl, hm, hl13⟩ := loopN_some hl13
  unfold m_laws_eqGoodS_l1 at hm
  refine WP.seq (fun K21 hK21 => ?_)
  refine WP.seq (fun K22 hK22 => ?_)
  refine WP.region ?_
  refine WL.runk 4 [0, 1, 5, 14] [(0, .slice a0' a_0.length c0'), (1, .slice a1' b_1.length c1'), (5, .int .i64 st8), (14, .bool (decide (st8 < (a_0.length : Int))))] (by kernel_rfl) ?_
  refine WL.nil ?_
  refine WQ.then_normal (hK22 _ _ _ ?_)
  refine WP.cond (decide (st8 < (a_0.length : Int))) rfl rfl (fun hc23 => ?_) (fun hc23 => ?_)
  rotate_left
  · have hm := iteF hm hc23
    refine WP.exit ?_
    refine WQ.then_exit ?_
    refine WQ.then_exit ?_
    refine WQ.block_here ?_
    obtain rfl := Option.some.inj hm
    obtain rfl := afterN_done hl13
    have hm := hmo14
    refine WQ.then_normal (hK6 _ _ _ ?_)
    refine WP.seq (fun K41 hK41 => ?_)
    refine WP.region ?_
    refine WL.runk 1 [4] [(4, .bool true)] (by kernel_rfl) ?_
    refine WL.nil ?_
    refine WQ.then_normal (hK41 _ _ _ ?_)
    refine WP.ret ?_
    obtain rfl := Option.some.inj hm
    exact WQ.ret1 _ rfl rfl ⟨rfl, hb10⟩
  have hm := iteT hm hc23
  refine WP.skip ?_
  refine WQ.then_normal (hK21 _ _ _ ?_)
  refine WP.seq (fun K24 hK24 => ?_)
  refine WP.block ?_
  refine WP.seq (fun K25 hK25 => ?_)
  refine WP.quiet (by kernel_rfl) (by kernel_rfl) ?_
  refine QL.step1v 17 (.slice a0' a_0.length c0') rfl (fun _ => by kernel_rfl) ?_
  refine QL.step1v 18 (.int .i64 st8) rfl (fun _ => by kernel_rfl) ?_
  refine QL.subk [0, 1, 5, 17, 18] [(0, .slice a0' a_0.length c0'), (1, .slice a1' b_1.length c1'), (5, .int .i64 st8), (17, .slice a0' a_0.length c0'), (18, .int .i64 st8)] (by kernel_rfl) ?_
  obtain ⟨x26, hx27, hm⟩ := bindE hm
  refine QL.st (.pointer (some (at_ a0' (Int.toNat st8 * 4)))) (ST.index (T := fGood.ty) (xs := a_0) (Rd.below h0 hb10) hx27 rfl rfl rfl Try.underlying25 (info56).1 (info56).2.1) rfl rfl rfl ?_
  refine QL.st (.agg #[.string (bs x26.Name), .int .i64 x26.OnHand, .int .i64 x26.Reserved, .int .i64 x26.Least]) (ST.loadAgg (vs := fGood.leaf x26) (fun j v hv => Rd.flatA (F := fGood) (Rd.below h0 hb10) hx27 j hv) rfl rfl rfl Try.underlying56 rfl (info56).1 (info56).2.1) rfl rfl rfl ?_
  refine QL.step1v 21 (.slice a1' b_1.length c1') rfl (fun _ => by kernel_rfl) ?_
  refine QL.step1v 22 (.int .i64 st8) rfl (fun _ => by kernel_rfl) ?_
  refine QL.subk [0, 1, 5, 20, 21, 22] [(0, .slice a0' a_0.length c0'), (1, .slice a1' b_1.length c1'), (5, .int .i64 st8), (20, .agg #[.string (bs x26.Name), .int .i64 x26.OnHand, .int .i64 x26.Reserved, .int .i64 x26.Least]), (21, .slice a1' b_1.length c1'), (22, .int .i64 st8)] (by kernel_rfl) ?_
  obtain ⟨x28, hx29, hm⟩ := bindE hm
  refine QL.st (.pointer (some (at_ a1' (Int.toNat st8 * 4)))) (ST.index (T := fGood.ty) (xs := b_1) (Rd.below h1 hb10) hx29 rfl rfl rfl Try.underlying25 (info56).1 (info56).2.1) rfl rfl rfl ?_
  refine QL.st (.agg #[.string (bs x28.Name), .int .i64 x28.OnHand, .int .i64 x28.Reserved, .int .i64 x28.Least]) (ST.loadAgg (vs := fGood.leaf x28) (fun j v hv => Rd.flatA (F := fGood) (Rd.below h1 hb10) hx29 j hv) rfl rfl rfl Try.underlying56 rfl (info56).1 (info56).2.1) rfl rfl rfl ?_
  obtain ⟨x30, hx31, hm⟩ := bindE hm
  refine QL.call 51 #[.agg #[.string (bs x26.Name), .int .i64 x26.OnHand, .int .i64 x26.Reserved, .int .i64 x26.Least], .agg #[.string (bs x28.Name), .int .i64 x28.OnHand, .int .i64 x28.Reserved, .int .i64 x28.Least]] (.bool x30) (fun _ => by kernel_rfl) (fun w32 hE33 => c_51 n x26 x28 w32 hx31 ) rfl rfl rfl ?_
  refine QL.step1v 26 (.bool (!x30)) rfl (fun _ => by kernel_rfl) ?_
  refine QL.subk [0, 1, 5, 26] [(0, .slice a0' a_0.length c0'), (1, .slice a1' b_1.length c1'), (5, .int .i64 st8), (26, .bool (!x30))] (by kernel_rfl) ?_
  refine QL.nil ?_
  intro w34 hE35
  have hb36 : Ext w w34 := Ext.trans hb10 hE35
  have hL37 : w.heap.size ≤ w34.heap.size := Nat.le_trans hL11 hE35.size
  have hS38 : SH w34 w.heap.size [] := SH.ext hS12 hE35
  refine WQ.then_normal (hK25 _ _ _ ?_)
  refine WP.cond (!x30) rfl rfl (fun hc39 => ?_) (fun hc39 => ?_)
  rotate_left
  · have hm := iteF hm hc39
    refine WP.skip ?_
    refine WQ.block_normal ?_
    refine WQ.then_normal (hK24 _ _ _ ?_)
    refine WP.region ?_
    refine WL.runk 3 [0, 1, 5] [(0, .slice a0' a_0.length c0'), (1, .slice a1' b_1.length c1'), (5, .int .i64 (wI64 (st8 + 1)))] (by kernel_rfl) ?_
    refine WL.nil ?_
    obtain rfl := Option.some.inj hm
    exact WQ.round hK15 ⟨(wI64 (st8 + 1)), rfl, hb36, hL37, hS38, hl13⟩ (Nat.lt_succ_self _) ⟨rfl, rfl, rfl, trivial⟩
  have hm := iteT hm hc39
  refine WP.seq (fun K40 hK40 => ?_)
  refine WP.region ?_
  refine WL.runk 1 [4] [(4, .bool false)] (by kernel_rfl) ?_
  refine WL.nil ?_
  refine WQ.then_normal (hK40 _ _ _ ?_)
  refine WP.ret ?_
  refine WQ.block_ret ?_
  refine WQ.then_ret ?_
  refine WQ.then_ret ?_
  refine WQ.block_ret ?_
  refine WQ.then_ret ?_
  obtain rfl := Option.some.inj hm
  obtain rfl := afterN_done hl13
  have hm := hmo14
  obtain rfl := Option.some.inj hm
  exact WQ.ret1 _ rfl rfl ⟨rfl, hb36⟩

theorem c_80 (n : Nat) (n_0 : Int) (low_1 : Int) (high_2 : Int) (w : World) {r : Bool} (hm : m_spec_l00In n n_0 low_1 high_2 = some r)  :
    CallV Try.prog 80 #[.int .i64 n_0, .int .i64 low_1, .int .i64 high_2] w (fun v w' => v = .bool r ∧ Ext w w') := by
  unfold m_spec_l00In at hm
  refine CallV.enter Try.func80 rfl (by kernel_rfl) Try.ntmps80 (env := [(0, .int .i64 n_0), (1, .int .i64 low_1), (2, .int .i64 high_2)]) ⟨rfl, rfl, rfl, trivial⟩ ?_
  refine WP.seq (fun K1 hK1 => ?_)
  refine WP.region ?_
  refine WL.runk 1 [0, 1, 2] [(0, .int .i64 n_0), (1, .int .i64 low_1), (2, .int .i64 high_2)] (by kernel_rfl) ?_
  refine WL.nil ?_
  refine WQ.then_normal (hK1 _ _ _ ?_)
  refine WP.seq (fun K2 hK2 => ?_)
  obtain ⟨x4, hx5, hm⟩ := bindE hm
  refine WP.cut (fun env' w' => env' = [(6, .bool x4)] ∧ Ext w w' ∧ w.heap.size ≤ w'.heap.size ∧ SH w' w.heap.size []) ?_ ?_
  rotate_left
  · clear hx5
    rintro _ w7 ⟨rfl, hb8, hL9, hS10⟩
    refine WQ.then_normal (hK2 _ _ _ ?_)
    refine WP.ret ?_
    obtain rfl := Option.some.inj hm
    exact WQ.ret1 _ rfl rfl ⟨rfl, hb8⟩
  have hm := hx5; clear hx5
  refine WP.region ?_
  refine WL.runk 4 [0, 2, 10] [(0, .int .i64 n_0), (2, .int .i64 high_2), (10, .bool (decide (n_0 ≥ low_1)))] (by kernel_rfl) ?_
  refine WL.case (decide (n_0 ≥ low_1)) [10] ⟨rfl, trivial⟩ (fun hc6 => ?_) (fun hc6 => ?_)
  · have hm := iteT hm hc6
    refine WL.runk 5 [6] [(6, .bool (decide (n_0 ≤ high_2)))] (by kernel_rfl) ?_
    refine WL.nil ?_
    obtain rfl := Option.some.inj hm
    exact WQ.post' ⟨rfl, (Ext.refl w), (Nat.le_refl _), (SH.nil _ _)⟩ ⟨rfl, trivial⟩
  have hm := iteF hm hc6
  refine WL.runk 5 [6] [(6, .bool false)] (by kernel_rfl) ?_
  refine WL.nil ?_
  obtain rfl := Option.some.inj hm
  exact WQ.post' ⟨rfl, (Ext.refl w), (Nat.le_refl _), (SH.nil _ _)⟩ ⟨rfl, trivial⟩

theorem c_81 (n : Nat) (n_0 : Int) (w : World) {r : Bool} (hm : m_spec_l23Many n n_0 = some r)  :
    CallV Try.prog 81 #[.int .i64 n_0] w (fun v w' => v = .bool r ∧ Ext w w') := by
  unfold m_spec_l23Many at hm
  refine CallV.enter Try.func81 rfl (by kernel_rfl) Try.ntmps81 (env := [(0, .int .i64 n_0)]) ⟨rfl, trivial⟩ ?_
  refine WP.seq (fun K1 hK1 => ?_)
  refine WP.region ?_
  refine WL.runk 1 [0] [(0, .int .i64 n_0)] (by kernel_rfl) ?_
  refine WL.nil ?_
  refine WQ.then_normal (hK1 _ _ _ ?_)
  refine WP.seq (fun K2 hK2 => ?_)
  refine WP.region ?_
  refine WL.runk 1 [3] [(3, .int .i64 n_0)] (by kernel_rfl) ?_
  obtain ⟨x3, hx4, hm⟩ := bindE hm
  refine WL.call 80 #[.int .i64 n_0, .int .i64 0, .int .i64 1000000] rfl rfl (by kernel_rfl) (c_80 n n_0 0 1000000 w hx4 ) ?_
  rintro _ w5 ⟨rfl, hE6⟩
  refine ⟨_, rfl, ?_⟩
  have hb8 : Ext w w5 := Ext.trans (Ext.refl w) hE6
  have hL9 : w.heap.size ≤ w5.heap.size := Nat.le_trans (Nat.le_refl _) hE6.size
  have hS10 : SH w5 w.heap.size [] := SH.ext (SH.nil _ _) hE6
  refine WL.runk 1 [2] [(2, .bool x3)] (by kernel_rfl) ?_
  refine WL.nil ?_
  refine WQ.then_normal (hK2 _ _ _ ?_)
  refine WP.ret ?_
  obtain rfl := Option.some.inj hm
  exact WQ.ret1 _ rfl rfl ⟨rfl, hb8⟩

theorem c_95 (n : Nat) (c_0 : Int) (w : World) {r : Bool} (hm : m_spec_l01Small n c_0 = some r)  :
    CallV Try.prog 95 #[.int .u8 c_0] w (fun v w' => v = .bool r ∧ Ext w w') := by
  unfold m_spec_l01Small at hm
  refine CallV.enter Try.func95 rfl (by kernel_rfl) Try.ntmps95 (env := [(0, .int .u8 c_0)]) ⟨rfl, trivial⟩ ?_
  refine WP.seq (fun K1 hK1 => ?_)
  refine WP.region ?_
  refine WL.runk 1 [0] [(0, .int .u8 c_0)] (by kernel_rfl) ?_
  refine WL.nil ?_
  refine WQ.then_normal (hK1 _ _ _ ?_)
  refine WP.seq (fun K2 hK2 => ?_)
  obtain ⟨x4, hx5, hm⟩ := bindE hm
  refine WP.cut (fun env' w' => env' = [(2, .bool x4)] ∧ Ext w w' ∧ w.heap.size ≤ w'.heap.size ∧ SH w' w.heap.size []) ?_ ?_
  rotate_left
  · clear hx5
    rintro _ w7 ⟨rfl, hb8, hL9, hS10⟩
    refine WQ.then_normal (hK2 _ _ _ ?_)
    refine WP.ret ?_
    obtain rfl := Option.some.inj hm
    exact WQ.ret1 _ rfl rfl ⟨rfl, hb8⟩
  have hm := hx5; clear hx5
  refine WP.region ?_
  refine WL.runk 3 [0, 5] [(0, .int .u8 c_0), (5, .bool (decide (c_0 ≥ 97)))] (by kernel_rfl) ?_
  refine WL.case (decide (c_0 ≥ 97)) [5] ⟨rfl, trivial⟩ (fun hc6 => ?_) (fun hc6 => ?_)
  · have hm := iteT hm hc6
    refine WL.runk 4 [2] [(2, .bool (decide (c_0 ≤ 122)))] (by kernel_rfl) ?_
    refine WL.nil ?_
    obtain rfl := Option.some.inj hm
    exact WQ.post' ⟨rfl, (Ext.refl w), (Nat.le_refl _), (SH.nil _ _)⟩ ⟨rfl, trivial⟩
  have hm := iteF hm hc6
  refine WL.runk 4 [2] [(2, .bool false)] (by kernel_rfl) ?_
  refine WL.nil ?_
  obtain rfl := Option.some.inj hm
  exact WQ.post' ⟨rfl, (Ext.refl w), (Nat.le_refl _), (SH.nil _ _)⟩ ⟨rfl, trivial⟩

theorem c_96 (n : Nat) (c_0 : Int) (w : World) {r : Bool} (hm : m_spec_l01Digit n c_0 = some r)  :
    CallV Try.prog 96 #[.int .u8 c_0] w (fun v w' => v = .bool r ∧ Ext w w') := by
  unfold m_spec_l01Digit at hm
  refine CallV.enter Try.func96 rfl (by kernel_rfl) Try.ntmps96 (env := [(0, .int .u8 c_0)]) ⟨rfl, trivial⟩ ?_
  refine WP.seq (fun K1 hK1 => ?_)
  refine WP.region ?_
  refine WL.runk 1 [0] [(0, .int .u8 c_0)] (by kernel_rfl) ?_
  refine WL.nil ?_
  refine WQ.then_normal (hK1 _ _ _ ?_)
  refine WP.seq (fun K2 hK2 => ?_)
  obtain ⟨x4, hx5, hm⟩ := bindE hm
  refine WP.cut (fun env' w' => env' = [(2, .bool x4)] ∧ Ext w w' ∧ w.heap.size ≤ w'.heap.size ∧ SH w' w.heap.size []) ?_ ?_
  rotate_left
  · clear hx5
    rintro _ w7 ⟨rfl, hb8, hL9, hS10⟩
    refine WQ.then_normal (hK2 _ _ _ ?_)
    refine WP.ret ?_
    obtain rfl := Option.some.inj hm
    exact WQ.ret1 _ rfl rfl ⟨rfl, hb8⟩
  have hm := hx5; clear hx5
  refine WP.region ?_
  refine WL.runk 3 [0, 5] [(0, .int .u8 c_0), (5, .bool (decide (c_0 ≥ 48)))] (by kernel_rfl) ?_
  refine WL.case (decide (c_0 ≥ 48)) [5] ⟨rfl, trivial⟩ (fun hc6 => ?_) (fun hc6 => ?_)
  · have hm := iteT hm hc6
    refine WL.runk 4 [2] [(2, .bool (decide (c_0 ≤ 57)))] (by kernel_rfl) ?_
    refine WL.nil ?_
    obtain rfl := Option.some.inj hm
    exact WQ.post' ⟨rfl, (Ext.refl w), (Nat.le_refl _), (SH.nil _ _)⟩ ⟨rfl, trivial⟩
  have hm := iteF hm hc6
  refine WL.runk 4 [2] [(2, .bool false)] (by kernel_rfl) ?_
  refine WL.nil ?_
  obtain rfl := Option.some.inj hm
  exact WQ.post' ⟨rfl, (Ext.refl w), (Nat.le_refl _), (SH.nil _ _)⟩ ⟨rfl, trivial⟩

theorem c_86 (n : Nat) (s_0 : List UInt8) (w : World) {r : Bool} (hm : m_spec_IsName n s_0 = some r)  :
    CallV Try.prog 86 #[.string (bs s_0)] w (fun v w' => v = .bool r ∧ Ext w w') := by
  unfold m_spec_IsName at hm
  refine CallV.enter Try.func86 rfl (by kernel_rfl) Try.ntmps86 (env := [(0, .string (bs s_0))]) ⟨rfl, trivial⟩ ?_
  refine WP.seq (fun K1 hK1 => ?_)
  refine WP.region ?_
  refine WL.runk 1 [0] [(0, .string (bs s_0))] (by kernel_rfl) ?_
  refine WL.nil ?_
  refine WQ.then_normal (hK1 _ _ _ ?_)
  refine WP.seq (fun K2 hK2 => ?_)
  refine WP.seq (fun K3 hK3 => ?_)
  obtain ⟨x16, hx17, hm⟩ := bindE hm
  refine WP.cut (fun env' w' => env' = [(0, .string (bs s_0)), (16, .bool x16)] ∧ Ext w w' ∧ w.heap.size ≤ w'.heap.size ∧ SH w' w.heap.size []) ?_ ?_
  · have hm := hx17; clear hx17
    refine WP.region ?_
    refine WL.runk 1 [0, 4] [(0, .string (bs s_0)), (4, .string (bs s_0))] (by kernel_rfl) ?_
    refine WL.st (.bool (s_0 == [])) (ST.streq (x := s_0) (y := []) rfl rfl rfl) rfl rfl rfl ?_
    refine WL.runk 1 [0, 6] [(0, .string (bs s_0)), (6, .bool (s_0 == []))] (by kernel_rfl) ?_
    refine WL.case (s_0 == []) [6] ⟨rfl, trivial⟩ (fun hc18 => ?_) (fun hc18 => ?_)
    · have hm := iteT hm hc18
      refine WL.runk 10 [0, 16] [(0, .string (bs s_0)), (16, .bool true)] (by kernel_rfl) ?_
      refine WL.nil ?_
      obtain rfl := Option.some.inj hm
      exact WQ.post' ⟨rfl, (Ext.refl w), (Nat.le_refl _), (SH.nil _ _)⟩ ⟨rfl, rfl, trivial⟩
    have hm := iteF hm hc18
    refine WL.runk 5 [0, 11] [(0, .string (bs s_0)), (11, .bool (decide ((s_0.length : Int) > 12)))] (by kernel_rfl) ?_
    refine WL.case (decide ((s_0.length : Int) > 12)) [11] ⟨rfl, trivial⟩ (fun hc19 => ?_) (fun hc19 => ?_)
    · have hm := iteT hm hc19
      refine WL.runk 5 [0, 16] [(0, .string (bs s_0)), (16, .bool true)] (by kernel_rfl) ?_
      refine WL.nil ?_
      obtain rfl := Option.some.inj hm
      exact WQ.post' ⟨rfl, (Ext.refl w), (Nat.le_refl _), (SH.nil _ _)⟩ ⟨rfl, rfl, trivial⟩
    have hm := iteF hm hc19
    refine WL.runk 1 [0, 11, 12] [(0, .string (bs s_0)), (11, .bool false), (12, .string (bs s_0))] (by kernel_rfl) ?_
    obtain ⟨x20, hx21, hm⟩ := bindE hm
    refine WL.st (.int .u8 (x20.toNat : Int)) (ST.sindex hx21 rfl rfl rfl Try.underlying9) rfl rfl rfl ?_
    obtain ⟨x22, hx23, hm⟩ := bindE hm
    refine WL.call 95 #[.int .u8 (x20.toNat : Int)] rfl rfl (by kernel_rfl) (c_95 n (x20.toNat : Int) w hx23 ) ?_
    rintro _ w24 ⟨rfl, hE25⟩
    refine ⟨_, rfl, ?_⟩
    have hb27 : Ext w w24 := Ext.trans (Ext.refl w) hE25
    have hL28 : w.heap.size ≤ w24.heap.size := Nat.le_trans (Nat.le_refl _) hE25.size
    have hS29 : SH w24 w.heap.size [] := SH.ext (SH.nil _ _) hE25
    refine WL.runk 2 [0, 16] [(0, .string (bs s_0)), (16, .bool (!x22))] (by kernel_rfl) ?_
    refine WL.nil ?_
    obtain rfl := Option.some.inj hm
    exact WQ.post' ⟨rfl, hb27, hL28, hS29⟩ ⟨rfl, rfl, trivial⟩
  clear hx17
  rintro _ w30 ⟨rfl, hb31, hL32, hS33⟩
  refine WQ.then_normal (hK3 _ _ _ ?_)
  refine WP.cond x16 rfl rfl (fun hc34 => ?_) (fun hc34 => ?_)
  · have hm := iteT hm hc34
    refine WP.seq (fun K35 hK35 => ?_)
    refine WP.region ?_
    refine WL.runk 1 [2] [(2, .bool false)] (by kernel_rfl) ?_
    refine WL.nil ?_
    refine WQ.then_normal (hK35 _ _ _ ?_)
    refine WP.ret ?_
    refine WQ.then_ret ?_
    obtain rfl := Option.some.inj hm
    exact WQ.ret1 _ rfl rfl ⟨rfl, hb31⟩
  have hm := iteF hm hc34
  refine WP.skip ?_
  refine WQ.then_normal (hK2 _ _ _ ?_)
  refine WP.seq (fun K36 hK36 => ?_)
  refine WP.seq (fun K37 hK37 => ?_)
  refine WP.region ?_
  refine WL.runk 1 [0, 3] [(0, .string (bs s_0)), (3, .int .i64 0)] (by kernel_rfl) ?_
  refine WL.nil ?_
  refine WQ.then_normal (hK37 _ _ _ ?_)
  refine WP.block ?_
  obtain ⟨t49, ht50, hm⟩ := bindE hm
  have hmo44 := hm; clear hm
  refine WP.sub [(0, .string (bs s_0)), (3, .int .i64 0)] ⟨rfl, rfl, trivial⟩ ?_
  refine WP.loop (fun n' env' w' => ∃ (st38 : Int) , env' = [(0, .string (bs s_0)), (3, .int .i64 st38)] ∧ Ext w w' ∧ w.heap.size ≤ w'.heap.size ∧ SH w' w.heap.size [] ∧ loopN (m_spec_IsName_l1 n s_0) n' st38 = some t49) n ⟨0, rfl, hb31, hL32, hS33, ht50⟩ ?_
  rintro n46 _ w39 ⟨st38, rfl, hb40, hL41, hS42, hl43⟩ K45 hK45
  obtain ⟨n47, s48, rfl, hm, hl43⟩ := loopN_some hl43
  unfold m_spec_IsName_l1 at hm
  refine WP.seq (fun K51 hK51 => ?_)
  refine WP.seq (fun K52 hK52 => ?_)
  refine WP.region ?_
  refine WL.runk 4 [0, 3, 20] [(0, .string (bs s_0)), (3, .int .i64 st38), (20, .bool (decide (st38 < (s_0.length : Int))))] (by kernel_rfl) ?_
  refine WL.nil ?_
  refine WQ.then_normal (hK52 _ _ _ ?_)
  refine WP.cond (decide (st38 < (s_0.length : Int))) rfl rfl (fun hc53 => ?_) (fun hc53 => ?_)
  rotate_left
  · have hm := iteF hm hc53
    refine WP.exit ?_
    refine WQ.then_exit ?_
    refine WQ.then_exit ?_
    refine WQ.block_here ?_
    obtain rfl := Option.some.inj hm
    obtain rfl := afterN_done hl43
    have hm := hmo44
    refine WQ.then_normal (hK36 _ _ _ ?_)
    refine WP.seq (fun K112 hK112 => ?_)
    refine WP.region ?_
    refine WL.runk 1 [2] [(2, .bool true)] (by kernel_rfl) ?_
    refine WL.nil ?_
    refine WQ.then_normal (hK112 _ _ _ ?_)
    refine WP.ret ?_
    obtain rfl := Option.some.inj hm
    exact WQ.ret1 _ rfl rfl ⟨rfl, hb40⟩
  have hm := iteT hm hc53
  refine WP.skip ?_
  refine WQ.then_normal (hK51 _ _ _ ?_)
  refine WP.seq (fun K54 hK54 => ?_)
  refine WP.block ?_
  refine WP.seq (fun K55 hK55 => ?_)
  obtain ⟨x80, hx81, hm⟩ := bindE hm
  refine WP.cut (fun env' w' => env' = [(0, .string (bs s_0)), (3, .int .i64 st38), (40, .bool x80)] ∧ Ext w w' ∧ w.heap.size ≤ w'.heap.size ∧ SH w' w.heap.size []) ?_ ?_
  rotate_left
  · clear hx81
    rintro _ w106 ⟨rfl, hb107, hL108, hS109⟩
    refine WQ.then_normal (hK55 _ _ _ ?_)
    refine WP.cond x80 rfl rfl (fun hc110 => ?_) (fun hc110 => ?_)
    rotate_left
    · have hm := iteF hm hc110
      refine WP.skip ?_
      refine WQ.block_normal ?_
      refine WQ.then_normal (hK54 _ _ _ ?_)
      refine WP.region ?_
      refine WL.runk 3 [0, 3] [(0, .string (bs s_0)), (3, .int .i64 (wI64 (st38 + 1)))] (by kernel_rfl) ?_
      refine WL.nil ?_
      obtain rfl := Option.some.inj hm
      exact WQ.round hK45 ⟨(wI64 (st38 + 1)), rfl, hb107, hL108, hS109, hl43⟩ (Nat.lt_succ_self _) ⟨rfl, rfl, trivial⟩
    have hm := iteT hm hc110
    refine WP.seq (fun K111 hK111 => ?_)
    refine WP.region ?_
    refine WL.runk 1 [2] [(2, .bool false)] (by kernel_rfl) ?_
    refine WL.nil ?_
    refine WQ.then_normal (hK111 _ _ _ ?_)
    refine WP.ret ?_
    refine WQ.block_ret ?_
    refine WQ.then_ret ?_
    refine WQ.then_ret ?_
    refine WQ.block_ret ?_
    refine WQ.then_ret ?_
    obtain rfl := Option.some.inj hm
    obtain rfl := afterN_done hl43
    have hm := hmo44
    obtain rfl := Option.some.inj hm
    exact WQ.ret1 _ rfl rfl ⟨rfl, hb107⟩
  have hm := hx81; clear hx81
  refine WP.region ?_
  refine WL.runk 2 [0, 3, 23, 24] [(0, .string (bs s_0)), (3, .int .i64 st38), (23, .string (bs s_0)), (24, .int .i64 st38)] (by kernel_rfl) ?_
  obtain ⟨x82, hx83, hm⟩ := bindE hm
  refine WL.st (.int .u8 (x82.toNat : Int)) (ST.sindex hx83 rfl rfl rfl Try.underlying9) rfl rfl rfl ?_
  obtain ⟨x84, hx85, hm⟩ := bindE hm
  refine WL.call 95 #[.int .u8 (x82.toNat : Int)] rfl rfl (by kernel_rfl) (c_95 n (x82.toNat : Int) w39 hx85 ) ?_
  rintro _ w86 ⟨rfl, hE87⟩
  refine ⟨_, rfl, ?_⟩
  have hb89 : Ext w w86 := Ext.trans hb40 hE87
  have hL90 : w.heap.size ≤ w86.heap.size := Nat.le_trans hL41 hE87.size
  have hS91 : SH w86 w.heap.size [] := SH.ext hS42 hE87
  refine WL.runk 2 [0, 3, 28] [(0, .string (bs s_0)), (3, .int .i64 st38), (28, .bool (!x84))] (by kernel_rfl) ?_
  refine WL.case (!x84) [28] ⟨rfl, trivial⟩ (fun hc92 => ?_) (fun hc92 => ?_)
  rotate_left
  · have hm := iteF hm hc92
    refine WL.runk 12 [0, 3, 40] [(0, .string (bs s_0)), (3, .int .i64 st38), (40, .bool false)] (by kernel_rfl) ?_
    refine WL.nil ?_
    obtain rfl := Option.some.inj hm
    exact WQ.post' ⟨rfl, hb89, hL90, hS91⟩ ⟨rfl, rfl, rfl, trivial⟩
  have hm := iteT hm hc92
  refine WL.runk 2 [0, 3, 28, 29, 30] [(0, .string (bs s_0)), (3, .int .i64 st38), (28, .bool true), (29, .string (bs s_0)), (30, .int .i64 st38)] (by kernel_rfl) ?_
  obtain ⟨x93, hx94, hm⟩ := bindE hm
  refine WL.st (.int .u8 (x93.toNat : Int)) (ST.sindex hx94 rfl rfl rfl Try.underlying9) rfl rfl rfl ?_
  obtain ⟨x95, hx96, hm⟩ := bindE hm
  refine WL.call 96 #[.int .u8 (x93.toNat : Int)] rfl rfl (by kernel_rfl) (c_96 n (x93.toNat : Int) w86 hx96 ) ?_
  rintro _ w97 ⟨rfl, hE98⟩
  refine ⟨_, rfl, ?_⟩
  have hb100 : Ext w w97 := Ext.trans hb89 hE98
  have hL101 : w.heap.size ≤ w97.heap.size := Nat.le_trans hL90 hE98.size
  have hS102 : SH w97 w.heap.size [] := SH.ext hS91 hE98
  refine WL.runk 3 [0, 3, 35] [(0, .string (bs s_0)), (3, .int .i64 st38), (35, .bool (!x95))] (by kernel_rfl) ?_
  refine WL.case (!x95) [35] ⟨rfl, trivial⟩ (fun hc103 => ?_) (fun hc103 => ?_)
  rotate_left
  · have hm := iteF hm hc103
    refine WL.runk 5 [0, 3, 40] [(0, .string (bs s_0)), (3, .int .i64 st38), (40, .bool false)] (by kernel_rfl) ?_
    refine WL.nil ?_
    obtain rfl := Option.some.inj hm
    exact WQ.post' ⟨rfl, hb100, hL101, hS102⟩ ⟨rfl, rfl, rfl, trivial⟩
  have hm := iteT hm hc103
  refine WL.runk 2 [0, 3, 35, 36, 37] [(0, .string (bs s_0)), (3, .int .i64 st38), (35, .bool true), (36, .string (bs s_0)), (37, .int .i64 st38)] (by kernel_rfl) ?_
  obtain ⟨x104, hx105, hm⟩ := bindE hm
  refine WL.st (.int .u8 (x104.toNat : Int)) (ST.sindex hx105 rfl rfl rfl Try.underlying9) rfl rfl rfl ?_
  refine WL.runk 2 [0, 3, 40] [(0, .string (bs s_0)), (3, .int .i64 st38), (40, .bool ((x104.toNat : Int) != 45))] (by kernel_rfl) ?_
  refine WL.nil ?_
  obtain rfl := Option.some.inj hm
  exact WQ.post' ⟨rfl, hb100, hL101, hS102⟩ ⟨rfl, rfl, rfl, trivial⟩

theorem c_69 (n : Nat) (g_0 : SGood) (b0' o0' : Nat) (w : World) {r : Bool} (hm : m_spec_l23One n g_0 = some r) (h0 : RdB w b0' o0' [.string (bs g_0.Name), .int .i64 g_0.OnHand, .int .i64 g_0.Reserved, .int .i64 g_0.Least]) :
    CallV Try.prog 69 #[.pointer (some ⟨b0', o0', none⟩)] w (fun v w' => v = .bool r ∧ Ext w w') := by
  unfold m_spec_l23One at hm
  refine CallV.enter Try.func69 rfl (by kernel_rfl) Try.ntmps69 (env := [(0, .pointer (some ⟨b0', o0', none⟩))]) ⟨rfl, trivial⟩ ?_
  refine WP.seq (fun K1 hK1 => ?_)
  refine WP.region ?_
  refine WL.runk 1 [0] [(0, .pointer (some ⟨b0', o0', none⟩))] (by kernel_rfl) ?_
  refine WL.nil ?_
  refine WQ.then_normal (hK1 _ _ _ ?_)
  refine WP.seq (fun K2 hK2 => ?_)
  obtain ⟨x42, hx43, hm⟩ := bindE hm
  refine WP.cut (fun env' w' => env' = [(2, .bool x42)] ∧ Ext w w' ∧ w.heap.size ≤ w'.heap.size ∧ SH w' w.heap.size []) ?_ ?_
  rotate_left
  · clear hx43
    rintro _ w83 ⟨rfl, hb84, hL85, hS86⟩
    refine WQ.then_normal (hK2 _ _ _ ?_)
    refine WP.ret ?_
    obtain rfl := Option.some.inj hm
    exact WQ.ret1 _ rfl rfl ⟨rfl, hb84⟩
  have hm := hx43; clear hx43
  refine WP.quiet (by kernel_rfl) (by kernel_rfl) ?_
  refine QL.step1v 3 (.pointer (some ⟨b0', o0', none⟩)) rfl (fun _ => by kernel_rfl) ?_
  refine QL.step1v 4 (.pointer (some ⟨b0', o0', none⟩)) rfl (fun _ => by kernel_rfl) ?_
  refine QL.step1v 5 (.pointer (some ⟨b0', o0', none⟩)) rfl (fun _ => by kernel_rfl) ?_
  refine QL.subk [0, 5] [(0, .pointer (some ⟨b0', o0', none⟩)), (5, .pointer (some ⟨b0', o0', none⟩))] (by kernel_rfl) ?_
  refine QL.st (.string (bs g_0.Name)) (ST.load (cell_ext (RdB.at (RdB.below h0 (Ext.refl w)) 0 _ rfl)) rfl rfl Try.underlying9 rfl) rfl rfl rfl ?_
  obtain ⟨x44, hx45, hm⟩ := bindE hm
  refine QL.call 86 #[.string (bs g_0.Name)] (.bool x44) (fun _ => by kernel_rfl) (fun w46 hE47 => c_86 n g_0.Name w46 hx45 ) rfl rfl rfl ?_
  refine QL.step1v 8 (.bool x44) rfl (fun _ => by kernel_rfl) ?_
  refine QL.subk [0, 8] [(0, .pointer (some ⟨b0', o0', none⟩)), (8, .bool x44)] (by kernel_rfl) ?_
  refine QL.case x44 [8] ⟨rfl, trivial⟩ (fun hc48 => ?_) (fun hc48 => ?_)
  rotate_left
  · have hm := iteF hm hc48
    refine QL.step1v 9 undef rfl (fun _ => by kernel_rfl) ?_
    refine QL.step1v 10 undef rfl (fun _ => by kernel_rfl) ?_
    refine QL.step1v 11 undef rfl (fun _ => by kernel_rfl) ?_
    refine QL.step1v 12 undef rfl (fun _ => by kernel_rfl) ?_
    refine QL.step1v 13 undef rfl (fun _ => by kernel_rfl) ?_
    refine QL.step1v 14 (.bool false) rfl (fun _ => by kernel_rfl) ?_
    refine QL.step1v 15 (.bool false) rfl (fun _ => by kernel_rfl) ?_
    refine QL.step1v 16 undef rfl (fun _ => by kernel_rfl) ?_
    refine QL.step1v 17 undef rfl (fun _ => by kernel_rfl) ?_
    refine QL.step1v 18 undef rfl (fun _ => by kernel_rfl) ?_
    refine QL.step1v 19 undef rfl (fun _ => by kernel_rfl) ?_
    refine QL.step1v 20 undef rfl (fun _ => by kernel_rfl) ?_
    refine QL.step1v 21 undef rfl (fun _ => by kernel_rfl) ?_
    refine QL.step1v 22 undef rfl (fun _ => by kernel_rfl) ?_
    refine QL.step1v 23 undef rfl (fun _ => by kernel_rfl) ?_
    refine QL.step1v 24 undef rfl (fun _ => by kernel_rfl) ?_
    refine QL.step1v 25 (.bool false) rfl (fun _ => by kernel_rfl) ?_
    refine QL.step1v 26 (.bool false) rfl (fun _ => by kernel_rfl) ?_
    refine QL.step1v 27 undef rfl (fun _ => by kernel_rfl) ?_
    refine QL.step1v 28 undef rfl (fun _ => by kernel_rfl) ?_
    refine QL.step1v 29 undef rfl (fun _ => by kernel_rfl) ?_
    refine QL.step1v 30 undef rfl (fun _ => by kernel_rfl) ?_
    refine QL.step1v 31 undef rfl (fun _ => by kernel_rfl) ?_
    refine QL.step1v 32 (.bool false) rfl (fun _ => by kernel_rfl) ?_
    refine QL.step1v 2 (.bool false) rfl (fun _ => by kernel_rfl) ?_
    refine QL.subk [2] [(2, .bool false)] (by kernel_rfl) ?_
    refine QL.nil ?_
    intro w78 hE79
    have hb80 : Ext w w78 := Ext.trans (Ext.refl w) hE79
    have hL81 : w.heap.size ≤ w78.heap.size := Nat.le_trans (Nat.le_refl _) hE79.size
    have hS82 : SH w78 w.heap.size [] := SH.ext (SH.nil _ _) hE79
    obtain rfl := Option.some.inj hm
    exact WQ.post' ⟨rfl, hb80, hL81, hS82⟩ ⟨rfl, trivial⟩
  have hm := iteT hm hc48
  refine QL.step1v 9 (.pointer (some ⟨b0', o0', none⟩)) rfl (fun _ => by kernel_rfl) ?_
  refine QL.step1v 10 (.pointer (some ⟨b0', o0', none⟩)) rfl (fun _ => by kernel_rfl) ?_
  refine QL.step1v 11 (.pointer (some ⟨b0', o0' + 1, none⟩)) rfl (fun _ => by kernel_rfl) ?_
  refine QL.subk [0, 8, 11] [(0, .pointer (some ⟨b0', o0', none⟩)), (8, .bool true), (11, .pointer (some ⟨b0', o0' + 1, none⟩))] (by kernel_rfl) ?_
  refine QL.st (.int .i64 g_0.OnHand) (ST.load (cell_ext (RdB.at (RdB.below h0 (Ext.refl w)) 1 _ rfl)) rfl rfl Try.underlying2 rfl) rfl rfl rfl ?_
  obtain ⟨x49, hx50, hm⟩ := bindE hm
  refine QL.call 81 #[.int .i64 g_0.OnHand] (.bool x49) (fun _ => by kernel_rfl) (fun w51 hE52 => c_81 n g_0.OnHand w51 hx50 ) rfl rfl rfl ?_
  refine QL.step1v 14 (.bool x49) rfl (fun _ => by kernel_rfl) ?_
  refine QL.step1v 15 (.bool x49) rfl (fun _ => by kernel_rfl) ?_
  refine QL.subk [0, 15] [(0, .pointer (some ⟨b0', o0', none⟩)), (15, .bool x49)] (by kernel_rfl) ?_
  refine QL.case x49 [15] ⟨rfl, trivial⟩ (fun hc53 => ?_) (fun hc53 => ?_)
  rotate_left
  · have hm := iteF hm hc53
    refine QL.step1v 16 undef rfl (fun _ => by kernel_rfl) ?_
    refine QL.step1v 17 undef rfl (fun _ => by kernel_rfl) ?_
    refine QL.step1v 18 undef rfl (fun _ => by kernel_rfl) ?_
    refine QL.step1v 19 undef rfl (fun _ => by kernel_rfl) ?_
    refine QL.step1v 20 undef rfl (fun _ => by kernel_rfl) ?_
    refine QL.step1v 21 undef rfl (fun _ => by kernel_rfl) ?_
    refine QL.step1v 22 undef rfl (fun _ => by kernel_rfl) ?_
    refine QL.step1v 23 undef rfl (fun _ => by kernel_rfl) ?_
    refine QL.step1v 24 undef rfl (fun _ => by kernel_rfl) ?_
    refine QL.step1v 25 (.bool false) rfl (fun _ => by kernel_rfl) ?_
    refine QL.step1v 26 (.bool false) rfl (fun _ => by kernel_rfl) ?_
    refine QL.step1v 27 undef rfl (fun _ => by kernel_rfl) ?_
    refine QL.step1v 28 undef rfl (fun _ => by kernel_rfl) ?_
    refine QL.step1v 29 undef rfl (fun _ => by kernel_rfl) ?_
    refine QL.step1v 30 undef rfl (fun _ => by kernel_rfl) ?_
    refine QL.step1v 31 undef rfl (fun _ => by kernel_rfl) ?_
    refine QL.step1v 32 (.bool false) rfl (fun _ => by kernel_rfl) ?_
    refine QL.step1v 2 (.bool false) rfl (fun _ => by kernel_rfl) ?_
    refine QL.subk [2] [(2, .bool false)] (by kernel_rfl) ?_
    refine QL.nil ?_
    intro w73 hE74
    have hb75 : Ext w w73 := Ext.trans (Ext.refl w) hE74
    have hL76 : w.heap.size ≤ w73.heap.size := Nat.le_trans (Nat.le_refl _) hE74.size
    have hS77 : SH w73 w.heap.size [] := SH.ext (SH.nil _ _) hE74
    obtain rfl := Option.some.inj hm
    exact WQ.post' ⟨rfl, hb75, hL76, hS77⟩ ⟨rfl, trivial⟩
  have hm := iteT hm hc53
  refine QL.step1v 16 (.pointer (some ⟨b0', o0', none⟩)) rfl (fun _ => by kernel_rfl) ?_
  refine QL.step1v 17 (.pointer (some ⟨b0', o0', none⟩)) rfl (fun _ => by kernel_rfl) ?_
  refine QL.step1v 18 (.pointer (some ⟨b0', o0' + 2, none⟩)) rfl (fun _ => by kernel_rfl) ?_
  refine QL.subk [0, 15, 18] [(0, .pointer (some ⟨b0', o0', none⟩)), (15, .bool true), (18, .pointer (some ⟨b0', o0' + 2, none⟩))] (by kernel_rfl) ?_
  refine QL.st (.int .i64 g_0.Reserved) (ST.load (cell_ext (RdB.at (RdB.below h0 (Ext.refl w)) 2 _ rfl)) rfl rfl Try.underlying2 rfl) rfl rfl rfl ?_
  refine QL.step1v 20 (.pointer (some ⟨b0', o0', none⟩)) rfl (fun _ => by kernel_rfl) ?_
  refine QL.step1v 21 (.pointer (some ⟨b0', o0', none⟩)) rfl (fun _ => by kernel_rfl) ?_
  refine QL.step1v 22 (.pointer (some ⟨b0', o0' + 1, none⟩)) rfl (fun _ => by kernel_rfl) ?_
  refine QL.subk [0, 15, 19, 22] [(0, .pointer (some ⟨b0', o0', none⟩)), (15, .bool true), (19, .int .i64 g_0.Reserved), (22, .pointer (some ⟨b0', o0' + 1, none⟩))] (by kernel_rfl) ?_
  refine QL.st (.int .i64 g_0.OnHand) (ST.load (cell_ext (RdB.at (RdB.below h0 (Ext.refl w)) 1 _ rfl)) rfl rfl Try.underlying2 rfl) rfl rfl rfl ?_
  obtain ⟨x54, hx55, hm⟩ := bindE hm
  refine QL.call 80 #[.int .i64 g_0.Reserved, .int .i64 0, .int .i64 g_0.OnHand] (.bool x54) (fun _ => by kernel_rfl) (fun w56 hE57 => c_80 n g_0.Reserved 0 g_0.OnHand w56 hx55 ) rfl rfl rfl ?_
  refine QL.step1v 25 (.bool x54) rfl (fun _ => by kernel_rfl) ?_
  refine QL.step1v 26 (.bool x54) rfl (fun _ => by kernel_rfl) ?_
  refine QL.subk [0, 26] [(0, .pointer (some ⟨b0', o0', none⟩)), (26, .bool x54)] (by kernel_rfl) ?_
  refine QL.case x54 [26] ⟨rfl, trivial⟩ (fun hc58 => ?_) (fun hc58 => ?_)
  rotate_left
  · have hm := iteF hm hc58
    refine QL.step1v 27 undef rfl (fun _ => by kernel_rfl) ?_
    refine QL.step1v 28 undef rfl (fun _ => by kernel_rfl) ?_
    refine QL.step1v 29 undef rfl (fun _ => by kernel_rfl) ?_
    refine QL.step1v 30 undef rfl (fun _ => by kernel_rfl) ?_
    refine QL.step1v 31 undef rfl (fun _ => by kernel_rfl) ?_
    refine QL.step1v 32 (.bool false) rfl (fun _ => by kernel_rfl) ?_
    refine QL.step1v 2 (.bool false) rfl (fun _ => by kernel_rfl) ?_
    refine QL.subk [2] [(2, .bool false)] (by kernel_rfl) ?_
    refine QL.nil ?_
    intro w68 hE69
    have hb70 : Ext w w68 := Ext.trans (Ext.refl w) hE69
    have hL71 : w.heap.size ≤ w68.heap.size := Nat.le_trans (Nat.le_refl _) hE69.size
    have hS72 : SH w68 w.heap.size [] := SH.ext (SH.nil _ _) hE69
    obtain rfl := Option.some.inj hm
    exact WQ.post' ⟨rfl, hb70, hL71, hS72⟩ ⟨rfl, trivial⟩
  have hm := iteT hm hc58
  refine QL.step1v 27 (.pointer (some ⟨b0', o0', none⟩)) rfl (fun _ => by kernel_rfl) ?_
  refine QL.step1v 28 (.pointer (some ⟨b0', o0', none⟩)) rfl (fun _ => by kernel_rfl) ?_
  refine QL.step1v 29 (.pointer (some ⟨b0', o0' + 3, none⟩)) rfl (fun _ => by kernel_rfl) ?_
  refine QL.subk [26, 29] [(26, .bool true), (29, .pointer (some ⟨b0', o0' + 3, none⟩))] (by kernel_rfl) ?_
  refine QL.st (.int .i64 g_0.Least) (ST.load (cell_ext (RdB.at (RdB.below h0 (Ext.refl w)) 3 _ rfl)) rfl rfl Try.underlying2 rfl) rfl rfl rfl ?_
  obtain ⟨x59, hx60, hm⟩ := bindE hm
  refine QL.call 81 #[.int .i64 g_0.Least] (.bool x59) (fun _ => by kernel_rfl) (fun w61 hE62 => c_81 n g_0.Least w61 hx60 ) rfl rfl rfl ?_
  refine QL.step1v 32 (.bool x59) rfl (fun _ => by kernel_rfl) ?_
  refine QL.step1v 2 (.bool x59) rfl (fun _ => by kernel_rfl) ?_
  refine QL.subk [2] [(2, .bool x59)] (by kernel_rfl) ?_
  refine QL.nil ?_
  intro w63 hE64
  have hb65 : Ext w w63 := Ext.trans (Ext.refl w) hE64
  have hL66 : w.heap.size ≤ w63.heap.size := Nat.le_trans (Nat.le_refl _) hE64.size
  have hS67 : SH w63 w.heap.size [] := SH.ext (SH.nil _ _) hE64
  obtain rfl := Option.some.inj hm
  exact WQ.post' ⟨rfl, hb65, hL66, hS67⟩ ⟨rfl, trivial⟩

theorem c_52 (n : Nat) (list_0 : List SGood) (a0' : Option Addr) (c0' : Nat) (w : World) {r : Bool} (hm : m_spec_l23Ok n list_0 = some r) (h0 : Rd fGood.ty w a0' list_0) (_hle0 : list_0.length ≤ c0') :
    CallV Try.prog 52 #[.slice a0' list_0.length c0'] w (fun v w' => v = .bool r ∧ Ext w w') := by
  unfold m_spec_l23Ok at hm
  refine CallV.enter Try.func52 rfl (by kernel_rfl) Try.ntmps52 (env := [(0, .slice a0' list_0.length c0')]) ⟨rfl, trivial⟩ ?_
  refine WP.seq (fun K1 hK1 => ?_)
  refine WP.region ?_
  refine WL.runk 1 [0] [(0, .slice a0' list_0.length c0')] (by kernel_rfl) ?_
  refine WL.nil ?_
  refine WQ.then_normal (hK1 _ _ _ ?_)
  refine WP.seq (fun K2 hK2 => ?_)
  refine WP.seq (fun K3 hK3 => ?_)
  refine WP.region ?_
  refine WL.runk 1 [0, 3] [(0, .slice a0' list_0.length c0'), (3, .int .i64 0)] (by kernel_rfl) ?_
  refine WL.nil ?_
  refine WQ.then_normal (hK3 _ _ _ ?_)
  refine WP.block ?_
  obtain ⟨t15, ht16, hm⟩ := bindE hm
  have hmo10 := hm; clear hm
  refine WP.sub [(0, .slice a0' list_0.length c0'), (3, .int .i64 0)] ⟨rfl, rfl, trivial⟩ ?_
  refine WP.loop (fun n' env' w' => ∃ (st4 : Int) , env' = [(0, .slice a0' list_0.length c0'), (3, .int .i64 st4)] ∧ Ext w w' ∧ w.heap.size ≤ w'.heap.size ∧ SH w' w.heap.size [] ∧ loopN (m_spec_l23Ok_l1 n list_0) n' st4 = some t15) n ⟨0, rfl, (Ext.refl w), (Nat.le_refl _), (SH.nil _ _), ht16⟩ ?_
  rintro n12 _ w5 ⟨st4, rfl, hb6, hL7, hS8, hl9⟩ K11 hK11
  obtain ⟨n13, s14, rfl, hm, hl9⟩ := loopN_some hl9
  unfold m_spec_l23Ok_l1 at hm
  refine WP.seq (fun K17 hK17 => ?_)
  refine WP.seq (fun K18 hK18 => ?_)
  refine WP.region ?_
  refine WL.runk 4 [0, 3, 7] [(0, .slice a0' list_0.length c0'), (3, .int .i64 st4), (7, .bool (decide (st4 < (list_0.length : Int))))] (by kernel_rfl) ?_
  refine WL.nil ?_
  refine WQ.then_normal (hK18 _ _ _ ?_)
  refine WP.cond (decide (st4 < (list_0.length : Int))) rfl rfl (fun hc19 => ?_) (fun hc19 => ?_)
  rotate_left
  · have hm := iteF hm hc19
    refine WP.exit ?_
    refine WQ.then_exit ?_
    refine WQ.then_exit ?_
    refine WQ.block_here ?_
    obtain rfl := Option.some.inj hm
    obtain rfl := afterN_done hl9
    have hm := hmo10
    refine WQ.then_normal (hK2 _ _ _ ?_)
    refine WP.seq (fun K84 hK84 => ?_)
    refine WP.region ?_
    refine WL.runk 4 [2] [(2, .bool (decide ((list_0.length : Int) ≤ 40)))] (by kernel_rfl) ?_
    refine WL.nil ?_
    refine WQ.then_normal (hK84 _ _ _ ?_)
    refine WP.ret ?_
    obtain rfl := Option.some.inj hm
    exact WQ.ret1 _ rfl rfl ⟨rfl, hb6⟩
  have hm := iteT hm hc19
  refine WP.skip ?_
  refine WQ.then_normal (hK17 _ _ _ ?_)
  refine WP.seq (fun K20 hK20 => ?_)
  refine WP.block ?_
  refine WP.seq (fun K21 hK21 => ?_)
  obtain ⟨x49, hx50, hm⟩ := bindE hm
  refine WP.cut (fun env' w' => env' = [(0, .slice a0' list_0.length c0'), (3, .int .i64 st4), (32, .bool x49)] ∧ Ext w w' ∧ w.heap.size ≤ w'.heap.size ∧ SH w' w.heap.size []) ?_ ?_
  rotate_left
  · clear hx50
    rintro _ w78 ⟨rfl, hb79, hL80, hS81⟩
    refine WQ.then_normal (hK21 _ _ _ ?_)
    refine WP.cond x49 rfl rfl (fun hc82 => ?_) (fun hc82 => ?_)
    rotate_left
    · have hm := iteF hm hc82
      refine WP.skip ?_
      refine WQ.block_normal ?_
      refine WQ.then_normal (hK20 _ _ _ ?_)
      refine WP.region ?_
      refine WL.runk 3 [0, 3] [(0, .slice a0' list_0.length c0'), (3, .int .i64 (wI64 (st4 + 1)))] (by kernel_rfl) ?_
      refine WL.nil ?_
      obtain rfl := Option.some.inj hm
      exact WQ.round hK11 ⟨(wI64 (st4 + 1)), rfl, hb79, hL80, hS81, hl9⟩ (Nat.lt_succ_self _) ⟨rfl, rfl, trivial⟩
    have hm := iteT hm hc82
    refine WP.seq (fun K83 hK83 => ?_)
    refine WP.region ?_
    refine WL.runk 1 [2] [(2, .bool false)] (by kernel_rfl) ?_
    refine WL.nil ?_
    refine WQ.then_normal (hK83 _ _ _ ?_)
    refine WP.ret ?_
    refine WQ.block_ret ?_
    refine WQ.then_ret ?_
    refine WQ.then_ret ?_
    refine WQ.block_ret ?_
    refine WQ.then_ret ?_
    obtain rfl := Option.some.inj hm
    obtain rfl := afterN_done hl9
    have hm := hmo10
    obtain rfl := Option.some.inj hm
    exact WQ.ret1 _ rfl rfl ⟨rfl, hb79⟩
  have hm := hx50; clear hx50
  refine WP.quiet (by kernel_rfl) (by kernel_rfl) ?_
  refine QL.step1v 10 (.slice a0' list_0.length c0') rfl (fun _ => by kernel_rfl) ?_
  refine QL.step1v 11 (.int .i64 st4) rfl (fun _ => by kernel_rfl) ?_
  refine QL.subk [0, 3, 10, 11] [(0, .slice a0' list_0.length c0'), (3, .int .i64 st4), (10, .slice a0' list_0.length c0'), (11, .int .i64 st4)] (by kernel_rfl) ?_
  obtain ⟨x51, hx52, hm⟩ := bindE hm
  refine QL.st (.pointer (some (at_ a0' (Int.toNat st4 * 4)))) (ST.index (T := fGood.ty) (xs := list_0) (Rd.below h0 hb6) hx52 rfl rfl rfl Try.underlying25 (info56).1 (info56).2.1) rfl rfl rfl ?_
  obtain ⟨x53, hx54, hm⟩ := bindE hm
  refine QL.call 69 #[.pointer (some (at_ a0' (Int.toNat st4 * 4)))] (.bool x53) (fun _ => by kernel_rfl) (fun w55 hE56 => c_69 n x51 ((ba a0').block) ((ba a0').off + Int.toNat st4 * 4) w55 hx54 (RdB.below (RdB.ofRd (F := fGood) (Rd.below h0 hb6) hx52) hE56)) rfl rfl rfl ?_
  refine QL.step1v 14 (.bool (!x53)) rfl (fun _ => by kernel_rfl) ?_
  refine QL.step1v 15 (.bool (!x53)) rfl (fun _ => by kernel_rfl) ?_
  refine QL.subk [0, 3, 15] [(0, .slice a0' list_0.length c0'), (3, .int .i64 st4), (15, .bool (!x53))] (by kernel_rfl) ?_
  refine QL.case (!x53) [15] ⟨rfl, trivial⟩ (fun hc57 => ?_) (fun hc57 => ?_)
  · have hm := iteT hm hc57
    refine QL.step1v 16 undef rfl (fun _ => by kernel_rfl) ?_
    refine QL.step1v 17 undef rfl (fun _ => by kernel_rfl) ?_
    refine QL.step1v 18 undef rfl (fun _ => by kernel_rfl) ?_
    refine QL.step1v 19 undef rfl (fun _ => by kernel_rfl) ?_
    refine QL.step1v 20 undef rfl (fun _ => by kernel_rfl) ?_
    refine QL.step1v 21 undef rfl (fun _ => by kernel_rfl) ?_
    refine QL.step1v 22 undef rfl (fun _ => by kernel_rfl) ?_
    refine QL.step1v 23 undef rfl (fun _ => by kernel_rfl) ?_
    refine QL.step1v 24 undef rfl (fun _ => by kernel_rfl) ?_
    refine QL.step1v 25 undef rfl (fun _ => by kernel_rfl) ?_
    refine QL.step1v 26 undef rfl (fun _ => by kernel_rfl) ?_
    refine QL.step1v 27 undef rfl (fun _ => by kernel_rfl) ?_
    refine QL.step1v 28 undef rfl (fun _ => by kernel_rfl) ?_
    refine QL.step1v 29 undef rfl (fun _ => by kernel_rfl) ?_
    refine QL.step1v 30 undef rfl (fun _ => by kernel_rfl) ?_
    refine QL.step1v 31 undef rfl (fun _ => by kernel_rfl) ?_
    refine QL.step1v 32 (.bool true) rfl (fun _ => by kernel_rfl) ?_
    refine QL.subk [0, 3, 32] [(0, .slice a0' list_0.length c0'), (3, .int .i64 st4), (32, .bool true)] (by kernel_rfl) ?_
    refine QL.nil ?_
    intro w58 hE59
    have hb60 : Ext w w58 := Ext.trans hb6 hE59
    have hL61 : w.heap.size ≤ w58.heap.size := Nat.le_trans hL7 hE59.size
    have hS62 : SH w58 w.heap.size [] := SH.ext hS8 hE59
    obtain rfl := Option.some.inj hm
    exact WQ.post' ⟨rfl, hb60, hL61, hS62⟩ ⟨rfl, rfl, rfl, trivial⟩
  have hm := iteF hm hc57
  refine QL.step1v 16 (.int .i64 st4) rfl (fun _ => by kernel_rfl) ?_
  refine QL.step1v 17 (.bool (decide (st4 > 0))) rfl (fun _ => by kernel_rfl) ?_
  refine QL.step1v 18 (.bool (decide (st4 > 0))) rfl (fun _ => by kernel_rfl) ?_
  refine QL.subk [0, 3, 15, 18] [(0, .slice a0' list_0.length c0'), (3, .int .i64 st4), (15, .bool false), (18, .bool (decide (st4 > 0)))] (by kernel_rfl) ?_
  refine QL.case (decide (st4 > 0)) [18] ⟨rfl, trivial⟩ (fun hc63 => ?_) (fun hc63 => ?_)
  rotate_left
  · have hm := iteF hm hc63
    refine QL.step1v 19 undef rfl (fun _ => by kernel_rfl) ?_
    refine QL.step1v 20 undef rfl (fun _ => by kernel_rfl) ?_
    refine QL.step1v 21 undef rfl (fun _ => by kernel_rfl) ?_
    refine QL.step1v 22 undef rfl (fun _ => by kernel_rfl) ?_
    refine QL.step1v 23 undef rfl (fun _ => by kernel_rfl) ?_
    refine QL.step1v 24 undef rfl (fun _ => by kernel_rfl) ?_
    refine QL.step1v 25 undef rfl (fun _ => by kernel_rfl) ?_
    refine QL.step1v 26 undef rfl (fun _ => by kernel_rfl) ?_
    refine QL.step1v 27 undef rfl (fun _ => by kernel_rfl) ?_
    refine QL.step1v 28 undef rfl (fun _ => by kernel_rfl) ?_
    refine QL.step1v 29 undef rfl (fun _ => by kernel_rfl) ?_
    refine QL.step1v 30 undef rfl (fun _ => by kernel_rfl) ?_
    refine QL.step1v 31 (.bool false) rfl (fun _ => by kernel_rfl) ?_
    refine QL.step1v 32 (.bool false) rfl (fun _ => by kernel_rfl) ?_
    refine QL.subk [0, 3, 32] [(0, .slice a0' list_0.length c0'), (3, .int .i64 st4), (32, .bool false)] (by kernel_rfl) ?_
    refine QL.nil ?_
    intro w73 hE74
    have hb75 : Ext w w73 := Ext.trans hb6 hE74
    have hL76 : w.heap.size ≤ w73.heap.size := Nat.le_trans hL7 hE74.size
    have hS77 : SH w73 w.heap.size [] := SH.ext hS8 hE74
    obtain rfl := Option.some.inj hm
    exact WQ.post' ⟨rfl, hb75, hL76, hS77⟩ ⟨rfl, rfl, rfl, trivial⟩
  have hm := iteT hm hc63
  refine QL.step1v 19 (.slice a0' list_0.length c0') rfl (fun _ => by kernel_rfl) ?_
  refine QL.step1v 20 (.int .i64 st4) rfl (fun _ => by kernel_rfl) ?_
  refine QL.step1v 21 (.int .i64 (wI64 (st4 - 1))) rfl (fun _ => by kernel_rfl) ?_
  refine QL.subk [0, 3, 15, 18, 19, 21] [(0, .slice a0' list_0.length c0'), (3, .int .i64 st4), (15, .bool false), (18, .bool true), (19, .slice a0' list_0.length c0'), (21, .int .i64 (wI64 (st4 - 1)))] (by kernel_rfl) ?_
  obtain ⟨x64, hx65, hm⟩ := bindE hm
  refine QL.st (.pointer (some (at_ a0' (Int.toNat (wI64 (st4 - 1)) * 4)))) (ST.index (T := fGood.ty) (xs := list_0) (Rd.below h0 hb6) hx65 rfl rfl rfl Try.underlying25 (info56).1 (info56).2.1) rfl rfl rfl ?_
  refine QL.step1v 23 (.pointer (some (at_ a0' (Int.toNat (wI64 (st4 - 1)) * 4)))) rfl (fun _ => by kernel_rfl) ?_
  refine QL.subk [0, 3, 15, 18, 23] [(0, .slice a0' list_0.length c0'), (3, .int .i64 st4), (15, .bool false), (18, .bool true), (23, .pointer (some (at_ a0' (Int.toNat (wI64 (st4 - 1)) * 4))))] (by kernel_rfl) ?_
  refine QL.st (.string (bs x64.Name)) (ST.load (cell_ext (Rd.flat (F := fGood) (Rd.below h0 hb6) hx65 0 rfl)) rfl rfl Try.underlying9 rfl) rfl rfl rfl ?_
  refine QL.step1v 25 (.slice a0' list_0.length c0') rfl (fun _ => by kernel_rfl) ?_
  refine QL.step1v 26 (.int .i64 st4) rfl (fun _ => by kernel_rfl) ?_
  refine QL.subk [0, 3, 15, 18, 24, 25, 26] [(0, .slice a0' list_0.length c0'), (3, .int .i64 st4), (15, .bool false), (18, .bool true), (24, .string (bs x64.Name)), (25, .slice a0' list_0.length c0'), (26, .int .i64 st4)] (by kernel_rfl) ?_
  obtain ⟨x66, hx67, hm⟩ := bindE hm
  refine QL.st (.pointer (some (at_ a0' (Int.toNat st4 * 4)))) (ST.index (T := fGood.ty) (xs := list_0) (Rd.below h0 hb6) hx67 rfl rfl rfl Try.underlying25 (info56).1 (info56).2.1) rfl rfl rfl ?_
  refine QL.step1v 28 (.pointer (some (at_ a0' (Int.toNat st4 * 4)))) rfl (fun _ => by kernel_rfl) ?_
  refine QL.subk [0, 3, 15, 18, 24, 28] [(0, .slice a0' list_0.length c0'), (3, .int .i64 st4), (15, .bool false), (18, .bool true), (24, .string (bs x64.Name)), (28, .pointer (some (at_ a0' (Int.toNat st4 * 4))))] (by kernel_rfl) ?_
  refine QL.st (.string (bs x66.Name)) (ST.load (cell_ext (Rd.flat (F := fGood) (Rd.below h0 hb6) hx67 0 rfl)) rfl rfl Try.underlying9 rfl) rfl rfl rfl ?_
  refine QL.st (.bool (!strLt x64.Name x66.Name)) (ST.strge (x := x64.Name) (y := x66.Name) rfl rfl rfl) rfl rfl rfl ?_
  refine QL.step1v 31 (.bool (!strLt x64.Name x66.Name)) rfl (fun _ => by kernel_rfl) ?_
  refine QL.step1v 32 (.bool (!strLt x64.Name x66.Name)) rfl (fun _ => by kernel_rfl) ?_
  refine QL.subk [0, 3, 32] [(0, .slice a0' list_0.length c0'), (3, .int .i64 st4), (32, .bool (!strLt x64.Name x66.Name))] (by kernel_rfl) ?_
  refine QL.nil ?_
  intro w68 hE69
  have hb70 : Ext w w68 := Ext.trans hb6 hE69
  have hL71 : w.heap.size ≤ w68.heap.size := Nat.le_trans hL7 hE69.size
  have hS72 : SH w68 w.heap.size [] := SH.ext hS8 hE69
  obtain rfl := Option.some.inj hm
  exact WQ.post' ⟨rfl, hb70, hL71, hS72⟩ ⟨rfl, rfl, rfl, trivial⟩

theorem c_67 (n : Nat) (n_0 : Int) (low_1 : Int) (high_2 : Int) (w : World) {r : Bool} (hm : m_impl_within n n_0 low_1 high_2 = some r)  :
    CallV Try.prog 67 #[.int .i64 n_0, .int .i64 low_1, .int .i64 high_2] w (fun v w' => v = .bool r ∧ Ext w w') := by
  unfold m_impl_within at hm
  refine CallV.enter Try.func67 rfl (by kernel_rfl) Try.ntmps67 (env := [(0, .int .i64 n_0), (1, .int .i64 low_1), (2, .int .i64 high_2)]) ⟨rfl, rfl, rfl, trivial⟩ ?_
  refine WP.seq (fun K1 hK1 => ?_)
  refine WP.region ?_
  refine WL.runk 1 [0, 1, 2] [(0, .int .i64 n_0), (1, .int .i64 low_1), (2, .int .i64 high_2)] (by kernel_rfl) ?_
  refine WL.nil ?_
  refine WQ.then_normal (hK1 _ _ _ ?_)
  refine WP.seq (fun K2 hK2 => ?_)
  obtain ⟨x4, hx5, hm⟩ := bindE hm
  refine WP.cut (fun env' w' => env' = [(6, .bool x4)] ∧ Ext w w' ∧ w.heap.size ≤ w'.heap.size ∧ SH w' w.heap.size []) ?_ ?_
  rotate_left
  · clear hx5
    rintro _ w7 ⟨rfl, hb8, hL9, hS10⟩
    refine WQ.then_normal (hK2 _ _ _ ?_)
    refine WP.ret ?_
    obtain rfl := Option.some.inj hm
    exact WQ.ret1 _ rfl rfl ⟨rfl, hb8⟩
  have hm := hx5; clear hx5
  refine WP.region ?_
  refine WL.runk 4 [0, 2, 10] [(0, .int .i64 n_0), (2, .int .i64 high_2), (10, .bool (decide (n_0 ≥ low_1)))] (by kernel_rfl) ?_
  refine WL.case (decide (n_0 ≥ low_1)) [10] ⟨rfl, trivial⟩ (fun hc6 => ?_) (fun hc6 => ?_)
  · have hm := iteT hm hc6
    refine WL.runk 5 [6] [(6, .bool (decide (n_0 ≤ high_2)))] (by kernel_rfl) ?_
    refine WL.nil ?_
    obtain rfl := Option.some.inj hm
    exact WQ.post' ⟨rfl, (Ext.refl w), (Nat.le_refl _), (SH.nil _ _)⟩ ⟨rfl, trivial⟩
  have hm := iteF hm hc6
  refine WL.runk 5 [6] [(6, .bool false)] (by kernel_rfl) ?_
  refine WL.nil ?_
  obtain rfl := Option.some.inj hm
  exact WQ.post' ⟨rfl, (Ext.refl w), (Nat.le_refl _), (SH.nil _ _)⟩ ⟨rfl, trivial⟩

theorem c_79 (n : Nat) (s_0 : List UInt8) (w : World) {r : Bool} (hm : m_impl_IsName n s_0 = some r)  :
    CallV Try.prog 79 #[.string (bs s_0)] w (fun v w' => v = .bool r ∧ Ext w w') := by
  unfold m_impl_IsName at hm
  refine CallV.enter Try.func79 rfl (by kernel_rfl) Try.ntmps79 (env := [(0, .string (bs s_0))]) ⟨rfl, trivial⟩ ?_
  refine WP.seq (fun K1 hK1 => ?_)
  refine WP.region ?_
  refine WL.runk 1 [0] [(0, .string (bs s_0))] (by kernel_rfl) ?_
  refine WL.nil ?_
  refine WQ.then_normal (hK1 _ _ _ ?_)
  refine WP.seq (fun K2 hK2 => ?_)
  refine WP.seq (fun K3 hK3 => ?_)
  obtain ⟨x11, hx12, hm⟩ := bindE hm
  refine WP.cut (fun env' w' => env' = [(0, .string (bs s_0)), (21, .bool x11)] ∧ Ext w w' ∧ w.heap.size ≤ w'.heap.size ∧ SH w' w.heap.size []) ?_ ?_
  · have hm := hx12; clear hx12
    refine WP.region ?_
    refine WL.runk 4 [0, 7] [(0, .string (bs s_0)), (7, .bool (decide ((s_0.length : Int) < 1)))] (by kernel_rfl) ?_
    refine WL.case (decide ((s_0.length : Int) < 1)) [7] ⟨rfl, trivial⟩ (fun hc13 => ?_) (fun hc13 => ?_)
    · have hm := iteT hm hc13
      refine WL.runk 14 [0, 21] [(0, .string (bs s_0)), (21, .bool true)] (by kernel_rfl) ?_
      refine WL.nil ?_
      obtain rfl := Option.some.inj hm
      exact WQ.post' ⟨rfl, (Ext.refl w), (Nat.le_refl _), (SH.nil _ _)⟩ ⟨rfl, rfl, trivial⟩
    have hm := iteF hm hc13
    refine WL.runk 5 [0, 12] [(0, .string (bs s_0)), (12, .bool (decide ((s_0.length : Int) > 12)))] (by kernel_rfl) ?_
    refine WL.case (decide ((s_0.length : Int) > 12)) [12] ⟨rfl, trivial⟩ (fun hc14 => ?_) (fun hc14 => ?_)
    · have hm := iteT hm hc14
      refine WL.runk 9 [0, 21] [(0, .string (bs s_0)), (21, .bool true)] (by kernel_rfl) ?_
      refine WL.nil ?_
      obtain rfl := Option.some.inj hm
      exact WQ.post' ⟨rfl, (Ext.refl w), (Nat.le_refl _), (SH.nil _ _)⟩ ⟨rfl, rfl, trivial⟩
    have hm := iteF hm hc14
    refine WL.runk 1 [0, 12, 13] [(0, .string (bs s_0)), (12, .bool false), (13, .string (bs s_0))] (by kernel_rfl) ?_
    obtain ⟨x15, hx16, hm⟩ := bindE hm
    refine WL.st (.int .u8 (x15.toNat : Int)) (ST.sindex hx16 rfl rfl rfl Try.underlying9) rfl rfl rfl ?_
    refine WL.runk 3 [0, 17] [(0, .string (bs s_0)), (17, .bool (decide ((x15.toNat : Int) < 97)))] (by kernel_rfl) ?_
    refine WL.case (decide ((x15.toNat : Int) < 97)) [17] ⟨rfl, trivial⟩ (fun hc17 => ?_) (fun hc17 => ?_)
    · have hm := iteT hm hc17
      refine WL.runk 4 [0, 21] [(0, .string (bs s_0)), (21, .bool true)] (by kernel_rfl) ?_
      refine WL.nil ?_
      obtain rfl := Option.some.inj hm
      exact WQ.post' ⟨rfl, (Ext.refl w), (Nat.le_refl _), (SH.nil _ _)⟩ ⟨rfl, rfl, trivial⟩
    have hm := iteF hm hc17
    refine WL.runk 1 [0, 17, 18] [(0, .string (bs s_0)), (17, .bool false), (18, .string (bs s_0))] (by kernel_rfl) ?_
    obtain ⟨x18, hx19, hm⟩ := bindE hm
    refine WL.st (.int .u8 (x18.toNat : Int)) (ST.sindex hx19 rfl rfl rfl Try.underlying9) rfl rfl rfl ?_
    refine WL.runk 2 [0, 21] [(0, .string (bs s_0)), (21, .bool (decide ((x18.toNat : Int) > 122)))] (by kernel_rfl) ?_
    refine WL.nil ?_
    obtain rfl := Option.some.inj hm
    exact WQ.post' ⟨rfl, (Ext.refl w), (Nat.le_refl _), (SH.nil _ _)⟩ ⟨rfl, rfl, trivial⟩
  clear hx12
  rintro _ w20 ⟨rfl, hb21, hL22, hS23⟩
  refine WQ.then_normal (hK3 _ _ _ ?_)
  refine WP.cond x11 rfl rfl (fun hc24 => ?_) (fun hc24 => ?_)
  · have hm := iteT hm hc24
    refine WP.seq (fun K25 hK25 => ?_)
    refine WP.region ?_
    refine WL.runk 1 [2] [(2, .bool false)] (by kernel_rfl) ?_
    refine WL.nil ?_
    refine WQ.then_normal (hK25 _ _ _ ?_)
    refine WP.ret ?_
    refine WQ.then_ret ?_
    obtain rfl := Option.some.inj hm
    exact WQ.ret1 _ rfl rfl ⟨rfl, hb21⟩
  have hm := iteF hm hc24
  refine WP.skip ?_
  refine WQ.then_normal (hK2 _ _ _ ?_)
  refine WP.seq (fun K26 hK26 => ?_)
  refine WP.seq (fun K27 hK27 => ?_)
  refine WP.region ?_
  refine WL.runk 1 [0, 3] [(0, .string (bs s_0)), (3, .int .i64 1)] (by kernel_rfl) ?_
  refine WL.nil ?_
  refine WQ.then_normal (hK27 _ _ _ ?_)
  refine WP.block ?_
  obtain ⟨t39, ht40, hm⟩ := bindE hm
  have hmo34 := hm; clear hm
  refine WP.sub [(0, .string (bs s_0)), (3, .int .i64 1)] ⟨rfl, rfl, trivial⟩ ?_
  refine WP.loop (fun n' env' w' => ∃ (st28 : Int) , env' = [(0, .string (bs s_0)), (3, .int .i64 st28)] ∧ Ext w w' ∧ w.heap.size ≤ w'.heap.size ∧ SH w' w.heap.size [] ∧ loopN (m_impl_IsName_l1 n s_0) n' st28 = some t39) n ⟨1, rfl, hb21, hL22, hS23, ht40⟩ ?_
  rintro n36 _ w29 ⟨st28, rfl, hb30, hL31, hS32, hl33⟩ K35 hK35
  obtain ⟨n37, s38, rfl, hm, hl33⟩ := loopN_some hl33
  unfold m_impl_IsName_l1 at hm
  refine WP.seq (fun K41 hK41 => ?_)
  refine WP.seq (fun K42 hK42 => ?_)
  refine WP.region ?_
  refine WL.runk 4 [0, 3, 25] [(0, .string (bs s_0)), (3, .int .i64 st28), (25, .bool (decide (st28 < (s_0.length : Int))))] (by kernel_rfl) ?_
  refine WL.nil ?_
  refine WQ.then_normal (hK42 _ _ _ ?_)
  refine WP.cond (decide (st28 < (s_0.length : Int))) rfl rfl (fun hc43 => ?_) (fun hc43 => ?_)
  rotate_left
  · have hm := iteF hm hc43
    refine WP.exit ?_
    refine WQ.then_exit ?_
    refine WQ.then_exit ?_
    refine WQ.block_here ?_
    obtain rfl := Option.some.inj hm
    obtain rfl := afterN_done hl33
    have hm := hmo34
    refine WQ.then_normal (hK26 _ _ _ ?_)
    refine WP.seq (fun K106 hK106 => ?_)
    refine WP.region ?_
    refine WL.runk 1 [2] [(2, .bool true)] (by kernel_rfl) ?_
    refine WL.nil ?_
    refine WQ.then_normal (hK106 _ _ _ ?_)
    refine WP.ret ?_
    obtain rfl := Option.some.inj hm
    exact WQ.ret1 _ rfl rfl ⟨rfl, hb30⟩
  have hm := iteT hm hc43
  refine WP.skip ?_
  refine WQ.then_normal (hK41 _ _ _ ?_)
  refine WP.seq (fun K44 hK44 => ?_)
  refine WP.block ?_
  refine WP.seq (fun K45 hK45 => ?_)
  obtain ⟨x72, hx73, hm⟩ := bindE hm
  refine WP.cut (fun env' w' => env' = [(0, .string (bs s_0)), (3, .int .i64 st28), (55, .bool x72)] ∧ Ext w w' ∧ w.heap.size ≤ w'.heap.size ∧ SH w' w.heap.size []) ?_ ?_
  rotate_left
  · clear hx73
    rintro _ w100 ⟨rfl, hb101, hL102, hS103⟩
    refine WQ.then_normal (hK45 _ _ _ ?_)
    refine WP.cond x72 rfl rfl (fun hc104 => ?_) (fun hc104 => ?_)
    rotate_left
    · have hm := iteF hm hc104
      refine WP.skip ?_
      refine WQ.block_normal ?_
      refine WQ.then_normal (hK44 _ _ _ ?_)
      refine WP.region ?_
      refine WL.runk 3 [0, 3] [(0, .string (bs s_0)), (3, .int .i64 (wI64 (st28 + 1)))] (by kernel_rfl) ?_
      refine WL.nil ?_
      obtain rfl := Option.some.inj hm
      exact WQ.round hK35 ⟨(wI64 (st28 + 1)), rfl, hb101, hL102, hS103, hl33⟩ (Nat.lt_succ_self _) ⟨rfl, rfl, trivial⟩
    have hm := iteT hm hc104
    refine WP.seq (fun K105 hK105 => ?_)
    refine WP.region ?_
    refine WL.runk 1 [2] [(2, .bool false)] (by kernel_rfl) ?_
    refine WL.nil ?_
    refine WQ.then_normal (hK105 _ _ _ ?_)
    refine WP.ret ?_
    refine WQ.block_ret ?_
    refine WQ.then_ret ?_
    refine WQ.then_ret ?_
    refine WQ.block_ret ?_
    refine WQ.then_ret ?_
    obtain rfl := Option.some.inj hm
    obtain rfl := afterN_done hl33
    have hm := hmo34
    obtain rfl := Option.some.inj hm
    exact WQ.ret1 _ rfl rfl ⟨rfl, hb101⟩
  have hm := hx73; clear hx73
  refine WP.region ?_
  refine WL.runk 2 [0, 3, 28, 29] [(0, .string (bs s_0)), (3, .int .i64 st28), (28, .string (bs s_0)), (29, .int .i64 st28)] (by kernel_rfl) ?_
  obtain ⟨x74, hx75, hm⟩ := bindE hm
  refine WL.st (.int .u8 (x74.toNat : Int)) (ST.sindex hx75 rfl rfl rfl Try.underlying9) rfl rfl rfl ?_
  refine WL.runk 2 [0, 3, 32] [(0, .string (bs s_0)), (3, .int .i64 st28), (32, .bool (decide ((x74.toNat : Int) < 97)))] (by kernel_rfl) ?_
  refine WL.case (decide ((x74.toNat : Int) < 97)) [32] ⟨rfl, trivial⟩ (fun hc76 => ?_) (fun hc76 => ?_)
  · have hm := iteT hm hc76
    refine WL.runk 8 [0, 3, 38, 39, 40] [(0, .string (bs s_0)), (3, .int .i64 st28), (38, .bool true), (39, .string (bs s_0)), (40, .int .i64 st28)] (by kernel_rfl) ?_
    obtain ⟨x77, hx78, hm⟩ := bindE hm
    refine WL.st (.int .u8 (x77.toNat : Int)) (ST.sindex hx78 rfl rfl rfl Try.underlying9) rfl rfl rfl ?_
    refine WL.runk 2 [0, 3, 38, 43] [(0, .string (bs s_0)), (3, .int .i64 st28), (38, .bool true), (43, .bool (decide ((x77.toNat : Int) < 48)))] (by kernel_rfl) ?_
    refine WL.case (decide ((x77.toNat : Int) < 48)) [43] ⟨rfl, trivial⟩ (fun hc79 => ?_) (fun hc79 => ?_)
    · have hm := iteT hm hc79
      refine WL.runk 9 [0, 3, 50, 51, 52] [(0, .string (bs s_0)), (3, .int .i64 st28), (50, .bool true), (51, .string (bs s_0)), (52, .int .i64 st28)] (by kernel_rfl) ?_
      obtain ⟨x80, hx81, hm⟩ := bindE hm
      refine WL.st (.int .u8 (x80.toNat : Int)) (ST.sindex hx81 rfl rfl rfl Try.underlying9) rfl rfl rfl ?_
      refine WL.runk 2 [0, 3, 55] [(0, .string (bs s_0)), (3, .int .i64 st28), (55, .bool ((x80.toNat : Int) != 45))] (by kernel_rfl) ?_
      refine WL.nil ?_
      obtain rfl := Option.some.inj hm
      exact WQ.post' ⟨rfl, hb30, hL31, hS32⟩ ⟨rfl, rfl, rfl, trivial⟩
    have hm := iteF hm hc79
    refine WL.runk 2 [0, 3, 38, 43, 44, 45] [(0, .string (bs s_0)), (3, .int .i64 st28), (38, .bool true), (43, .bool false), (44, .string (bs s_0)), (45, .int .i64 st28)] (by kernel_rfl) ?_
    obtain ⟨x82, hx83, hm⟩ := bindE hm
    refine WL.st (.int .u8 (x82.toNat : Int)) (ST.sindex hx83 rfl rfl rfl Try.underlying9) rfl rfl rfl ?_
    refine WL.runk 4 [0, 3, 50] [(0, .string (bs s_0)), (3, .int .i64 st28), (50, .bool (decide ((x82.toNat : Int) > 57)))] (by kernel_rfl) ?_
    refine WL.case (decide ((x82.toNat : Int) > 57)) [50] ⟨rfl, trivial⟩ (fun hc84 => ?_) (fun hc84 => ?_)
    rotate_left
    · have hm := iteF hm hc84
      refine WL.runk 5 [0, 3, 55] [(0, .string (bs s_0)), (3, .int .i64 st28), (55, .bool false)] (by kernel_rfl) ?_
      refine WL.nil ?_
      obtain rfl := Option.some.inj hm
      exact WQ.post' ⟨rfl, hb30, hL31, hS32⟩ ⟨rfl, rfl, rfl, trivial⟩
    have hm := iteT hm hc84
    refine WL.runk 2 [0, 3, 50, 51, 52] [(0, .string (bs s_0)), (3, .int .i64 st28), (50, .bool true), (51, .string (bs s_0)), (52, .int .i64 st28)] (by kernel_rfl) ?_
    obtain ⟨x85, hx86, hm⟩ := bindE hm
    refine WL.st (.int .u8 (x85.toNat : Int)) (ST.sindex hx86 rfl rfl rfl Try.underlying9) rfl rfl rfl ?_
    refine WL.runk 2 [0, 3, 55] [(0, .string (bs s_0)), (3, .int .i64 st28), (55, .bool ((x85.toNat : Int) != 45))] (by kernel_rfl) ?_
    refine WL.nil ?_
    obtain rfl := Option.some.inj hm
    exact WQ.post' ⟨rfl, hb30, hL31, hS32⟩ ⟨rfl, rfl, rfl, trivial⟩
  have hm := iteF hm hc76
  refine WL.runk 2 [0, 3, 32, 33, 34] [(0, .string (bs s_0)), (3, .int .i64 st28), (32, .bool false), (33, .string (bs s_0)), (34, .int .i64 st28)] (by kernel_rfl) ?_
  obtain ⟨x87, hx88, hm⟩ := bindE hm
  refine WL.st (.int .u8 (x87.toNat : Int)) (ST.sindex hx88 rfl rfl rfl Try.underlying9) rfl rfl rfl ?_
  refine WL.runk 3 [0, 3, 38] [(0, .string (bs s_0)), (3, .int .i64 st28), (38, .bool (decide ((x87.toNat : Int) > 122)))] (by kernel_rfl) ?_
  refine WL.case (decide ((x87.toNat : Int) > 122)) [38] ⟨rfl, trivial⟩ (fun hc89 => ?_) (fun hc89 => ?_)
  rotate_left
  · have hm := iteF hm hc89
    refine WL.runk 17 [0, 3, 55] [(0, .string (bs s_0)), (3, .int .i64 st28), (55, .bool false)] (by kernel_rfl) ?_
    refine WL.nil ?_
    obtain rfl := Option.some.inj hm
    exact WQ.post' ⟨rfl, hb30, hL31, hS32⟩ ⟨rfl, rfl, rfl, trivial⟩
  have hm := iteT hm hc89
  refine WL.runk 2 [0, 3, 38, 39, 40] [(0, .string (bs s_0)), (3, .int .i64 st28), (38, .bool true), (39, .string (bs s_0)), (40, .int .i64 st28)] (by kernel_rfl) ?_
  obtain ⟨x90, hx91, hm⟩ := bindE hm
  refine WL.st (.int .u8 (x90.toNat : Int)) (ST.sindex hx91 rfl rfl rfl Try.underlying9) rfl rfl rfl ?_
  refine WL.runk 2 [0, 3, 38, 43] [(0, .string (bs s_0)), (3, .int .i64 st28), (38, .bool true), (43, .bool (decide ((x90.toNat : Int) < 48)))] (by kernel_rfl) ?_
  refine WL.case (decide ((x90.toNat : Int) < 48)) [43] ⟨rfl, trivial⟩ (fun hc92 => ?_) (fun hc92 => ?_)
  · have hm := iteT hm hc92
    refine WL.runk 9 [0, 3, 50, 51, 52] [(0, .string (bs s_0)), (3, .int .i64 st28), (50, .bool true), (51, .string (bs s_0)), (52, .int .i64 st28)] (by kernel_rfl) ?_
    obtain ⟨x93, hx94, hm⟩ := bindE hm
    refine WL.st (.int .u8 (x93.toNat : Int)) (ST.sindex hx94 rfl rfl rfl Try.underlying9) rfl rfl rfl ?_
    refine WL.runk 2 [0, 3, 55] [(0, .string (bs s_0)), (3, .int .i64 st28), (55, .bool ((x93.toNat : Int) != 45))] (by kernel_rfl) ?_
    refine WL.nil ?_
    obtain rfl := Option.some.inj hm
    exact WQ.post' ⟨rfl, hb30, hL31, hS32⟩ ⟨rfl, rfl, rfl, trivial⟩
  have hm := iteF hm hc92
  refine WL.runk 2 [0, 3, 38, 43, 44, 45] [(0, .string (bs s_0)), (3, .int .i64 st28), (38, .bool true), (43, .bool false), (44, .string (bs s_0)), (45, .int .i64 st28)] (by kernel_rfl) ?_
  obtain ⟨x95, hx96, hm⟩ := bindE hm
  refine WL.st (.int .u8 (x95.toNat : Int)) (ST.sindex hx96 rfl rfl rfl Try.underlying9) rfl rfl rfl ?_
  refine WL.runk 4 [0, 3, 50] [(0, .string (bs s_0)), (3, .int .i64 st28), (50, .bool (decide ((x95.toNat : Int) > 57)))] (by kernel_rfl) ?_
  refine WL.case (decide ((x95.toNat : Int) > 57)) [50] ⟨rfl, trivial⟩ (fun hc97 => ?_) (fun hc97 => ?_)
  rotate_left
  · have hm := iteF hm hc97
    refine WL.runk 5 [0, 3, 55] [(0, .string (bs s_0)), (3, .int .i64 st28), (55, .bool false)] (by kernel_rfl) ?_
    refine WL.nil ?_
    obtain rfl := Option.some.inj hm
    exact WQ.post' ⟨rfl, hb30, hL31, hS32⟩ ⟨rfl, rfl, rfl, trivial⟩
  have hm := iteT hm hc97
  refine WL.runk 2 [0, 3, 50, 51, 52] [(0, .string (bs s_0)), (3, .int .i64 st28), (50, .bool true), (51, .string (bs s_0)), (52, .int .i64 st28)] (by kernel_rfl) ?_
  obtain ⟨x98, hx99, hm⟩ := bindE hm
  refine WL.st (.int .u8 (x98.toNat : Int)) (ST.sindex hx99 rfl rfl rfl Try.underlying9) rfl rfl rfl ?_
  refine WL.runk 2 [0, 3, 55] [(0, .string (bs s_0)), (3, .int .i64 st28), (55, .bool ((x98.toNat : Int) != 45))] (by kernel_rfl) ?_
  refine WL.nil ?_
  obtain rfl := Option.some.inj hm
  exact WQ.post' ⟨rfl, hb30, hL31, hS32⟩ ⟨rfl, rfl, rfl, trivial⟩

theorem c_53 (n : Nat) (g_0 : SGood) (w : World) {r : Bool} (hm : m_impl_validGood n g_0 = some r)  :
    CallV Try.prog 53 #[.agg #[.string (bs g_0.Name), .int .i64 g_0.OnHand, .int .i64 g_0.Reserved, .int .i64 g_0.Least]] w (fun v w' => v = .bool r ∧ Ext w w') := by
  unfold m_impl_validGood at hm
  refine CallV.enter Try.func53 rfl (by kernel_rfl) Try.ntmps53 (env := [(0, .agg #[.string (bs g_0.Name), .int .i64 g_0.OnHand, .int .i64 g_0.Reserved, .int .i64 g_0.Least])]) ⟨rfl, trivial⟩ ?_
  refine WP.seq (fun K1 hK1 => ?_)
  refine WP.region ?_
  refine WL.box 56 [.string (bs g_0.Name), .int .i64 g_0.OnHand, .int .i64 g_0.Reserved, .int .i64 g_0.Least] 1 (by kernel_rfl) rfl rfl rfl rfl ?_
  intro b2 w3 hE4 hR5
  have hb7 : Ext w w3 := Ext.trans (Ext.refl w) hE4
  have hL8 : w.heap.size ≤ w3.heap.size := Nat.le_trans (Nat.le_refl _) hE4.size
  have hS9 : SH w3 w.heap.size [aBox 56 b2 [.string (bs g_0.Name), .int .i64 g_0.OnHand, .int .i64 g_0.Reserved, .int .i64 g_0.Least]] := SH.add (SH.nil _ _) hE4 (Nat.le_refl _) hR5
  refine WL.runk 1 [1] [(1, .pointer (some ⟨b2, 0, none⟩))] (by kernel_rfl) ?_
  refine WL.nil ?_
  refine WQ.then_normal (hK1 _ _ _ ?_)
  refine WP.seq (fun K10 hK10 => ?_)
  obtain ⟨x46, hx47, hm⟩ := bindE hm
  refine WP.cut (fun env' w' => env' = [(2, .bool x46)] ∧ Ext w w' ∧ w.heap.size ≤ w'.heap.size ∧ SH w' w.heap.size [aBox 56 b2 [.string (bs g_0.Name), .int .i64 g_0.OnHand, .int .i64 g_0.Reserved, .int .i64 g_0.Least]]) ?_ ?_
  rotate_left
  · clear hx47
    rintro _ w83 ⟨rfl, hb84, hL85, hS86⟩
    refine WQ.then_normal (hK10 _ _ _ ?_)
    refine WP.ret ?_
    obtain rfl := Option.some.inj hm
    exact WQ.ret1 _ rfl rfl ⟨rfl, hb84⟩
  have hm := hx47; clear hx47
  refine WP.region ?_
  refine WL.runk 1 [1, 3] [(1, .pointer (some ⟨b2, 0, none⟩)), (3, .pointer (some ⟨b2, 0, none⟩))] (by kernel_rfl) ?_
  refine WL.st (.string (bs g_0.Name)) (ST.load (cell_ext (SH.boxAt (SH.front 0 hS9) 0 _ rfl)) rfl rfl Try.underlying9 rfl) rfl rfl rfl ?_
  obtain ⟨x48, hx49, hm⟩ := bindE hm
  refine WL.call 79 #[.string (bs g_0.Name)] rfl rfl (by kernel_rfl) (c_79 n g_0.Name w3 hx49 ) ?_
  rintro _ w50 ⟨rfl, hE51⟩
  refine ⟨_, rfl, ?_⟩
  have hb53 : Ext w w50 := Ext.trans hb7 hE51
  have hL54 : w.heap.size ≤ w50.heap.size := Nat.le_trans hL8 hE51.size
  have hS55 : SH w50 w.heap.size [aBox 56 b2 [.string (bs g_0.Name), .int .i64 g_0.OnHand, .int .i64 g_0.Reserved, .int .i64 g_0.Least]] := SH.ext hS9 hE51
  refine WL.runk 1 [1, 6] [(1, .pointer (some ⟨b2, 0, none⟩)), (6, .bool x48)] (by kernel_rfl) ?_
  refine WL.case x48 [6] ⟨rfl, trivial⟩ (fun hc56 => ?_) (fun hc56 => ?_)
  rotate_left
  · have hm := iteF hm hc56
    refine WL.runk 17 [2] [(2, .bool false)] (by kernel_rfl) ?_
    refine WL.nil ?_
    obtain rfl := Option.some.inj hm
    exact WQ.post' ⟨rfl, hb53, hL54, hS55⟩ ⟨rfl, trivial⟩
  have hm := iteT hm hc56
  refine WL.runk 1 [1, 6, 7] [(1, .pointer (some ⟨b2, 0, none⟩)), (6, .bool true), (7, .pointer (some ⟨b2, 1, none⟩))] (by kernel_rfl) ?_
  refine WL.st (.int .i64 g_0.OnHand) (ST.load (cell_ext (SH.boxAt (SH.front 0 hS55) 1 _ rfl)) rfl rfl Try.underlying2 rfl) rfl rfl rfl ?_
  obtain ⟨x57, hx58, hm⟩ := bindE hm
  refine WL.call 67 #[.int .i64 g_0.OnHand, .int .i64 0, .int .i64 1000000] rfl rfl (by kernel_rfl) (c_67 n g_0.OnHand 0 1000000 w50 hx58 ) ?_
  rintro _ w59 ⟨rfl, hE60⟩
  refine ⟨_, rfl, ?_⟩
  have hb62 : Ext w w59 := Ext.trans hb53 hE60
  have hL63 : w.heap.size ≤ w59.heap.size := Nat.le_trans hL54 hE60.size
  have hS64 : SH w59 w.heap.size [aBox 56 b2 [.string (bs g_0.Name), .int .i64 g_0.OnHand, .int .i64 g_0.Reserved, .int .i64 g_0.Least]] := SH.ext hS55 hE60
  refine WL.runk 2 [1, 11] [(1, .pointer (some ⟨b2, 0, none⟩)), (11, .bool x57)] (by kernel_rfl) ?_
  refine WL.case x57 [11] ⟨rfl, trivial⟩ (fun hc65 => ?_) (fun hc65 => ?_)
  rotate_left
  · have hm := iteF hm hc65
    refine WL.runk 12 [2] [(2, .bool false)] (by kernel_rfl) ?_
    refine WL.nil ?_
    obtain rfl := Option.some.inj hm
    exact WQ.post' ⟨rfl, hb62, hL63, hS64⟩ ⟨rfl, trivial⟩
  have hm := iteT hm hc65
  refine WL.runk 1 [1, 11, 12] [(1, .pointer (some ⟨b2, 0, none⟩)), (11, .bool true), (12, .pointer (some ⟨b2, 2, none⟩))] (by kernel_rfl) ?_
  refine WL.st (.int .i64 g_0.Reserved) (ST.load (cell_ext (SH.boxAt (SH.front 0 hS64) 2 _ rfl)) rfl rfl Try.underlying2 rfl) rfl rfl rfl ?_
  refine WL.runk 1 [1, 11, 13, 14] [(1, .pointer (some ⟨b2, 0, none⟩)), (11, .bool true), (13, .int .i64 g_0.Reserved), (14, .pointer (some ⟨b2, 1, none⟩))] (by kernel_rfl) ?_
  refine WL.st (.int .i64 g_0.OnHand) (ST.load (cell_ext (SH.boxAt (SH.front 0 hS64) 1 _ rfl)) rfl rfl Try.underlying2 rfl) rfl rfl rfl ?_
  obtain ⟨x66, hx67, hm⟩ := bindE hm
  refine WL.call 67 #[.int .i64 g_0.Reserved, .int .i64 0, .int .i64 g_0.OnHand] rfl rfl (by kernel_rfl) (c_67 n g_0.Reserved 0 g_0.OnHand w59 hx67 ) ?_
  rintro _ w68 ⟨rfl, hE69⟩
  refine ⟨_, rfl, ?_⟩
  have hb71 : Ext w w68 := Ext.trans hb62 hE69
  have hL72 : w.heap.size ≤ w68.heap.size := Nat.le_trans hL63 hE69.size
  have hS73 : SH w68 w.heap.size [aBox 56 b2 [.string (bs g_0.Name), .int .i64 g_0.OnHand, .int .i64 g_0.Reserved, .int .i64 g_0.Least]] := SH.ext hS64 hE69
  refine WL.runk 2 [1, 18] [(1, .pointer (some ⟨b2, 0, none⟩)), (18, .bool x66)] (by kernel_rfl) ?_
  refine WL.case x66 [18] ⟨rfl, trivial⟩ (fun hc74 => ?_) (fun hc74 => ?_)
  rotate_left
  · have hm := iteF hm hc74
    refine WL.runk 5 [2] [(2, .bool false)] (by kernel_rfl) ?_
    refine WL.nil ?_
    obtain rfl := Option.some.inj hm
    exact WQ.post' ⟨rfl, hb71, hL72, hS73⟩ ⟨rfl, trivial⟩
  have hm := iteT hm hc74
  refine WL.runk 1 [18, 19] [(18, .bool true), (19, .pointer (some ⟨b2, 3, none⟩))] (by kernel_rfl) ?_
  refine WL.st (.int .i64 g_0.Least) (ST.load (cell_ext (SH.boxAt (SH.front 0 hS73) 3 _ rfl)) rfl rfl Try.underlying2 rfl) rfl rfl rfl ?_
  obtain ⟨x75, hx76, hm⟩ := bindE hm
  refine WL.call 67 #[.int .i64 g_0.Least, .int .i64 0, .int .i64 1000000] rfl rfl (by kernel_rfl) (c_67 n g_0.Least 0 1000000 w68 hx76 ) ?_
  rintro _ w77 ⟨rfl, hE78⟩
  refine ⟨_, rfl, ?_⟩
  have hb80 : Ext w w77 := Ext.trans hb71 hE78
  have hL81 : w.heap.size ≤ w77.heap.size := Nat.le_trans hL72 hE78.size
  have hS82 : SH w77 w.heap.size [aBox 56 b2 [.string (bs g_0.Name), .int .i64 g_0.OnHand, .int .i64 g_0.Reserved, .int .i64 g_0.Least]] := SH.ext hS73 hE78
  refine WL.runk 2 [2] [(2, .bool x75)] (by kernel_rfl) ?_
  refine WL.nil ?_
  obtain rfl := Option.some.inj hm
  exact WQ.post' ⟨rfl, hb80, hL81, hS82⟩ ⟨rfl, trivial⟩

theorem c_19 (n : Nat) (list_0 : List SGood) (a0' : Option Addr) (c0' : Nat) (w : World) {r : Bool} (hm : m_impl_ValidGoods n list_0 = some r) (h0 : Rd fGood.ty w a0' list_0) (_hle0 : list_0.length ≤ c0') :
    CallV Try.prog 19 #[.slice a0' list_0.length c0'] w (fun v w' => v = .bool r ∧ Ext w w') := by
  unfold m_impl_ValidGoods at hm
  refine CallV.enter Try.func19 rfl (by kernel_rfl) Try.ntmps19 (env := [(0, .slice a0' list_0.length c0')]) ⟨rfl, trivial⟩ ?_
  refine WP.seq (fun K1 hK1 => ?_)
  refine WP.region ?_
  refine WL.runk 1 [0] [(0, .slice a0' list_0.length c0')] (by kernel_rfl) ?_
  refine WL.nil ?_
  refine WQ.then_normal (hK1 _ _ _ ?_)
  refine WP.seq (fun K2 hK2 => ?_)
  refine WP.seq (fun K3 hK3 => ?_)
  refine WP.region ?_
  refine WL.runk 3 [0, 5, 6, 7] [(0, .slice a0' list_0.length c0'), (5, .slice a0' list_0.length c0'), (6, .int .i64 (list_0.length : Int)), (7, .int .i64 0)] (by kernel_rfl) ?_
  refine WL.nil ?_
  refine WQ.then_normal (hK3 _ _ _ ?_)
  refine WP.block ?_
  obtain ⟨t15, ht16, hm⟩ := bindE hm
  have hmo10 := hm; clear hm
  refine WP.sub [(0, .slice a0' list_0.length c0'), (5, .slice a0' list_0.length c0'), (6, .int .i64 (list_0.length : Int)), (7, .int .i64 0)] ⟨rfl, rfl, rfl, rfl, trivial⟩ ?_
  refine WP.loop (fun n' env' w' => ∃ (st4 : Int) , env' = [(0, .slice a0' list_0.length c0'), (5, .slice a0' list_0.length c0'), (6, .int .i64 (list_0.length : Int)), (7, .int .i64 st4)] ∧ Ext w w' ∧ w.heap.size ≤ w'.heap.size ∧ SH w' w.heap.size [] ∧ loopN (m_impl_ValidGoods_l1 n list_0) n' st4 = some t15) n ⟨0, rfl, (Ext.refl w), (Nat.le_refl _), (SH.nil _ _), ht16⟩ ?_
  rintro n12 _ w5 ⟨st4, rfl, hb6, hL7, hS8, hl9⟩ K11 hK11
  obtain ⟨n13, s14, rfl, hm, hl9⟩ := loopN_some hl9
  unfold m_impl_ValidGoods_l1 at hm
  refine WP.seq (fun K17 hK17 => ?_)
  refine WP.region ?_
  refine WL.runk 1 [0, 5, 6, 7, 8] [(0, .slice a0' list_0.length c0'), (5, .slice a0' list_0.length c0'), (6, .int .i64 (list_0.length : Int)), (7, .int .i64 st4), (8, .bool (decide (st4 < (list_0.length : Int))))] (by kernel_rfl) ?_
  refine WL.nil ?_
  refine WQ.then_normal (hK17 _ _ _ ?_)
  refine WP.seq (fun K18 hK18 => ?_)
  refine WP.cond (decide (st4 < (list_0.length : Int))) rfl rfl (fun hc19 => ?_) (fun hc19 => ?_)
  rotate_left
  · have hm := iteF hm hc19
    refine WP.exit ?_
    refine WQ.then_exit ?_
    refine WQ.then_exit ?_
    refine WQ.block_here ?_
    obtain rfl := Option.some.inj hm
    obtain rfl := afterN_done hl9
    have hm := hmo10
    refine WQ.then_normal (hK2 _ _ _ ?_)
    refine WP.seq (fun K92 hK92 => ?_)
    refine WP.region ?_
    refine WL.runk 4 [2] [(2, .bool (decide ((list_0.length : Int) ≤ 40)))] (by kernel_rfl) ?_
    refine WL.nil ?_
    refine WQ.then_normal (hK92 _ _ _ ?_)
    refine WP.ret ?_
    obtain rfl := Option.some.inj hm
    exact WQ.ret1 _ rfl rfl ⟨rfl, hb6⟩
  have hm := iteT hm hc19
  refine WP.skip ?_
  refine WQ.then_normal (hK18 _ _ _ ?_)
  refine WP.seq (fun K20 hK20 => ?_)
  refine WP.block ?_
  refine WP.seq (fun K21 hK21 => ?_)
  refine WP.region ?_
  refine WL.runk 1 [0, 5, 6, 7, 9] [(0, .slice a0' list_0.length c0'), (5, .slice a0' list_0.length c0'), (6, .int .i64 (list_0.length : Int)), (7, .int .i64 st4), (9, .int .i64 st4)] (by kernel_rfl) ?_
  obtain ⟨x22, hx23, hm⟩ := bindE hm
  refine WL.st (.pointer (some (at_ a0' (Int.toNat st4 * 4)))) (ST.index (T := fGood.ty) (xs := list_0) (Rd.below h0 hb6) hx23 rfl rfl rfl Try.underlying25 (info56).1 (info56).2.1) rfl rfl rfl ?_
  refine WL.st (.agg #[.string (bs x22.Name), .int .i64 x22.OnHand, .int .i64 x22.Reserved, .int .i64 x22.Least]) (ST.loadAgg (vs := fGood.leaf x22) (fun j v hv => Rd.flatA (F := fGood) (Rd.below h0 hb6) hx23 j hv) rfl rfl rfl Try.underlying56 rfl (info56).1 (info56).2.1) rfl rfl rfl ?_
  refine WL.box 56 [.string (bs []), .int .i64 0, .int .i64 0, .int .i64 0] 4 (by kernel_rfl) rfl rfl rfl rfl ?_
  intro b24 w25 hE26 hR27
  have hb29 : Ext w w25 := Ext.trans hb6 hE26
  have hL30 : w.heap.size ≤ w25.heap.size := Nat.le_trans hL7 hE26.size
  have hS31 : SH w25 w.heap.size [aBox 56 b24 [.string (bs []), .int .i64 0, .int .i64 0, .int .i64 0]] := SH.add hS8 hE26 hL7 hR27
  refine WL.runk 1 [0, 3, 4, 5, 6, 7, 11] [(0, .slice a0' list_0.length c0'), (5, .slice a0' list_0.length c0'), (6, .int .i64 (list_0.length : Int)), (7, .int .i64 st4), (11, .agg #[.string (bs x22.Name), .int .i64 x22.OnHand, .int .i64 x22.Reserved, .int .i64 x22.Least]), (4, .pointer (some ⟨b24, 0, none⟩)), (3, .int .i64 st4)] (by kernel_rfl) ?_
  refine WL.boxStore 0 [.string (bs x22.Name), .int .i64 x22.OnHand, .int .i64 x22.Reserved, .int .i64 x22.Least] [.string (bs x22.Name), .int .i64 x22.OnHand, .int .i64 x22.Reserved, .int .i64 x22.Least] (SH.front 0 hS31) hL30 rfl rfl rfl rfl rfl rfl rfl (info56).1 (info56).2.1 rfl rfl rfl ?_
  intro w32 hB33 hS34
  have hb35 : Ext w w32 := Below.trans hb29 hB33
  have hL36 : w.heap.size ≤ w32.heap.size := Nat.le_trans hL30 hB33.size
  refine WL.sub [(0, .slice a0' list_0.length c0'), (5, .slice a0' list_0.length c0'), (6, .int .i64 (list_0.length : Int)), (7, .int .i64 st4), (4, .pointer (some ⟨b24, 0, none⟩)), (3, .int .i64 st4)] ⟨rfl, rfl, rfl, rfl, rfl, rfl, trivial⟩ ?_
  refine WL.nil ?_
  refine WQ.then_normal (hK21 _ _ _ ?_)
  refine WP.seq (fun K37 hK37 => ?_)
  obtain ⟨x61, hx62, hm⟩ := bindE hm
  refine WP.cut (fun env' w' => env' = [(0, .slice a0' list_0.length c0'), (5, .slice a0' list_0.length c0'), (6, .int .i64 (list_0.length : Int)), (7, .int .i64 st4), (29, .bool x61)] ∧ Ext w w' ∧ w.heap.size ≤ w'.heap.size ∧ SH w' w.heap.size [aBox 56 b24 [.string (bs x22.Name), .int .i64 x22.OnHand, .int .i64 x22.Reserved, .int .i64 x22.Least]]) ?_ ?_
  rotate_left
  · clear hx62
    rintro _ w86 ⟨rfl, hb87, hL88, hS89⟩
    refine WQ.then_normal (hK37 _ _ _ ?_)
    refine WP.cond x61 rfl rfl (fun hc90 => ?_) (fun hc90 => ?_)
    rotate_left
    · have hm := iteF hm hc90
      refine WP.skip ?_
      refine WQ.block_normal ?_
      refine WQ.then_normal (hK20 _ _ _ ?_)
      refine WP.region ?_
      refine WL.runk 2 [0, 5, 6, 7] [(0, .slice a0' list_0.length c0'), (5, .slice a0' list_0.length c0'), (6, .int .i64 (list_0.length : Int)), (7, .int .i64 (wI64 (st4 + 1)))] (by kernel_rfl) ?_
      refine WL.nil ?_
      obtain rfl := Option.some.inj hm
      exact WQ.round hK11 ⟨(wI64 (st4 + 1)), rfl, hb87, hL88, (SH.take 0 hS89), hl9⟩ (Nat.lt_succ_self _) ⟨rfl, rfl, rfl, rfl, trivial⟩
    have hm := iteT hm hc90
    refine WP.seq (fun K91 hK91 => ?_)
    refine WP.region ?_
    refine WL.runk 1 [2] [(2, .bool false)] (by kernel_rfl) ?_
    refine WL.nil ?_
    refine WQ.then_normal (hK91 _ _ _ ?_)
    refine WP.ret ?_
    refine WQ.block_ret ?_
    refine WQ.then_ret ?_
    refine WQ.then_ret ?_
    refine WQ.block_ret ?_
    refine WQ.then_ret ?_
    obtain rfl := Option.some.inj hm
    obtain rfl := afterN_done hl9
    have hm := hmo10
    obtain rfl := Option.some.inj hm
    exact WQ.ret1 _ rfl rfl ⟨rfl, hb87⟩
  have hm := hx62; clear hx62
  refine WP.quiet (by kernel_rfl) (by kernel_rfl) ?_
  refine QL.st (.agg #[.string (bs x22.Name), .int .i64 x22.OnHand, .int .i64 x22.Reserved, .int .i64 x22.Least]) (ST.loadAgg (vs := [.string (bs x22.Name), .int .i64 x22.OnHand, .int .i64 x22.Reserved, .int .i64 x22.Least]) (fun j v hv => SH.boxPart (us := [.string (bs x22.Name), .int .i64 x22.OnHand, .int .i64 x22.Reserved, .int .i64 x22.Least]) (SH.front 0 hS34) 0 rfl j v hv) rfl rfl rfl Try.underlying56 rfl (info56).1 (info56).2.1) rfl rfl rfl ?_
  obtain ⟨x63, hx64, hm⟩ := bindE hm
  refine QL.call 53 #[.agg #[.string (bs x22.Name), .int .i64 x22.OnHand, .int .i64 x22.Reserved, .int .i64 x22.Least]] (.bool x63) (fun _ => by kernel_rfl) (fun w65 hE66 => c_53 n x22 w65 hx64 ) rfl rfl rfl ?_
  refine QL.step1v 14 (.bool (!x63)) rfl (fun _ => by kernel_rfl) ?_
  refine QL.step1v 15 (.bool (!x63)) rfl (fun _ => by kernel_rfl) ?_
  refine QL.subk [0, 5, 6, 7, 4, 3, 15] [(0, .slice a0' list_0.length c0'), (5, .slice a0' list_0.length c0'), (6, .int .i64 (list_0.length : Int)), (7, .int .i64 st4), (4, .pointer (some ⟨b24, 0, none⟩)), (3, .int .i64 st4), (15, .bool (!x63))] (by kernel_rfl) ?_
  refine QL.case (!x63) [15] ⟨rfl, trivial⟩ (fun hc67 => ?_) (fun hc67 => ?_)
  · have hm := iteT hm hc67
    refine QL.step1v 16 undef rfl (fun _ => by kernel_rfl) ?_
    refine QL.step1v 17 undef rfl (fun _ => by kernel_rfl) ?_
    refine QL.step1v 18 undef rfl (fun _ => by kernel_rfl) ?_
    refine QL.step1v 19 undef rfl (fun _ => by kernel_rfl) ?_
    refine QL.step1v 20 undef rfl (fun _ => by kernel_rfl) ?_
    refine QL.step1v 21 undef rfl (fun _ => by kernel_rfl) ?_
    refine QL.step1v 22 undef rfl (fun _ => by kernel_rfl) ?_
    refine QL.step1v 23 undef rfl (fun _ => by kernel_rfl) ?_
    refine QL.step1v 24 undef rfl (fun _ => by kernel_rfl) ?_
    refine QL.step1v 25 undef rfl (fun _ => by kernel_rfl) ?_
    refine QL.step1v 26 undef rfl (fun _ => by kernel_rfl) ?_
    refine QL.step1v 27 undef rfl (fun _ => by kernel_rfl) ?_
    refine QL.step1v 28 undef rfl (fun _ => by kernel_rfl) ?_
    refine QL.step1v 29 (.bool true) rfl (fun _ => by kernel_rfl) ?_
    refine QL.subk [0, 5, 6, 7, 29] [(0, .slice a0' list_0.length c0'), (5, .slice a0' list_0.length c0'), (6, .int .i64 (list_0.length : Int)), (7, .int .i64 st4), (29, .bool true)] (by kernel_rfl) ?_
    refine QL.nil ?_
    intro w68 hE69
    have hb70 : Ext w w68 := Ext.trans hb35 hE69
    have hL71 : w.heap.size ≤ w68.heap.size := Nat.le_trans hL36 hE69.size
    have hS72 : SH w68 w.heap.size [aBox 56 b24 [.string (bs x22.Name), .int .i64 x22.OnHand, .int .i64 x22.Reserved, .int .i64 x22.Least]] := SH.ext hS34 hE69
    obtain rfl := Option.some.inj hm
    exact WQ.post' ⟨rfl, hb70, hL71, hS72⟩ ⟨rfl, rfl, rfl, rfl, rfl, trivial⟩
  have hm := iteF hm hc67
  refine QL.step1v 16 (.int .i64 st4) rfl (fun _ => by kernel_rfl) ?_
  refine QL.step1v 17 (.bool (decide (st4 > 0))) rfl (fun _ => by kernel_rfl) ?_
  refine QL.step1v 18 (.bool (decide (st4 > 0))) rfl (fun _ => by kernel_rfl) ?_
  refine QL.subk [0, 5, 6, 7, 4, 3, 15, 18] [(0, .slice a0' list_0.length c0'), (5, .slice a0' list_0.length c0'), (6, .int .i64 (list_0.length : Int)), (7, .int .i64 st4), (4, .pointer (some ⟨b24, 0, none⟩)), (3, .int .i64 st4), (15, .bool false), (18, .bool (decide (st4 > 0)))] (by kernel_rfl) ?_
  refine QL.case (decide (st4 > 0)) [18] ⟨rfl, trivial⟩ (fun hc73 => ?_) (fun hc73 => ?_)
  rotate_left
  · have hm := iteF hm hc73
    refine QL.step1v 19 undef rfl (fun _ => by kernel_rfl) ?_
    refine QL.step1v 20 undef rfl (fun _ => by kernel_rfl) ?_
    refine QL.step1v 21 undef rfl (fun _ => by kernel_rfl) ?_
    refine QL.step1v 22 undef rfl (fun _ => by kernel_rfl) ?_
    refine QL.step1v 23 undef rfl (fun _ => by kernel_rfl) ?_
    refine QL.step1v 24 undef rfl (fun _ => by kernel_rfl) ?_
    refine QL.step1v 25 undef rfl (fun _ => by kernel_rfl) ?_
    refine QL.step1v 26 undef rfl (fun _ => by kernel_rfl) ?_
    refine QL.step1v 27 undef rfl (fun _ => by kernel_rfl) ?_
    refine QL.step1v 28 (.bool false) rfl (fun _ => by kernel_rfl) ?_
    refine QL.step1v 29 (.bool false) rfl (fun _ => by kernel_rfl) ?_
    refine QL.subk [0, 5, 6, 7, 29] [(0, .slice a0' list_0.length c0'), (5, .slice a0' list_0.length c0'), (6, .int .i64 (list_0.length : Int)), (7, .int .i64 st4), (29, .bool false)] (by kernel_rfl) ?_
    refine QL.nil ?_
    intro w81 hE82
    have hb83 : Ext w w81 := Ext.trans hb35 hE82
    have hL84 : w.heap.size ≤ w81.heap.size := Nat.le_trans hL36 hE82.size
    have hS85 : SH w81 w.heap.size [aBox 56 b24 [.string (bs x22.Name), .int .i64 x22.OnHand, .int .i64 x22.Reserved, .int .i64 x22.Least]] := SH.ext hS34 hE82
    obtain rfl := Option.some.inj hm
    exact WQ.post' ⟨rfl, hb83, hL84, hS85⟩ ⟨rfl, rfl, rfl, rfl, rfl, trivial⟩
  have hm := iteT hm hc73
  refine QL.step1v 19 (.slice a0' list_0.length c0') rfl (fun _ => by kernel_rfl) ?_
  refine QL.step1v 20 (.int .i64 st4) rfl (fun _ => by kernel_rfl) ?_
  refine QL.step1v 21 (.int .i64 (wI64 (st4 - 1))) rfl (fun _ => by kernel_rfl) ?_
  refine QL.subk [0, 5, 6, 7, 4, 15, 18, 19, 21] [(0, .slice a0' list_0.length c0'), (5, .slice a0' list_0.length c0'), (6, .int .i64 (list_0.length : Int)), (7, .int .i64 st4), (4, .pointer (some ⟨b24, 0, none⟩)), (15, .bool false), (18, .bool true), (19, .slice a0' list_0.length c0'), (21, .int .i64 (wI64 (st4 - 1)))] (by kernel_rfl) ?_
  obtain ⟨x74, hx75, hm⟩ := bindE hm
  refine QL.st (.pointer (some (at_ a0' (Int.toNat (wI64 (st4 - 1)) * 4)))) (ST.index (T := fGood.ty) (xs := list_0) (Rd.below h0 hb35) hx75 rfl rfl rfl Try.underlying25 (info56).1 (info56).2.1) rfl rfl rfl ?_
  refine QL.step1v 23 (.pointer (some (at_ a0' (Int.toNat (wI64 (st4 - 1)) * 4)))) rfl (fun _ => by kernel_rfl) ?_
  refine QL.subk [0, 5, 6, 7, 4, 15, 18, 23] [(0, .slice a0' list_0.length c0'), (5, .slice a0' list_0.length c0'), (6, .int .i64 (list_0.length : Int)), (7, .int .i64 st4), (4, .pointer (some ⟨b24, 0, none⟩)), (15, .bool false), (18, .bool true), (23, .pointer (some (at_ a0' (Int.toNat (wI64 (st4 - 1)) * 4))))] (by kernel_rfl) ?_
  refine QL.st (.string (bs x74.Name)) (ST.load (cell_ext (Rd.flat (F := fGood) (Rd.below h0 hb35) hx75 0 rfl)) rfl rfl Try.underlying9 rfl) rfl rfl rfl ?_
  refine QL.step1v 25 (.pointer (some ⟨b24, 0, none⟩)) rfl (fun _ => by kernel_rfl) ?_
  refine QL.subk [0, 5, 6, 7, 15, 18, 24, 25] [(0, .slice a0' list_0.length c0'), (5, .slice a0' list_0.length c0'), (6, .int .i64 (list_0.length : Int)), (7, .int .i64 st4), (15, .bool false), (18, .bool true), (24, .string (bs x74.Name)), (25, .pointer (some ⟨b24, 0, none⟩))] (by kernel_rfl) ?_
  refine QL.st (.string (bs x22.Name)) (ST.load (cell_ext (SH.boxAt (SH.front 0 hS34) 0 _ rfl)) rfl rfl Try.underlying9 rfl) rfl rfl rfl ?_
  refine QL.st (.bool (!strLt x74.Name x22.Name)) (ST.strge (x := x74.Name) (y := x22.Name) rfl rfl rfl) rfl rfl rfl ?_
  refine QL.step1v 28 (.bool (!strLt x74.Name x22.Name)) rfl (fun _ => by kernel_rfl) ?_
  refine QL.step1v 29 (.bool (!strLt x74.Name x22.Name)) rfl (fun _ => by kernel_rfl) ?_
  refine QL.subk [0, 5, 6, 7, 29] [(0, .slice a0' list_0.length c0'), (5, .slice a0' list_0.length c0'), (6, .int .i64 (list_0.length : Int)), (7, .int .i64 st4), (29, .bool (!strLt x74.Name x22.Name))] (by kernel_rfl) ?_
  refine QL.nil ?_
  intro w76 hE77
  have hb78 : Ext w w76 := Ext.trans hb35 hE77
  have hL79 : w.heap.size ≤ w76.heap.size := Nat.le_trans hL36 hE77.size
  have hS80 : SH w76 w.heap.size [aBox 56 b24 [.string (bs x22.Name), .int .i64 x22.OnHand, .int .i64 x22.Reserved, .int .i64 x22.Least]] := SH.ext hS34 hE77
  obtain rfl := Option.some.inj hm
  exact WQ.post' ⟨rfl, hb78, hL79, hS80⟩ ⟨rfl, rfl, rfl, rfl, rfl, trivial⟩

theorem c_54 (n : Nat) (a_0 : STake) (b_1 : STake) (w : World) {r : Bool} (hm : m_laws_eqTake n a_0 b_1 = some r)  :
    CallV Try.prog 54 #[.agg #[.string (bs a_0.Name), .int .i64 a_0.Many], .agg #[.string (bs b_1.Name), .int .i64 b_1.Many]] w (fun v w' => v = .bool r ∧ Ext w w') := by
  unfold m_laws_eqTake at hm
  refine CallV.enter Try.func54 rfl (by kernel_rfl) Try.ntmps54 (env := [(0, .agg #[.string (bs a_0.Name), .int .i64 a_0.Many]), (1, .agg #[.string (bs b_1.Name), .int .i64 b_1.Many])]) ⟨rfl, rfl, trivial⟩ ?_
  refine WP.seq (fun K1 hK1 => ?_)
  refine WP.region ?_
  refine WL.box 43 [.string (bs a_0.Name), .int .i64 a_0.Many] 2 (by kernel_rfl) rfl rfl rfl rfl ?_
  intro b2 w3 hE4 hR5
  have hb7 : Ext w w3 := Ext.trans (Ext.refl w) hE4
  have hL8 : w.heap.size ≤ w3.heap.size := Nat.le_trans (Nat.le_refl _) hE4.size
  have hS9 : SH w3 w.heap.size [aBox 43 b2 [.string (bs a_0.Name), .int .i64 a_0.Many]] := SH.add (SH.nil _ _) hE4 (Nat.le_refl _) hR5
  refine WL.box 43 [.string (bs b_1.Name), .int .i64 b_1.Many] 3 (by kernel_rfl) rfl rfl rfl rfl ?_
  intro b10 w11 hE12 hR13
  have hb15 : Ext w w11 := Ext.trans hb7 hE12
  have hL16 : w.heap.size ≤ w11.heap.size := Nat.le_trans hL8 hE12.size
  have hS17 : SH w11 w.heap.size [aBox 43 b10 [.string (bs b_1.Name), .int .i64 b_1.Many], aBox 43 b2 [.string (bs a_0.Name), .int .i64 a_0.Many]] := SH.add hS9 hE12 hL8 hR13
  refine WL.runk 1 [2, 3] [(2, .pointer (some ⟨b2, 0, none⟩)), (3, .pointer (some ⟨b10, 0, none⟩))] (by kernel_rfl) ?_
  refine WL.nil ?_
  refine WQ.then_normal (hK1 _ _ _ ?_)
  refine WP.seq (fun K18 hK18 => ?_)
  refine WP.seq (fun K19 hK19 => ?_)
  refine WP.region ?_
  refine WL.runk 1 [2, 3, 5] [(2, .pointer (some ⟨b2, 0, none⟩)), (3, .pointer (some ⟨b10, 0, none⟩)), (5, .pointer (some ⟨b2, 0, none⟩))] (by kernel_rfl) ?_
  refine WL.st (.string (bs a_0.Name)) (ST.load (cell_ext (SH.boxAt (SH.front 1 hS17) 0 _ rfl)) rfl rfl Try.underlying9 rfl) rfl rfl rfl ?_
  refine WL.runk 1 [2, 3, 6, 7] [(2, .pointer (some ⟨b2, 0, none⟩)), (3, .pointer (some ⟨b10, 0, none⟩)), (6, .string (bs a_0.Name)), (7, .pointer (some ⟨b10, 0, none⟩))] (by kernel_rfl) ?_
  refine WL.st (.string (bs b_1.Name)) (ST.load (cell_ext (SH.boxAt (SH.front 0 hS17) 0 _ rfl)) rfl rfl Try.underlying9 rfl) rfl rfl rfl ?_
  refine WL.st (.bool (!(a_0.Name == b_1.Name))) (ST.strne (x := a_0.Name) (y := b_1.Name) rfl rfl rfl) rfl rfl rfl ?_
  refine WL.sub [(2, .pointer (some ⟨b2, 0, none⟩)), (3, .pointer (some ⟨b10, 0, none⟩)), (9, .bool (!(a_0.Name == b_1.Name)))] ⟨rfl, rfl, rfl, trivial⟩ ?_
  refine WL.nil ?_
  refine WQ.then_normal (hK19 _ _ _ ?_)
  refine WP.cond (!(a_0.Name == b_1.Name)) rfl rfl (fun hc20 => ?_) (fun hc20 => ?_)
  · have hm := iteT hm hc20
    refine WP.seq (fun K21 hK21 => ?_)
    refine WP.region ?_
    refine WL.runk 1 [4] [(4, .bool false)] (by kernel_rfl) ?_
    refine WL.nil ?_
    refine WQ.then_normal (hK21 _ _ _ ?_)
    refine WP.ret ?_
    refine WQ.then_ret ?_
    obtain rfl := Option.some.inj hm
    exact WQ.ret1 _ rfl rfl ⟨rfl, hb15⟩
  have hm := iteF hm hc20
  refine WP.skip ?_
  refine WQ.then_normal (hK18 _ _ _ ?_)
  refine WP.seq (fun K22 hK22 => ?_)
  refine WP.seq (fun K23 hK23 => ?_)
  refine WP.region ?_
  refine WL.runk 1 [3, 10] [(3, .pointer (some ⟨b10, 0, none⟩)), (10, .pointer (some ⟨b2, 1, none⟩))] (by kernel_rfl) ?_
  refine WL.st (.int .i64 a_0.Many) (ST.load (cell_ext (SH.boxAt (SH.front 1 hS17) 1 _ rfl)) rfl rfl Try.underlying2 rfl) rfl rfl rfl ?_
  refine WL.runk 1 [11, 12] [(11, .int .i64 a_0.Many), (12, .pointer (some ⟨b10, 1, none⟩))] (by kernel_rfl) ?_
  refine WL.st (.int .i64 b_1.Many) (ST.load (cell_ext (SH.boxAt (SH.front 0 hS17) 1 _ rfl)) rfl rfl Try.underlying2 rfl) rfl rfl rfl ?_
  refine WL.runk 1 [14] [(14, .bool (a_0.Many != b_1.Many))] (by kernel_rfl) ?_
  refine WL.nil ?_
  refine WQ.then_normal (hK23 _ _ _ ?_)
  refine WP.cond (a_0.Many != b_1.Many) rfl rfl (fun hc24 => ?_) (fun hc24 => ?_)
  · have hm := iteT hm hc24
    refine WP.seq (fun K25 hK25 => ?_)
    refine WP.region ?_
    refine WL.runk 1 [4] [(4, .bool false)] (by kernel_rfl) ?_
    refine WL.nil ?_
    refine WQ.then_normal (hK25 _ _ _ ?_)
    refine WP.ret ?_
    refine WQ.then_ret ?_
    obtain rfl := Option.some.inj hm
    exact WQ.ret1 _ rfl rfl ⟨rfl, hb15⟩
  have hm := iteF hm hc24
  refine WP.skip ?_
  refine WQ.then_normal (hK22 _ _ _ ?_)
  refine WP.seq (fun K26 hK26 => ?_)
  refine WP.region ?_
  refine WL.runk 1 [4] [(4, .bool true)] (by kernel_rfl) ?_
  refine WL.nil ?_
  refine WQ.then_normal (hK26 _ _ _ ?_)
  refine WP.ret ?_
  obtain rfl := Option.some.inj hm
  exact WQ.ret1 _ rfl rfl ⟨rfl, hb15⟩

theorem c_22 (n : Nat) (a_0 : List STake) (a0' : Option Addr) (c0' : Nat) (b_1 : List STake) (a1' : Option Addr) (c1' : Nat) (w : World) {r : Bool} (hm : m_laws_eqTakeS n a_0 b_1 = some r) (h0 : Rd fTake.ty w a0' a_0) (_hle0 : a_0.length ≤ c0') (h1 : Rd fTake.ty w a1' b_1) (_hle1 : b_1.length ≤ c1') :
    CallV Try.prog 22 #[.slice a0' a_0.length c0', .slice a1' b_1.length c1'] w (fun v w' => v = .bool r ∧ Ext w w') := by
  unfold m_laws_eqTakeS at hm
  refine CallV.enter Try.func22 rfl (by kernel_rfl) Try.ntmps22 (env := [(0, .slice a0' a_0.length c0'), (1, .slice a1' b_1.length c1')]) ⟨rfl, rfl, trivial⟩ ?_
  refine WP.seq (fun K1 hK1 => ?_)
  refine WP.region ?_
  refine WL.runk 1 [0, 1] [(0, .slice a0' a_0.length c0'), (1, .slice a1' b_1.length c1')] (by kernel_rfl) ?_
  refine WL.nil ?_
  refine WQ.then_normal (hK1 _ _ _ ?_)
  refine WP.seq (fun K2 hK2 => ?_)
  refine WP.seq (fun K3 hK3 => ?_)
  refine WP.region ?_
  refine WL.runk 5 [0, 1, 10] [(0, .slice a0' a_0.length c0'), (1, .slice a1' b_1.length c1'), (10, .bool ((a_0.length : Int) != (b_1.length : Int)))] (by kernel_rfl) ?_
  refine WL.nil ?_
  refine WQ.then_normal (hK3 _ _ _ ?_)
  refine WP.cond ((a_0.length : Int) != (b_1.length : Int)) rfl rfl (fun hc4 => ?_) (fun hc4 => ?_)
  · have hm := iteT hm hc4
    refine WP.seq (fun K5 hK5 => ?_)
    refine WP.region ?_
    refine WL.runk 1 [4] [(4, .bool false)] (by kernel_rfl) ?_
    refine WL.nil ?_
    refine WQ.then_normal (hK5 _ _ _ ?_)
    refine WP.ret ?_
    refine WQ.then_ret ?_
    obtain rfl := Option.some.inj hm
    exact WQ.ret1 _ rfl rfl ⟨rfl, (Ext.refl w)⟩
  have hm := iteF hm hc4
  refine WP.skip ?_
  refine WQ.then_normal (hK2 _ _ _ ?_)
  refine WP.seq (fun K6 hK6 => ?_)
  refine WP.seq (fun K7 hK7 => ?_)
  refine WP.region ?_
  refine WL.runk 1 [0, 1, 5] [(0, .slice a0' a_0.length c0'), (1, .slice a1' b_1.length c1'), (5, .int .i64 0)] (by kernel_rfl) ?_
  refine WL.nil ?_
  refine WQ.then_normal (hK7 _ _ _ ?_)
  refine WP.block ?_
  obtain ⟨t19, ht20, hm⟩ := bindE hm
  have hmo14 := hm; clear hm
  refine WP.sub [(0, .slice a0' a_0.length c0'), (1, .slice a1' b_1.length c1'), (5, .int .i64 0)] ⟨rfl, rfl, rfl, trivial⟩ ?_
  refine WP.loop (fun n' env' w' => ∃ (st8 : Int) , env' = [(0, .slice a0' a_0.length c0'), (1, .slice a1' b_1.length c1'), (5, .int .i64 st8)] ∧ Ext w w' ∧ w.heap.size ≤ w'.heap.size ∧ SH w' w.heap.size [] ∧ loopN (m_laws_eqTakeS_l1 n a_0 b_1) n' st8 = some t19) n ⟨0, rfl, (Ext.refl w), (Nat.le_refl _), (SH.nil _ _), ht20⟩ ?_
  rintro n16 _ w9 ⟨st8, rfl, hb10, hL11, hS12, hl13⟩ K15 hK15
  obtain ⟨n17, s18, rfl, hm, hl13⟩ := loopN_some hl13
  unfold m_laws_eqTakeS_l1 at hm
  refine WP.seq (fun K21 hK21 => ?_)
  refine WP.seq (fun K22 hK22 => ?_)
  refine WP.region ?_
  refine WL.runk 4 [0, 1, 5, 14] [(0, .slice a0' a_0.length c0'), (1, .slice a1' b_1.length c1'), (5, .int .i64 st8), (14, .bool (decide (st8 < (a_0.length : Int))))] (by kernel_rfl) ?_
  refine WL.nil ?_
  refine WQ.then_normal (hK22 _ _ _ ?_)
  refine WP.cond (decide (st8 < (a_0.length : Int))) rfl rfl (fun hc23 => ?_) (fun hc23 => ?_)
  rotate_left
  · have hm := iteF hm hc23
    refine WP.exit ?_
    refine WQ.then_exit ?_
    refine WQ.then_exit ?_
    refine WQ.block_here ?_
    obtain rfl := Option.some.inj hm
    obtain rfl := afterN_done hl13
    have hm := hmo14
    refine WQ.then_normal (hK6 _ _ _ ?_)
    refine WP.seq (fun K41 hK41 => ?_)
    refine WP.region ?_
    refine WL.runk 1 [4] [(4, .bool true)] (by kernel_rfl) ?_
    refine WL.nil ?_
    refine WQ.then_normal (hK41 _ _ _ ?_)
    refine WP.ret ?_
    obtain rfl := Option.some.inj hm
    exact WQ.ret1 _ rfl rfl ⟨rfl, hb10⟩
  have hm := iteT hm hc23
  refine WP.skip ?_
  refine WQ.then_normal (hK21 _ _ _ ?_)
  refine WP.seq (fun K24 hK24 => ?_)
  refine WP.block ?_
  refine WP.seq (fun K25 hK25 => ?_)
  refine WP.quiet (by kernel_rfl) (by kernel_rfl) ?_
  refine QL.step1v 17 (.slice a0' a_0.length c0') rfl (fun _ => by kernel_rfl) ?_
  refine QL.step1v 18 (.int .i64 st8) rfl (fun _ => by kernel_rfl) ?_
  refine QL.subk [0, 1, 5, 17, 18] [(0, .slice a0' a_0.length c0'), (1, .slice a1' b_1.length c1'), (5, .int .i64 st8), (17, .slice a0' a_0.length c0'), (18, .int .i64 st8)] (by kernel_rfl) ?_
  obtain ⟨x26, hx27, hm⟩ := bindE hm
  refine QL.st (.pointer (some (at_ a0' (Int.toNat st8 * 2)))) (ST.index (T := fTake.ty) (xs := a_0) (Rd.below h0 hb10) hx27 rfl rfl rfl Try.underlying30 (info43).1 (info43).2.1) rfl rfl rfl ?_
  refine QL.st (.agg #[.string (bs x26.Name), .int .i64 x26.Many]) (ST.loadAgg (vs := fTake.leaf x26) (fun j v hv => Rd.flatA (F := fTake) (Rd.below h0 hb10) hx27 j hv) rfl rfl rfl Try.underlying43 rfl (info43).1 (info43).2.1) rfl rfl rfl ?_
  refine QL.step1v 21 (.slice a1' b_1.length c1') rfl (fun _ => by kernel_rfl) ?_
  refine QL.step1v 22 (.int .i64 st8) rfl (fun _ => by kernel_rfl) ?_
  refine QL.subk [0, 1, 5, 20, 21, 22] [(0, .slice a0' a_0.length c0'), (1, .slice a1' b_1.length c1'), (5, .int .i64 st8), (20, .agg #[.string (bs x26.Name), .int .i64 x26.Many]), (21, .slice a1' b_1.length c1'), (22, .int .i64 st8)] (by kernel_rfl) ?_
  obtain ⟨x28, hx29, hm⟩ := bindE hm
  refine QL.st (.pointer (some (at_ a1' (Int.toNat st8 * 2)))) (ST.index (T := fTake.ty) (xs := b_1) (Rd.below h1 hb10) hx29 rfl rfl rfl Try.underlying30 (info43).1 (info43).2.1) rfl rfl rfl ?_
  refine QL.st (.agg #[.string (bs x28.Name), .int .i64 x28.Many]) (ST.loadAgg (vs := fTake.leaf x28) (fun j v hv => Rd.flatA (F := fTake) (Rd.below h1 hb10) hx29 j hv) rfl rfl rfl Try.underlying43 rfl (info43).1 (info43).2.1) rfl rfl rfl ?_
  obtain ⟨x30, hx31, hm⟩ := bindE hm
  refine QL.call 54 #[.agg #[.string (bs x26.Name), .int .i64 x26.Many], .agg #[.string (bs x28.Name), .int .i64 x28.Many]] (.bool x30) (fun _ => by kernel_rfl) (fun w32 hE33 => c_54 n x26 x28 w32 hx31 ) rfl rfl rfl ?_
  refine QL.step1v 26 (.bool (!x30)) rfl (fun _ => by kernel_rfl) ?_
  refine QL.subk [0, 1, 5, 26] [(0, .slice a0' a_0.length c0'), (1, .slice a1' b_1.length c1'), (5, .int .i64 st8), (26, .bool (!x30))] (by kernel_rfl) ?_
  refine QL.nil ?_
  intro w34 hE35
  have hb36 : Ext w w34 := Ext.trans hb10 hE35
  have hL37 : w.heap.size ≤ w34.heap.size := Nat.le_trans hL11 hE35.size
  have hS38 : SH w34 w.heap.size [] := SH.ext hS12 hE35
  refine WQ.then_normal (hK25 _ _ _ ?_)
  refine WP.cond (!x30) rfl rfl (fun hc39 => ?_) (fun hc39 => ?_)
  rotate_left
  · have hm := iteF hm hc39
    refine WP.skip ?_
    refine WQ.block_normal ?_
    refine WQ.then_normal (hK24 _ _ _ ?_)
    refine WP.region ?_
    refine WL.runk 3 [0, 1, 5] [(0, .slice a0' a_0.length c0'), (1, .slice a1' b_1.length c1'), (5, .int .i64 (wI64 (st8 + 1)))] (by kernel_rfl) ?_
    refine WL.nil ?_
    obtain rfl := Option.some.inj hm
    exact WQ.round hK15 ⟨(wI64 (st8 + 1)), rfl, hb36, hL37, hS38, hl13⟩ (Nat.lt_succ_self _) ⟨rfl, rfl, rfl, trivial⟩
  have hm := iteT hm hc39
  refine WP.seq (fun K40 hK40 => ?_)
  refine WP.region ?_
  refine WL.runk 1 [4] [(4, .bool false)] (by kernel_rfl) ?_
  refine WL.nil ?_
  refine WQ.then_normal (hK40 _ _ _ ?_)
  refine WP.ret ?_
  refine WQ.block_ret ?_
  refine WQ.then_ret ?_
  refine WQ.then_ret ?_
  refine WQ.block_ret ?_
  refine WQ.then_ret ?_
  obtain rfl := Option.some.inj hm
  obtain rfl := afterN_done hl13
  have hm := hmo14
  obtain rfl := Option.some.inj hm
  exact WQ.ret1 _ rfl rfl ⟨rfl, hb36⟩

theorem c_55 (n : Nat) (k_0 : Int) (w : World) {r : List UInt8} (hm : m_laws_markText n k_0 = some r)  :
    CallV Try.prog 55 #[.int .i64 k_0] w (fun v w' => v = .string (bs r) ∧ Ext w w') := by
  unfold m_laws_markText at hm
  refine CallV.enter Try.func55 rfl (by kernel_rfl) Try.ntmps55 (env := [(0, .int .i64 k_0)]) ⟨rfl, trivial⟩ ?_
  refine WP.seq (fun K1 hK1 => ?_)
  refine WP.region ?_
  refine WL.runk 1 [0] [(0, .int .i64 k_0)] (by kernel_rfl) ?_
  refine WL.nil ?_
  refine WQ.then_normal (hK1 _ _ _ ?_)
  refine WP.seq (fun K2 hK2 => ?_)
  refine WP.seq (fun K3 hK3 => ?_)
  refine WP.region ?_
  refine WL.runk 2 [0, 5] [(0, .int .i64 k_0), (5, .bool (decide (k_0 ≤ 0)))] (by kernel_rfl) ?_
  refine WL.nil ?_
  refine WQ.then_normal (hK3 _ _ _ ?_)
  refine WP.cond (decide (k_0 ≤ 0)) rfl rfl (fun hc4 => ?_) (fun hc4 => ?_)
  · have hm := iteT hm hc4
    refine WP.seq (fun K5 hK5 => ?_)
    refine WP.region ?_
    refine WL.runk 1 [2] [(2, .string (bs [109, 48]))] (by kernel_rfl) ?_
    refine WL.nil ?_
    refine WQ.then_normal (hK5 _ _ _ ?_)
    refine WP.ret ?_
    refine WQ.then_ret ?_
    obtain rfl := Option.some.inj hm
    exact WQ.ret1 _ rfl rfl ⟨rfl, (Ext.refl w)⟩
  have hm := iteF hm hc4
  refine WP.skip ?_
  refine WQ.then_normal (hK2 _ _ _ ?_)
  refine WP.seq (fun K6 hK6 => ?_)
  refine WP.region ?_
  refine WL.runk 1 [0, 3] [(0, .int .i64 k_0), (3, .string (bs []))] (by kernel_rfl) ?_
  refine WL.nil ?_
  refine WQ.then_normal (hK6 _ _ _ ?_)
  refine WP.seq (fun K7 hK7 => ?_)
  refine WP.block ?_
  obtain ⟨t19, ht20, hm⟩ := bindE hm
  have hmo14 := hm; clear hm
  refine WP.sub [(0, .int .i64 k_0), (3, .string (bs []))] ⟨rfl, rfl, trivial⟩ ?_
  refine WP.loop (fun n' env' w' => ∃ (st8 : Int × List UInt8) , env' = [(0, .int .i64 st8.1), (3, .string (bs st8.2))] ∧ Ext w w' ∧ w.heap.size ≤ w'.heap.size ∧ SH w' w.heap.size [] ∧ loopN (m_laws_markText_l1 n) n' st8 = some t19) n ⟨(k_0, []), rfl, (Ext.refl w), (Nat.le_refl _), (SH.nil _ _), ht20⟩ ?_
  rintro n16 _ w9 ⟨st8, rfl, hb10, hL11, hS12, hl13⟩ K15 hK15
  obtain ⟨n17, s18, rfl, hm, hl13⟩ := loopN_some hl13
  unfold m_laws_markText_l1 at hm
  refine WP.seq (fun K21 hK21 => ?_)
  refine WP.seq (fun K22 hK22 => ?_)
  refine WP.region ?_
  refine WL.runk 2 [0, 3, 7] [(0, .int .i64 st8.1), (3, .string (bs st8.2)), (7, .bool (decide (st8.1 > 0)))] (by kernel_rfl) ?_
  refine WL.nil ?_
  refine WQ.then_normal (hK22 _ _ _ ?_)
  refine WP.cond (decide (st8.1 > 0)) rfl rfl (fun hc23 => ?_) (fun hc23 => ?_)
  rotate_left
  · have hm := iteF hm hc23
    refine WP.exit ?_
    refine WQ.then_exit ?_
    refine WQ.then_exit ?_
    refine WQ.block_here ?_
    obtain rfl := Option.some.inj hm
    obtain rfl := afterN_done hl13
    have hm := hmo14
    refine WQ.then_normal (hK7 _ _ _ ?_)
    refine WP.seq (fun K36 hK36 => ?_)
    refine WP.region ?_
    refine WL.runk 1 [18] [(18, .string (bs st8.2))] (by kernel_rfl) ?_
    obtain ⟨x37, hx38, hm⟩ := bindE hm
    refine WL.st (.string (bs x37)) (ST.cat hx38 rfl rfl rfl) rfl rfl rfl ?_
    refine WL.runk 1 [2] [(2, .string (bs x37))] (by kernel_rfl) ?_
    refine WL.nil ?_
    refine WQ.then_normal (hK36 _ _ _ ?_)
    refine WP.ret ?_
    obtain rfl := Option.some.inj hm
    exact WQ.ret1 _ rfl rfl ⟨rfl, hb10⟩
  have hm := iteT hm hc23
  refine WP.skip ?_
  refine WQ.then_normal (hK21 _ _ _ ?_)
  refine WP.block ?_
  refine WP.seq (fun K24 hK24 => ?_)
  refine WP.region ?_
  refine WL.runk 4 [0, 3, 11] [(0, .int .i64 st8.1), (3, .string (bs st8.2)), (11, .int .u8 (IntKind.u8.wrap (wI64 (48 + (Int.tmod st8.1 10)))))] (by kernel_rfl) ?_
  refine WL.row fU8 5 ([(IntKind.u8.wrap (wI64 (48 + (Int.tmod st8.1 10))))] : List Int) 1 #[.int .u8 (IntKind.u8.wrap (wI64 (48 + (Int.tmod st8.1 10))))] 12 (by kernel_rfl) rfl rfl rfl rfl rfl rfl rfl ?_
  intro a25 c26 w27 hE28 hR29
  have hb31 : Ext w w27 := Ext.trans hb10 hE28
  have hL32 : w.heap.size ≤ w27.heap.size := Nat.le_trans hL11 hE28.size
  have hS33 : SH w27 w.heap.size [aOwn fU8 5 a25 c26 ([(IntKind.u8.wrap (wI64 (48 + (Int.tmod st8.1 10))))] : List Int)] := SH.add hS12 hE28 hL11 hR29
  refine WL.st (.string (bs (ofBytes ([(IntKind.u8.wrap (wI64 (48 + (Int.tmod st8.1 10))))] : List Int)))) (ST.b2s (SH.rd (SH.front 0 hS33)) (SH.le (SH.front 0 hS33)).2 rfl rfl Try.underlying61 Try.underlying9 Try.underlying5) rfl rfl rfl ?_
  refine WL.runk 1 [0, 13, 14] [(0, .int .i64 st8.1), (13, .string (bs (ofBytes ([(IntKind.u8.wrap (wI64 (48 + (Int.tmod st8.1 10))))] : List Int)))), (14, .string (bs st8.2))] (by kernel_rfl) ?_
  obtain ⟨x34, hx35, hm⟩ := bindE hm
  refine WL.st (.string (bs x34)) (ST.cat hx35 rfl rfl rfl) rfl rfl rfl ?_
  refine WL.runk 1 [0, 3] [(0, .int .i64 st8.1), (3, .string (bs x34))] (by kernel_rfl) ?_
  refine WL.nil ?_
  refine WQ.then_normal (hK24 _ _ _ ?_)
  refine WP.region ?_
  refine WL.runk 3 [0, 3] [(0, .int .i64 (wI64 (Int.tdiv st8.1 10))), (3, .string (bs x34))] (by kernel_rfl) ?_
  refine WL.nil ?_
  refine WQ.block_normal ?_
  obtain rfl := Option.some.inj hm
  exact WQ.round hK15 ⟨((wI64 (Int.tdiv st8.1 10)), x34), rfl, hb31, hL32, (SH.take 0 hS33), hl13⟩ (Nat.lt_succ_self _) ⟨rfl, rfl, trivial⟩

theorem c_23 (n : Nat) (a_0 : List SGood) (a0' : Option Addr) (c0' : Nat) (k_1 : Int) (w : World) (w0 : World) (B : Nat) (L : List Asrt) {r : Int × List SGood} (hm : m_laws_markGoodS n a_0 k_1 = some r) (_hE0 : Ext w0 w) (_hW : w0.heap.size ≤ B) (hL : B ≤ w.heap.size) (hS : SH w B (aOwn fGood 56 a0' c0' a_0 :: L)) :
    CallV Try.prog 23 #[.slice a0' a_0.length c0', .int .i64 k_1] w (fun v w' => v = .int .i64 r.1 ∧ Below B w w' ∧ SH w' B (aOwn fGood 56 a0' c0' r.2 :: L) ∧ r.2.length = a_0.length) := by
  unfold m_laws_markGoodS at hm
  refine CallV.enter Try.func23 rfl (by kernel_rfl) Try.ntmps23 (env := [(0, .slice a0' a_0.length c0'), (1, .int .i64 k_1)]) ⟨rfl, rfl, trivial⟩ ?_
  refine WP.seq (fun K1 hK1 => ?_)
  refine WP.region ?_
  refine WL.runk 1 [0, 1] [(0, .slice a0' a_0.length c0'), (1, .int .i64 k_1)] (by kernel_rfl) ?_
  refine WL.nil ?_
  refine WQ.then_normal (hK1 _ _ _ ?_)
  refine WP.seq (fun K2 hK2 => ?_)
  refine WP.seq (fun K3 hK3 => ?_)
  refine WP.region ?_
  refine WL.runk 1 [0, 1, 5] [(0, .slice a0' a_0.length c0'), (1, .int .i64 k_1), (5, .int .i64 0)] (by kernel_rfl) ?_
  refine WL.nil ?_
  refine WQ.then_normal (hK3 _ _ _ ?_)
  refine WP.block ?_
  obtain ⟨t80, ht81, hm⟩ := bindE hm
  have hmo75 := hm; clear hm
  refine WP.sub [(0, .slice a0' a_0.length c0'), (1, .int .i64 k_1), (5, .int .i64 0)] ⟨rfl, rfl, rfl, trivial⟩ ?_
  refine WP.loop (fun n' env' w' => ∃ (st69 : Int × Int × List SGood) , env' = [(0, .slice a0' st69.2.2.length c0'), (1, .int .i64 st69.1), (5, .int .i64 st69.2.1)] ∧ Below B w w' ∧ B ≤ w'.heap.size ∧ SH w' B (aOwn fGood 56 a0' c0' st69.2.2 :: L) ∧ st69.2.2.length = a_0.length ∧ loopN (m_laws_markGoodS_l1 n) n' st69 = some t80) n ⟨(k_1, 0, a_0), rfl, (Below.refl _ _), hL, hS, rfl, ht81⟩ ?_
  rintro n77 _ w70 ⟨st69, rfl, hb71, hL72, hS73, hn82, hl74⟩ K76 hK76
  obtain ⟨n78, s79, rfl, hm, hl74⟩ := loopN_some hl74
  unfold m_laws_markGoodS_l1 at hm
  refine WP.seq (fun K83 hK83 => ?_)
  refine WP.seq (fun K84 hK84 => ?_)
  refine WP.region ?_
  refine WL.runk 4 [0, 1, 5, 9] [(0, .slice a0' st69.2.2.length c0'), (1, .int .i64 st69.1), (5, .int .i64 st69.2.1), (9, .bool (decide (st69.2.1 < (st69.2.2.length : Int))))] (by kernel_rfl) ?_
  refine WL.nil ?_
  refine WQ.then_normal (hK84 _ _ _ ?_)
  refine WP.cond (decide (st69.2.1 < (st69.2.2.length : Int))) rfl rfl (fun hc85 => ?_) (fun hc85 => ?_)
  rotate_left
  · have hm := iteF hm hc85
    refine WP.exit ?_
    refine WQ.then_exit ?_
    refine WQ.then_exit ?_
    refine WQ.block_here ?_
    obtain rfl := Option.some.inj hm
    obtain rfl := afterN_done hl74
    have hm := hmo75
    refine WQ.then_normal (hK2 _ _ _ ?_)
    refine WP.seq (fun K134 hK134 => ?_)
    refine WP.region ?_
    refine WL.runk 2 [4] [(4, .int .i64 st69.1)] (by kernel_rfl) ?_
    refine WL.nil ?_
    refine WQ.then_normal (hK134 _ _ _ ?_)
    refine WP.ret ?_
    obtain rfl := Option.some.inj hm
    exact WQ.ret1 _ rfl rfl ⟨rfl, hb71, hS73, hn82⟩
  have hm := iteT hm hc85
  refine WP.skip ?_
  refine WQ.then_normal (hK83 _ _ _ ?_)
  refine WP.seq (fun K86 hK86 => ?_)
  refine WP.block ?_
  refine WP.seq (fun K87 hK87 => ?_)
  refine WP.region ?_
  refine WL.runk 3 [0, 1, 5, 12, 13, 14] [(0, .slice a0' st69.2.2.length c0'), (1, .int .i64 st69.1), (5, .int .i64 st69.2.1), (12, .slice a0' st69.2.2.length c0'), (13, .int .i64 st69.2.1), (14, .int .i64 st69.1)] (by kernel_rfl) ?_
  obtain ⟨x88, hx89, hm⟩ := bindE hm
  refine WL.call 55 #[.int .i64 st69.1] rfl rfl (by kernel_rfl) (c_55 n st69.1 w70 hx89 ) ?_
  rintro _ w90 ⟨rfl, hE91⟩
  refine ⟨_, rfl, ?_⟩
  have hb93 : Below B w w90 := Below.trans hb71 (Below.mono hE91 hL72)
  have hL94 : B ≤ w90.heap.size := Nat.le_trans hL72 hE91.size
  have hS95 : SH w90 B (aOwn fGood 56 a0' c0' st69.2.2 :: L) := SH.ext hS73 hE91
  obtain ⟨x96, hx97, hm⟩ := bindE hm
  refine WL.st (.pointer (some (at_ a0' (Int.toNat st69.2.1 * 4)))) (ST.index (T := fGood.ty) (xs := st69.2.2) (SH.rd (SH.front 0 hS95)) hx97 rfl rfl rfl Try.underlying25 (info56).1 (info56).2.1) rfl rfl rfl ?_
  refine WL.runk 1 [0, 1, 5, 15, 17] [(0, .slice a0' st69.2.2.length c0'), (1, .int .i64 st69.1), (5, .int .i64 st69.2.1), (15, .string (bs x88)), (17, .pointer (some (at_ a0' (Int.toNat st69.2.1 * 4))))] (by kernel_rfl) ?_
  refine WL.store (F := fGood) (SGood.mk x88 x96.OnHand x96.Reserved x96.Least) 0 [.string (bs x88)] (SH.front 0 hS95) hL94 hx97 rfl rfl rfl rfl rfl rfl rfl (info9).1 (info9).2.1 rfl rfl rfl ?_
  intro w98 hB99 hS100
  have hb101 : Below B w w98 := Below.trans hb93 hB99
  have hL102 : B ≤ w98.heap.size := Nat.le_trans hL94 hB99.size
  refine WL.sub [(0, .slice a0' ((st69.2.2.set (Int.toNat st69.2.1) (SGood.mk x88 x96.OnHand x96.Reserved x96.Least)).length) c0'), (1, .int .i64 st69.1), (5, .int .i64 st69.2.1), (15, .string (bs x88))] ⟨by first | (simp only [List.length_set]; done) | (simp only [List.length_set]; rfl), rfl, rfl, rfl, trivial⟩ ?_
  have hn103 : (st69.2.2.set (Int.toNat st69.2.1) (SGood.mk x88 x96.OnHand x96.Reserved x96.Least)).length = a_0.length := List.length_set.trans hn82
  refine WL.sub [(0, .slice a0' ((st69.2.2.set (Int.toNat st69.2.1) (SGood.mk x88 x96.OnHand x96.Reserved x96.Least)).length) c0'), (1, .int .i64 st69.1), (5, .int .i64 st69.2.1)] ⟨rfl, rfl, rfl, trivial⟩ ?_
  refine WL.nil ?_
  refine WQ.then_normal (hK87 _ _ _ ?_)
  refine WP.seq (fun K104 hK104 => ?_)
  refine WP.region ?_
  refine WL.runk 3 [0, 1, 5] [(0, .slice a0' ((st69.2.2.set (Int.toNat st69.2.1) (SGood.mk x88 x96.OnHand x96.Reserved x96.Least)).length) c0'), (1, .int .i64 (wI64 (st69.1 + 1))), (5, .int .i64 st69.2.1)] (by kernel_rfl) ?_
  refine WL.nil ?_
  refine WQ.then_normal (hK104 _ _ _ ?_)
  refine WP.seq (fun K105 hK105 => ?_)
  refine WP.region ?_
  refine WL.runk 3 [0, 1, 5, 20, 21, 22] [(0, .slice a0' ((st69.2.2.set (Int.toNat st69.2.1) (SGood.mk x88 x96.OnHand x96.Reserved x96.Least)).length) c0'), (1, .int .i64 (wI64 (st69.1 + 1))), (5, .int .i64 st69.2.1), (20, .slice a0' ((st69.2.2.set (Int.toNat st69.2.1) (SGood.mk x88 x96.OnHand x96.Reserved x96.Least)).length) c0'), (21, .int .i64 st69.2.1), (22, .int .i64 (wI64 (st69.1 + 1)))] (by kernel_rfl) ?_
  obtain ⟨x106, hx107, hm⟩ := bindE hm
  refine WL.st (.pointer (some (at_ a0' (Int.toNat st69.2.1 * 4)))) (ST.index (T := fGood.ty) (xs := (st69.2.2.set (Int.toNat st69.2.1) (SGood.mk x88 x96.OnHand x96.Reserved x96.Least))) (SH.rd (SH.front 0 hS100)) hx107 rfl rfl rfl Try.underlying25 (info56).1 (info56).2.1) rfl rfl rfl ?_
  refine WL.runk 1 [0, 1, 5, 22, 24] [(0, .slice a0' ((st69.2.2.set (Int.toNat st69.2.1) (SGood.mk x88 x96.OnHand x96.Reserved x96.Least)).length) c0'), (1, .int .i64 (wI64 (st69.1 + 1))), (5, .int .i64 st69.2.1), (22, .int .i64 (wI64 (st69.1 + 1))), (24, .pointer (some (at_ a0' (Int.toNat st69.2.1 * 4 + 1))))] (by kernel_rfl) ?_
  refine WL.store (F := fGood) (SGood.mk x106.Name (wI64 (st69.1 + 1)) x106.Reserved x106.Least) 1 [.int .i64 (wI64 (st69.1 + 1))] (SH.front 0 hS100) hL102 hx107 rfl rfl rfl rfl rfl rfl rfl (info2).1 (info2).2.1 rfl rfl rfl ?_
  intro w108 hB109 hS110
  have hb111 : Below B w w108 := Below.trans hb101 hB109
  have hL112 : B ≤ w108.heap.size := Nat.le_trans hL102 hB109.size
  refine WL.sub [(0, .slice a0' (((st69.2.2.set (Int.toNat st69.2.1) (SGood.mk x88 x96.OnHand x96.Reserved x96.Least)).set (Int.toNat st69.2.1) (SGood.mk x106.Name (wI64 (st69.1 + 1)) x106.Reserved x106.Least)).length) c0'), (1, .int .i64 (wI64 (st69.1 + 1))), (5, .int .i64 st69.2.1), (22, .int .i64 (wI64 (st69.1 + 1)))] ⟨by first | (simp only [List.length_set]; done) | (simp only [List.length_set]; rfl), rfl, rfl, rfl, trivial⟩ ?_
  have hn113 : ((st69.2.2.set (Int.toNat st69.2.1) (SGood.mk x88 x96.OnHand x96.Reserved x96.Least)).set (Int.toNat st69.2.1) (SGood.mk x106.Name (wI64 (st69.1 + 1)) x106.Reserved x106.Least)).length = a_0.length := List.length_set.trans hn103
  refine WL.sub [(0, .slice a0' (((st69.2.2.set (Int.toNat st69.2.1) (SGood.mk x88 x96.OnHand x96.Reserved x96.Least)).set (Int.toNat st69.2.1) (SGood.mk x106.Name (wI64 (st69.1 + 1)) x106.Reserved x106.Least)).length) c0'), (1, .int .i64 (wI64 (st69.1 + 1))), (5, .int .i64 st69.2.1)] ⟨rfl, rfl, rfl, trivial⟩ ?_
  refine WL.nil ?_
  refine WQ.then_normal (hK105 _ _ _ ?_)
  refine WP.seq (fun K114 hK114 => ?_)
  refine WP.region ?_
  refine WL.runk 3 [0, 1, 5] [(0, .slice a0' (((st69.2.2.set (Int.toNat st69.2.1) (SGood.mk x88 x96.OnHand x96.Reserved x96.Least)).set (Int.toNat st69.2.1) (SGood.mk x106.Name (wI64 (st69.1 + 1)) x106.Reserved x106.Least)).length) c0'), (1, .int .i64 (wI64 ((wI64 (st69.1 + 1)) + 1))), (5, .int .i64 st69.2.1)] (by kernel_rfl) ?_
  refine WL.nil ?_
  refine WQ.then_normal (hK114 _ _ _ ?_)
  refine WP.seq (fun K115 hK115 => ?_)
  refine WP.region ?_
  refine WL.runk 3 [0, 1, 5, 27, 28, 29] [(0, .slice a0' (((st69.2.2.set (Int.toNat st69.2.1) (SGood.mk x88 x96.OnHand x96.Reserved x96.Least)).set (Int.toNat st69.2.1) (SGood.mk x106.Name (wI64 (st69.1 + 1)) x106.Reserved x106.Least)).length) c0'), (1, .int .i64 (wI64 ((wI64 (st69.1 + 1)) + 1))), (5, .int .i64 st69.2.1), (27, .slice a0' (((st69.2.2.set (Int.toNat st69.2.1) (SGood.mk x88 x96.OnHand x96.Reserved x96.Least)).set (Int.toNat st69.2.1) (SGood.mk x106.Name (wI64 (st69.1 + 1)) x106.Reserved x106.Least)).length) c0'), (28, .int .i64 st69.2.1), (29, .int .i64 (wI64 ((wI64 (st69.1 + 1)) + 1)))] (by kernel_rfl) ?_
  obtain ⟨x116, hx117, hm⟩ := bindE hm
  refine WL.st (.pointer (some (at_ a0' (Int.toNat st69.2.1 * 4)))) (ST.index (T := fGood.ty) (xs := ((st69.2.2.set (Int.toNat st69.2.1) (SGood.mk x88 x96.OnHand x96.Reserved x96.Least)).set (Int.toNat st69.2.1) (SGood.mk x106.Name (wI64 (st69.1 + 1)) x106.Reserved x106.Least))) (SH.rd (SH.front 0 hS110)) hx117 rfl rfl rfl Try.underlying25 (info56).1 (info56).2.1) rfl rfl rfl ?_
  refine WL.runk 1 [0, 1, 5, 29, 31] [(0, .slice a0' (((st69.2.2.set (Int.toNat st69.2.1) (SGood.mk x88 x96.OnHand x96.Reserved x96.Least)).set (Int.toNat st69.2.1) (SGood.mk x106.Name (wI64 (st69.1 + 1)) x106.Reserved x106.Least)).length) c0'), (1, .int .i64 (wI64 ((wI64 (st69.1 + 1)) + 1))), (5, .int .i64 st69.2.1), (29, .int .i64 (wI64 ((wI64 (st69.1 + 1)) + 1))), (31, .pointer (some (at_ a0' (Int.toNat st69.2.1 * 4 + 2))))] (by kernel_rfl) ?_
  refine WL.store (F := fGood) (SGood.mk x116.Name x116.OnHand (wI64 ((wI64 (st69.1 + 1)) + 1)) x116.Least) 2 [.int .i64 (wI64 ((wI64 (st69.1 + 1)) + 1))] (SH.front 0 hS110) hL112 hx117 rfl rfl rfl rfl rfl rfl rfl (info2).1 (info2).2.1 rfl rfl rfl ?_
  intro w118 hB119 hS120
  have hb121 : Below B w w118 := Below.trans hb111 hB119
  have hL122 : B ≤ w118.heap.size := Nat.le_trans hL112 hB119.size
  refine WL.sub [(0, .slice a0' ((((st69.2.2.set (Int.toNat st69.2.1) (SGood.mk x88 x96.OnHand x96.Reserved x96.Least)).set (Int.toNat st69.2.1) (SGood.mk x106.Name (wI64 (st69.1 + 1)) x106.Reserved x106.Least)).set (Int.toNat st69.2.1) (SGood.mk x116.Name x116.OnHand (wI64 ((wI64 (st69.1 + 1)) + 1)) x116.Least)).length) c0'), (1, .int .i64 (wI64 ((wI64 (st69.1 + 1)) + 1))), (5, .int .i64 st69.2.1), (29, .int .i64 (wI64 ((wI64 (st69.1 + 1)) + 1)))] ⟨by first | (simp only [List.length_set]; done) | (simp only [List.length_set]; rfl), rfl, rfl, rfl, trivial⟩ ?_
  have hn123 : (((st69.2.2.set (Int.toNat st69.2.1) (SGood.mk x88 x96.OnHand x96.Reserved x96.Least)).set (Int.toNat st69.2.1) (SGood.mk x106.Name (wI64 (st69.1 + 1)) x106.Reserved x106.Least)).set (Int.toNat st69.2.1) (SGood.mk x116.Name x116.OnHand (wI64 ((wI64 (st69.1 + 1)) + 1)) x116.Least)).length = a_0.length := List.length_set.trans hn113
  refine WL.sub [(0, .slice a0' ((((st69.2.2.set (Int.toNat st69.2.1) (SGood.mk x88 x96.OnHand x96.Reserved x96.Least)).set (Int.toNat st69.2.1) (SGood.mk x106.Name (wI64 (st69.1 + 1)) x106.Reserved x106.Least)).set (Int.toNat st69.2.1) (SGood.mk x116.Name x116.OnHand (wI64 ((wI64 (st69.1 + 1)) + 1)) x116.Least)).length) c0'), (1, .int .i64 (wI64 ((wI64 (st69.1 + 1)) + 1))), (5, .int .i64 st69.2.1)] ⟨rfl, rfl, rfl, trivial⟩ ?_
  refine WL.nil ?_
  refine WQ.then_normal (hK115 _ _ _ ?_)
  refine WP.seq (fun K124 hK124 => ?_)
  refine WP.region ?_
  refine WL.runk 3 [0, 1, 5] [(0, .slice a0' ((((st69.2.2.set (Int.toNat st69.2.1) (SGood.mk x88 x96.OnHand x96.Reserved x96.Least)).set (Int.toNat st69.2.1) (SGood.mk x106.Name (wI64 (st69.1 + 1)) x106.Reserved x106.Least)).set (Int.toNat st69.2.1) (SGood.mk x116.Name x116.OnHand (wI64 ((wI64 (st69.1 + 1)) + 1)) x116.Least)).length) c0'), (1, .int .i64 (wI64 ((wI64 ((wI64 (st69.1 + 1)) + 1)) + 1))), (5, .int .i64 st69.2.1)] (by kernel_rfl) ?_
  refine WL.nil ?_
  refine WQ.then_normal (hK124 _ _ _ ?_)
  refine WP.seq (fun K125 hK125 => ?_)
  refine WP.region ?_
  refine WL.runk 3 [0, 1, 5, 34, 35, 36] [(0, .slice a0' ((((st69.2.2.set (Int.toNat st69.2.1) (SGood.mk x88 x96.OnHand x96.Reserved x96.Least)).set (Int.toNat st69.2.1) (SGood.mk x106.Name (wI64 (st69.1 + 1)) x106.Reserved x106.Least)).set (Int.toNat st69.2.1) (SGood.mk x116.Name x116.OnHand (wI64 ((wI64 (st69.1 + 1)) + 1)) x116.Least)).length) c0'), (1, .int .i64 (wI64 ((wI64 ((wI64 (st69.1 + 1)) + 1)) + 1))), (5, .int .i64 st69.2.1), (34, .slice a0' ((((st69.2.2.set (Int.toNat st69.2.1) (SGood.mk x88 x96.OnHand x96.Reserved x96.Least)).set (Int.toNat st69.2.1) (SGood.mk x106.Name (wI64 (st69.1 + 1)) x106.Reserved x106.Least)).set (Int.toNat st69.2.1) (SGood.mk x116.Name x116.OnHand (wI64 ((wI64 (st69.1 + 1)) + 1)) x116.Least)).length) c0'), (35, .int .i64 st69.2.1), (36, .int .i64 (wI64 ((wI64 ((wI64 (st69.1 + 1)) + 1)) + 1)))] (by kernel_rfl) ?_
  obtain ⟨x126, hx127, hm⟩ := bindE hm
  refine WL.st (.pointer (some (at_ a0' (Int.toNat st69.2.1 * 4)))) (ST.index (T := fGood.ty) (xs := (((st69.2.2.set (Int.toNat st69.2.1) (SGood.mk x88 x96.OnHand x96.Reserved x96.Least)).set (Int.toNat st69.2.1) (SGood.mk x106.Name (wI64 (st69.1 + 1)) x106.Reserved x106.Least)).set (Int.toNat st69.2.1) (SGood.mk x116.Name x116.OnHand (wI64 ((wI64 (st69.1 + 1)) + 1)) x116.Least))) (SH.rd (SH.front 0 hS120)) hx127 rfl rfl rfl Try.underlying25 (info56).1 (info56).2.1) rfl rfl rfl ?_
  refine WL.runk 1 [0, 1, 5, 36, 38] [(0, .slice a0' ((((st69.2.2.set (Int.toNat st69.2.1) (SGood.mk x88 x96.OnHand x96.Reserved x96.Least)).set (Int.toNat st69.2.1) (SGood.mk x106.Name (wI64 (st69.1 + 1)) x106.Reserved x106.Least)).set (Int.toNat st69.2.1) (SGood.mk x116.Name x116.OnHand (wI64 ((wI64 (st69.1 + 1)) + 1)) x116.Least)).length) c0'), (1, .int .i64 (wI64 ((wI64 ((wI64 (st69.1 + 1)) + 1)) + 1))), (5, .int .i64 st69.2.1), (36, .int .i64 (wI64 ((wI64 ((wI64 (st69.1 + 1)) + 1)) + 1))), (38, .pointer (some (at_ a0' (Int.toNat st69.2.1 * 4 + 3))))] (by kernel_rfl) ?_
  refine WL.store (F := fGood) (SGood.mk x126.Name x126.OnHand x126.Reserved (wI64 ((wI64 ((wI64 (st69.1 + 1)) + 1)) + 1))) 3 [.int .i64 (wI64 ((wI64 ((wI64 (st69.1 + 1)) + 1)) + 1))] (SH.front 0 hS120) hL122 hx127 rfl rfl rfl rfl rfl rfl rfl (info2).1 (info2).2.1 rfl rfl rfl ?_
  intro w128 hB129 hS130
  have hb131 : Below B w w128 := Below.trans hb121 hB129
  have hL132 : B ≤ w128.heap.size := Nat.le_trans hL122 hB129.size
  refine WL.sub [(0, .slice a0' (((((st69.2.2.set (Int.toNat st69.2.1) (SGood.mk x88 x96.OnHand x96.Reserved x96.Least)).set (Int.toNat st69.2.1) (SGood.mk x106.Name (wI64 (st69.1 + 1)) x106.Reserved x106.Least)).set (Int.toNat st69.2.1) (SGood.mk x116.Name x116.OnHand (wI64 ((wI64 (st69.1 + 1)) + 1)) x116.Least)).set (Int.toNat st69.2.1) (SGood.mk x126.Name x126.OnHand x126.Reserved (wI64 ((wI64 ((wI64 (st69.1 + 1)) + 1)) + 1)))).length) c0'), (1, .int .i64 (wI64 ((wI64 ((wI64 (st69.1 + 1)) + 1)) + 1))), (5, .int .i64 st69.2.1), (36, .int .i64 (wI64 ((wI64 ((wI64 (st69.1 + 1)) + 1)) + 1)))] ⟨by first | (simp only [List.length_set]; done) | (simp only [List.length_set]; rfl), rfl, rfl, rfl, trivial⟩ ?_
  have hn133 : ((((st69.2.2.set (Int.toNat st69.2.1) (SGood.mk x88 x96.OnHand x96.Reserved x96.Least)).set (Int.toNat st69.2.1) (SGood.mk x106.Name (wI64 (st69.1 + 1)) x106.Reserved x106.Least)).set (Int.toNat st69.2.1) (SGood.mk x116.Name x116.OnHand (wI64 ((wI64 (st69.1 + 1)) + 1)) x116.Least)).set (Int.toNat st69.2.1) (SGood.mk x126.Name x126.OnHand x126.Reserved (wI64 ((wI64 ((wI64 (st69.1 + 1)) + 1)) + 1)))).length = a_0.length := List.length_set.trans hn123
  refine WL.sub [(0, .slice a0' (((((st69.2.2.set (Int.toNat st69.2.1) (SGood.mk x88 x96.OnHand x96.Reserved x96.Least)).set (Int.toNat st69.2.1) (SGood.mk x106.Name (wI64 (st69.1 + 1)) x106.Reserved x106.Least)).set (Int.toNat st69.2.1) (SGood.mk x116.Name x116.OnHand (wI64 ((wI64 (st69.1 + 1)) + 1)) x116.Least)).set (Int.toNat st69.2.1) (SGood.mk x126.Name x126.OnHand x126.Reserved (wI64 ((wI64 ((wI64 (st69.1 + 1)) + 1)) + 1)))).length) c0'), (1, .int .i64 (wI64 ((wI64 ((wI64 (st69.1 + 1)) + 1)) + 1))), (5, .int .i64 st69.2.1)] ⟨rfl, rfl, rfl, trivial⟩ ?_
  refine WL.nil ?_
  refine WQ.then_normal (hK125 _ _ _ ?_)
  refine WP.region ?_
  refine WL.runk 3 [0, 1, 5] [(0, .slice a0' (((((st69.2.2.set (Int.toNat st69.2.1) (SGood.mk x88 x96.OnHand x96.Reserved x96.Least)).set (Int.toNat st69.2.1) (SGood.mk x106.Name (wI64 (st69.1 + 1)) x106.Reserved x106.Least)).set (Int.toNat st69.2.1) (SGood.mk x116.Name x116.OnHand (wI64 ((wI64 (st69.1 + 1)) + 1)) x116.Least)).set (Int.toNat st69.2.1) (SGood.mk x126.Name x126.OnHand x126.Reserved (wI64 ((wI64 ((wI64 (st69.1 + 1)) + 1)) + 1)))).length) c0'), (1, .int .i64 (wI64 ((wI64 ((wI64 ((wI64 (st69.1 + 1)) + 1)) + 1)) + 1))), (5, .int .i64 st69.2.1)] (by kernel_rfl) ?_
  refine WL.nil ?_
  refine WQ.block_normal ?_
  refine WQ.then_normal (hK86 _ _ _ ?_)
  refine WP.region ?_
  refine WL.runk 3 [0, 1, 5] [(0, .slice a0' (((((st69.2.2.set (Int.toNat st69.2.1) (SGood.mk x88 x96.OnHand x96.Reserved x96.Least)).set (Int.toNat st69.2.1) (SGood.mk x106.Name (wI64 (st69.1 + 1)) x106.Reserved x106.Least)).set (Int.toNat st69.2.1) (SGood.mk x116.Name x116.OnHand (wI64 ((wI64 (st69.1 + 1)) + 1)) x116.Least)).set (Int.toNat st69.2.1) (SGood.mk x126.Name x126.OnHand x126.Reserved (wI64 ((wI64 ((wI64 (st69.1 + 1)) + 1)) + 1)))).length) c0'), (1, .int .i64 (wI64 ((wI64 ((wI64 ((wI64 (st69.1 + 1)) + 1)) + 1)) + 1))), (5, .int .i64 (wI64 (st69.2.1 + 1)))] (by kernel_rfl) ?_
  refine WL.nil ?_
  obtain rfl := Option.some.inj hm
  exact WQ.round hK76 ⟨((wI64 ((wI64 ((wI64 ((wI64 (st69.1 + 1)) + 1)) + 1)) + 1)), (wI64 (st69.2.1 + 1)), ((((st69.2.2.set (Int.toNat st69.2.1) (SGood.mk x88 x96.OnHand x96.Reserved x96.Least)).set (Int.toNat st69.2.1) (SGood.mk x106.Name (wI64 (st69.1 + 1)) x106.Reserved x106.Least)).set (Int.toNat st69.2.1) (SGood.mk x116.Name x116.OnHand (wI64 ((wI64 (st69.1 + 1)) + 1)) x116.Least)).set (Int.toNat st69.2.1) (SGood.mk x126.Name x126.OnHand x126.Reserved (wI64 ((wI64 ((wI64 (st69.1 + 1)) + 1)) + 1))))), rfl, hb131, hL132, hS130, hn133, hl74⟩ (Nat.lt_succ_self _) ⟨rfl, rfl, rfl, trivial⟩

theorem c_24 (n : Nat) (a_0 : List STake) (a0' : Option Addr) (c0' : Nat) (k_1 : Int) (w : World) (w0 : World) (B : Nat) (L : List Asrt) {r : Int × List STake} (hm : m_laws_markTakeS n a_0 k_1 = some r) (_hE0 : Ext w0 w) (_hW : w0.heap.size ≤ B) (hL : B ≤ w.heap.size) (hS : SH w B (aOwn fTake 43 a0' c0' a_0 :: L)) :
    CallV Try.prog 24 #[.slice a0' a_0.length c0', .int .i64 k_1] w (fun v w' => v = .int .i64 r.1 ∧ Below B w w' ∧ SH w' B (aOwn fTake 43 a0' c0' r.2 :: L) ∧ r.2.length = a_0.length) := by
  unfold m_laws_markTakeS at hm
  refine CallV.enter Try.func24 rfl (by kernel_rfl) Try.ntmps24 (env := [(0, .slice a0' a_0.length c0'), (1, .int .i64 k_1)]) ⟨rfl, rfl, trivial⟩ ?_
  refine WP.seq (fun K1 hK1 => ?_)
  refine WP.region ?_
  refine WL.runk 1 [0, 1] [(0, .slice a0' a_0.length c0'), (1, .int .i64 k_1)] (by kernel_rfl) ?_
  refine WL.nil ?_
  refine WQ.then_normal (hK1 _ _ _ ?_)
  refine WP.seq (fun K2 hK2 => ?_)
  refine WP.seq (fun K3 hK3 => ?_)
  refine WP.region ?_
  refine WL.runk 1 [0, 1, 5] [(0, .slice a0' a_0.length c0'), (1, .int .i64 k_1), (5, .int .i64 0)] (by kernel_rfl) ?_
  refine WL.nil ?_
  refine WQ.then_normal (hK3 _ _ _ ?_)
  refine WP.block ?_
  obtain ⟨t60, ht61, hm⟩ := bindE hm
  have hmo55 := hm; clear hm
  refine WP.sub [(0, .slice a0' a_0.length c0'), (1, .int .i64 k_1), (5, .int .i64 0)] ⟨rfl, rfl, rfl, trivial⟩ ?_
  refine WP.loop (fun n' env' w' => ∃ (st49 : Int × Int × List STake) , env' = [(0, .slice a0' st49.2.2.length c0'), (1, .int .i64 st49.1), (5, .int .i64 st49.2.1)] ∧ Below B w w' ∧ B ≤ w'.heap.size ∧ SH w' B (aOwn fTake 43 a0' c0' st49.2.2 :: L) ∧ st49.2.2.length = a_0.length ∧ loopN (m_laws_markTakeS_l1 n) n' st49 = some t60) n ⟨(k_1, 0, a_0), rfl, (Below.refl _ _), hL, hS, rfl, ht61⟩ ?_
  rintro n57 _ w50 ⟨st49, rfl, hb51, hL52, hS53, hn62, hl54⟩ K56 hK56
  obtain ⟨n58, s59, rfl, hm, hl54⟩ := loopN_some hl54
  unfold m_laws_markTakeS_l1 at hm
  refine WP.seq (fun K63 hK63 => ?_)
  refine WP.seq (fun K64 hK64 => ?_)
  refine WP.region ?_
  refine WL.runk 4 [0, 1, 5, 9] [(0, .slice a0' st49.2.2.length c0'), (1, .int .i64 st49.1), (5, .int .i64 st49.2.1), (9, .bool (decide (st49.2.1 < (st49.2.2.length : Int))))] (by kernel_rfl) ?_
  refine WL.nil ?_
  refine WQ.then_normal (hK64 _ _ _ ?_)
  refine WP.cond (decide (st49.2.1 < (st49.2.2.length : Int))) rfl rfl (fun hc65 => ?_) (fun hc65 => ?_)
  rotate_left
  · have hm := iteF hm hc65
    refine WP.exit ?_
    refine WQ.then_exit ?_
    refine WQ.then_exit ?_
    refine WQ.block_here ?_
    obtain rfl := Option.some.inj hm
    obtain rfl := afterN_done hl54
    have hm := hmo55
    refine WQ.then_normal (hK2 _ _ _ ?_)
    refine WP.seq (fun K94 hK94 => ?_)
    refine WP.region ?_
    refine WL.runk 2 [4] [(4, .int .i64 st49.1)] (by kernel_rfl) ?_
    refine WL.nil ?_
    refine WQ.then_normal (hK94 _ _ _ ?_)
    refine WP.ret ?_
    obtain rfl := Option.some.inj hm
    exact WQ.ret1 _ rfl rfl ⟨rfl, hb51, hS53, hn62⟩
  have hm := iteT hm hc65
  refine WP.skip ?_
  refine WQ.then_normal (hK63 _ _ _ ?_)
  refine WP.seq (fun K66 hK66 => ?_)
  refine WP.block ?_
  refine WP.seq (fun K67 hK67 => ?_)
  refine WP.region ?_
  refine WL.runk 3 [0, 1, 5, 12, 13, 14] [(0, .slice a0' st49.2.2.length c0'), (1, .int .i64 st49.1), (5, .int .i64 st49.2.1), (12, .slice a0' st49.2.2.length c0'), (13, .int .i64 st49.2.1), (14, .int .i64 st49.1)] (by kernel_rfl) ?_
  obtain ⟨x68, hx69, hm⟩ := bindE hm
  refine WL.call 55 #[.int .i64 st49.1] rfl rfl (by kernel_rfl) (c_55 n st49.1 w50 hx69 ) ?_
  rintro _ w70 ⟨rfl, hE71⟩
  refine ⟨_, rfl, ?_⟩
  have hb73 : Below B w w70 := Below.trans hb51 (Below.mono hE71 hL52)
  have hL74 : B ≤ w70.heap.size := Nat.le_trans hL52 hE71.size
  have hS75 : SH w70 B (aOwn fTake 43 a0' c0' st49.2.2 :: L) := SH.ext hS53 hE71
  obtain ⟨x76, hx77, hm⟩ := bindE hm
  refine WL.st (.pointer (some (at_ a0' (Int.toNat st49.2.1 * 2)))) (ST.index (T := fTake.ty) (xs := st49.2.2) (SH.rd (SH.front 0 hS75)) hx77 rfl rfl rfl Try.underlying30 (info43).1 (info43).2.1) rfl rfl rfl ?_
  refine WL.runk 1 [0, 1, 5, 15, 17] [(0, .slice a0' st49.2.2.length c0'), (1, .int .i64 st49.1), (5, .int .i64 st49.2.1), (15, .string (bs x68)), (17, .pointer (some (at_ a0' (Int.toNat st49.2.1 * 2))))] (by kernel_rfl) ?_
  refine WL.store (F := fTake) (STake.mk x68 x76.Many) 0 [.string (bs x68)] (SH.front 0 hS75) hL74 hx77 rfl rfl rfl rfl rfl rfl rfl (info9).1 (info9).2.1 rfl rfl rfl ?_
  intro w78 hB79 hS80
  have hb81 : Below B w w78 := Below.trans hb73 hB79
  have hL82 : B ≤ w78.heap.size := Nat.le_trans hL74 hB79.size
  refine WL.sub [(0, .slice a0' ((st49.2.2.set (Int.toNat st49.2.1) (STake.mk x68 x76.Many)).length) c0'), (1, .int .i64 st49.1), (5, .int .i64 st49.2.1), (15, .string (bs x68))] ⟨by first | (simp only [List.length_set]; done) | (simp only [List.length_set]; rfl), rfl, rfl, rfl, trivial⟩ ?_
  have hn83 : (st49.2.2.set (Int.toNat st49.2.1) (STake.mk x68 x76.Many)).length = a_0.length := List.length_set.trans hn62
  refine WL.sub [(0, .slice a0' ((st49.2.2.set (Int.toNat st49.2.1) (STake.mk x68 x76.Many)).length) c0'), (1, .int .i64 st49.1), (5, .int .i64 st49.2.1)] ⟨rfl, rfl, rfl, trivial⟩ ?_
  refine WL.nil ?_
  refine WQ.then_normal (hK67 _ _ _ ?_)
  refine WP.seq (fun K84 hK84 => ?_)
  refine WP.region ?_
  refine WL.runk 3 [0, 1, 5] [(0, .slice a0' ((st49.2.2.set (Int.toNat st49.2.1) (STake.mk x68 x76.Many)).length) c0'), (1, .int .i64 (wI64 (st49.1 + 1))), (5, .int .i64 st49.2.1)] (by kernel_rfl) ?_
  refine WL.nil ?_
  refine WQ.then_normal (hK84 _ _ _ ?_)
  refine WP.seq (fun K85 hK85 => ?_)
  refine WP.region ?_
  refine WL.runk 3 [0, 1, 5, 20, 21, 22] [(0, .slice a0' ((st49.2.2.set (Int.toNat st49.2.1) (STake.mk x68 x76.Many)).length) c0'), (1, .int .i64 (wI64 (st49.1 + 1))), (5, .int .i64 st49.2.1), (20, .slice a0' ((st49.2.2.set (Int.toNat st49.2.1) (STake.mk x68 x76.Many)).length) c0'), (21, .int .i64 st49.2.1), (22, .int .i64 (wI64 (st49.1 + 1)))] (by kernel_rfl) ?_
  obtain ⟨x86, hx87, hm⟩ := bindE hm
  refine WL.st (.pointer (some (at_ a0' (Int.toNat st49.2.1 * 2)))) (ST.index (T := fTake.ty) (xs := (st49.2.2.set (Int.toNat st49.2.1) (STake.mk x68 x76.Many))) (SH.rd (SH.front 0 hS80)) hx87 rfl rfl rfl Try.underlying30 (info43).1 (info43).2.1) rfl rfl rfl ?_
  refine WL.runk 1 [0, 1, 5, 22, 24] [(0, .slice a0' ((st49.2.2.set (Int.toNat st49.2.1) (STake.mk x68 x76.Many)).length) c0'), (1, .int .i64 (wI64 (st49.1 + 1))), (5, .int .i64 st49.2.1), (22, .int .i64 (wI64 (st49.1 + 1))), (24, .pointer (some (at_ a0' (Int.toNat st49.2.1 * 2 + 1))))] (by kernel_rfl) ?_
  refine WL.store (F := fTake) (STake.mk x86.Name (wI64 (st49.1 + 1))) 1 [.int .i64 (wI64 (st49.1 + 1))] (SH.front 0 hS80) hL82 hx87 rfl rfl rfl rfl rfl rfl rfl (info2).1 (info2).2.1 rfl rfl rfl ?_
  intro w88 hB89 hS90
  have hb91 : Below B w w88 := Below.trans hb81 hB89
  have hL92 : B ≤ w88.heap.size := Nat.le_trans hL82 hB89.size
  refine WL.sub [(0, .slice a0' (((st49.2.2.set (Int.toNat st49.2.1) (STake.mk x68 x76.Many)).set (Int.toNat st49.2.1) (STake.mk x86.Name (wI64 (st49.1 + 1)))).length) c0'), (1, .int .i64 (wI64 (st49.1 + 1))), (5, .int .i64 st49.2.1), (22, .int .i64 (wI64 (st49.1 + 1)))] ⟨by first | (simp only [List.length_set]; done) | (simp only [List.length_set]; rfl), rfl, rfl, rfl, trivial⟩ ?_
  have hn93 : ((st49.2.2.set (Int.toNat st49.2.1) (STake.mk x68 x76.Many)).set (Int.toNat st49.2.1) (STake.mk x86.Name (wI64 (st49.1 + 1)))).length = a_0.length := List.length_set.trans hn83
  refine WL.sub [(0, .slice a0' (((st49.2.2.set (Int.toNat st49.2.1) (STake.mk x68 x76.Many)).set (Int.toNat st49.2.1) (STake.mk x86.Name (wI64 (st49.1 + 1)))).length) c0'), (1, .int .i64 (wI64 (st49.1 + 1))), (5, .int .i64 st49.2.1)] ⟨rfl, rfl, rfl, trivial⟩ ?_
  refine WL.nil ?_
  refine WQ.then_normal (hK85 _ _ _ ?_)
  refine WP.region ?_
  refine WL.runk 3 [0, 1, 5] [(0, .slice a0' (((st49.2.2.set (Int.toNat st49.2.1) (STake.mk x68 x76.Many)).set (Int.toNat st49.2.1) (STake.mk x86.Name (wI64 (st49.1 + 1)))).length) c0'), (1, .int .i64 (wI64 ((wI64 (st49.1 + 1)) + 1))), (5, .int .i64 st49.2.1)] (by kernel_rfl) ?_
  refine WL.nil ?_
  refine WQ.block_normal ?_
  refine WQ.then_normal (hK66 _ _ _ ?_)
  refine WP.region ?_
  refine WL.runk 3 [0, 1, 5] [(0, .slice a0' (((st49.2.2.set (Int.toNat st49.2.1) (STake.mk x68 x76.Many)).set (Int.toNat st49.2.1) (STake.mk x86.Name (wI64 (st49.1 + 1)))).length) c0'), (1, .int .i64 (wI64 ((wI64 (st49.1 + 1)) + 1))), (5, .int .i64 (wI64 (st49.2.1 + 1)))] (by kernel_rfl) ?_
  refine WL.nil ?_
  obtain rfl := Option.some.inj hm
  exact WQ.round hK56 ⟨((wI64 ((wI64 (st49.1 + 1)) + 1)), (wI64 (st49.2.1 + 1)), ((st49.2.2.set (Int.toNat st49.2.1) (STake.mk x68 x76.Many)).set (Int.toNat st49.2.1) (STake.mk x86.Name (wI64 (st49.1 + 1))))), rfl, hb91, hL92, hS90, hn93, hl54⟩ (Nat.lt_succ_self _) ⟨rfl, rfl, rfl, trivial⟩

theorem c_64 (n : Nat) (list_0 : List SGood) (a0' : Option Addr) (c0' : Nat) (name_1 : List UInt8) (w : World) {r : Int} (hm : m_spec_l23Find n list_0 name_1 = some r) (h0 : Rd fGood.ty w a0' list_0) (_hle0 : list_0.length ≤ c0') :
    CallV Try.prog 64 #[.slice a0' list_0.length c0', .string (bs name_1)] w (fun v w' => v = .int .i64 r ∧ Ext w w') := by
  unfold m_spec_l23Find at hm
  refine CallV.enter Try.func64 rfl (by kernel_rfl) Try.ntmps64 (env := [(0, .slice a0' list_0.length c0'), (1, .string (bs name_1))]) ⟨rfl, rfl, trivial⟩ ?_
  refine WP.seq (fun K1 hK1 => ?_)
  refine WP.region ?_
  refine WL.runk 1 [0, 1] [(0, .slice a0' list_0.length c0'), (1, .string (bs name_1))] (by kernel_rfl) ?_
  refine WL.nil ?_
  refine WQ.then_normal (hK1 _ _ _ ?_)
  refine WP.seq (fun K2 hK2 => ?_)
  refine WP.seq (fun K3 hK3 => ?_)
  refine WP.region ?_
  refine WL.runk 1 [0, 1, 5] [(0, .slice a0' list_0.length c0'), (1, .string (bs name_1)), (5, .int .i64 0)] (by kernel_rfl) ?_
  refine WL.nil ?_
  refine WQ.then_normal (hK3 _ _ _ ?_)
  refine WP.block ?_
  obtain ⟨t15, ht16, hm⟩ := bindE hm
  have hmo10 := hm; clear hm
  refine WP.sub [(0, .slice a0' list_0.length c0'), (1, .string (bs name_1)), (5, .int .i64 0)] ⟨rfl, rfl, rfl, trivial⟩ ?_
  refine WP.loop (fun n' env' w' => ∃ (st4 : Int) , env' = [(0, .slice a0' list_0.length c0'), (1, .string (bs name_1)), (5, .int .i64 st4)] ∧ Ext w w' ∧ w.heap.size ≤ w'.heap.size ∧ SH w' w.heap.size [] ∧ loopN (m_spec_l23Find_l1 n list_0 name_1) n' st4 = some t15) n ⟨0, rfl, (Ext.refl w), (Nat.le_refl _), (SH.nil _ _), ht16⟩ ?_
  rintro n12 _ w5 ⟨st4, rfl, hb6, hL7, hS8, hl9⟩ K11 hK11
  obtain ⟨n13, s14, rfl, hm, hl9⟩ := loopN_some hl9
  unfold m_spec_l23Find_l1 at hm
  refine WP.seq (fun K17 hK17 => ?_)
  refine WP.seq (fun K18 hK18 => ?_)
  refine WP.region ?_
  refine WL.runk 4 [0, 1, 5, 9] [(0, .slice a0' list_0.length c0'), (1, .string (bs name_1)), (5, .int .i64 st4), (9, .bool (decide (st4 < (list_0.length : Int))))] (by kernel_rfl) ?_
  refine WL.nil ?_
  refine WQ.then_normal (hK18 _ _ _ ?_)
  refine WP.cond (decide (st4 < (list_0.length : Int))) rfl rfl (fun hc19 => ?_) (fun hc19 => ?_)
  rotate_left
  · have hm := iteF hm hc19
    refine WP.exit ?_
    refine WQ.then_exit ?_
    refine WQ.then_exit ?_
    refine WQ.block_here ?_
    obtain rfl := Option.some.inj hm
    obtain rfl := afterN_done hl9
    have hm := hmo10
    refine WQ.then_normal (hK2 _ _ _ ?_)
    refine WP.seq (fun K26 hK26 => ?_)
    refine WP.region ?_
    refine WL.runk 1 [4] [(4, .int .i64 (-1))] (by kernel_rfl) ?_
    refine WL.nil ?_
    refine WQ.then_normal (hK26 _ _ _ ?_)
    refine WP.ret ?_
    obtain rfl := Option.some.inj hm
    exact WQ.ret1 _ rfl rfl ⟨rfl, hb6⟩
  have hm := iteT hm hc19
  refine WP.skip ?_
  refine WQ.then_normal (hK17 _ _ _ ?_)
  refine WP.seq (fun K20 hK20 => ?_)
  refine WP.block ?_
  refine WP.seq (fun K21 hK21 => ?_)
  refine WP.region ?_
  refine WL.runk 2 [0, 1, 5, 12, 13] [(0, .slice a0' list_0.length c0'), (1, .string (bs name_1)), (5, .int .i64 st4), (12, .slice a0' list_0.length c0'), (13, .int .i64 st4)] (by kernel_rfl) ?_
  obtain ⟨x22, hx23, hm⟩ := bindE hm
  refine WL.st (.pointer (some (at_ a0' (Int.toNat st4 * 4)))) (ST.index (T := fGood.ty) (xs := list_0) (Rd.below h0 hb6) hx23 rfl rfl rfl Try.underlying25 (info56).1 (info56).2.1) rfl rfl rfl ?_
  refine WL.runk 1 [0, 1, 5, 15] [(0, .slice a0' list_0.length c0'), (1, .string (bs name_1)), (5, .int .i64 st4), (15, .pointer (some (at_ a0' (Int.toNat st4 * 4))))] (by kernel_rfl) ?_
  refine WL.st (.string (bs x22.Name)) (ST.load (cell_ext (Rd.flat (F := fGood) (Rd.below h0 hb6) hx23 0 rfl)) rfl rfl Try.underlying9 rfl) rfl rfl rfl ?_
  refine WL.runk 1 [0, 1, 5, 16, 17] [(0, .slice a0' list_0.length c0'), (1, .string (bs name_1)), (5, .int .i64 st4), (16, .string (bs x22.Name)), (17, .string (bs name_1))] (by kernel_rfl) ?_
  refine WL.st (.bool (x22.Name == name_1)) (ST.streq (x := x22.Name) (y := name_1) rfl rfl rfl) rfl rfl rfl ?_
  refine WL.sub [(0, .slice a0' list_0.length c0'), (1, .string (bs name_1)), (5, .int .i64 st4), (18, .bool (x22.Name == name_1))] ⟨rfl, rfl, rfl, rfl, trivial⟩ ?_
  refine WL.nil ?_
  refine WQ.then_normal (hK21 _ _ _ ?_)
  refine WP.cond (x22.Name == name_1) rfl rfl (fun hc24 => ?_) (fun hc24 => ?_)
  rotate_left
  · have hm := iteF hm hc24
    refine WP.skip ?_
    refine WQ.block_normal ?_
    refine WQ.then_normal (hK20 _ _ _ ?_)
    refine WP.region ?_
    refine WL.runk 3 [0, 1, 5] [(0, .slice a0' list_0.length c0'), (1, .string (bs name_1)), (5, .int .i64 (wI64 (st4 + 1)))] (by kernel_rfl) ?_
    refine WL.nil ?_
    obtain rfl := Option.some.inj hm
    exact WQ.round hK11 ⟨(wI64 (st4 + 1)), rfl, hb6, hL7, hS8, hl9⟩ (Nat.lt_succ_self _) ⟨rfl, rfl, rfl, trivial⟩
  have hm := iteT hm hc24
  refine WP.seq (fun K25 hK25 => ?_)
  refine WP.region ?_
  refine WL.runk 2 [4] [(4, .int .i64 st4)] (by kernel_rfl) ?_
  refine WL.nil ?_
  refine WQ.then_normal (hK25 _ _ _ ?_)
  refine WP.ret ?_
  refine WQ.block_ret ?_
  refine WQ.then_ret ?_
  refine WQ.then_ret ?_
  refine WQ.block_ret ?_
  refine WQ.then_ret ?_
  obtain rfl := Option.some.inj hm
  obtain rfl := afterN_done hl9
  have hm := hmo10
  obtain rfl := Option.some.inj hm
  exact WQ.ret1 _ rfl rfl ⟨rfl, hb6⟩

theorem c_94 (n : Nat) (x_0 : List UInt8) (w : World) {r : Bool} (hm : m_cmp_isNaN_string n x_0 = some r)  :
    CallV Try.prog 94 #[.string (bs x_0)] w (fun v w' => v = .bool r ∧ Ext w w') := by
  unfold m_cmp_isNaN_string at hm
  refine CallV.enter Try.func94 rfl (by kernel_rfl) Try.ntmps94 (env := [(0, .string (bs x_0))]) ⟨rfl, trivial⟩ ?_
  refine WP.seq (fun K1 hK1 => ?_)
  refine WP.region ?_
  refine WL.runk 1 [0] [(0, .string (bs x_0))] (by kernel_rfl) ?_
  refine WL.nil ?_
  refine WQ.then_normal (hK1 _ _ _ ?_)
  refine WP.seq (fun K2 hK2 => ?_)
  refine WP.region ?_
  refine WL.runk 2 [3, 4] [(3, .string (bs x_0)), (4, .string (bs x_0))] (by kernel_rfl) ?_
  refine WL.st (.bool (!(x_0 == x_0))) (ST.strne (x := x_0) (y := x_0) rfl rfl rfl) rfl rfl rfl ?_
  refine WL.runk 1 [2] [(2, .bool (!(x_0 == x_0)))] (by kernel_rfl) ?_
  refine WL.nil ?_
  refine WQ.then_normal (hK2 _ _ _ ?_)
  refine WP.ret ?_
  obtain rfl := Option.some.inj hm
  exact WQ.ret1 _ rfl rfl ⟨rfl, (Ext.refl w)⟩

theorem c_85 (n : Nat) (x_0 : List UInt8) (y_1 : List UInt8) (w : World) {r : Int} (hm : m_cmp_Compare_string n x_0 y_1 = some r)  :
    CallV Try.prog 85 #[.string (bs x_0), .string (bs y_1)] w (fun v w' => v = .int .i64 r ∧ Ext w w') := by
  unfold m_cmp_Compare_string at hm
  refine CallV.enter Try.func85 rfl (by kernel_rfl) Try.ntmps85 (env := [(0, .string (bs x_0)), (1, .string (bs y_1))]) ⟨rfl, rfl, trivial⟩ ?_
  refine WP.seq (fun K1 hK1 => ?_)
  refine WP.region ?_
  refine WL.runk 1 [0, 1] [(0, .string (bs x_0)), (1, .string (bs y_1))] (by kernel_rfl) ?_
  refine WL.nil ?_
  refine WQ.then_normal (hK1 _ _ _ ?_)
  refine WP.seq (fun K2 hK2 => ?_)
  refine WP.region ?_
  refine WL.runk 1 [0, 1, 7] [(0, .string (bs x_0)), (1, .string (bs y_1)), (7, .string (bs x_0))] (by kernel_rfl) ?_
  obtain ⟨x3, hx4, hm⟩ := bindE hm
  refine WL.call 94 #[.string (bs x_0)] rfl rfl (by kernel_rfl) (c_94 n x_0 w hx4 ) ?_
  rintro _ w5 ⟨rfl, hE6⟩
  refine ⟨_, rfl, ?_⟩
  have hb8 : Ext w w5 := Ext.trans (Ext.refl w) hE6
  have hL9 : w.heap.size ≤ w5.heap.size := Nat.le_trans (Nat.le_refl _) hE6.size
  have hS10 : SH w5 w.heap.size [] := SH.ext (SH.nil _ _) hE6
  refine WL.runk 1 [0, 1, 5] [(0, .string (bs x_0)), (1, .string (bs y_1)), (5, .bool x3)] (by kernel_rfl) ?_
  refine WL.nil ?_
  refine WQ.then_normal (hK2 _ _ _ ?_)
  refine WP.seq (fun K11 hK11 => ?_)
  refine WP.region ?_
  refine WL.runk 1 [0, 1, 5, 9] [(0, .string (bs x_0)), (1, .string (bs y_1)), (5, .bool x3), (9, .string (bs y_1))] (by kernel_rfl) ?_
  obtain ⟨x12, hx13, hm⟩ := bindE hm
  refine WL.call 94 #[.string (bs y_1)] rfl rfl (by kernel_rfl) (c_94 n y_1 w5 hx13 ) ?_
  rintro _ w14 ⟨rfl, hE15⟩
  refine ⟨_, rfl, ?_⟩
  have hb17 : Ext w w14 := Ext.trans hb8 hE15
  have hL18 : w.heap.size ≤ w14.heap.size := Nat.le_trans hL9 hE15.size
  have hS19 : SH w14 w.heap.size [] := SH.ext hS10 hE15
  refine WL.runk 1 [0, 1, 5, 6] [(0, .string (bs x_0)), (1, .string (bs y_1)), (5, .bool x3), (6, .bool x12)] (by kernel_rfl) ?_
  refine WL.nil ?_
  refine WQ.then_normal (hK11 _ _ _ ?_)
  refine WP.seq (fun K20 hK20 => ?_)
  refine WP.seq (fun K21 hK21 => ?_)
  refine WP.region ?_
  refine WL.runk 1 [0, 1, 6, 11] [(0, .string (bs x_0)), (1, .string (bs y_1)), (6, .bool x12), (11, .bool x3)] (by kernel_rfl) ?_
  refine WL.nil ?_
  refine WQ.then_normal (hK21 _ _ _ ?_)
  refine WP.cond x3 rfl rfl (fun hc22 => ?_) (fun hc22 => ?_)
  · have hm := iteT hm hc22
    refine WP.seq (fun K23 hK23 => ?_)
    refine WP.seq (fun K24 hK24 => ?_)
    refine WP.region ?_
    refine WL.runk 1 [12] [(12, .bool x12)] (by kernel_rfl) ?_
    refine WL.nil ?_
    refine WQ.then_normal (hK24 _ _ _ ?_)
    refine WP.cond x12 rfl rfl (fun hc25 => ?_) (fun hc25 => ?_)
    · have hm := iteT hm hc25
      refine WP.seq (fun K26 hK26 => ?_)
      refine WP.region ?_
      refine WL.runk 1 [4] [(4, .int .i64 0)] (by kernel_rfl) ?_
      refine WL.nil ?_
      refine WQ.then_normal (hK26 _ _ _ ?_)
      refine WP.ret ?_
      refine WQ.then_ret ?_
      refine WQ.then_ret ?_
      obtain rfl := Option.some.inj hm
      exact WQ.ret1 _ rfl rfl ⟨rfl, hb17⟩
    have hm := iteF hm hc25
    refine WP.skip ?_
    refine WQ.then_normal (hK23 _ _ _ ?_)
    refine WP.seq (fun K27 hK27 => ?_)
    refine WP.region ?_
    refine WL.runk 1 [4] [(4, .int .i64 (-1))] (by kernel_rfl) ?_
    refine WL.nil ?_
    refine WQ.then_normal (hK27 _ _ _ ?_)
    refine WP.ret ?_
    refine WQ.then_ret ?_
    obtain rfl := Option.some.inj hm
    exact WQ.ret1 _ rfl rfl ⟨rfl, hb17⟩
  have hm := iteF hm hc22
  refine WP.skip ?_
  refine WQ.then_normal (hK20 _ _ _ ?_)
  refine WP.seq (fun K28 hK28 => ?_)
  refine WP.seq (fun K29 hK29 => ?_)
  refine WP.region ?_
  refine WL.runk 1 [0, 1, 13] [(0, .string (bs x_0)), (1, .string (bs y_1)), (13, .bool x12)] (by kernel_rfl) ?_
  refine WL.nil ?_
  refine WQ.then_normal (hK29 _ _ _ ?_)
  refine WP.cond x12 rfl rfl (fun hc30 => ?_) (fun hc30 => ?_)
  · have hm := iteT hm hc30
    refine WP.seq (fun K31 hK31 => ?_)
    refine WP.region ?_
    refine WL.runk 1 [4] [(4, .int .i64 1)] (by kernel_rfl) ?_
    refine WL.nil ?_
    refine WQ.then_normal (hK31 _ _ _ ?_)
    refine WP.ret ?_
    refine WQ.then_ret ?_
    obtain rfl := Option.some.inj hm
    exact WQ.ret1 _ rfl rfl ⟨rfl, hb17⟩
  have hm := iteF hm hc30
  refine WP.skip ?_
  refine WQ.then_normal (hK28 _ _ _ ?_)
  refine WP.seq (fun K32 hK32 => ?_)
  refine WP.seq (fun K33 hK33 => ?_)
  refine WP.region ?_
  refine WL.runk 2 [0, 1, 14, 15] [(0, .string (bs x_0)), (1, .string (bs y_1)), (14, .string (bs x_0)), (15, .string (bs y_1))] (by kernel_rfl) ?_
  refine WL.st (.bool (strLt x_0 y_1)) (ST.strlt (x := x_0) (y := y_1) rfl rfl rfl) rfl rfl rfl ?_
  refine WL.sub [(0, .string (bs x_0)), (1, .string (bs y_1)), (16, .bool (strLt x_0 y_1))] ⟨rfl, rfl, rfl, trivial⟩ ?_
  refine WL.nil ?_
  refine WQ.then_normal (hK33 _ _ _ ?_)
  refine WP.cond (strLt x_0 y_1) rfl rfl (fun hc34 => ?_) (fun hc34 => ?_)
  · have hm := iteT hm hc34
    refine WP.seq (fun K35 hK35 => ?_)
    refine WP.region ?_
    refine WL.runk 1 [4] [(4, .int .i64 (-1))] (by kernel_rfl) ?_
    refine WL.nil ?_
    refine WQ.then_normal (hK35 _ _ _ ?_)
    refine WP.ret ?_
    refine WQ.then_ret ?_
    obtain rfl := Option.some.inj hm
    exact WQ.ret1 _ rfl rfl ⟨rfl, hb17⟩
  have hm := iteF hm hc34
  refine WP.skip ?_
  refine WQ.then_normal (hK32 _ _ _ ?_)
  refine WP.seq (fun K36 hK36 => ?_)
  refine WP.seq (fun K37 hK37 => ?_)
  refine WP.region ?_
  refine WL.runk 2 [17, 18] [(17, .string (bs x_0)), (18, .string (bs y_1))] (by kernel_rfl) ?_
  refine WL.st (.bool (!(strLt x_0 y_1 || x_0 == y_1))) (ST.strgt (x := x_0) (y := y_1) rfl rfl rfl) rfl rfl rfl ?_
  refine WL.sub [(19, .bool (!(strLt x_0 y_1 || x_0 == y_1)))] ⟨rfl, trivial⟩ ?_
  refine WL.nil ?_
  refine WQ.then_normal (hK37 _ _ _ ?_)
  refine WP.cond (!(strLt x_0 y_1 || x_0 == y_1)) rfl rfl (fun hc38 => ?_) (fun hc38 => ?_)
  · have hm := iteT hm hc38
    refine WP.seq (fun K39 hK39 => ?_)
    refine WP.region ?_
    refine WL.runk 1 [4] [(4, .int .i64 1)] (by kernel_rfl) ?_
    refine WL.nil ?_
    refine WQ.then_normal (hK39 _ _ _ ?_)
    refine WP.ret ?_
    refine WQ.then_ret ?_
    obtain rfl := Option.some.inj hm
    exact WQ.ret1 _ rfl rfl ⟨rfl, hb17⟩
  have hm := iteF hm hc38
  refine WP.skip ?_
  refine WQ.then_normal (hK36 _ _ _ ?_)
  refine WP.seq (fun K40 hK40 => ?_)
  refine WP.region ?_
  refine WL.runk 1 [4] [(4, .int .i64 0)] (by kernel_rfl) ?_
  refine WL.nil ?_
  refine WQ.then_normal (hK40 _ _ _ ?_)
  refine WP.ret ?_
  obtain rfl := Option.some.inj hm
  exact WQ.ret1 _ rfl rfl ⟨rfl, hb17⟩

theorem c_84 (n : Nat) (g_0 : SGood) (name_1 : List UInt8) (w : World) {r : Int} (hm : m_impl_goodPlace_1 n g_0 name_1 = some r)  :
    CallV Try.prog 84 #[.agg #[.string (bs g_0.Name), .int .i64 g_0.OnHand, .int .i64 g_0.Reserved, .int .i64 g_0.Least], .string (bs name_1)] w (fun v w' => v = .int .i64 r ∧ Ext w w') := by
  unfold m_impl_goodPlace_1 at hm
  refine CallV.enter Try.func84 rfl (by kernel_rfl) Try.ntmps84 (env := [(0, .agg #[.string (bs g_0.Name), .int .i64 g_0.OnHand, .int .i64 g_0.Reserved, .int .i64 g_0.Least]), (1, .string (bs name_1))]) ⟨rfl, rfl, trivial⟩ ?_
  refine WP.seq (fun K1 hK1 => ?_)
  refine WP.region ?_
  refine WL.box 56 [.string (bs g_0.Name), .int .i64 g_0.OnHand, .int .i64 g_0.Reserved, .int .i64 g_0.Least] 2 (by kernel_rfl) rfl rfl rfl rfl ?_
  intro b2 w3 hE4 hR5
  have hb7 : Ext w w3 := Ext.trans (Ext.refl w) hE4
  have hL8 : w.heap.size ≤ w3.heap.size := Nat.le_trans (Nat.le_refl _) hE4.size
  have hS9 : SH w3 w.heap.size [aBox 56 b2 [.string (bs g_0.Name), .int .i64 g_0.OnHand, .int .i64 g_0.Reserved, .int .i64 g_0.Least]] := SH.add (SH.nil _ _) hE4 (Nat.le_refl _) hR5
  refine WL.runk 1 [1, 2] [(1, .string (bs name_1)), (2, .pointer (some ⟨b2, 0, none⟩))] (by kernel_rfl) ?_
  refine WL.nil ?_
  refine WQ.then_normal (hK1 _ _ _ ?_)
  refine WP.seq (fun K10 hK10 => ?_)
  refine WP.region ?_
  refine WL.runk 1 [1, 5] [(1, .string (bs name_1)), (5, .pointer (some ⟨b2, 0, none⟩))] (by kernel_rfl) ?_
  refine WL.st (.string (bs g_0.Name)) (ST.load (cell_ext (SH.boxAt (SH.front 0 hS9) 0 _ rfl)) rfl rfl Try.underlying9 rfl) rfl rfl rfl ?_
  refine WL.runk 1 [6, 7] [(6, .string (bs g_0.Name)), (7, .string (bs name_1))] (by kernel_rfl) ?_
  obtain ⟨x11, hx12, hm⟩ := bindE hm
  refine WL.call 85 #[.string (bs g_0.Name), .string (bs name_1)] rfl rfl (by kernel_rfl) (c_85 n g_0.Name name_1 w3 hx12 ) ?_
  rintro _ w13 ⟨rfl, hE14⟩
  refine ⟨_, rfl, ?_⟩
  have hb16 : Ext w w13 := Ext.trans hb7 hE14
  have hL17 : w.heap.size ≤ w13.heap.size := Nat.le_trans hL8 hE14.size
  have hS18 : SH w13 w.heap.size [aBox 56 b2 [.string (bs g_0.Name), .int .i64 g_0.OnHand, .int .i64 g_0.Reserved, .int .i64 g_0.Least]] := SH.ext hS9 hE14
  refine WL.runk 1 [4] [(4, .int .i64 x11)] (by kernel_rfl) ?_
  refine WL.nil ?_
  refine WQ.then_normal (hK10 _ _ _ ?_)
  refine WP.ret ?_
  obtain rfl := Option.some.inj hm
  exact WQ.ret1 _ rfl rfl ⟨rfl, hb16⟩

theorem c_83_84 (n : Nat) (x_0 : List SGood) (a0' : Option Addr) (c0' : Nat) (target_1 : List UInt8) (w : World) {r : Int × Bool} (hm : m_slices_BinarySearchFunc_impl_Good_impl_Good_string_f84 n x_0 target_1 = some r) (h0 : Rd fGood.ty w a0' x_0) (_hle0 : x_0.length ≤ c0') :
    CallV Try.prog 83 #[.slice a0' x_0.length c0', .string (bs target_1), .func (.func 84) #[] #[]] w (fun v w' => v = .tuple #[.int .i64 r.1, .bool r.2] ∧ Ext w w') := by
  unfold m_slices_BinarySearchFunc_impl_Good_impl_Good_string_f84 at hm
  refine CallV.enter Try.func83 rfl (by kernel_rfl) Try.ntmps83 (env := [(0, .slice a0' x_0.length c0'), (1, .string (bs target_1)), (2, .func (.func 84) #[] #[])]) ⟨rfl, rfl, rfl, trivial⟩ ?_
  refine WP.seq (fun K1 hK1 => ?_)
  refine WP.region ?_
  refine WL.runk 2 [0, 1, 2] [(0, .slice a0' x_0.length c0'), (1, .string (bs target_1)), (2, .func (.func 84) #[] #[])] (by kernel_rfl) ?_
  refine WL.nil ?_
  refine WQ.then_normal (hK1 _ _ _ ?_)
  refine WP.seq (fun K2 hK2 => ?_)
  refine WP.region ?_
  refine WL.runk 3 [0, 1, 2, 8] [(0, .slice a0' x_0.length c0'), (1, .string (bs target_1)), (2, .func (.func 84) #[] #[]), (8, .int .i64 (x_0.length : Int))] (by kernel_rfl) ?_
  refine WL.nil ?_
  refine WQ.then_normal (hK2 _ _ _ ?_)
  refine WP.seq (fun K3 hK3 => ?_)
  refine WP.region ?_
  refine WL.runk 3 [0, 1, 2, 8, 9, 10] [(0, .slice a0' x_0.length c0'), (1, .string (bs target_1)), (2, .func (.func 84) #[] #[]), (8, .int .i64 (x_0.length : Int)), (9, .int .i64 0), (10, .int .i64 (x_0.length : Int))] (by kernel_rfl) ?_
  refine WL.nil ?_
  refine WQ.then_normal (hK3 _ _ _ ?_)
  refine WP.seq (fun K4 hK4 => ?_)
  refine WP.block ?_
  obtain ⟨t16, ht17, hm⟩ := bindE hm
  have hmo11 := hm; clear hm
  refine WP.sub [(0, .slice a0' x_0.length c0'), (1, .string (bs target_1)), (2, .func (.func 84) #[] #[]), (8, .int .i64 (x_0.length : Int)), (9, .int .i64 0), (10, .int .i64 (x_0.length : Int))] ⟨rfl, rfl, rfl, rfl, rfl, rfl, trivial⟩ ?_
  refine WP.loop (fun n' env' w' => ∃ (st5 : Int × Int) , env' = [(0, .slice a0' x_0.length c0'), (1, .string (bs target_1)), (2, .func (.func 84) #[] #[]), (8, .int .i64 (x_0.length : Int)), (9, .int .i64 st5.1), (10, .int .i64 st5.2)] ∧ Ext w w' ∧ w.heap.size ≤ w'.heap.size ∧ SH w' w.heap.size [] ∧ loopN (m_slices_BinarySearchFunc_impl_Good_impl_Good_string_f84_l1 n x_0 target_1) n' st5 = some t16) n ⟨(0, (x_0.length : Int)), rfl, (Ext.refl w), (Nat.le_refl _), (SH.nil _ _), ht17⟩ ?_
  rintro n13 _ w6 ⟨st5, rfl, hb7, hL8, hS9, hl10⟩ K12 hK12
  obtain ⟨n14, s15, rfl, hm, hl10⟩ := loopN_some hl10
  unfold m_slices_BinarySearchFunc_impl_Good_impl_Good_string_f84_l1 at hm
  refine WP.seq (fun K18 hK18 => ?_)
  refine WP.seq (fun K19 hK19 => ?_)
  refine WP.region ?_
  refine WL.runk 3 [0, 1, 2, 8, 9, 10, 17] [(0, .slice a0' x_0.length c0'), (1, .string (bs target_1)), (2, .func (.func 84) #[] #[]), (8, .int .i64 (x_0.length : Int)), (9, .int .i64 st5.1), (10, .int .i64 st5.2), (17, .bool (decide (st5.1 < st5.2)))] (by kernel_rfl) ?_
  refine WL.nil ?_
  refine WQ.then_normal (hK19 _ _ _ ?_)
  refine WP.cond (decide (st5.1 < st5.2)) rfl rfl (fun hc20 => ?_) (fun hc20 => ?_)
  rotate_left
  · have hm := iteF hm hc20
    refine WP.exit ?_
    refine WQ.then_exit ?_
    refine WQ.then_exit ?_
    refine WQ.block_here ?_
    obtain rfl := Option.some.inj hm
    obtain rfl := afterN_done hl10
    have hm := hmo11
    refine WQ.then_normal (hK4 _ _ _ ?_)
    refine WP.seq (fun K42 hK42 => ?_)
    obtain ⟨x54, hx55, hm⟩ := bindE hm
    refine WP.cut (fun env' w' => env' = [(6, .int .i64 x54.1), (7, .bool x54.2)] ∧ Ext w w' ∧ w.heap.size ≤ w'.heap.size ∧ SH w' w.heap.size []) ?_ ?_
    rotate_left
    · clear hx55
      rintro _ w67 ⟨rfl, hb68, hL69, hS70⟩
      refine WQ.then_normal (hK42 _ _ _ ?_)
      refine WP.ret ?_
      obtain rfl := Option.some.inj hm
      exact WQ.ret2 _ _ rfl rfl rfl ⟨rfl, hb68⟩
    have hm := hx55; clear hx55
    refine WP.region ?_
    refine WL.runk 5 [0, 1, 2, 9, 35, 39] [(0, .slice a0' x_0.length c0'), (1, .string (bs target_1)), (2, .func (.func 84) #[] #[]), (9, .int .i64 st5.1), (35, .int .i64 st5.1), (39, .bool (decide (st5.1 < (x_0.length : Int))))] (by kernel_rfl) ?_
    refine WL.case (decide (st5.1 < (x_0.length : Int))) [39] ⟨rfl, trivial⟩ (fun hc56 => ?_) (fun hc56 => ?_)
    rotate_left
    · have hm := iteF hm hc56
      refine WL.runk 11 [6, 7] [(6, .int .i64 st5.1), (7, .bool false)] (by kernel_rfl) ?_
      refine WL.nil ?_
      obtain rfl := Option.some.inj hm
      exact WQ.post' ⟨rfl, hb7, hL8, hS9⟩ ⟨rfl, rfl, trivial⟩
    have hm := iteT hm hc56
    refine WL.runk 3 [1, 35, 39, 40, 41, 42] [(1, .string (bs target_1)), (35, .int .i64 st5.1), (39, .bool true), (40, .func (.func 84) #[] #[]), (41, .slice a0' x_0.length c0'), (42, .int .i64 st5.1)] (by kernel_rfl) ?_
    obtain ⟨x57, hx58, hm⟩ := bindE hm
    refine WL.st (.pointer (some (at_ a0' (Int.toNat st5.1 * 4)))) (ST.index (T := fGood.ty) (xs := x_0) (Rd.below h0 hb7) hx58 rfl rfl rfl Try.underlying25 (info56).1 (info56).2.1) rfl rfl rfl ?_
    refine WL.st (.agg #[.string (bs x57.Name), .int .i64 x57.OnHand, .int .i64 x57.Reserved, .int .i64 x57.Least]) (ST.loadAgg (vs := fGood.leaf x57) (fun j v hv => Rd.flatA (F := fGood) (Rd.below h0 hb7) hx58 j hv) rfl rfl rfl Try.underlying56 rfl (info56).1 (info56).2.1) rfl rfl rfl ?_
    refine WL.runk 1 [35, 39, 40, 44, 45] [(35, .int .i64 st5.1), (39, .bool true), (40, .func (.func 84) #[] #[]), (44, .agg #[.string (bs x57.Name), .int .i64 x57.OnHand, .int .i64 x57.Reserved, .int .i64 x57.Least]), (45, .string (bs target_1))] (by kernel_rfl) ?_
    obtain ⟨x59, hx60, hm⟩ := bindE hm
    refine WL.call 84 #[.agg #[.string (bs x57.Name), .int .i64 x57.OnHand, .int .i64 x57.Reserved, .int .i64 x57.Least], .string (bs target_1)] rfl rfl (by kernel_rfl) (c_84 n x57 target_1 w6 hx60 ) ?_
    rintro _ w61 ⟨rfl, hE62⟩
    refine ⟨_, rfl, ?_⟩
    have hb64 : Ext w w61 := Ext.trans hb7 hE62
    have hL65 : w.heap.size ≤ w61.heap.size := Nat.le_trans hL8 hE62.size
    have hS66 : SH w61 w.heap.size [] := SH.ext hS9 hE62
    refine WL.runk 4 [6, 7] [(6, .int .i64 st5.1), (7, .bool (x59 == 0))] (by kernel_rfl) ?_
    refine WL.nil ?_
    obtain rfl := Option.some.inj hm
    exact WQ.post' ⟨rfl, hb64, hL65, hS66⟩ ⟨rfl, rfl, trivial⟩
  have hm := iteT hm hc20
  refine WP.skip ?_
  refine WQ.then_normal (hK18 _ _ _ ?_)
  refine WP.block ?_
  refine WP.seq (fun K21 hK21 => ?_)
  refine WP.region ?_
  refine WL.runk 4 [0, 1, 2, 8, 9, 10, 21] [(0, .slice a0' x_0.length c0'), (1, .string (bs target_1)), (2, .func (.func 84) #[] #[]), (8, .int .i64 (x_0.length : Int)), (9, .int .i64 st5.1), (10, .int .i64 st5.2), (21, .int .u64 (IntKind.u64.wrap (wI64 (st5.1 + st5.2))))] (by kernel_rfl) ?_
  obtain ⟨x22, hx23, hm⟩ := bindE hm
  refine WL.st (.int .u64 x22) (ST.shr (k := .u64) hx23 rfl rfl rfl) rfl rfl rfl ?_
  refine WL.runk 2 [0, 1, 2, 8, 9, 10, 11] [(0, .slice a0' x_0.length c0'), (1, .string (bs target_1)), (2, .func (.func 84) #[] #[]), (8, .int .i64 (x_0.length : Int)), (9, .int .i64 st5.1), (10, .int .i64 st5.2), (11, .int .i64 (wI64 x22))] (by kernel_rfl) ?_
  refine WL.nil ?_
  refine WQ.then_normal (hK21 _ _ _ ?_)
  refine WP.seq (fun K24 hK24 => ?_)
  refine WP.region ?_
  refine WL.runk 3 [0, 1, 2, 8, 9, 10, 11, 24, 25, 26] [(0, .slice a0' x_0.length c0'), (1, .string (bs target_1)), (2, .func (.func 84) #[] #[]), (8, .int .i64 (x_0.length : Int)), (9, .int .i64 st5.1), (10, .int .i64 st5.2), (11, .int .i64 (wI64 x22)), (24, .func (.func 84) #[] #[]), (25, .slice a0' x_0.length c0'), (26, .int .i64 (wI64 x22))] (by kernel_rfl) ?_
  obtain ⟨x25, hx26, hm⟩ := bindE hm
  refine WL.st (.pointer (some (at_ a0' (Int.toNat (wI64 x22) * 4)))) (ST.index (T := fGood.ty) (xs := x_0) (Rd.below h0 hb7) hx26 rfl rfl rfl Try.underlying25 (info56).1 (info56).2.1) rfl rfl rfl ?_
  refine WL.st (.agg #[.string (bs x25.Name), .int .i64 x25.OnHand, .int .i64 x25.Reserved, .int .i64 x25.Least]) (ST.loadAgg (vs := fGood.leaf x25) (fun j v hv => Rd.flatA (F := fGood) (Rd.below h0 hb7) hx26 j hv) rfl rfl rfl Try.underlying56 rfl (info56).1 (info56).2.1) rfl rfl rfl ?_
  refine WL.runk 1 [0, 1, 2, 8, 9, 10, 11, 24, 28, 29] [(0, .slice a0' x_0.length c0'), (1, .string (bs target_1)), (2, .func (.func 84) #[] #[]), (8, .int .i64 (x_0.length : Int)), (9, .int .i64 st5.1), (10, .int .i64 st5.2), (11, .int .i64 (wI64 x22)), (24, .func (.func 84) #[] #[]), (28, .agg #[.string (bs x25.Name), .int .i64 x25.OnHand, .int .i64 x25.Reserved, .int .i64 x25.Least]), (29, .string (bs target_1))] (by kernel_rfl) ?_
  obtain ⟨x27, hx28, hm⟩ := bindE hm
  refine WL.call 84 #[.agg #[.string (bs x25.Name), .int .i64 x25.OnHand, .int .i64 x25.Reserved, .int .i64 x25.Least], .string (bs target_1)] rfl rfl (by kernel_rfl) (c_84 n x25 target_1 w6 hx28 ) ?_
  rintro _ w29 ⟨rfl, hE30⟩
  refine ⟨_, rfl, ?_⟩
  have hb32 : Ext w w29 := Ext.trans hb7 hE30
  have hL33 : w.heap.size ≤ w29.heap.size := Nat.le_trans hL8 hE30.size
  have hS34 : SH w29 w.heap.size [] := SH.ext hS9 hE30
  refine WL.runk 1 [0, 1, 2, 8, 9, 10, 11, 31] [(0, .slice a0' x_0.length c0'), (1, .string (bs target_1)), (2, .func (.func 84) #[] #[]), (8, .int .i64 (x_0.length : Int)), (9, .int .i64 st5.1), (10, .int .i64 st5.2), (11, .int .i64 (wI64 x22)), (31, .bool (decide (x27 < 0)))] (by kernel_rfl) ?_
  refine WL.nil ?_
  refine WQ.then_normal (hK24 _ _ _ ?_)
  obtain ⟨x36, hx37, hm⟩ := bindE hm
  refine WP.cut (fun env' w' => env' = [(0, .slice a0' x_0.length c0'), (1, .string (bs target_1)), (2, .func (.func 84) #[] #[]), (8, .int .i64 (x_0.length : Int)), (9, .int .i64 x36.1), (10, .int .i64 x36.2)] ∧ Ext w w' ∧ w.heap.size ≤ w'.heap.size ∧ SH w' w.heap.size []) ?_ ?_
  rotate_left
  · clear hx37
    rintro _ w38 ⟨rfl, hb39, hL40, hS41⟩
    refine WQ.block_normal ?_
    obtain rfl := Option.some.inj hm
    exact WQ.round hK12 ⟨(x36.1, x36.2), rfl, hb39, hL40, hS41, hl10⟩ (Nat.lt_succ_self _) ⟨rfl, rfl, rfl, rfl, rfl, rfl, trivial⟩
  have hm := hx37; clear hx37
  refine WP.cond (decide (x27 < 0)) rfl rfl (fun hc35 => ?_) (fun hc35 => ?_)
  · have hm := iteT hm hc35
    refine WP.region ?_
    refine WL.runk 3 [0, 1, 2, 8, 9, 10] [(0, .slice a0' x_0.length c0'), (1, .string (bs target_1)), (2, .func (.func 84) #[] #[]), (8, .int .i64 (x_0.length : Int)), (9, .int .i64 (wI64 ((wI64 x22) + 1))), (10, .int .i64 st5.2)] (by kernel_rfl) ?_
    refine WL.nil ?_
    obtain rfl := Option.some.inj hm
    exact WQ.post' ⟨rfl, hb32, hL33, hS34⟩ ⟨rfl, rfl, rfl, rfl, rfl, rfl, trivial⟩
  have hm := iteF hm hc35
  refine WP.region ?_
  refine WL.runk 2 [0, 1, 2, 8, 9, 10] [(0, .slice a0' x_0.length c0'), (1, .string (bs target_1)), (2, .func (.func 84) #[] #[]), (8, .int .i64 (x_0.length : Int)), (9, .int .i64 st5.1), (10, .int .i64 (wI64 x22))] (by kernel_rfl) ?_
  refine WL.nil ?_
  obtain rfl := Option.some.inj hm
  exact WQ.post' ⟨rfl, hb32, hL33, hS34⟩ ⟨rfl, rfl, rfl, rfl, rfl, rfl, trivial⟩

theorem c_68 (n : Nat) (list_0 : List SGood) (a0' : Option Addr) (c0' : Nat) (name_1 : List UInt8) (w : World) {r : Int × Bool} (hm : m_impl_goodPlace n list_0 name_1 = some r) (h0 : Rd fGood.ty w a0' list_0) (hle0 : list_0.length ≤ c0') :
    CallV Try.prog 68 #[.slice a0' list_0.length c0', .string (bs name_1)] w (fun v w' => v = .tuple #[.int .i64 r.1, .bool r.2] ∧ Ext w w') := by
  unfold m_impl_goodPlace at hm
  refine CallV.enter Try.func68 rfl (by kernel_rfl) Try.ntmps68 (env := [(0, .slice a0' list_0.length c0'), (1, .string (bs name_1))]) ⟨rfl, rfl, trivial⟩ ?_
  refine WP.seq (fun K1 hK1 => ?_)
  refine WP.region ?_
  refine WL.runk 2 [0, 1] [(0, .slice a0' list_0.length c0'), (1, .string (bs name_1))] (by kernel_rfl) ?_
  refine WL.nil ?_
  refine WQ.then_normal (hK1 _ _ _ ?_)
  refine WP.seq (fun K2 hK2 => ?_)
  refine WP.region ?_
  refine WL.runk 2 [6, 7] [(6, .slice a0' list_0.length c0'), (7, .string (bs name_1))] (by kernel_rfl) ?_
  obtain ⟨x3, hx4, hm⟩ := bindE hm
  refine WL.call 83 #[.slice a0' list_0.length c0', .string (bs name_1), .func (.func 84) #[] #[]] rfl rfl (by kernel_rfl) (c_83_84 n list_0 a0' c0' name_1 w hx4 (Rd.below h0 (Ext.refl w)) hle0) ?_
  rintro _ w5 ⟨rfl, hE6⟩
  refine ⟨_, rfl, ?_⟩
  have hb8 : Ext w w5 := Ext.trans (Ext.refl w) hE6
  have hL9 : w.heap.size ≤ w5.heap.size := Nat.le_trans (Nat.le_refl _) hE6.size
  have hS10 : SH w5 w.heap.size [] := SH.ext (SH.nil _ _) hE6
  refine WL.runk 4 [4, 5] [(4, .int .i64 x3.1), (5, .bool x3.2)] (by kernel_rfl) ?_
  refine WL.nil ?_
  refine WQ.then_normal (hK2 _ _ _ ?_)
  refine WP.ret ?_
  obtain rfl := Option.some.inj hm
  exact WQ.ret2 _ _ rfl rfl rfl ⟨rfl, hb8⟩

theorem c_58 (n : Nat) (s_0 : List SGood) (a0' : Option Addr) (c0' : Nat) (w : World) {r : List SGood} (hm : m_slices_Clone_impl_Good_impl_Good n s_0 = some r) (h0 : Rd fGood.ty w a0' s_0) (_hle0 : s_0.length ≤ c0') :
    CallV Try.prog 58 #[.slice a0' s_0.length c0'] w (fun v w' => ∃ (ra0 : Option Addr) (rc0 : Nat), v = .slice ra0 r.length rc0 ∧ Ext w w' ∧ SH w' w.heap.size [aOwn fGood 56 ra0 rc0 r]) := by
  unfold m_slices_Clone_impl_Good_impl_Good at hm
  rcases a0' with _ | a0'
  · obtain rfl : s_0 = [] := by
      cases s_0 with
      | nil => rfl
      | cons x t => exact absurd (h0 0 x rfl).1 (by simp)
    obtain rfl : ([] : List SGood) = r := by simpa [app] using hm
    refine CallV.enter Try.func58 rfl (by kernel_rfl) Try.ntmps58 (env := [(0, .slice none 0 c0')]) ⟨rfl, trivial⟩ ?_
    refine WP.seq (fun K1 hK1 => ?_)
    refine WP.region ?_
    refine WL.runk 1 [0] [(0, .slice none 0 c0')] (by kernel_rfl) ?_
    refine WL.nil ?_
    refine WQ.then_normal (hK1 _ _ _ ?_)
    refine WP.seq (fun K2 hK2 => ?_)
    refine WP.seq (fun K3 hK3 => ?_)
    refine WP.region ?_
    refine WL.runk 2 [4] [(4, .bool true)] (by kernel_rfl) ?_
    refine WL.nil ?_
    refine WQ.then_normal (hK3 _ _ _ ?_)
    refine WP.cond true rfl rfl (fun _ => ?_) (fun hc4 => ?_)
    rotate_left
    · cases hc4
    refine WP.seq (fun K5 hK5 => ?_)
    refine WP.region ?_
    refine WL.runk 1 [2] [(2, .slice none 0 0)] (by kernel_rfl) ?_
    refine WL.nil ?_
    refine WQ.then_normal (hK5 _ _ _ ?_)
    refine WP.ret ?_
    refine WQ.then_ret ?_
    have hS7 : SH w w.heap.size [aOwn fGood 56 none 0 ([] : List SGood)] := SH.nilOwn (SH.nil _ _)
    exact WQ.ret1 _ rfl rfl ⟨_, _, rfl, (Ext.refl w), hS7⟩
  refine CallV.enter Try.func58 rfl (by kernel_rfl) Try.ntmps58 (env := [(0, .slice (some a0') s_0.length c0')]) ⟨rfl, trivial⟩ ?_
  refine WP.seq (fun K1 hK1 => ?_)
  refine WP.region ?_
  refine WL.runk 1 [0] [(0, .slice (some a0') s_0.length c0')] (by kernel_rfl) ?_
  refine WL.nil ?_
  refine WQ.then_normal (hK1 _ _ _ ?_)
  refine WP.seq (fun K2 hK2 => ?_)
  refine WP.seq (fun K3 hK3 => ?_)
  refine WP.region ?_
  refine WL.runk 2 [0, 4] [(0, .slice (some a0') s_0.length c0'), (4, .bool false)] (by kernel_rfl) ?_
  refine WL.nil ?_
  refine WQ.then_normal (hK3 _ _ _ ?_)
  refine WP.cond false rfl rfl (fun hc4 => ?_) (fun _ => ?_)
  · cases hc4
  refine WP.skip ?_
  refine WQ.then_normal (hK2 _ _ _ ?_)
  refine WP.seq (fun K8 hK8 => ?_)
  refine WP.region ?_
  refine WL.row fGood 56 ([] : List SGood) 0 #[] 5 (by kernel_rfl) rfl rfl rfl rfl rfl rfl rfl ?_
  intro a9 c10 w11 hE12 hR13
  have hb15 : Ext w w11 := Ext.trans (Ext.refl w) hE12
  have hL16 : w.heap.size ≤ w11.heap.size := Nat.le_trans (Nat.le_refl _) hE12.size
  have hS17 : SH w11 w.heap.size [aOwn fGood 56 a9 c10 ([] : List SGood)] := SH.add (SH.nil _ _) hE12 (Nat.le_refl _) hR13
  refine WL.runk 1 [5, 6] [(5, .slice a9 (([] : List SGood).length) c10), (6, .slice (some a0') s_0.length c0')] (by kernel_rfl) ?_
  obtain ⟨x18, hx19, hm⟩ := bindE hm
  refine WL.append (F := fGood) (xs := ([] : List SGood)) (ys := s_0) 7 (SH.front 0 hS17) hL16 (Rd.below h0 hb15) hx19 rfl rfl rfl Try.underlying25 (info56).1 (info56).2.2.1 (info56).2.1 (info56).2.2.2 rfl rfl rfl rfl rfl ?_
  intro a20 c21 w22 hB23 hS24
  have hb25 : Ext w w22 := Below.trans hb15 hB23
  refine WL.runk 1 [2] [(2, .slice a20 x18.length c21)] (by kernel_rfl) ?_
  refine WL.nil ?_
  refine WQ.then_normal (hK8 _ _ _ ?_)
  refine WP.ret ?_
  obtain rfl := Option.some.inj hm
  exact WQ.ret1 _ rfl rfl ⟨_, _, rfl, hb25, hS24⟩

theorem c_28 (n : Nat) (a_0 : List SGood) (a0' : Option Addr) (c0' : Nat) (k_1 : Int) (w : World) {r : Int} (hm : m_laws_heldGoodS n a_0 k_1 = some r) (h0 : Rd fGood.ty w a0' a_0) (_hle0 : a_0.length ≤ c0') :
    CallV Try.prog 28 #[.slice a0' a_0.length c0', .int .i64 k_1] w (fun v w' => v = .int .i64 r ∧ Ext w w') := by
  unfold m_laws_heldGoodS at hm
  refine CallV.enter Try.func28 rfl (by kernel_rfl) Try.ntmps28 (env := [(0, .slice a0' a_0.length c0'), (1, .int .i64 k_1)]) ⟨rfl, rfl, trivial⟩ ?_
  refine WP.seq (fun K1 hK1 => ?_)
  refine WP.region ?_
  refine WL.runk 1 [0, 1] [(0, .slice a0' a_0.length c0'), (1, .int .i64 k_1)] (by kernel_rfl) ?_
  refine WL.nil ?_
  refine WQ.then_normal (hK1 _ _ _ ?_)
  refine WP.seq (fun K2 hK2 => ?_)
  refine WP.seq (fun K3 hK3 => ?_)
  refine WP.region ?_
  refine WL.runk 1 [0, 1, 5] [(0, .slice a0' a_0.length c0'), (1, .int .i64 k_1), (5, .int .i64 0)] (by kernel_rfl) ?_
  refine WL.nil ?_
  refine WQ.then_normal (hK3 _ _ _ ?_)
  refine WP.block ?_
  obtain ⟨t15, ht16, hm⟩ := bindE hm
  have hmo10 := hm; clear hm
  refine WP.sub [(0, .slice a0' a_0.length c0'), (1, .int .i64 k_1), (5, .int .i64 0)] ⟨rfl, rfl, rfl, trivial⟩ ?_
  refine WP.loop (fun n' env' w' => ∃ (st4 : Int × Int) , env' = [(0, .slice a0' a_0.length c0'), (1, .int .i64 st4.1), (5, .int .i64 st4.2)] ∧ Ext w w' ∧ w.heap.size ≤ w'.heap.size ∧ SH w' w.heap.size [] ∧ loopN (m_laws_heldGoodS_l1 n a_0) n' st4 = some t15) n ⟨(k_1, 0), rfl, (Ext.refl w), (Nat.le_refl _), (SH.nil _ _), ht16⟩ ?_
  rintro n12 _ w5 ⟨st4, rfl, hb6, hL7, hS8, hl9⟩ K11 hK11
  obtain ⟨n13, s14, rfl, hm, hl9⟩ := loopN_some hl9
  unfold m_laws_heldGoodS_l1 at hm
  refine WP.seq (fun K17 hK17 => ?_)
  refine WP.seq (fun K18 hK18 => ?_)
  refine WP.region ?_
  refine WL.runk 4 [0, 1, 5, 9] [(0, .slice a0' a_0.length c0'), (1, .int .i64 st4.1), (5, .int .i64 st4.2), (9, .bool (decide (st4.2 < (a_0.length : Int))))] (by kernel_rfl) ?_
  refine WL.nil ?_
  refine WQ.then_normal (hK18 _ _ _ ?_)
  refine WP.cond (decide (st4.2 < (a_0.length : Int))) rfl rfl (fun hc19 => ?_) (fun hc19 => ?_)
  rotate_left
  · have hm := iteF hm hc19
    refine WP.exit ?_
    refine WQ.then_exit ?_
    refine WQ.then_exit ?_
    refine WQ.block_here ?_
    obtain rfl := Option.some.inj hm
    obtain rfl := afterN_done hl9
    have hm := hmo10
    refine WQ.then_normal (hK2 _ _ _ ?_)
    refine WP.seq (fun K57 hK57 => ?_)
    refine WP.region ?_
    refine WL.runk 2 [4] [(4, .int .i64 st4.1)] (by kernel_rfl) ?_
    refine WL.nil ?_
    refine WQ.then_normal (hK57 _ _ _ ?_)
    refine WP.ret ?_
    obtain rfl := Option.some.inj hm
    exact WQ.ret1 _ rfl rfl ⟨rfl, hb6⟩
  have hm := iteT hm hc19
  refine WP.skip ?_
  refine WQ.then_normal (hK17 _ _ _ ?_)
  refine WP.seq (fun K20 hK20 => ?_)
  refine WP.block ?_
  refine WP.seq (fun K21 hK21 => ?_)
  refine WP.seq (fun K22 hK22 => ?_)
  refine WP.quiet (by kernel_rfl) (by kernel_rfl) ?_
  refine QL.step1v 12 (.slice a0' a_0.length c0') rfl (fun _ => by kernel_rfl) ?_
  refine QL.step1v 13 (.int .i64 st4.2) rfl (fun _ => by kernel_rfl) ?_
  refine QL.subk [0, 1, 5, 12, 13] [(0, .slice a0' a_0.length c0'), (1, .int .i64 st4.1), (5, .int .i64 st4.2), (12, .slice a0' a_0.length c0'), (13, .int .i64 st4.2)] (by kernel_rfl) ?_
  obtain ⟨x23, hx24, hm⟩ := bindE hm
  refine QL.st (.pointer (some (at_ a0' (Int.toNat st4.2 * 4)))) (ST.index (T := fGood.ty) (xs := a_0) (Rd.below h0 hb6) hx24 rfl rfl rfl Try.underlying25 (info56).1 (info56).2.1) rfl rfl rfl ?_
  refine QL.step1v 15 (.pointer (some (at_ a0' (Int.toNat st4.2 * 4)))) rfl (fun _ => by kernel_rfl) ?_
  refine QL.subk [0, 1, 5, 15] [(0, .slice a0' a_0.length c0'), (1, .int .i64 st4.1), (5, .int .i64 st4.2), (15, .pointer (some (at_ a0' (Int.toNat st4.2 * 4))))] (by kernel_rfl) ?_
  refine QL.st (.string (bs x23.Name)) (ST.load (cell_ext (Rd.flat (F := fGood) (Rd.below h0 hb6) hx24 0 rfl)) rfl rfl Try.underlying9 rfl) rfl rfl rfl ?_
  refine QL.step1v 17 (.int .i64 st4.1) rfl (fun _ => by kernel_rfl) ?_
  refine QL.subk [0, 1, 5, 16, 17] [(0, .slice a0' a_0.length c0'), (1, .int .i64 st4.1), (5, .int .i64 st4.2), (16, .string (bs x23.Name)), (17, .int .i64 st4.1)] (by kernel_rfl) ?_
  obtain ⟨x25, hx26, hm⟩ := bindE hm
  refine QL.call 55 #[.int .i64 st4.1] (.string (bs x25)) (fun _ => by kernel_rfl) (fun w27 hE28 => c_55 n st4.1 w27 hx26 ) rfl rfl rfl ?_
  refine QL.st (.bool (!(x23.Name == x25))) (ST.strne (x := x23.Name) (y := x25) rfl rfl rfl) rfl rfl rfl ?_
  refine QL.subk [0, 1, 5, 19] [(0, .slice a0' a_0.length c0'), (1, .int .i64 st4.1), (5, .int .i64 st4.2), (19, .bool (!(x23.Name == x25)))] (by kernel_rfl) ?_
  refine QL.nil ?_
  intro w29 hE30
  have hb31 : Ext w w29 := Ext.trans hb6 hE30
  have hL32 : w.heap.size ≤ w29.heap.size := Nat.le_trans hL7 hE30.size
  have hS33 : SH w29 w.heap.size [] := SH.ext hS8 hE30
  refine WQ.then_normal (hK22 _ _ _ ?_)
  refine WP.cond (!(x23.Name == x25)) rfl rfl (fun hc34 => ?_) (fun hc34 => ?_)
  · have hm := iteT hm hc34
    refine WP.seq (fun K35 hK35 => ?_)
    refine WP.region ?_
    refine WL.runk 1 [4] [(4, .int .i64 (-1))] (by kernel_rfl) ?_
    refine WL.nil ?_
    refine WQ.then_normal (hK35 _ _ _ ?_)
    refine WP.ret ?_
    refine WQ.then_ret ?_
    refine WQ.block_ret ?_
    refine WQ.then_ret ?_
    refine WQ.then_ret ?_
    refine WQ.block_ret ?_
    refine WQ.then_ret ?_
    obtain rfl := Option.some.inj hm
    obtain rfl := afterN_done hl9
    have hm := hmo10
    obtain rfl := Option.some.inj hm
    exact WQ.ret1 _ rfl rfl ⟨rfl, hb31⟩
  have hm := iteF hm hc34
  refine WP.skip ?_
  refine WQ.then_normal (hK21 _ _ _ ?_)
  refine WP.seq (fun K36 hK36 => ?_)
  refine WP.region ?_
  refine WL.runk 3 [0, 1, 5] [(0, .slice a0' a_0.length c0'), (1, .int .i64 (wI64 (st4.1 + 1))), (5, .int .i64 st4.2)] (by kernel_rfl) ?_
  refine WL.nil ?_
  refine WQ.then_normal (hK36 _ _ _ ?_)
  refine WP.seq (fun K37 hK37 => ?_)
  refine WP.seq (fun K38 hK38 => ?_)
  refine WP.region ?_
  refine WL.runk 2 [0, 1, 5, 22, 23] [(0, .slice a0' a_0.length c0'), (1, .int .i64 (wI64 (st4.1 + 1))), (5, .int .i64 st4.2), (22, .slice a0' a_0.length c0'), (23, .int .i64 st4.2)] (by kernel_rfl) ?_
  obtain ⟨x39, hx40, hm⟩ := bindE hm
  refine WL.st (.pointer (some (at_ a0' (Int.toNat st4.2 * 4)))) (ST.index (T := fGood.ty) (xs := a_0) (Rd.below h0 hb31) hx40 rfl rfl rfl Try.underlying25 (info56).1 (info56).2.1) rfl rfl rfl ?_
  refine WL.runk 1 [0, 1, 5, 25] [(0, .slice a0' a_0.length c0'), (1, .int .i64 (wI64 (st4.1 + 1))), (5, .int .i64 st4.2), (25, .pointer (some (at_ a0' (Int.toNat st4.2 * 4 + 1))))] (by kernel_rfl) ?_
  refine WL.st (.int .i64 x39.OnHand) (ST.load (cell_ext (Rd.flat (F := fGood) (Rd.below h0 hb31) hx40 1 rfl)) rfl rfl Try.underlying2 rfl) rfl rfl rfl ?_
  refine WL.runk 2 [0, 1, 5, 28] [(0, .slice a0' a_0.length c0'), (1, .int .i64 (wI64 (st4.1 + 1))), (5, .int .i64 st4.2), (28, .bool (x39.OnHand != (wI64 (st4.1 + 1))))] (by kernel_rfl) ?_
  refine WL.nil ?_
  refine WQ.then_normal (hK38 _ _ _ ?_)
  refine WP.cond (x39.OnHand != (wI64 (st4.1 + 1))) rfl rfl (fun hc41 => ?_) (fun hc41 => ?_)
  · have hm := iteT hm hc41
    refine WP.seq (fun K42 hK42 => ?_)
    refine WP.region ?_
    refine WL.runk 1 [4] [(4, .int .i64 (-1))] (by kernel_rfl) ?_
    refine WL.nil ?_
    refine WQ.then_normal (hK42 _ _ _ ?_)
    refine WP.ret ?_
    refine WQ.then_ret ?_
    refine WQ.block_ret ?_
    refine WQ.then_ret ?_
    refine WQ.then_ret ?_
    refine WQ.block_ret ?_
    refine WQ.then_ret ?_
    obtain rfl := Option.some.inj hm
    obtain rfl := afterN_done hl9
    have hm := hmo10
    obtain rfl := Option.some.inj hm
    exact WQ.ret1 _ rfl rfl ⟨rfl, hb31⟩
  have hm := iteF hm hc41
  refine WP.skip ?_
  refine WQ.then_normal (hK37 _ _ _ ?_)
  refine WP.seq (fun K43 hK43 => ?_)
  refine WP.region ?_
  refine WL.runk 3 [0, 1, 5] [(0, .slice a0' a_0.length c0'), (1, .int .i64 (wI64 ((wI64 (st4.1 + 1)) + 1))), (5, .int .i64 st4.2)] (by kernel_rfl) ?_
  refine WL.nil ?_
  refine WQ.then_normal (hK43 _ _ _ ?_)
  refine WP.seq (fun K44 hK44 => ?_)
  refine WP.seq (fun K45 hK45 => ?_)
  refine WP.region ?_
  refine WL.runk 2 [0, 1, 5, 31, 32] [(0, .slice a0' a_0.length c0'), (1, .int .i64 (wI64 ((wI64 (st4.1 + 1)) + 1))), (5, .int .i64 st4.2), (31, .slice a0' a_0.length c0'), (32, .int .i64 st4.2)] (by kernel_rfl) ?_
  obtain ⟨x46, hx47, hm⟩ := bindE hm
  refine WL.st (.pointer (some (at_ a0' (Int.toNat st4.2 * 4)))) (ST.index (T := fGood.ty) (xs := a_0) (Rd.below h0 hb31) hx47 rfl rfl rfl Try.underlying25 (info56).1 (info56).2.1) rfl rfl rfl ?_
  refine WL.runk 1 [0, 1, 5, 34] [(0, .slice a0' a_0.length c0'), (1, .int .i64 (wI64 ((wI64 (st4.1 + 1)) + 1))), (5, .int .i64 st4.2), (34, .pointer (some (at_ a0' (Int.toNat st4.2 * 4 + 2))))] (by kernel_rfl) ?_
  refine WL.st (.int .i64 x46.Reserved) (ST.load (cell_ext (Rd.flat (F := fGood) (Rd.below h0 hb31) hx47 2 rfl)) rfl rfl Try.underlying2 rfl) rfl rfl rfl ?_
  refine WL.runk 2 [0, 1, 5, 37] [(0, .slice a0' a_0.length c0'), (1, .int .i64 (wI64 ((wI64 (st4.1 + 1)) + 1))), (5, .int .i64 st4.2), (37, .bool (x46.Reserved != (wI64 ((wI64 (st4.1 + 1)) + 1))))] (by kernel_rfl) ?_
  refine WL.nil ?_
  refine WQ.then_normal (hK45 _ _ _ ?_)
  refine WP.cond (x46.Reserved != (wI64 ((wI64 (st4.1 + 1)) + 1))) rfl rfl (fun hc48 => ?_) (fun hc48 => ?_)
  · have hm := iteT hm hc48
    refine WP.seq (fun K49 hK49 => ?_)
    refine WP.region ?_
    refine WL.runk 1 [4] [(4, .int .i64 (-1))] (by kernel_rfl) ?_
    refine WL.nil ?_
    refine WQ.then_normal (hK49 _ _ _ ?_)
    refine WP.ret ?_
    refine WQ.then_ret ?_
    refine WQ.block_ret ?_
    refine WQ.then_ret ?_
    refine WQ.then_ret ?_
    refine WQ.block_ret ?_
    refine WQ.then_ret ?_
    obtain rfl := Option.some.inj hm
    obtain rfl := afterN_done hl9
    have hm := hmo10
    obtain rfl := Option.some.inj hm
    exact WQ.ret1 _ rfl rfl ⟨rfl, hb31⟩
  have hm := iteF hm hc48
  refine WP.skip ?_
  refine WQ.then_normal (hK44 _ _ _ ?_)
  refine WP.seq (fun K50 hK50 => ?_)
  refine WP.region ?_
  refine WL.runk 3 [0, 1, 5] [(0, .slice a0' a_0.length c0'), (1, .int .i64 (wI64 ((wI64 ((wI64 (st4.1 + 1)) + 1)) + 1))), (5, .int .i64 st4.2)] (by kernel_rfl) ?_
  refine WL.nil ?_
  refine WQ.then_normal (hK50 _ _ _ ?_)
  refine WP.seq (fun K51 hK51 => ?_)
  refine WP.seq (fun K52 hK52 => ?_)
  refine WP.region ?_
  refine WL.runk 2 [0, 1, 5, 40, 41] [(0, .slice a0' a_0.length c0'), (1, .int .i64 (wI64 ((wI64 ((wI64 (st4.1 + 1)) + 1)) + 1))), (5, .int .i64 st4.2), (40, .slice a0' a_0.length c0'), (41, .int .i64 st4.2)] (by kernel_rfl) ?_
  obtain ⟨x53, hx54, hm⟩ := bindE hm
  refine WL.st (.pointer (some (at_ a0' (Int.toNat st4.2 * 4)))) (ST.index (T := fGood.ty) (xs := a_0) (Rd.below h0 hb31) hx54 rfl rfl rfl Try.underlying25 (info56).1 (info56).2.1) rfl rfl rfl ?_
  refine WL.runk 1 [0, 1, 5, 43] [(0, .slice a0' a_0.length c0'), (1, .int .i64 (wI64 ((wI64 ((wI64 (st4.1 + 1)) + 1)) + 1))), (5, .int .i64 st4.2), (43, .pointer (some (at_ a0' (Int.toNat st4.2 * 4 + 3))))] (by kernel_rfl) ?_
  refine WL.st (.int .i64 x53.Least) (ST.load (cell_ext (Rd.flat (F := fGood) (Rd.below h0 hb31) hx54 3 rfl)) rfl rfl Try.underlying2 rfl) rfl rfl rfl ?_
  refine WL.runk 2 [0, 1, 5, 46] [(0, .slice a0' a_0.length c0'), (1, .int .i64 (wI64 ((wI64 ((wI64 (st4.1 + 1)) + 1)) + 1))), (5, .int .i64 st4.2), (46, .bool (x53.Least != (wI64 ((wI64 ((wI64 (st4.1 + 1)) + 1)) + 1))))] (by kernel_rfl) ?_
  refine WL.nil ?_
  refine WQ.then_normal (hK52 _ _ _ ?_)
  refine WP.cond (x53.Least != (wI64 ((wI64 ((wI64 (st4.1 + 1)) + 1)) + 1))) rfl rfl (fun hc55 => ?_) (fun hc55 => ?_)
  rotate_left
  · have hm := iteF hm hc55
    refine WP.skip ?_
    refine WQ.then_normal (hK51 _ _ _ ?_)
    refine WP.region ?_
    refine WL.runk 3 [0, 1, 5] [(0, .slice a0' a_0.length c0'), (1, .int .i64 (wI64 ((wI64 ((wI64 ((wI64 (st4.1 + 1)) + 1)) + 1)) + 1))), (5, .int .i64 st4.2)] (by kernel_rfl) ?_
    refine WL.nil ?_
    refine WQ.block_normal ?_
    refine WQ.then_normal (hK20 _ _ _ ?_)
    refine WP.region ?_
    refine WL.runk 3 [0, 1, 5] [(0, .slice a0' a_0.length c0'), (1, .int .i64 (wI64 ((wI64 ((wI64 ((wI64 (st4.1 + 1)) + 1)) + 1)) + 1))), (5, .int .i64 (wI64 (st4.2 + 1)))] (by kernel_rfl) ?_
    refine WL.nil ?_
    obtain rfl := Option.some.inj hm
    exact WQ.round hK11 ⟨((wI64 ((wI64 ((wI64 ((wI64 (st4.1 + 1)) + 1)) + 1)) + 1)), (wI64 (st4.2 + 1))), rfl, hb31, hL32, hS33, hl9⟩ (Nat.lt_succ_self _) ⟨rfl, rfl, rfl, trivial⟩
  have hm := iteT hm hc55
  refine WP.seq (fun K56 hK56 => ?_)
  refine WP.region ?_
  refine WL.runk 1 [4] [(4, .int .i64 (-1))] (by kernel_rfl) ?_
  refine WL.nil ?_
  refine WQ.then_normal (hK56 _ _ _ ?_)
  refine WP.ret ?_
  refine WQ.then_ret ?_
  refine WQ.block_ret ?_
  refine WQ.then_ret ?_
  refine WQ.then_ret ?_
  refine WQ.block_ret ?_
  refine WQ.then_ret ?_
  obtain rfl := Option.some.inj hm
  obtain rfl := afterN_done hl9
  have hm := hmo10
  obtain rfl := Option.some.inj hm
  exact WQ.ret1 _ rfl rfl ⟨rfl, hb31⟩

theorem c_31 (n : Nat) (a_0 : STake) (left_1 : Int) (w : World) {r : Int} (hm : m_laws_szTake n a_0 left_1 = some r)  :
    CallV Try.prog 31 #[.agg #[.string (bs a_0.Name), .int .i64 a_0.Many], .int .i64 left_1] w (fun v w' => v = .int .i64 r ∧ Ext w w') := by
  unfold m_laws_szTake at hm
  refine CallV.enter Try.func31 rfl (by kernel_rfl) Try.ntmps31 (env := [(0, .agg #[.string (bs a_0.Name), .int .i64 a_0.Many]), (1, .int .i64 left_1)]) ⟨rfl, rfl, trivial⟩ ?_
  refine WP.seq (fun K1 hK1 => ?_)
  refine WP.region ?_
  refine WL.box 40 [.string (bs a_0.Name), .int .i64 a_0.Many] 2 (by kernel_rfl) rfl rfl rfl rfl ?_
  intro b2 w3 hE4 hR5
  have hb7 : Ext w w3 := Ext.trans (Ext.refl w) hE4
  have hL8 : w.heap.size ≤ w3.heap.size := Nat.le_trans (Nat.le_refl _) hE4.size
  have hS9 : SH w3 w.heap.size [aBox 40 b2 [.string (bs a_0.Name), .int .i64 a_0.Many]] := SH.add (SH.nil _ _) hE4 (Nat.le_refl _) hR5
  refine WL.runk 1 [1, 2] [(1, .int .i64 left_1), (2, .pointer (some ⟨b2, 0, none⟩))] (by kernel_rfl) ?_
  refine WL.nil ?_
  refine WQ.then_normal (hK1 _ _ _ ?_)
  refine WP.seq (fun K10 hK10 => ?_)
  refine WP.region ?_
  refine WL.runk 2 [5, 6] [(5, .int .i64 left_1), (6, .pointer (some ⟨b2, 0, none⟩))] (by kernel_rfl) ?_
  refine WL.st (.string (bs a_0.Name)) (ST.load (cell_ext (SH.boxAt (SH.front 0 hS9) 0 _ rfl)) rfl rfl Try.underlying9 rfl) rfl rfl rfl ?_
  refine WL.runk 3 [1] [(1, .int .i64 (wI64 (left_1 - (a_0.Name.length : Int))))] (by kernel_rfl) ?_
  refine WL.nil ?_
  refine WQ.then_normal (hK10 _ _ _ ?_)
  refine WP.seq (fun K11 hK11 => ?_)
  refine WP.seq (fun K12 hK12 => ?_)
  refine WP.region ?_
  refine WL.runk 2 [1, 11] [(1, .int .i64 (wI64 (left_1 - (a_0.Name.length : Int)))), (11, .bool (decide ((wI64 (left_1 - (a_0.Name.length : Int))) < 0)))] (by kernel_rfl) ?_
  refine WL.nil ?_
  refine WQ.then_normal (hK12 _ _ _ ?_)
  refine WP.cond (decide ((wI64 (left_1 - (a_0.Name.length : Int))) < 0)) rfl rfl (fun hc13 => ?_) (fun hc13 => ?_)
  · have hm := iteT hm hc13
    refine WP.seq (fun K14 hK14 => ?_)
    refine WP.region ?_
    refine WL.runk 1 [4] [(4, .int .i64 (-1))] (by kernel_rfl) ?_
    refine WL.nil ?_
    refine WQ.then_normal (hK14 _ _ _ ?_)
    refine WP.ret ?_
    refine WQ.then_ret ?_
    obtain rfl := Option.some.inj hm
    exact WQ.ret1 _ rfl rfl ⟨rfl, hb7⟩
  have hm := iteF hm hc13
  refine WP.skip ?_
  refine WQ.then_normal (hK11 _ _ _ ?_)
  refine WP.seq (fun K15 hK15 => ?_)
  refine WP.region ?_
  refine WL.runk 2 [4] [(4, .int .i64 (wI64 (left_1 - (a_0.Name.length : Int))))] (by kernel_rfl) ?_
  refine WL.nil ?_
  refine WQ.then_normal (hK15 _ _ _ ?_)
  refine WP.ret ?_
  obtain rfl := Option.some.inj hm
  exact WQ.ret1 _ rfl rfl ⟨rfl, hb7⟩

theorem c_59 (n : Nat) (t_0 : STake) (b0' o0' : Nat) (w : World) {r : Bool} (hm : m_spec_l23Take n t_0 = some r) (h0 : RdB w b0' o0' [.string (bs t_0.Name), .int .i64 t_0.Many]) :
    CallV Try.prog 59 #[.pointer (some ⟨b0', o0', none⟩)] w (fun v w' => v = .bool r ∧ Ext w w') := by
  unfold m_spec_l23Take at hm
  refine CallV.enter Try.func59 rfl (by kernel_rfl) Try.ntmps59 (env := [(0, .pointer (some ⟨b0', o0', none⟩))]) ⟨rfl, trivial⟩ ?_
  refine WP.seq (fun K1 hK1 => ?_)
  refine WP.region ?_
  refine WL.runk 1 [0] [(0, .pointer (some ⟨b0', o0', none⟩))] (by kernel_rfl) ?_
  refine WL.nil ?_
  refine WQ.then_normal (hK1 _ _ _ ?_)
  refine WP.seq (fun K2 hK2 => ?_)
  refine WP.region ?_
  refine WL.runk 3 [5] [(5, .pointer (some ⟨b0', o0' + 1, none⟩))] (by kernel_rfl) ?_
  refine WL.st (.int .i64 t_0.Many) (ST.load (cell_ext (RdB.at (RdB.below h0 (Ext.refl w)) 1 _ rfl)) rfl rfl Try.underlying2 rfl) rfl rfl rfl ?_
  obtain ⟨x3, hx4, hm⟩ := bindE hm
  refine WL.call 80 #[.int .i64 t_0.Many, .int .i64 (-1000000), .int .i64 1000000] rfl rfl (by kernel_rfl) (c_80 n t_0.Many (-1000000) 1000000 w hx4 ) ?_
  rintro _ w5 ⟨rfl, hE6⟩
  refine ⟨_, rfl, ?_⟩
  have hb8 : Ext w w5 := Ext.trans (Ext.refl w) hE6
  have hL9 : w.heap.size ≤ w5.heap.size := Nat.le_trans (Nat.le_refl _) hE6.size
  have hS10 : SH w5 w.heap.size [] := SH.ext (SH.nil _ _) hE6
  refine WL.runk 1 [2] [(2, .bool x3)] (by kernel_rfl) ?_
  refine WL.nil ?_
  refine WQ.then_normal (hK2 _ _ _ ?_)
  refine WP.ret ?_
  obtain rfl := Option.some.inj hm
  exact WQ.ret1 _ rfl rfl ⟨rfl, hb8⟩

theorem c_60 (n : Nat) (list_0 : List SGood) (a0' : Option Addr) (c0' : Nat) (t_1 : STake) (b1' o1' : Nat) (w : World) (w0 : World) (B : Nat) (L : List Asrt) {r : Int × List SGood} (hm : m_spec_l23Change n list_0 t_1 = some r) (hE0 : Ext w0 w) (hW : w0.heap.size ≤ B) (hL : B ≤ w.heap.size) (h1 : RdB w0 b1' o1' [.string (bs t_1.Name), .int .i64 t_1.Many]) (hS : SH w B (aOwn fGood 56 a0' c0' list_0 :: L)) :
    CallV Try.prog 60 #[.slice a0' list_0.length c0', .pointer (some ⟨b1', o1', none⟩)] w (fun v w' => v = .int .i64 r.1 ∧ Below B w w' ∧ SH w' B (aOwn fGood 56 a0' c0' r.2 :: L) ∧ r.2.length = list_0.length) := by
  unfold m_spec_l23Change at hm
  refine CallV.enter Try.func60 rfl (by kernel_rfl) Try.ntmps60 (env := [(0, .slice a0' list_0.length c0'), (1, .pointer (some ⟨b1', o1', none⟩))]) ⟨rfl, rfl, trivial⟩ ?_
  refine WP.seq (fun K1 hK1 => ?_)
  refine WP.region ?_
  refine WL.runk 1 [0, 1] [(0, .slice a0' list_0.length c0'), (1, .pointer (some ⟨b1', o1', none⟩))] (by kernel_rfl) ?_
  refine WL.nil ?_
  refine WQ.then_normal (hK1 _ _ _ ?_)
  refine WP.seq (fun K2 hK2 => ?_)
  refine WP.region ?_
  refine WL.runk 4 [0, 1, 7, 10] [(0, .slice a0' list_0.length c0'), (1, .pointer (some ⟨b1', o1', none⟩)), (7, .slice a0' list_0.length c0'), (10, .pointer (some ⟨b1', o1', none⟩))] (by kernel_rfl) ?_
  refine WL.st (.string (bs t_1.Name)) (ST.load (cell_ext (RdB.at (RdB.below h1 (Below.trans hE0 (Below.mono (Below.refl _ _) hW))) 0 _ rfl)) rfl rfl Try.underlying9 rfl) rfl rfl rfl ?_
  obtain ⟨x3, hx4, hm⟩ := bindE hm
  refine WL.call 64 #[.slice a0' list_0.length c0', .string (bs t_1.Name)] rfl rfl (by kernel_rfl) (c_64 n list_0 a0' c0' t_1.Name w hx4 (SH.rd (SH.front 0 hS)) (SH.le (SH.front 0 hS)).1) ?_
  rintro _ w5 ⟨rfl, hE6⟩
  refine ⟨_, rfl, ?_⟩
  have hb8 : Below B w w5 := Below.trans (Below.refl _ _) (Below.mono hE6 hL)
  have hL9 : B ≤ w5.heap.size := Nat.le_trans hL hE6.size
  have hS10 : SH w5 B (aOwn fGood 56 a0' c0' list_0 :: L) := SH.ext hS hE6
  refine WL.runk 1 [0, 1, 5] [(0, .slice a0' list_0.length c0'), (1, .pointer (some ⟨b1', o1', none⟩)), (5, .int .i64 x3)] (by kernel_rfl) ?_
  refine WL.nil ?_
  refine WQ.then_normal (hK2 _ _ _ ?_)
  refine WP.seq (fun K11 hK11 => ?_)
  refine WP.seq (fun K12 hK12 => ?_)
  refine WP.region ?_
  refine WL.runk 2 [0, 1, 5, 14] [(0, .slice a0' list_0.length c0'), (1, .pointer (some ⟨b1', o1', none⟩)), (5, .int .i64 x3), (14, .bool (decide (x3 < 0)))] (by kernel_rfl) ?_
  refine WL.nil ?_
  refine WQ.then_normal (hK12 _ _ _ ?_)
  refine WP.cond (decide (x3 < 0)) rfl rfl (fun hc13 => ?_) (fun hc13 => ?_)
  · have hm := iteT hm hc13
    refine WP.seq (fun K14 hK14 => ?_)
    refine WP.region ?_
    refine WL.runk 1 [4] [(4, .int .i64 3)] (by kernel_rfl) ?_
    refine WL.nil ?_
    refine WQ.then_normal (hK14 _ _ _ ?_)
    refine WP.ret ?_
    refine WQ.then_ret ?_
    obtain rfl := Option.some.inj hm
    exact WQ.ret1 _ rfl rfl ⟨rfl, hb8, hS10, rfl⟩
  have hm := iteF hm hc13
  refine WP.skip ?_
  refine WQ.then_normal (hK11 _ _ _ ?_)
  refine WP.seq (fun K15 hK15 => ?_)
  refine WP.region ?_
  refine WL.runk 2 [0, 1, 5, 15, 16] [(0, .slice a0' list_0.length c0'), (1, .pointer (some ⟨b1', o1', none⟩)), (5, .int .i64 x3), (15, .slice a0' list_0.length c0'), (16, .int .i64 x3)] (by kernel_rfl) ?_
  obtain ⟨x16, hx17, hm⟩ := bindE hm
  refine WL.st (.pointer (some (at_ a0' (Int.toNat x3 * 4)))) (ST.index (T := fGood.ty) (xs := list_0) (SH.rd (SH.front 0 hS10)) hx17 rfl rfl rfl Try.underlying25 (info56).1 (info56).2.1) rfl rfl rfl ?_
  refine WL.st (.agg #[.string (bs x16.Name), .int .i64 x16.OnHand, .int .i64 x16.Reserved, .int .i64 x16.Least]) (ST.loadAgg (vs := fGood.leaf x16) (fun j v hv => Rd.flatA (F := fGood) (SH.rd (SH.front 0 hS10)) hx17 j hv) rfl rfl rfl Try.underlying56 rfl (info56).1 (info56).2.1) rfl rfl rfl ?_
  refine WL.box 56 [.string (bs []), .int .i64 0, .int .i64 0, .int .i64 0] 6 (by kernel_rfl) rfl rfl rfl rfl ?_
  intro b18 w19 hE20 hR21
  have hb23 : Below B w w19 := Below.trans hb8 (Below.mono hE20 hL9)
  have hL24 : B ≤ w19.heap.size := Nat.le_trans hL9 hE20.size
  have hS25 : SH w19 B (aBox 56 b18 [.string (bs []), .int .i64 0, .int .i64 0, .int .i64 0] :: aOwn fGood 56 a0' c0' list_0 :: L) := SH.add hS10 hE20 hL9 hR21
  refine WL.boxStore 0 [.string (bs x16.Name), .int .i64 x16.OnHand, .int .i64 x16.Reserved, .int .i64 x16.Least] [.string (bs x16.Name), .int .i64 x16.OnHand, .int .i64 x16.Reserved, .int .i64 x16.Least] (SH.front 0 hS25) hL24 rfl rfl rfl rfl rfl rfl rfl (info56).1 (info56).2.1 rfl rfl rfl ?_
  intro w26 hB27 hS28
  have hb29 : Below B w w26 := Below.trans hb23 hB27
  have hL30 : B ≤ w26.heap.size := Nat.le_trans hL24 hB27.size
  refine WL.sub [(0, .slice a0' list_0.length c0'), (1, .pointer (some ⟨b1', o1', none⟩)), (5, .int .i64 x3), (6, .pointer (some ⟨b18, 0, none⟩))] ⟨rfl, rfl, rfl, rfl, trivial⟩ ?_
  refine WL.nil ?_
  refine WQ.then_normal (hK15 _ _ _ ?_)
  refine WP.seq (fun K31 hK31 => ?_)
  refine WP.open (n := 9) (by kernel_rfl) rfl (fun w32 hE33 => ?_)
  have hb34 : Below B w w32 := Below.trans hb29 (Below.mono hE33 hL30)
  have hL35 : B ≤ w32.heap.size := Nat.le_trans hL30 hE33.size
  have hS36 : SH w32 B (aBox 56 b18 [.string (bs x16.Name), .int .i64 x16.OnHand, .int .i64 x16.Reserved, .int .i64 x16.Least] :: aOwn fGood 56 a0' c0' list_0 :: L) := SH.ext hS28 hE33
  refine WA.quiet (f' := 1) (D' := [0, 1, 2, 3, 4, 5, 6, 7]) [0, 1, 2, 3, 4, 5, 6, 7] rfl rfl (by kernel_rfl) ?_
  refine QL.step1v 19 (.pointer (some ⟨b18, 1, none⟩)) rfl (fun _ => by kernel_rfl) ?_
  refine QL.subk [0, 1, 5, 6, 19] [(0, .slice a0' list_0.length c0'), (1, .pointer (some ⟨b1', o1', none⟩)), (5, .int .i64 x3), (6, .pointer (some ⟨b18, 0, none⟩)), (19, .pointer (some ⟨b18, 1, none⟩))] (by kernel_rfl) ?_
  refine QL.st (.int .i64 x16.OnHand) (ST.load (cell_ext (SH.boxAt (SH.front 0 hS36) 1 _ rfl)) rfl rfl Try.underlying2 rfl) rfl rfl rfl ?_
  refine QL.step1v 21 (.pointer (some ⟨b1', o1', none⟩)) rfl (fun _ => by kernel_rfl) ?_
  refine QL.step1v 22 (.pointer (some ⟨b1', o1', none⟩)) rfl (fun _ => by kernel_rfl) ?_
  refine QL.step1v 23 (.pointer (some ⟨b1', o1' + 1, none⟩)) rfl (fun _ => by kernel_rfl) ?_
  refine QL.subk [0, 5, 6, 20, 23] [(0, .slice a0' list_0.length c0'), (5, .int .i64 x3), (6, .pointer (some ⟨b18, 0, none⟩)), (20, .int .i64 x16.OnHand), (23, .pointer (some ⟨b1', o1' + 1, none⟩))] (by kernel_rfl) ?_
  refine QL.st (.int .i64 t_1.Many) (ST.load (cell_ext (RdB.at (RdB.below h1 (Below.trans hE0 (Below.mono hb34 hW))) 1 _ rfl)) rfl rfl Try.underlying2 rfl) rfl rfl rfl ?_
  refine QL.step1v 25 (.int .i64 (wI64 (x16.OnHand + t_1.Many))) rfl (fun _ => by kernel_rfl) ?_
  refine QL.step1v 26 (.pointer (some ⟨b18, 1, none⟩)) rfl (fun _ => by kernel_rfl) ?_
  refine QL.subk [0, 5, 6, 25, 26] [(0, .slice a0' list_0.length c0'), (5, .int .i64 x3), (6, .pointer (some ⟨b18, 0, none⟩)), (25, .int .i64 (wI64 (x16.OnHand + t_1.Many))), (26, .pointer (some ⟨b18, 1, none⟩))] (by kernel_rfl) ?_
  refine QL.nil ?_
  intro w37 hE38
  have hb39 : Below B w w37 := Below.trans hb34 (Below.mono hE38 hL35)
  have hL40 : B ≤ w37.heap.size := Nat.le_trans hL35 hE38.size
  have hS41 : SH w37 B (aBox 56 b18 [.string (bs x16.Name), .int .i64 x16.OnHand, .int .i64 x16.Reserved, .int .i64 x16.Least] :: aOwn fGood 56 a0' c0' list_0 :: L) := SH.ext hS36 hE38
  refine WA.one (i := 8) (D' := [0, 1, 2, 3, 4, 5, 6, 7, 8]) rfl rfl (by kernel_rfl) ?_
  refine WL.boxStore 1 [.int .i64 (wI64 (x16.OnHand + t_1.Many))] [.string (bs x16.Name), .int .i64 (wI64 (x16.OnHand + t_1.Many)), .int .i64 x16.Reserved, .int .i64 x16.Least] (SH.front 0 hS41) hL40 rfl rfl rfl rfl rfl rfl rfl (info2).1 (info2).2.1 rfl rfl rfl ?_
  intro w42 hB43 hS44
  have hb45 : Below B w w42 := Below.trans hb39 hB43
  have hL46 : B ≤ w42.heap.size := Nat.le_trans hL40 hB43.size
  refine WL.sub [(0, .slice a0' list_0.length c0'), (5, .int .i64 x3), (6, .pointer (some ⟨b18, 0, none⟩))] ⟨rfl, rfl, rfl, trivial⟩ ?_
  refine WL.nil ?_
  refine WA.done (by kernel_rfl) ?_
  refine WQ.then_normal (hK31 _ _ _ ?_)
  refine WP.seq (fun K47 hK47 => ?_)
  refine WP.seq (fun K48 hK48 => ?_)
  refine WP.region ?_
  refine WL.runk 1 [0, 5, 6, 27] [(0, .slice a0' list_0.length c0'), (5, .int .i64 x3), (6, .pointer (some ⟨b18, 0, none⟩)), (27, .pointer (some ⟨b18, 1, none⟩))] (by kernel_rfl) ?_
  refine WL.st (.int .i64 (wI64 (x16.OnHand + t_1.Many))) (ST.load (cell_ext (SH.boxAt (SH.front 0 hS44) 1 _ rfl)) rfl rfl Try.underlying2 rfl) rfl rfl rfl ?_
  refine WL.runk 1 [0, 5, 6, 28, 29] [(0, .slice a0' list_0.length c0'), (5, .int .i64 x3), (6, .pointer (some ⟨b18, 0, none⟩)), (28, .int .i64 (wI64 (x16.OnHand + t_1.Many))), (29, .pointer (some ⟨b18, 2, none⟩))] (by kernel_rfl) ?_
  refine WL.st (.int .i64 x16.Reserved) (ST.load (cell_ext (SH.boxAt (SH.front 0 hS44) 2 _ rfl)) rfl rfl Try.underlying2 rfl) rfl rfl rfl ?_
  refine WL.runk 1 [0, 5, 6, 31] [(0, .slice a0' list_0.length c0'), (5, .int .i64 x3), (6, .pointer (some ⟨b18, 0, none⟩)), (31, .bool (decide ((wI64 (x16.OnHand + t_1.Many)) < x16.Reserved)))] (by kernel_rfl) ?_
  refine WL.nil ?_
  refine WQ.then_normal (hK48 _ _ _ ?_)
  refine WP.cond (decide ((wI64 (x16.OnHand + t_1.Many)) < x16.Reserved)) rfl rfl (fun hc49 => ?_) (fun hc49 => ?_)
  · have hm := iteT hm hc49
    refine WP.seq (fun K50 hK50 => ?_)
    refine WP.region ?_
    refine WL.runk 1 [4] [(4, .int .i64 6)] (by kernel_rfl) ?_
    refine WL.nil ?_
    refine WQ.then_normal (hK50 _ _ _ ?_)
    refine WP.ret ?_
    refine WQ.then_ret ?_
    obtain rfl := Option.some.inj hm
    exact WQ.ret1 _ rfl rfl ⟨rfl, hb45, (SH.cutOut 1 1 (SH.front 1 hS44)), rfl⟩
  have hm := iteF hm hc49
  refine WP.skip ?_
  refine WQ.then_normal (hK47 _ _ _ ?_)
  refine WP.seq (fun K51 hK51 => ?_)
  refine WP.seq (fun K52 hK52 => ?_)
  refine WP.region ?_
  refine WL.runk 1 [0, 5, 6, 32] [(0, .slice a0' list_0.length c0'), (5, .int .i64 x3), (6, .pointer (some ⟨b18, 0, none⟩)), (32, .pointer (some ⟨b18, 1, none⟩))] (by kernel_rfl) ?_
  refine WL.st (.int .i64 (wI64 (x16.OnHand + t_1.Many))) (ST.load (cell_ext (SH.boxAt (SH.front 0 hS44) 1 _ rfl)) rfl rfl Try.underlying2 rfl) rfl rfl rfl ?_
  obtain ⟨x53, hx54, hm⟩ := bindE hm
  refine WL.call 81 #[.int .i64 (wI64 (x16.OnHand + t_1.Many))] rfl rfl (by kernel_rfl) (c_81 n (wI64 (x16.OnHand + t_1.Many)) w42 hx54 ) ?_
  rintro _ w55 ⟨rfl, hE56⟩
  refine ⟨_, rfl, ?_⟩
  have hb58 : Below B w w55 := Below.trans hb45 (Below.mono hE56 hL46)
  have hL59 : B ≤ w55.heap.size := Nat.le_trans hL46 hE56.size
  have hS60 : SH w55 B (aBox 56 b18 [.string (bs x16.Name), .int .i64 (wI64 (x16.OnHand + t_1.Many)), .int .i64 x16.Reserved, .int .i64 x16.Least] :: aOwn fGood 56 a0' c0' list_0 :: L) := SH.ext hS44 hE56
  refine WL.runk 1 [0, 5, 6, 35] [(0, .slice a0' list_0.length c0'), (5, .int .i64 x3), (6, .pointer (some ⟨b18, 0, none⟩)), (35, .bool (!x53))] (by kernel_rfl) ?_
  refine WL.nil ?_
  refine WQ.then_normal (hK52 _ _ _ ?_)
  refine WP.cond (!x53) rfl rfl (fun hc61 => ?_) (fun hc61 => ?_)
  · have hm := iteT hm hc61
    refine WP.seq (fun K62 hK62 => ?_)
    refine WP.region ?_
    refine WL.runk 1 [4] [(4, .int .i64 5)] (by kernel_rfl) ?_
    refine WL.nil ?_
    refine WQ.then_normal (hK62 _ _ _ ?_)
    refine WP.ret ?_
    refine WQ.then_ret ?_
    obtain rfl := Option.some.inj hm
    exact WQ.ret1 _ rfl rfl ⟨rfl, hb58, (SH.cutOut 1 1 (SH.front 1 hS60)), rfl⟩
  have hm := iteF hm hc61
  refine WP.skip ?_
  refine WQ.then_normal (hK51 _ _ _ ?_)
  refine WP.seq (fun K63 hK63 => ?_)
  refine WP.region ?_
  refine WL.runk 2 [6, 36, 37] [(6, .pointer (some ⟨b18, 0, none⟩)), (36, .slice a0' list_0.length c0'), (37, .int .i64 x3)] (by kernel_rfl) ?_
  refine WL.st (.agg #[.string (bs x16.Name), .int .i64 (wI64 (x16.OnHand + t_1.Many)), .int .i64 x16.Reserved, .int .i64 x16.Least]) (ST.loadAgg (vs := [.string (bs x16.Name), .int .i64 (wI64 (x16.OnHand + t_1.Many)), .int .i64 x16.Reserved, .int .i64 x16.Least]) (fun j v hv => SH.boxPart (us := [.string (bs x16.Name), .int .i64 (wI64 (x16.OnHand + t_1.Many)), .int .i64 x16.Reserved, .int .i64 x16.Least]) (SH.front 0 hS60) 0 rfl j v hv) rfl rfl rfl Try.underlying56 rfl (info56).1 (info56).2.1) rfl rfl rfl ?_
  obtain ⟨x64, hx65, hm⟩ := bindE hm
  refine WL.st (.pointer (some (at_ a0' (Int.toNat x3 * 4)))) (ST.index (T := fGood.ty) (xs := list_0) (SH.rd (SH.front 1 hS60)) hx65 rfl rfl rfl Try.underlying25 (info56).1 (info56).2.1) rfl rfl rfl ?_
  refine WL.store (F := fGood) (SGood.mk x16.Name (wI64 (x16.OnHand + t_1.Many)) x16.Reserved x16.Least) 0 [.string (bs x16.Name), .int .i64 (wI64 (x16.OnHand + t_1.Many)), .int .i64 x16.Reserved, .int .i64 x16.Least] (SH.front 1 hS60) hL59 hx65 rfl rfl rfl rfl rfl rfl rfl (info56).1 (info56).2.1 rfl rfl rfl ?_
  intro w66 hB67 hS68
  have hb69 : Below B w w66 := Below.trans hb58 hB67
  have hL70 : B ≤ w66.heap.size := Nat.le_trans hL59 hB67.size
  refine WL.sub [(6, .pointer (some ⟨b18, 0, none⟩)), (36, .slice a0' ((list_0.set (Int.toNat x3) (SGood.mk x16.Name (wI64 (x16.OnHand + t_1.Many)) x16.Reserved x16.Least)).length) c0'), (37, .int .i64 x3), (38, .agg #[.string (bs x16.Name), .int .i64 (wI64 (x16.OnHand + t_1.Many)), .int .i64 x16.Reserved, .int .i64 x16.Least])] ⟨rfl, by first | (simp only [List.length_set]; done) | (simp only [List.length_set]; rfl), rfl, rfl, trivial⟩ ?_
  have hn71 : (list_0.set (Int.toNat x3) (SGood.mk x16.Name (wI64 (x16.OnHand + t_1.Many)) x16.Reserved x16.Least)).length = list_0.length := List.length_set.trans rfl
  refine WL.sub [] trivial ?_
  refine WL.nil ?_
  refine WQ.then_normal (hK63 _ _ _ ?_)
  refine WP.seq (fun K72 hK72 => ?_)
  refine WP.region ?_
  refine WL.runk 1 [4] [(4, .int .i64 0)] (by kernel_rfl) ?_
  refine WL.nil ?_
  refine WQ.then_normal (hK72 _ _ _ ?_)
  refine WP.ret ?_
  obtain rfl := Option.some.inj hm
  exact WQ.ret1 _ rfl rfl ⟨rfl, hb69, (SH.cutOut 1 1 hS68), hn71⟩

theorem c_33 (n : Nat) (a_0 : STake) (w : World) {r : STake} (hm : m_laws_toTake n a_0 = some r)  :
    CallV Try.prog 33 #[.agg #[.string (bs a_0.Name), .int .i64 a_0.Many]] w (fun v w' => v = .agg #[.string (bs r.Name), .int .i64 r.Many] ∧ Ext w w') := by
  unfold m_laws_toTake at hm
  refine CallV.enter Try.func33 rfl (by kernel_rfl) Try.ntmps33 (env := [(0, .agg #[.string (bs a_0.Name), .int .i64 a_0.Many])]) ⟨rfl, trivial⟩ ?_
  refine WP.seq (fun K1 hK1 => ?_)
  refine WP.region ?_
  refine WL.box 40 [.string (bs a_0.Name), .int .i64 a_0.Many] 1 (by kernel_rfl) rfl rfl rfl rfl ?_
  intro b2 w3 hE4 hR5
  have hb7 : Ext w w3 := Ext.trans (Ext.refl w) hE4
  have hL8 : w.heap.size ≤ w3.heap.size := Nat.le_trans (Nat.le_refl _) hE4.size
  have hS9 : SH w3 w.heap.size [aBox 40 b2 [.string (bs a_0.Name), .int .i64 a_0.Many]] := SH.add (SH.nil _ _) hE4 (Nat.le_refl _) hR5
  refine WL.box 43 [.string (bs []), .int .i64 0] 2 (by kernel_rfl) rfl rfl rfl rfl ?_
  intro b10 w11 hE12 hR13
  have hb15 : Ext w w11 := Ext.trans hb7 hE12
  have hL16 : w.heap.size ≤ w11.heap.size := Nat.le_trans hL8 hE12.size
  have hS17 : SH w11 w.heap.size [aBox 43 b10 [.string (bs []), .int .i64 0], aBox 40 b2 [.string (bs a_0.Name), .int .i64 a_0.Many]] := SH.add hS9 hE12 hL8 hR13
  refine WL.sub [(1, .pointer (some ⟨b2, 0, none⟩)), (2, .pointer (some ⟨b10, 0, none⟩))] ⟨rfl, rfl, trivial⟩ ?_
  refine WL.nil ?_
  refine WQ.then_normal (hK1 _ _ _ ?_)
  refine WP.seq (fun K18 hK18 => ?_)
  refine WP.region ?_
  refine WL.box 43 [.string (bs []), .int .i64 0] 3 (by kernel_rfl) rfl rfl rfl rfl ?_
  intro b19 w20 hE21 hR22
  have hb24 : Ext w w20 := Ext.trans hb15 hE21
  have hL25 : w.heap.size ≤ w20.heap.size := Nat.le_trans hL16 hE21.size
  have hS26 : SH w20 w.heap.size [aBox 43 b19 [.string (bs []), .int .i64 0], aBox 43 b10 [.string (bs []), .int .i64 0], aBox 40 b2 [.string (bs a_0.Name), .int .i64 a_0.Many]] := SH.add hS17 hE21 hL16 hR22
  refine WL.sub [(1, .pointer (some ⟨b2, 0, none⟩)), (2, .pointer (some ⟨b10, 0, none⟩)), (3, .pointer (some ⟨b19, 0, none⟩))] ⟨rfl, rfl, rfl, trivial⟩ ?_
  refine WL.nil ?_
  refine WQ.then_normal (hK18 _ _ _ ?_)
  refine WP.seq (fun K27 hK27 => ?_)
  refine WP.region ?_
  refine WL.runk 1 [1, 2, 3, 4] [(1, .pointer (some ⟨b2, 0, none⟩)), (2, .pointer (some ⟨b10, 0, none⟩)), (3, .pointer (some ⟨b19, 0, none⟩)), (4, .pointer (some ⟨b2, 0, none⟩))] (by kernel_rfl) ?_
  refine WL.st (.string (bs a_0.Name)) (ST.load (cell_ext (SH.boxAt (SH.front 2 hS26) 0 _ rfl)) rfl rfl Try.underlying9 rfl) rfl rfl rfl ?_
  refine WL.runk 1 [1, 2, 3, 5, 6] [(1, .pointer (some ⟨b2, 0, none⟩)), (2, .pointer (some ⟨b10, 0, none⟩)), (3, .pointer (some ⟨b19, 0, none⟩)), (5, .string (bs a_0.Name)), (6, .pointer (some ⟨b19, 0, none⟩))] (by kernel_rfl) ?_
  refine WL.boxStore 0 [.string (bs a_0.Name)] [.string (bs a_0.Name), .int .i64 0] (SH.front 0 hS26) hL25 rfl rfl rfl rfl rfl rfl rfl (info9).1 (info9).2.1 rfl rfl rfl ?_
  intro w28 hB29 hS30
  have hb31 : Ext w w28 := Below.trans hb24 hB29
  have hL32 : w.heap.size ≤ w28.heap.size := Nat.le_trans hL25 hB29.size
  refine WL.sub [(1, .pointer (some ⟨b2, 0, none⟩)), (2, .pointer (some ⟨b10, 0, none⟩)), (3, .pointer (some ⟨b19, 0, none⟩))] ⟨rfl, rfl, rfl, trivial⟩ ?_
  refine WL.nil ?_
  refine WQ.then_normal (hK27 _ _ _ ?_)
  refine WP.seq (fun K33 hK33 => ?_)
  refine WP.region ?_
  refine WL.runk 1 [2, 3, 7] [(2, .pointer (some ⟨b10, 0, none⟩)), (3, .pointer (some ⟨b19, 0, none⟩)), (7, .pointer (some ⟨b2, 1, none⟩))] (by kernel_rfl) ?_
  refine WL.st (.int .i64 a_0.Many) (ST.load (cell_ext (SH.boxAt (SH.front 2 hS30) 1 _ rfl)) rfl rfl Try.underlying2 rfl) rfl rfl rfl ?_
  refine WL.runk 1 [2, 3, 8, 9] [(2, .pointer (some ⟨b10, 0, none⟩)), (3, .pointer (some ⟨b19, 0, none⟩)), (8, .int .i64 a_0.Many), (9, .pointer (some ⟨b19, 1, none⟩))] (by kernel_rfl) ?_
  refine WL.boxStore 1 [.int .i64 a_0.Many] [.string (bs a_0.Name), .int .i64 a_0.Many] (SH.front 0 hS30) hL32 rfl rfl rfl rfl rfl rfl rfl (info2).1 (info2).2.1 rfl rfl rfl ?_
  intro w34 hB35 hS36
  have hb37 : Ext w w34 := Below.trans hb31 hB35
  have hL38 : w.heap.size ≤ w34.heap.size := Nat.le_trans hL32 hB35.size
  refine WL.sub [(2, .pointer (some ⟨b10, 0, none⟩)), (3, .pointer (some ⟨b19, 0, none⟩))] ⟨rfl, rfl, trivial⟩ ?_
  refine WL.nil ?_
  refine WQ.then_normal (hK33 _ _ _ ?_)
  refine WP.seq (fun K39 hK39 => ?_)
  refine WP.region ?_
  refine WL.st (.agg #[.string (bs a_0.Name), .int .i64 a_0.Many]) (ST.loadAgg (vs := [.string (bs a_0.Name), .int .i64 a_0.Many]) (fun j v hv => SH.boxPart (us := [.string (bs a_0.Name), .int .i64 a_0.Many]) (SH.front 0 hS36) 0 rfl j v hv) rfl rfl rfl Try.underlying43 rfl (info43).1 (info43).2.1) rfl rfl rfl ?_
  refine WL.boxStore 0 [.string (bs a_0.Name), .int .i64 a_0.Many] [.string (bs a_0.Name), .int .i64 a_0.Many] (SH.front 1 hS36) hL38 rfl rfl rfl rfl rfl rfl rfl (info43).1 (info43).2.1 rfl rfl rfl ?_
  intro w40 hB41 hS42
  have hb43 : Ext w w40 := Below.trans hb37 hB41
  have hL44 : w.heap.size ≤ w40.heap.size := Nat.le_trans hL38 hB41.size
  refine WL.sub [(2, .pointer (some ⟨b10, 0, none⟩))] ⟨rfl, trivial⟩ ?_
  refine WL.nil ?_
  refine WQ.then_normal (hK39 _ _ _ ?_)
  refine WP.ret ?_
  obtain rfl := Option.some.inj hm
  exact WQ.retv1 _ rfl (RVal.box (SH.front 0 hS42) rfl Try.underlying43 rfl (info43).1 (info43).2.1) ⟨rfl, hb43⟩

theorem c_61 (n : Nat) (t_0 : STake) (w : World) {r : Bool} (hm : m_impl_isTake n t_0 = some r)  :
    CallV Try.prog 61 #[.agg #[.string (bs t_0.Name), .int .i64 t_0.Many]] w (fun v w' => v = .bool r ∧ Ext w w') := by
  unfold m_impl_isTake at hm
  refine CallV.enter Try.func61 rfl (by kernel_rfl) Try.ntmps61 (env := [(0, .agg #[.string (bs t_0.Name), .int .i64 t_0.Many])]) ⟨rfl, trivial⟩ ?_
  refine WP.seq (fun K1 hK1 => ?_)
  refine WP.region ?_
  refine WL.box 43 [.string (bs t_0.Name), .int .i64 t_0.Many] 1 (by kernel_rfl) rfl rfl rfl rfl ?_
  intro b2 w3 hE4 hR5
  have hb7 : Ext w w3 := Ext.trans (Ext.refl w) hE4
  have hL8 : w.heap.size ≤ w3.heap.size := Nat.le_trans (Nat.le_refl _) hE4.size
  have hS9 : SH w3 w.heap.size [aBox 43 b2 [.string (bs t_0.Name), .int .i64 t_0.Many]] := SH.add (SH.nil _ _) hE4 (Nat.le_refl _) hR5
  refine WL.runk 1 [1] [(1, .pointer (some ⟨b2, 0, none⟩))] (by kernel_rfl) ?_
  refine WL.nil ?_
  refine WQ.then_normal (hK1 _ _ _ ?_)
  refine WP.seq (fun K10 hK10 => ?_)
  refine WP.region ?_
  refine WL.runk 1 [3] [(3, .pointer (some ⟨b2, 1, none⟩))] (by kernel_rfl) ?_
  refine WL.st (.int .i64 t_0.Many) (ST.load (cell_ext (SH.boxAt (SH.front 0 hS9) 1 _ rfl)) rfl rfl Try.underlying2 rfl) rfl rfl rfl ?_
  obtain ⟨x11, hx12, hm⟩ := bindE hm
  refine WL.call 67 #[.int .i64 t_0.Many, .int .i64 (-1000000), .int .i64 1000000] rfl rfl (by kernel_rfl) (c_67 n t_0.Many (-1000000) 1000000 w3 hx12 ) ?_
  rintro _ w13 ⟨rfl, hE14⟩
  refine ⟨_, rfl, ?_⟩
  have hb16 : Ext w w13 := Ext.trans hb7 hE14
  have hL17 : w.heap.size ≤ w13.heap.size := Nat.le_trans hL8 hE14.size
  have hS18 : SH w13 w.heap.size [aBox 43 b2 [.string (bs t_0.Name), .int .i64 t_0.Many]] := SH.ext hS9 hE14
  refine WL.runk 1 [2] [(2, .bool x11)] (by kernel_rfl) ?_
  refine WL.nil ?_
  refine WQ.then_normal (hK10 _ _ _ ?_)
  refine WP.ret ?_
  obtain rfl := Option.some.inj hm
  exact WQ.ret1 _ rfl rfl ⟨rfl, hb16⟩

theorem c_62 (n : Nat) (list_0 : List SGood) (a0' : Option Addr) (c0' : Nat) (t_1 : STake) (w : World) {r : List SGood × Int} (hm : m_impl_taken n list_0 t_1 = some r) (h0 : Rd fGood.ty w a0' list_0) (hle0 : list_0.length ≤ c0') :
    CallV Try.prog 62 #[.slice a0' list_0.length c0', .agg #[.string (bs t_1.Name), .int .i64 t_1.Many]] w (fun v w' => ∃ (ra0 : Option Addr) (rc0 : Nat), v = .tuple #[.slice ra0 r.1.length rc0, .int .i64 r.2] ∧ Ext w w' ∧ SH w' w.heap.size [aOwn fGood 56 ra0 rc0 r.1]) := by
  unfold m_impl_taken at hm
  refine CallV.enter Try.func62 rfl (by kernel_rfl) Try.ntmps62 (env := [(0, .slice a0' list_0.length c0'), (1, .agg #[.string (bs t_1.Name), .int .i64 t_1.Many])]) ⟨rfl, rfl, trivial⟩ ?_
  refine WP.seq (fun K1 hK1 => ?_)
  refine WP.region ?_
  refine WL.box 43 [.string (bs t_1.Name), .int .i64 t_1.Many] 3 (by kernel_rfl) rfl rfl rfl rfl ?_
  intro b2 w3 hE4 hR5
  have hb7 : Ext w w3 := Ext.trans (Ext.refl w) hE4
  have hL8 : w.heap.size ≤ w3.heap.size := Nat.le_trans (Nat.le_refl _) hE4.size
  have hS9 : SH w3 w.heap.size [aBox 43 b2 [.string (bs t_1.Name), .int .i64 t_1.Many]] := SH.add (SH.nil _ _) hE4 (Nat.le_refl _) hR5
  refine WL.runk 2 [0, 3] [(0, .slice a0' list_0.length c0'), (3, .pointer (some ⟨b2, 0, none⟩))] (by kernel_rfl) ?_
  refine WL.nil ?_
  refine WQ.then_normal (hK1 _ _ _ ?_)
  refine WP.seq (fun K10 hK10 => ?_)
  refine WP.region ?_
  refine WL.runk 2 [0, 3, 10, 11] [(0, .slice a0' list_0.length c0'), (3, .pointer (some ⟨b2, 0, none⟩)), (10, .slice a0' list_0.length c0'), (11, .pointer (some ⟨b2, 0, none⟩))] (by kernel_rfl) ?_
  refine WL.st (.string (bs t_1.Name)) (ST.load (cell_ext (SH.boxAt (SH.front 0 hS9) 0 _ rfl)) rfl rfl Try.underlying9 rfl) rfl rfl rfl ?_
  obtain ⟨x11, hx12, hm⟩ := bindE hm
  refine WL.call 68 #[.slice a0' list_0.length c0', .string (bs t_1.Name)] rfl rfl (by kernel_rfl) (c_68 n list_0 a0' c0' t_1.Name w3 hx12 (Rd.below h0 hb7) hle0) ?_
  rintro _ w13 ⟨rfl, hE14⟩
  refine ⟨_, rfl, ?_⟩
  have hb16 : Ext w w13 := Ext.trans hb7 hE14
  have hL17 : w.heap.size ≤ w13.heap.size := Nat.le_trans hL8 hE14.size
  have hS18 : SH w13 w.heap.size [aBox 43 b2 [.string (bs t_1.Name), .int .i64 t_1.Many]] := SH.ext hS9 hE14
  refine WL.runk 5 [0, 3, 6, 7] [(0, .slice a0' list_0.length c0'), (3, .pointer (some ⟨b2, 0, none⟩)), (6, .int .i64 x11.1), (7, .bool x11.2)] (by kernel_rfl) ?_
  refine WL.nil ?_
  refine WQ.then_normal (hK10 _ _ _ ?_)
  refine WP.seq (fun K19 hK19 => ?_)
  refine WP.seq (fun K20 hK20 => ?_)
  refine WP.region ?_
  refine WL.runk 2 [0, 3, 6, 17] [(0, .slice a0' list_0.length c0'), (3, .pointer (some ⟨b2, 0, none⟩)), (6, .int .i64 x11.1), (17, .bool (!x11.2))] (by kernel_rfl) ?_
  refine WL.nil ?_
  refine WQ.then_normal (hK20 _ _ _ ?_)
  refine WP.cond (!x11.2) rfl rfl (fun hc21 => ?_) (fun hc21 => ?_)
  · have hm := iteT hm hc21
    refine WP.seq (fun K22 hK22 => ?_)
    refine WP.region ?_
    refine WL.runk 2 [4, 5] [(4, .slice none 0 0), (5, .int .i64 3)] (by kernel_rfl) ?_
    refine WL.nil ?_
    refine WQ.then_normal (hK22 _ _ _ ?_)
    refine WP.ret ?_
    refine WQ.then_ret ?_
    obtain rfl := Option.some.inj hm
    have hS24 : SH w13 w.heap.size [aOwn fGood 56 none 0 ([] : List SGood), aBox 43 b2 [.string (bs t_1.Name), .int .i64 t_1.Many]] := SH.nilOwn hS18
    exact WQ.ret2 _ _ rfl rfl rfl ⟨_, _, rfl, hb16, (SH.take 1 hS24)⟩
  have hm := iteF hm hc21
  refine WP.skip ?_
  refine WQ.then_normal (hK19 _ _ _ ?_)
  refine WP.seq (fun K25 hK25 => ?_)
  refine WP.region ?_
  refine WL.runk 1 [3, 6, 18] [(3, .pointer (some ⟨b2, 0, none⟩)), (6, .int .i64 x11.1), (18, .slice a0' list_0.length c0')] (by kernel_rfl) ?_
  obtain ⟨x26, hx27, hm⟩ := bindE hm
  refine WL.call 58 #[.slice a0' list_0.length c0'] rfl rfl (by kernel_rfl) (c_58 n list_0 a0' c0' w13 hx27 (Rd.below h0 hb16) hle0) ?_
  rintro _ w31 ⟨a28, c29, rfl, hE32, hR33⟩
  refine ⟨_, rfl, ?_⟩
  have hb34 : Ext w w31 := Ext.trans hb16 hE32
  have hL35 : w.heap.size ≤ w31.heap.size := Nat.le_trans hL17 hE32.size
  have hS36 : SH w31 w.heap.size [aOwn fGood 56 a28 c29 x26, aBox 43 b2 [.string (bs t_1.Name), .int .i64 t_1.Many]] := SH.add hS18 hE32 hL17 hR33
  refine WL.runk 1 [3, 6, 8] [(3, .pointer (some ⟨b2, 0, none⟩)), (6, .int .i64 x11.1), (8, .slice a28 x26.length c29)] (by kernel_rfl) ?_
  refine WL.nil ?_
  refine WQ.then_normal (hK25 _ _ _ ?_)
  refine WP.seq (fun K37 hK37 => ?_)
  refine WP.open (n := 11) (by kernel_rfl) rfl (fun w38 hE39 => ?_)
  have hb40 : Ext w w38 := Ext.trans hb34 hE39
  have hL41 : w.heap.size ≤ w38.heap.size := Nat.le_trans hL35 hE39.size
  have hS42 : SH w38 w.heap.size [aOwn fGood 56 a28 c29 x26, aBox 43 b2 [.string (bs t_1.Name), .int .i64 t_1.Many]] := SH.ext hS36 hE39
  refine WA.quiet (f' := 1) (D' := [0, 1, 2, 3, 4, 5, 6, 7, 8, 9]) [0, 1, 2, 3, 4, 5, 6, 7, 8, 9] rfl rfl (by kernel_rfl) ?_
  refine QL.step1v 20 (.slice a28 x26.length c29) rfl (fun _ => by kernel_rfl) ?_
  refine QL.step1v 21 (.int .i64 x11.1) rfl (fun _ => by kernel_rfl) ?_
  refine QL.subk [3, 6, 8, 20, 21] [(3, .pointer (some ⟨b2, 0, none⟩)), (6, .int .i64 x11.1), (8, .slice a28 x26.length c29), (20, .slice a28 x26.length c29), (21, .int .i64 x11.1)] (by kernel_rfl) ?_
  obtain ⟨x43, hx44, hm⟩ := bindE hm
  refine QL.st (.pointer (some (at_ a28 (Int.toNat x11.1 * 4)))) (ST.index (T := fGood.ty) (xs := x26) (SH.rd (SH.front 0 hS42)) hx44 rfl rfl rfl Try.underlying25 (info56).1 (info56).2.1) rfl rfl rfl ?_
  refine QL.step1v 23 (.pointer (some (at_ a28 (Int.toNat x11.1 * 4 + 1)))) rfl (fun _ => by kernel_rfl) ?_
  refine QL.subk [3, 6, 8, 20, 21, 23] [(3, .pointer (some ⟨b2, 0, none⟩)), (6, .int .i64 x11.1), (8, .slice a28 x26.length c29), (20, .slice a28 x26.length c29), (21, .int .i64 x11.1), (23, .pointer (some (at_ a28 (Int.toNat x11.1 * 4 + 1))))] (by kernel_rfl) ?_
  refine QL.st (.int .i64 x43.OnHand) (ST.load (cell_ext (Rd.flat (F := fGood) (SH.rd (SH.front 0 hS42)) hx44 1 rfl)) rfl rfl Try.underlying2 rfl) rfl rfl rfl ?_
  refine QL.step1v 25 (.pointer (some ⟨b2, 1, none⟩)) rfl (fun _ => by kernel_rfl) ?_
  refine QL.subk [6, 8, 20, 21, 24, 25] [(6, .int .i64 x11.1), (8, .slice a28 x26.length c29), (20, .slice a28 x26.length c29), (21, .int .i64 x11.1), (24, .int .i64 x43.OnHand), (25, .pointer (some ⟨b2, 1, none⟩))] (by kernel_rfl) ?_
  refine QL.st (.int .i64 t_1.Many) (ST.load (cell_ext (SH.boxAt (SH.front 1 hS42) 1 _ rfl)) rfl rfl Try.underlying2 rfl) rfl rfl rfl ?_
  refine QL.step1v 27 (.int .i64 (wI64 (x43.OnHand + t_1.Many))) rfl (fun _ => by kernel_rfl) ?_
  refine QL.subk [6, 8, 20, 21, 27] [(6, .int .i64 x11.1), (8, .slice a28 x26.length c29), (20, .slice a28 x26.length c29), (21, .int .i64 x11.1), (27, .int .i64 (wI64 (x43.OnHand + t_1.Many)))] (by kernel_rfl) ?_
  obtain ⟨x45, hx46, hm⟩ := bindE hm
  refine QL.st (.pointer (some (at_ a28 (Int.toNat x11.1 * 4)))) (ST.index (T := fGood.ty) (xs := x26) (SH.rd (SH.front 0 hS42)) hx46 rfl rfl rfl Try.underlying25 (info56).1 (info56).2.1) rfl rfl rfl ?_
  refine QL.step1v 29 (.pointer (some (at_ a28 (Int.toNat x11.1 * 4 + 1)))) rfl (fun _ => by kernel_rfl) ?_
  refine QL.subk [6, 8, 27, 29] [(6, .int .i64 x11.1), (8, .slice a28 x26.length c29), (27, .int .i64 (wI64 (x43.OnHand + t_1.Many))), (29, .pointer (some (at_ a28 (Int.toNat x11.1 * 4 + 1))))] (by kernel_rfl) ?_
  refine QL.nil ?_
  intro w47 hE48
  have hb49 : Ext w w47 := Ext.trans hb40 hE48
  have hL50 : w.heap.size ≤ w47.heap.size := Nat.le_trans hL41 hE48.size
  have hS51 : SH w47 w.heap.size [aOwn fGood 56 a28 c29 x26, aBox 43 b2 [.string (bs t_1.Name), .int .i64 t_1.Many]] := SH.ext hS42 hE48
  refine WA.one (i := 10) (D' := [0, 1, 2, 3, 4, 5, 6, 7, 8, 9, 10]) rfl rfl (by kernel_rfl) ?_
  refine WL.store (F := fGood) (SGood.mk x45.Name (wI64 (x43.OnHand + t_1.Many)) x45.Reserved x45.Least) 1 [.int .i64 (wI64 (x43.OnHand + t_1.Many))] (SH.front 0 hS51) hL50 hx46 rfl rfl rfl rfl rfl rfl rfl (info2).1 (info2).2.1 rfl rfl rfl ?_
  intro w52 hB53 hS54
  have hb55 : Ext w w52 := Below.trans hb49 hB53
  have hL56 : w.heap.size ≤ w52.heap.size := Nat.le_trans hL50 hB53.size
  refine WL.sub [(6, .int .i64 x11.1), (8, .slice a28 ((x26.set (Int.toNat x11.1) (SGood.mk x45.Name (wI64 (x43.OnHand + t_1.Many)) x45.Reserved x45.Least)).length) c29), (27, .int .i64 (wI64 (x43.OnHand + t_1.Many)))] ⟨rfl, by first | (simp only [List.length_set]; done) | (simp only [List.length_set]; rfl), rfl, trivial⟩ ?_
  refine WL.sub [(6, .int .i64 x11.1), (8, .slice a28 ((x26.set (Int.toNat x11.1) (SGood.mk x45.Name (wI64 (x43.OnHand + t_1.Many)) x45.Reserved x45.Least)).length) c29)] ⟨rfl, rfl, trivial⟩ ?_
  refine WL.nil ?_
  refine WA.done (by kernel_rfl) ?_
  refine WQ.then_normal (hK37 _ _ _ ?_)
  refine WP.seq (fun K57 hK57 => ?_)
  refine WP.block ?_
  refine WP.seq (fun K58 hK58 => ?_)
  refine WP.quiet (by kernel_rfl) (by kernel_rfl) ?_
  refine QL.step1v 31 (.slice a28 ((x26.set (Int.toNat x11.1) (SGood.mk x45.Name (wI64 (x43.OnHand + t_1.Many)) x45.Reserved x45.Least)).length) c29) rfl (fun _ => by kernel_rfl) ?_
  refine QL.step1v 32 (.int .i64 x11.1) rfl (fun _ => by kernel_rfl) ?_
  refine QL.subk [6, 8, 31, 32] [(6, .int .i64 x11.1), (8, .slice a28 ((x26.set (Int.toNat x11.1) (SGood.mk x45.Name (wI64 (x43.OnHand + t_1.Many)) x45.Reserved x45.Least)).length) c29), (31, .slice a28 ((x26.set (Int.toNat x11.1) (SGood.mk x45.Name (wI64 (x43.OnHand + t_1.Many)) x45.Reserved x45.Least)).length) c29), (32, .int .i64 x11.1)] (by kernel_rfl) ?_
  obtain ⟨x59, hx60, hm⟩ := bindE hm
  refine QL.st (.pointer (some (at_ a28 (Int.toNat x11.1 * 4)))) (ST.index (T := fGood.ty) (xs := (x26.set (Int.toNat x11.1) (SGood.mk x45.Name (wI64 (x43.OnHand + t_1.Many)) x45.Reserved x45.Least))) (SH.rd (SH.front 0 hS54)) hx60 rfl rfl rfl Try.underlying25 (info56).1 (info56).2.1) rfl rfl rfl ?_
  refine QL.step1v 34 (.pointer (some (at_ a28 (Int.toNat x11.1 * 4 + 1)))) rfl (fun _ => by kernel_rfl) ?_
  refine QL.subk [6, 8, 34] [(6, .int .i64 x11.1), (8, .slice a28 ((x26.set (Int.toNat x11.1) (SGood.mk x45.Name (wI64 (x43.OnHand + t_1.Many)) x45.Reserved x45.Least)).length) c29), (34, .pointer (some (at_ a28 (Int.toNat x11.1 * 4 + 1))))] (by kernel_rfl) ?_
  refine QL.st (.int .i64 x59.OnHand) (ST.load (cell_ext (Rd.flat (F := fGood) (SH.rd (SH.front 0 hS54)) hx60 1 rfl)) rfl rfl Try.underlying2 rfl) rfl rfl rfl ?_
  refine QL.step1v 36 (.slice a28 ((x26.set (Int.toNat x11.1) (SGood.mk x45.Name (wI64 (x43.OnHand + t_1.Many)) x45.Reserved x45.Least)).length) c29) rfl (fun _ => by kernel_rfl) ?_
  refine QL.step1v 37 (.int .i64 x11.1) rfl (fun _ => by kernel_rfl) ?_
  refine QL.subk [6, 8, 35, 36, 37] [(6, .int .i64 x11.1), (8, .slice a28 ((x26.set (Int.toNat x11.1) (SGood.mk x45.Name (wI64 (x43.OnHand + t_1.Many)) x45.Reserved x45.Least)).length) c29), (35, .int .i64 x59.OnHand), (36, .slice a28 ((x26.set (Int.toNat x11.1) (SGood.mk x45.Name (wI64 (x43.OnHand + t_1.Many)) x45.Reserved x45.Least)).length) c29), (37, .int .i64 x11.1)] (by kernel_rfl) ?_
  obtain ⟨x61, hx62, hm⟩ := bindE hm
  refine QL.st (.pointer (some (at_ a28 (Int.toNat x11.1 * 4)))) (ST.index (T := fGood.ty) (xs := (x26.set (Int.toNat x11.1) (SGood.mk x45.Name (wI64 (x43.OnHand + t_1.Many)) x45.Reserved x45.Least))) (SH.rd (SH.front 0 hS54)) hx62 rfl rfl rfl Try.underlying25 (info56).1 (info56).2.1) rfl rfl rfl ?_
  refine QL.step1v 39 (.pointer (some (at_ a28 (Int.toNat x11.1 * 4 + 2)))) rfl (fun _ => by kernel_rfl) ?_
  refine QL.subk [6, 8, 35, 39] [(6, .int .i64 x11.1), (8, .slice a28 ((x26.set (Int.toNat x11.1) (SGood.mk x45.Name (wI64 (x43.OnHand + t_1.Many)) x45.Reserved x45.Least)).length) c29), (35, .int .i64 x59.OnHand), (39, .pointer (some (at_ a28 (Int.toNat x11.1 * 4 + 2))))] (by kernel_rfl) ?_
  refine QL.st (.int .i64 x61.Reserved) (ST.load (cell_ext (Rd.flat (F := fGood) (SH.rd (SH.front 0 hS54)) hx62 2 rfl)) rfl rfl Try.underlying2 rfl) rfl rfl rfl ?_
  refine QL.step1v 41 (.bool (decide (x59.OnHand < x61.Reserved))) rfl (fun _ => by kernel_rfl) ?_
  refine QL.step1v 30 (.bool (decide (x59.OnHand < x61.Reserved))) rfl (fun _ => by kernel_rfl) ?_
  refine QL.subk [6, 8, 30] [(6, .int .i64 x11.1), (8, .slice a28 ((x26.set (Int.toNat x11.1) (SGood.mk x45.Name (wI64 (x43.OnHand + t_1.Many)) x45.Reserved x45.Least)).length) c29), (30, .bool (decide (x59.OnHand < x61.Reserved)))] (by kernel_rfl) ?_
  refine QL.nil ?_
  intro w63 hE64
  have hb65 : Ext w w63 := Ext.trans hb55 hE64
  have hL66 : w.heap.size ≤ w63.heap.size := Nat.le_trans hL56 hE64.size
  have hS67 : SH w63 w.heap.size [aOwn fGood 56 a28 c29 (x26.set (Int.toNat x11.1) (SGood.mk x45.Name (wI64 (x43.OnHand + t_1.Many)) x45.Reserved x45.Least)), aBox 43 b2 [.string (bs t_1.Name), .int .i64 t_1.Many]] := SH.ext hS54 hE64
  refine WQ.then_normal (hK58 _ _ _ ?_)
  refine WP.cond (decide (x59.OnHand < x61.Reserved)) rfl rfl (fun hc68 => ?_) (fun hc68 => ?_)
  · have hm := iteT hm hc68
    refine WP.seq (fun K69 hK69 => ?_)
    refine WP.region ?_
    refine WL.runk 2 [4, 5] [(4, .slice none 0 0), (5, .int .i64 6)] (by kernel_rfl) ?_
    refine WL.nil ?_
    refine WQ.then_normal (hK69 _ _ _ ?_)
    refine WP.ret ?_
    refine WQ.block_ret ?_
    refine WQ.then_ret ?_
    obtain rfl := Option.some.inj hm
    have hS71 : SH w63 w.heap.size [aOwn fGood 56 none 0 ([] : List SGood), aOwn fGood 56 a28 c29 (x26.set (Int.toNat x11.1) (SGood.mk x45.Name (wI64 (x43.OnHand + t_1.Many)) x45.Reserved x45.Least)), aBox 43 b2 [.string (bs t_1.Name), .int .i64 t_1.Many]] := SH.nilOwn hS67
    exact WQ.ret2 _ _ rfl rfl rfl ⟨_, _, rfl, hb65, (SH.take 1 hS71)⟩
  have hm := iteF hm hc68
  refine WP.seq (fun K72 hK72 => ?_)
  refine WP.region ?_
  refine WL.runk 2 [8, 43, 44] [(8, .slice a28 ((x26.set (Int.toNat x11.1) (SGood.mk x45.Name (wI64 (x43.OnHand + t_1.Many)) x45.Reserved x45.Least)).length) c29), (43, .slice a28 ((x26.set (Int.toNat x11.1) (SGood.mk x45.Name (wI64 (x43.OnHand + t_1.Many)) x45.Reserved x45.Least)).length) c29), (44, .int .i64 x11.1)] (by kernel_rfl) ?_
  obtain ⟨x73, hx74, hm⟩ := bindE hm
  refine WL.st (.pointer (some (at_ a28 (Int.toNat x11.1 * 4)))) (ST.index (T := fGood.ty) (xs := (x26.set (Int.toNat x11.1) (SGood.mk x45.Name (wI64 (x43.OnHand + t_1.Many)) x45.Reserved x45.Least))) (SH.rd (SH.front 0 hS67)) hx74 rfl rfl rfl Try.underlying25 (info56).1 (info56).2.1) rfl rfl rfl ?_
  refine WL.runk 1 [8, 46] [(8, .slice a28 ((x26.set (Int.toNat x11.1) (SGood.mk x45.Name (wI64 (x43.OnHand + t_1.Many)) x45.Reserved x45.Least)).length) c29), (46, .pointer (some (at_ a28 (Int.toNat x11.1 * 4 + 1))))] (by kernel_rfl) ?_
  refine WL.st (.int .i64 x73.OnHand) (ST.load (cell_ext (Rd.flat (F := fGood) (SH.rd (SH.front 0 hS67)) hx74 1 rfl)) rfl rfl Try.underlying2 rfl) rfl rfl rfl ?_
  refine WL.runk 2 [8, 42] [(8, .slice a28 ((x26.set (Int.toNat x11.1) (SGood.mk x45.Name (wI64 (x43.OnHand + t_1.Many)) x45.Reserved x45.Least)).length) c29), (42, .bool (decide (x73.OnHand > 1000000)))] (by kernel_rfl) ?_
  refine WL.nil ?_
  refine WQ.then_normal (hK72 _ _ _ ?_)
  refine WP.cond (decide (x73.OnHand > 1000000)) rfl rfl (fun hc75 => ?_) (fun hc75 => ?_)
  · have hm := iteT hm hc75
    refine WP.seq (fun K76 hK76 => ?_)
    refine WP.region ?_
    refine WL.runk 2 [4, 5] [(4, .slice none 0 0), (5, .int .i64 5)] (by kernel_rfl) ?_
    refine WL.nil ?_
    refine WQ.then_normal (hK76 _ _ _ ?_)
    refine WP.ret ?_
    refine WQ.block_ret ?_
    refine WQ.then_ret ?_
    obtain rfl := Option.some.inj hm
    have hS78 : SH w63 w.heap.size [aOwn fGood 56 none 0 ([] : List SGood), aOwn fGood 56 a28 c29 (x26.set (Int.toNat x11.1) (SGood.mk x45.Name (wI64 (x43.OnHand + t_1.Many)) x45.Reserved x45.Least)), aBox 43 b2 [.string (bs t_1.Name), .int .i64 t_1.Many]] := SH.nilOwn hS67
    exact WQ.ret2 _ _ rfl rfl rfl ⟨_, _, rfl, hb65, (SH.take 1 hS78)⟩
  have hm := iteF hm hc75
  refine WP.skip ?_
  refine WQ.block_normal ?_
  refine WQ.then_normal (hK57 _ _ _ ?_)
  refine WP.seq (fun K79 hK79 => ?_)
  refine WP.region ?_
  refine WL.runk 3 [4, 5] [(4, .slice a28 ((x26.set (Int.toNat x11.1) (SGood.mk x45.Name (wI64 (x43.OnHand + t_1.Many)) x45.Reserved x45.Least)).length) c29), (5, .int .i64 0)] (by kernel_rfl) ?_
  refine WL.nil ?_
  refine WQ.then_normal (hK79 _ _ _ ?_)
  refine WP.ret ?_
  obtain rfl := Option.some.inj hm
  exact WQ.ret2 _ _ rfl rfl rfl ⟨_, _, rfl, hb65, (SH.take 1 hS67)⟩

theorem c_35 (n : Nat) (a_0 : List STake) (a0' : Option Addr) (c0' : Nat) (left_1 : Int) (w : World) {r : Int} (hm : m_laws_szTakeS n a_0 left_1 = some r) (h0 : Rd fTake.ty w a0' a_0) (_hle0 : a_0.length ≤ c0') :
    CallV Try.prog 35 #[.slice a0' a_0.length c0', .int .i64 left_1] w (fun v w' => v = .int .i64 r ∧ Ext w w') := by
  unfold m_laws_szTakeS at hm
  refine CallV.enter Try.func35 rfl (by kernel_rfl) Try.ntmps35 (env := [(0, .slice a0' a_0.length c0'), (1, .int .i64 left_1)]) ⟨rfl, rfl, trivial⟩ ?_
  refine WP.seq (fun K1 hK1 => ?_)
  refine WP.region ?_
  refine WL.runk 1 [0, 1] [(0, .slice a0' a_0.length c0'), (1, .int .i64 left_1)] (by kernel_rfl) ?_
  refine WL.nil ?_
  refine WQ.then_normal (hK1 _ _ _ ?_)
  refine WP.seq (fun K2 hK2 => ?_)
  refine WP.region ?_
  refine WL.runk 5 [0, 1] [(0, .slice a0' a_0.length c0'), (1, .int .i64 (wI64 (left_1 - (a_0.length : Int))))] (by kernel_rfl) ?_
  refine WL.nil ?_
  refine WQ.then_normal (hK2 _ _ _ ?_)
  refine WP.seq (fun K3 hK3 => ?_)
  refine WP.seq (fun K4 hK4 => ?_)
  refine WP.region ?_
  refine WL.runk 2 [0, 1, 11] [(0, .slice a0' a_0.length c0'), (1, .int .i64 (wI64 (left_1 - (a_0.length : Int)))), (11, .bool (decide ((wI64 (left_1 - (a_0.length : Int))) < 0)))] (by kernel_rfl) ?_
  refine WL.nil ?_
  refine WQ.then_normal (hK4 _ _ _ ?_)
  refine WP.cond (decide ((wI64 (left_1 - (a_0.length : Int))) < 0)) rfl rfl (fun hc5 => ?_) (fun hc5 => ?_)
  · have hm := iteT hm hc5
    refine WP.seq (fun K6 hK6 => ?_)
    refine WP.region ?_
    refine WL.runk 1 [4] [(4, .int .i64 (-1))] (by kernel_rfl) ?_
    refine WL.nil ?_
    refine WQ.then_normal (hK6 _ _ _ ?_)
    refine WP.ret ?_
    refine WQ.then_ret ?_
    obtain rfl := Option.some.inj hm
    exact WQ.ret1 _ rfl rfl ⟨rfl, (Ext.refl w)⟩
  have hm := iteF hm hc5
  refine WP.skip ?_
  refine WQ.then_normal (hK3 _ _ _ ?_)
  refine WP.seq (fun K7 hK7 => ?_)
  refine WP.seq (fun K8 hK8 => ?_)
  refine WP.region ?_
  refine WL.runk 1 [0, 1, 5] [(0, .slice a0' a_0.length c0'), (1, .int .i64 (wI64 (left_1 - (a_0.length : Int)))), (5, .int .i64 0)] (by kernel_rfl) ?_
  refine WL.nil ?_
  refine WQ.then_normal (hK8 _ _ _ ?_)
  refine WP.block ?_
  obtain ⟨t20, ht21, hm⟩ := bindE hm
  have hmo15 := hm; clear hm
  refine WP.sub [(0, .slice a0' a_0.length c0'), (1, .int .i64 (wI64 (left_1 - (a_0.length : Int)))), (5, .int .i64 0)] ⟨rfl, rfl, rfl, trivial⟩ ?_
  refine WP.loop (fun n' env' w' => ∃ (st9 : Int × Int) , env' = [(0, .slice a0' a_0.length c0'), (1, .int .i64 st9.1), (5, .int .i64 st9.2)] ∧ Ext w w' ∧ w.heap.size ≤ w'.heap.size ∧ SH w' w.heap.size [] ∧ loopN (m_laws_szTakeS_l1 n a_0) n' st9 = some t20) n ⟨((wI64 (left_1 - (a_0.length : Int))), 0), rfl, (Ext.refl w), (Nat.le_refl _), (SH.nil _ _), ht21⟩ ?_
  rintro n17 _ w10 ⟨st9, rfl, hb11, hL12, hS13, hl14⟩ K16 hK16
  obtain ⟨n18, s19, rfl, hm, hl14⟩ := loopN_some hl14
  unfold m_laws_szTakeS_l1 at hm
  refine WP.seq (fun K22 hK22 => ?_)
  refine WP.seq (fun K23 hK23 => ?_)
  refine WP.region ?_
  refine WL.runk 4 [0, 1, 5, 15] [(0, .slice a0' a_0.length c0'), (1, .int .i64 st9.1), (5, .int .i64 st9.2), (15, .bool (decide (st9.2 < (a_0.length : Int))))] (by kernel_rfl) ?_
  refine WL.nil ?_
  refine WQ.then_normal (hK23 _ _ _ ?_)
  refine WP.cond (decide (st9.2 < (a_0.length : Int))) rfl rfl (fun hc24 => ?_) (fun hc24 => ?_)
  rotate_left
  · have hm := iteF hm hc24
    refine WP.exit ?_
    refine WQ.then_exit ?_
    refine WQ.then_exit ?_
    refine WQ.block_here ?_
    obtain rfl := Option.some.inj hm
    obtain rfl := afterN_done hl14
    have hm := hmo15
    refine WQ.then_normal (hK7 _ _ _ ?_)
    refine WP.seq (fun K40 hK40 => ?_)
    refine WP.region ?_
    refine WL.runk 2 [4] [(4, .int .i64 st9.1)] (by kernel_rfl) ?_
    refine WL.nil ?_
    refine WQ.then_normal (hK40 _ _ _ ?_)
    refine WP.ret ?_
    obtain rfl := Option.some.inj hm
    exact WQ.ret1 _ rfl rfl ⟨rfl, hb11⟩
  have hm := iteT hm hc24
  refine WP.skip ?_
  refine WQ.then_normal (hK22 _ _ _ ?_)
  refine WP.seq (fun K25 hK25 => ?_)
  refine WP.block ?_
  refine WP.seq (fun K26 hK26 => ?_)
  refine WP.region ?_
  refine WL.runk 2 [0, 1, 5, 18, 19] [(0, .slice a0' a_0.length c0'), (1, .int .i64 st9.1), (5, .int .i64 st9.2), (18, .slice a0' a_0.length c0'), (19, .int .i64 st9.2)] (by kernel_rfl) ?_
  obtain ⟨x27, hx28, hm⟩ := bindE hm
  refine WL.st (.pointer (some (at_ a0' (Int.toNat st9.2 * 2)))) (ST.index (T := fTake.ty) (xs := a_0) (Rd.below h0 hb11) hx28 rfl rfl rfl Try.underlying46 (info40).1 (info40).2.1) rfl rfl rfl ?_
  refine WL.st (.agg #[.string (bs x27.Name), .int .i64 x27.Many]) (ST.loadAgg (vs := fTake.leaf x27) (fun j v hv => Rd.flatA (F := fTake) (Rd.below h0 hb11) hx28 j hv) rfl rfl rfl Try.underlying40 rfl (info40).1 (info40).2.1) rfl rfl rfl ?_
  refine WL.runk 1 [0, 5, 21, 22] [(0, .slice a0' a_0.length c0'), (5, .int .i64 st9.2), (21, .agg #[.string (bs x27.Name), .int .i64 x27.Many]), (22, .int .i64 st9.1)] (by kernel_rfl) ?_
  obtain ⟨x29, hx30, hm⟩ := bindE hm
  refine WL.call 31 #[.agg #[.string (bs x27.Name), .int .i64 x27.Many], .int .i64 st9.1] rfl rfl (by kernel_rfl) (c_31 n x27 st9.1 w10 hx30 ) ?_
  rintro _ w31 ⟨rfl, hE32⟩
  refine ⟨_, rfl, ?_⟩
  have hb34 : Ext w w31 := Ext.trans hb11 hE32
  have hL35 : w.heap.size ≤ w31.heap.size := Nat.le_trans hL12 hE32.size
  have hS36 : SH w31 w.heap.size [] := SH.ext hS13 hE32
  refine WL.runk 1 [0, 1, 5] [(0, .slice a0' a_0.length c0'), (5, .int .i64 st9.2), (1, .int .i64 x29)] (by kernel_rfl) ?_
  refine WL.nil ?_
  refine WQ.then_normal (hK26 _ _ _ ?_)
  refine WP.seq (fun K37 hK37 => ?_)
  refine WP.region ?_
  refine WL.runk 2 [0, 1, 5, 25] [(0, .slice a0' a_0.length c0'), (5, .int .i64 st9.2), (1, .int .i64 x29), (25, .bool (decide (x29 < 0)))] (by kernel_rfl) ?_
  refine WL.nil ?_
  refine WQ.then_normal (hK37 _ _ _ ?_)
  refine WP.cond (decide (x29 < 0)) rfl rfl (fun hc38 => ?_) (fun hc38 => ?_)
  rotate_left
  · have hm := iteF hm hc38
    refine WP.skip ?_
    refine WQ.block_normal ?_
    refine WQ.then_normal (hK25 _ _ _ ?_)
    refine WP.region ?_
    refine WL.runk 3 [0, 1, 5] [(0, .slice a0' a_0.length c0'), (5, .int .i64 (wI64 (st9.2 + 1))), (1, .int .i64 x29)] (by kernel_rfl) ?_
    refine WL.nil ?_
    obtain rfl := Option.some.inj hm
    exact WQ.round hK16 ⟨(x29, (wI64 (st9.2 + 1))), rfl, hb34, hL35, hS36, hl14⟩ (Nat.lt_succ_self _) ⟨rfl, rfl, rfl, trivial⟩
  have hm := iteT hm hc38
  refine WP.seq (fun K39 hK39 => ?_)
  refine WP.region ?_
  refine WL.runk 1 [4] [(4, .int .i64 (-1))] (by kernel_rfl) ?_
  refine WL.nil ?_
  refine WQ.then_normal (hK39 _ _ _ ?_)
  refine WP.ret ?_
  refine WQ.block_ret ?_
  refine WQ.then_ret ?_
  refine WQ.then_ret ?_
  refine WQ.block_ret ?_
  refine WQ.then_ret ?_
  obtain rfl := Option.some.inj hm
  obtain rfl := afterN_done hl14
  have hm := hmo15
  obtain rfl := Option.some.inj hm
  exact WQ.ret1 _ rfl rfl ⟨rfl, hb34⟩

end Go.Proofs.Ytkpdicajinionaa
