/- Each call does what its Lean function says. -/
import Derived.Test.YtkpdicajinionaaTi
import Derived.Test.YtkpdicajinionaaEq
import Derived.Test.YtkpdicajinionaaMo
import Derived.Test.YtkpdicajinionaaGn
set_option maxRecDepth 20000
set_option maxHeartbeats 40000000
namespace Go.Proofs.Ytkpdicajinionaa
open Go Go.Gv Go.RowKit

theorem c_39 (n : Nat) (a_0 : SGood) (left_1 : Int) (w : World) {r : Int} (hm : m_laws_szGood n a_0 left_1 = some r)  :
    CallV Try.prog 39 #[.agg #[.string (bs a_0.Name), .int .i64 a_0.OnHand, .int .i64 a_0.Reserved, .int .i64 a_0.Least], .int .i64 left_1] w (fun v w' => v = .int .i64 r ∧ Ext w w') := by
  unfold m_laws_szGood at hm
  refine CallV.enter Try.func39 rfl (by kernel_rfl) Try.ntmps39 (env := [(0, .agg #[.string (bs a_0.Name), .int .i64 a_0.OnHand, .int .i64 a_0.Reserved, .int .i64 a_0.Least]), (1, .int .i64 left_1)]) ⟨rfl, rfl, trivial⟩ ?_
  refine WP.seq (fun K1 hK1 => ?_)
  refine WP.region ?_
  refine WL.box 53 [.string (bs a_0.Name), .int .i64 a_0.OnHand, .int .i64 a_0.Reserved, .int .i64 a_0.Least] 2 (by kernel_rfl) rfl rfl rfl rfl ?_
  intro b2 w3 hE4 hR5
  have hb7 : Ext w w3 := Ext.trans (Ext.refl w) hE4
  have hL8 : w.heap.size ≤ w3.heap.size := Nat.le_trans (Nat.le_refl _) hE4.size
  have hS9 : SH w3 w.heap.size [aBox 53 b2 [.string (bs a_0.Name), .int .i64 a_0.OnHand, .int .i64 a_0.Reserved, .int .i64 a_0.Least]] := SH.add (SH.nil _ _) hE4 (Nat.le_refl _) hR5
  refine WL.runk 1 [1, 2] [(1, .int .i64 left_1), (2, .pointer (some ⟨b2, 0, none⟩))] (by kernel_rfl) ?_
  refine WL.nil ?_
  refine WQ.then_normal (hK1 _ _ _ ?_)
  refine WP.seq (fun K10 hK10 => ?_)
  refine WP.region ?_
  refine WL.runk 2 [5, 6] [(5, .int .i64 left_1), (6, .pointer (some ⟨b2, 0, none⟩))] (by kernel_rfl) ?_
  refine WL.st (.string (bs a_0.Name)) (ST.load (cell_ext (SH.boxAt (SH.front 0 hS9) 0 _ rfl)) rfl rfl Try.underlying9 rfl) rfl rfl rfl ?_
  refine WL.runk 3 [1] [(1, .int .i64 (wI64 (left_1 - (a_0.Name.length : Int))))] (by kernel_rfl) ?_
  refine WL.nil ?_
  refine WQ.then_normal (hK10 _ _ _ ?_)
  refine WP.seq (fun K11 hK11 => ?_)
  refine WP.seq (fun K12 hK12 => ?_)
  refine WP.region ?_
  refine WL.runk 2 [1, 11] [(1, .int .i64 (wI64 (left_1 - (a_0.Name.length : Int)))), (11, .bool (decide ((wI64 (left_1 - (a_0.Name.length : Int))) < 0)))] (by kernel_rfl) ?_
  refine WL.nil ?_
  refine WQ.then_normal (hK12 _ _ _ ?_)
  refine WP.cond (decide ((wI64 (left_1 - (a_0.Name.length : Int))) < 0)) rfl rfl (fun hc13 => ?_) (fun hc13 => ?_)
  · have hm := iteT hm hc13
    refine WP.seq (fun K14 hK14 => ?_)
    refine WP.region ?_
    refine WL.runk 1 [4] [(4, .int .i64 (-1))] (by kernel_rfl) ?_
    refine WL.nil ?_
    refine WQ.then_normal (hK14 _ _ _ ?_)
    refine WP.ret ?_
    refine WQ.then_ret ?_
    obtain rfl := Option.some.inj hm
    exact WQ.ret1 _ rfl rfl ⟨rfl, hb7⟩
  have hm := iteF hm hc13
  refine WP.skip ?_
  refine WQ.then_normal (hK11 _ _ _ ?_)
  refine WP.seq (fun K15 hK15 => ?_)
  refine WP.region ?_
  refine WL.runk 2 [4] [(4, .int .i64 (wI64 (left_1 - (a_0.Name.length : Int))))] (by kernel_rfl) ?_
  refine WL.nil ?_
  refine WQ.then_normal (hK15 _ _ _ ?_)
  refine WP.ret ?_
  obtain rfl := Option.some.inj hm
  exact WQ.ret1 _ rfl rfl ⟨rfl, hb7⟩

theorem c_13 (n : Nat) (a_0 : List SGood) (a0' : Option Addr) (c0' : Nat) (left_1 : Int) (w : World) {r : Int} (hm : m_laws_szGoodS n a_0 left_1 = some r) (h0 : Rd fGood.ty w a0' a_0) (_hle0 : a_0.length ≤ c0') :
    CallV Try.prog 13 #[.slice a0' a_0.length c0', .int .i64 left_1] w (fun v w' => v = .int .i64 r ∧ Ext w w') := by
  unfold m_laws_szGoodS at hm
  refine CallV.enter Try.func13 rfl (by kernel_rfl) Try.ntmps13 (env := [(0, .slice a0' a_0.length c0'), (1, .int .i64 left_1)]) ⟨rfl, rfl, trivial⟩ ?_
  refine WP.seq (fun K1 hK1 => ?_)
  refine WP.region ?_
  refine WL.runk 1 [0, 1] [(0, .slice a0' a_0.length c0'), (1, .int .i64 left_1)] (by kernel_rfl) ?_
  refine WL.nil ?_
  refine WQ.then_normal (hK1 _ _ _ ?_)
  refine WP.seq (fun K2 hK2 => ?_)
  refine WP.region ?_
  refine WL.runk 5 [0, 1] [(0, .slice a0' a_0.length c0'), (1, .int .i64 (wI64 (left_1 - (a_0.length : Int))))] (by kernel_rfl) ?_
  refine WL.nil ?_
  refine WQ.then_normal (hK2 _ _ _ ?_)
  refine WP.seq (fun K3 hK3 => ?_)
  refine WP.seq (fun K4 hK4 => ?_)
  refine WP.region ?_
  refine WL.runk 2 [0, 1, 11] [(0, .slice a0' a_0.length c0'), (1, .int .i64 (wI64 (left_1 - (a_0.length : Int)))), (11, .bool (decide ((wI64 (left_1 - (a_0.length : Int))) < 0)))] (by kernel_rfl) ?_
  refine WL.nil ?_
  refine WQ.then_normal (hK4 _ _ _ ?_)
  refine WP.cond (decide ((wI64 (left_1 - (a_0.length : Int))) < 0)) rfl rfl (fun hc5 => ?_) (fun hc5 => ?_)
  · have hm := iteT hm hc5
    refine WP.seq (fun K6 hK6 => ?_)
    refine WP.region ?_
    refine WL.runk 1 [4] [(4, .int .i64 (-1))] (by kernel_rfl) ?_
    refine WL.nil ?_
    refine WQ.then_normal (hK6 _ _ _ ?_)
    refine WP.ret ?_
    refine WQ.then_ret ?_
    obtain rfl := Option.some.inj hm
    exact WQ.ret1 _ rfl rfl ⟨rfl, (Ext.refl w)⟩
  have hm := iteF hm hc5
  refine WP.skip ?_
  refine WQ.then_normal (hK3 _ _ _ ?_)
  refine WP.seq (fun K7 hK7 => ?_)
  refine WP.seq (fun K8 hK8 => ?_)
  refine WP.region ?_
  refine WL.runk 1 [0, 1, 5] [(0, .slice a0' a_0.length c0'), (1, .int .i64 (wI64 (left_1 - (a_0.length : Int)))), (5, .int .i64 0)] (by kernel_rfl) ?_
  refine WL.nil ?_
  refine WQ.then_normal (hK8 _ _ _ ?_)
  refine WP.block ?_
  obtain ⟨t20, ht21, hm⟩ := bindE hm
  have hmo15 := hm; clear hm
  refine WP.sub [(0, .slice a0' a_0.length c0'), (1, .int .i64 (wI64 (left_1 - (a_0.length : Int)))), (5, .int .i64 0)] ⟨rfl, rfl, rfl, trivial⟩ ?_
  refine WP.loop (fun n' env' w' => ∃ (st9 : Int × Int) , env' = [(0, .slice a0' a_0.length c0'), (1, .int .i64 st9.1), (5, .int .i64 st9.2)] ∧ Ext w w' ∧ w.heap.size ≤ w'.heap.size ∧ SH w' w.heap.size [] ∧ loopN (m_laws_szGoodS_l1 n a_0) n' st9 = some t20) n ⟨((wI64 (left_1 - (a_0.length : Int))), 0), rfl, (Ext.refl w), (Nat.le_refl _), (SH.nil _ _), ht21⟩ ?_
  rintro n17 _ w10 ⟨st9, rfl, hb11, hL12, hS13, hl14⟩ K16 hK16
  obtain ⟨n18, s19, rfl, hm, hl14⟩ := loopN_some hl14
  unfold m_laws_szGoodS_l1 at hm
  refine WP.seq (fun K22 hK22 => ?_)
  refine WP.seq (fun K23 hK23 => ?_)
  refine WP.region ?_
  refine WL.runk 4 [0, 1, 5, 15] [(0, .slice a0' a_0.length c0'), (1, .int .i64 st9.1), (5, .int .i64 st9.2), (15, .bool (decide (st9.2 < (a_0.length : Int))))] (by kernel_rfl) ?_
  refine WL.nil ?_
  refine WQ.then_normal (hK23 _ _ _ ?_)
  refine WP.cond (decide (st9.2 < (a_0.length : Int))) rfl rfl (fun hc24 => ?_) (fun hc24 => ?_)
  rotate_left
  · have hm := iteF hm hc24
    refine WP.exit ?_
    refine WQ.then_exit ?_
    refine WQ.then_exit ?_
    refine WQ.block_here ?_
    obtain rfl := Option.some.inj hm
    obtain rfl := afterN_done hl14
    have hm := hmo15
    refine WQ.then_normal (hK7 _ _ _ ?_)
    refine WP.seq (fun K40 hK40 => ?_)
    refine WP.region ?_
    refine WL.runk 2 [4] [(4, .int .i64 st9.1)] (by kernel_rfl) ?_
    refine WL.nil ?_
    refine WQ.then_normal (hK40 _ _ _ ?_)
    refine WP.ret ?_
    obtain rfl := Option.some.inj hm
    exact WQ.ret1 _ rfl rfl ⟨rfl, hb11⟩
  have hm := iteT hm hc24
  refine WP.skip ?_
  refine WQ.then_normal (hK22 _ _ _ ?_)
  refine WP.seq (fun K25 hK25 => ?_)
  refine WP.block ?_
  refine WP.seq (fun K26 hK26 => ?_)
  refine WP.region ?_
  refine WL.runk 2 [0, 1, 5, 18, 19] [(0, .slice a0' a_0.length c0'), (1, .int .i64 st9.1), (5, .int .i64 st9.2), (18, .slice a0' a_0.length c0'), (19, .int .i64 st9.2)] (by kernel_rfl) ?_
  obtain ⟨x27, hx28, hm⟩ := bindE hm
  refine WL.st (.pointer (some (at_ a0' (Int.toNat st9.2 * 4)))) (ST.index (T := fGood.ty) (xs := a_0) (Rd.below h0 hb11) hx28 rfl rfl rfl Try.underlying22 (info53).1 (info53).2.1) rfl rfl rfl ?_
  refine WL.st (.agg #[.string (bs x27.Name), .int .i64 x27.OnHand, .int .i64 x27.Reserved, .int .i64 x27.Least]) (ST.loadAgg (vs := fGood.leaf x27) (fun j v hv => Rd.flatA (F := fGood) (Rd.below h0 hb11) hx28 j hv) rfl rfl rfl Try.underlying53 rfl (info53).1 (info53).2.1) rfl rfl rfl ?_
  refine WL.runk 1 [0, 5, 21, 22] [(0, .slice a0' a_0.length c0'), (5, .int .i64 st9.2), (21, .agg #[.string (bs x27.Name), .int .i64 x27.OnHand, .int .i64 x27.Reserved, .int .i64 x27.Least]), (22, .int .i64 st9.1)] (by kernel_rfl) ?_
  obtain ⟨x29, hx30, hm⟩ := bindE hm
  refine WL.call 39 #[.agg #[.string (bs x27.Name), .int .i64 x27.OnHand, .int .i64 x27.Reserved, .int .i64 x27.Least], .int .i64 st9.1] rfl rfl (by kernel_rfl) (c_39 n x27 st9.1 w10 hx30 ) ?_
  rintro _ w31 ⟨rfl, hE32⟩
  refine ⟨_, rfl, ?_⟩
  have hb34 : Ext w w31 := Ext.trans hb11 hE32
  have hL35 : w.heap.size ≤ w31.heap.size := Nat.le_trans hL12 hE32.size
  have hS36 : SH w31 w.heap.size [] := SH.ext hS13 hE32
  refine WL.runk 1 [0, 1, 5] [(0, .slice a0' a_0.length c0'), (5, .int .i64 st9.2), (1, .int .i64 x29)] (by kernel_rfl) ?_
  refine WL.nil ?_
  refine WQ.then_normal (hK26 _ _ _ ?_)
  refine WP.seq (fun K37 hK37 => ?_)
  refine WP.region ?_
  refine WL.runk 2 [0, 1, 5, 25] [(0, .slice a0' a_0.length c0'), (5, .int .i64 st9.2), (1, .int .i64 x29), (25, .bool (decide (x29 < 0)))] (by kernel_rfl) ?_
  refine WL.nil ?_
  refine WQ.then_normal (hK37 _ _ _ ?_)
  refine WP.cond (decide (x29 < 0)) rfl rfl (fun hc38 => ?_) (fun hc38 => ?_)
  rotate_left
  · have hm := iteF hm hc38
    refine WP.skip ?_
    refine WQ.block_normal ?_
    refine WQ.then_normal (hK25 _ _ _ ?_)
    refine WP.region ?_
    refine WL.runk 3 [0, 1, 5] [(0, .slice a0' a_0.length c0'), (5, .int .i64 (wI64 (st9.2 + 1))), (1, .int .i64 x29)] (by kernel_rfl) ?_
    refine WL.nil ?_
    obtain rfl := Option.some.inj hm
    exact WQ.round hK16 ⟨(x29, (wI64 (st9.2 + 1))), rfl, hb34, hL35, hS36, hl14⟩ (Nat.lt_succ_self _) ⟨rfl, rfl, rfl, trivial⟩
  have hm := iteT hm hc38
  refine WP.seq (fun K39 hK39 => ?_)
  refine WP.region ?_
  refine WL.runk 1 [4] [(4, .int .i64 (-1))] (by kernel_rfl) ?_
  refine WL.nil ?_
  refine WQ.then_normal (hK39 _ _ _ ?_)
  refine WP.ret ?_
  refine WQ.block_ret ?_
  refine WQ.then_ret ?_
  refine WQ.then_ret ?_
  refine WQ.block_ret ?_
  refine WQ.then_ret ?_
  obtain rfl := Option.some.inj hm
  obtain rfl := afterN_done hl14
  have hm := hmo15
  obtain rfl := Option.some.inj hm
  exact WQ.ret1 _ rfl rfl ⟨rfl, hb34⟩

theorem c_41 (n : Nat) (a_0 : SGood) (w : World) {r : SGood} (hm : m_laws_toGood n a_0 = some r)  :
    CallV Try.prog 41 #[.agg #[.string (bs a_0.Name), .int .i64 a_0.OnHand, .int .i64 a_0.Reserved, .int .i64 a_0.Least]] w (fun v w' => v = .agg #[.string (bs r.Name), .int .i64 r.OnHand, .int .i64 r.Reserved, .int .i64 r.Least] ∧ Ext w w') := by
  unfold m_laws_toGood at hm
  refine CallV.enter Try.func41 rfl (by kernel_rfl) Try.ntmps41 (env := [(0, .agg #[.string (bs a_0.Name), .int .i64 a_0.OnHand, .int .i64 a_0.Reserved, .int .i64 a_0.Least])]) ⟨rfl, trivial⟩ ?_
  refine WP.seq (fun K1 hK1 => ?_)
  refine WP.region ?_
  refine WL.box 53 [.string (bs a_0.Name), .int .i64 a_0.OnHand, .int .i64 a_0.Reserved, .int .i64 a_0.Least] 1 (by kernel_rfl) rfl rfl rfl rfl ?_
  intro b2 w3 hE4 hR5
  have hb7 : Ext w w3 := Ext.trans (Ext.refl w) hE4
  have hL8 : w.heap.size ≤ w3.heap.size := Nat.le_trans (Nat.le_refl _) hE4.size
  have hS9 : SH w3 w.heap.size [aBox 53 b2 [.string (bs a_0.Name), .int .i64 a_0.OnHand, .int .i64 a_0.Reserved, .int .i64 a_0.Least]] := SH.add (SH.nil _ _) hE4 (Nat.le_refl _) hR5
  refine WL.box 56 [.string (bs []), .int .i64 0, .int .i64 0, .int .i64 0] 2 (by kernel_rfl) rfl rfl rfl rfl ?_
  intro b10 w11 hE12 hR13
  have hb15 : Ext w w11 := Ext.trans hb7 hE12
  have hL16 : w.heap.size ≤ w11.heap.size := Nat.le_trans hL8 hE12.size
  have hS17 : SH w11 w.heap.size [aBox 56 b10 [.string (bs []), .int .i64 0, .int .i64 0, .int .i64 0], aBox 53 b2 [.string (bs a_0.Name), .int .i64 a_0.OnHand, .int .i64 a_0.Reserved, .int .i64 a_0.Least]] := SH.add hS9 hE12 hL8 hR13
  refine WL.sub [(1, .pointer (some ⟨b2, 0, none⟩)), (2, .pointer (some ⟨b10, 0, none⟩))] ⟨rfl, rfl, trivial⟩ ?_
  refine WL.nil ?_
  refine WQ.then_normal (hK1 _ _ _ ?_)
  refine WP.seq (fun K18 hK18 => ?_)
  refine WP.region ?_
  refine WL.box 56 [.string (bs []), .int .i64 0, .int .i64 0, .int .i64 0] 3 (by kernel_rfl) rfl rfl rfl rfl ?_
  intro b19 w20 hE21 hR22
  have hb24 : Ext w w20 := Ext.trans hb15 hE21
  have hL25 : w.heap.size ≤ w20.heap.size := Nat.le_trans hL16 hE21.size
  have hS26 : SH w20 w.heap.size [aBox 56 b19 [.string (bs []), .int .i64 0, .int .i64 0, .int .i64 0], aBox 56 b10 [.string (bs []), .int .i64 0, .int .i64 0, .int .i64 0], aBox 53 b2 [.string (bs a_0.Name), .int .i64 a_0.OnHand, .int .i64 a_0.Reserved, .int .i64 a_0.Least]] := SH.add hS17 hE21 hL16 hR22
  refine WL.sub [(1, .pointer (some ⟨b2, 0, none⟩)), (2, .pointer (some ⟨b10, 0, none⟩)), (3, .pointer (some ⟨b19, 0, none⟩))] ⟨rfl, rfl, rfl, trivial⟩ ?_
  refine WL.nil ?_
  refine WQ.then_normal (hK18 _ _ _ ?_)
  refine WP.seq (fun K27 hK27 => ?_)
  refine WP.region ?_
  refine WL.runk 1 [1, 2, 3, 4] [(1, .pointer (some ⟨b2, 0, none⟩)), (2, .pointer (some ⟨b10, 0, none⟩)), (3, .pointer (some ⟨b19, 0, none⟩)), (4, .pointer (some ⟨b2, 0, none⟩))] (by kernel_rfl) ?_
  refine WL.st (.string (bs a_0.Name)) (ST.load (cell_ext (SH.boxAt (SH.front 2 hS26) 0 _ rfl)) rfl rfl Try.underlying9 rfl) rfl rfl rfl ?_
  refine WL.runk 1 [1, 2, 3, 5, 6] [(1, .pointer (some ⟨b2, 0, none⟩)), (2, .pointer (some ⟨b10, 0, none⟩)), (3, .pointer (some ⟨b19, 0, none⟩)), (5, .string (bs a_0.Name)), (6, .pointer (some ⟨b19, 0, none⟩))] (by kernel_rfl) ?_
  refine WL.boxStore 0 [.string (bs a_0.Name)] [.string (bs a_0.Name), .int .i64 0, .int .i64 0, .int .i64 0] (SH.front 0 hS26) hL25 rfl rfl rfl rfl rfl rfl rfl (info9).1 (info9).2.1 rfl rfl rfl ?_
  intro w28 hB29 hS30
  have hb31 : Ext w w28 := Below.trans hb24 hB29
  have hL32 : w.heap.size ≤ w28.heap.size := Nat.le_trans hL25 hB29.size
  refine WL.sub [(1, .pointer (some ⟨b2, 0, none⟩)), (2, .pointer (some ⟨b10, 0, none⟩)), (3, .pointer (some ⟨b19, 0, none⟩))] ⟨rfl, rfl, rfl, trivial⟩ ?_
  refine WL.nil ?_
  refine WQ.then_normal (hK27 _ _ _ ?_)
  refine WP.seq (fun K33 hK33 => ?_)
  refine WP.region ?_
  refine WL.runk 1 [1, 2, 3, 7] [(1, .pointer (some ⟨b2, 0, none⟩)), (2, .pointer (some ⟨b10, 0, none⟩)), (3, .pointer (some ⟨b19, 0, none⟩)), (7, .pointer (some ⟨b2, 1, none⟩))] (by kernel_rfl) ?_
  refine WL.st (.int .i64 a_0.OnHand) (ST.load (cell_ext (SH.boxAt (SH.front 2 hS30) 1 _ rfl)) rfl rfl Try.underlying2 rfl) rfl rfl rfl ?_
  refine WL.runk 1 [1, 2, 3, 8, 9] [(1, .pointer (some ⟨b2, 0, none⟩)), (2, .pointer (some ⟨b10, 0, none⟩)), (3, .pointer (some ⟨b19, 0, none⟩)), (8, .int .i64 a_0.OnHand), (9, .pointer (some ⟨b19, 1, none⟩))] (by kernel_rfl) ?_
  refine WL.boxStore 1 [.int .i64 a_0.OnHand] [.string (bs a_0.Name), .int .i64 a_0.OnHand, .int .i64 0, .int .i64 0] (SH.front 0 hS30) hL32 rfl rfl rfl rfl rfl rfl rfl (info2).1 (info2).2.1 rfl rfl rfl ?_
  intro w34 hB35 hS36
  have hb37 : Ext w w34 := Below.trans hb31 hB35
  have hL38 : w.heap.size ≤ w34.heap.size := Nat.le_trans hL32 hB35.size
  refine WL.sub [(1, .pointer (some ⟨b2, 0, none⟩)), (2, .pointer (some ⟨b10, 0, none⟩)), (3, .pointer (some ⟨b19, 0, none⟩))] ⟨rfl, rfl, rfl, trivial⟩ ?_
  refine WL.nil ?_
  refine WQ.then_normal (hK33 _ _ _ ?_)
  refine WP.seq (fun K39 hK39 => ?_)
  refine WP.region ?_
  refine WL.runk 1 [1, 2, 3, 10] [(1, .pointer (some ⟨b2, 0, none⟩)), (2, .pointer (some ⟨b10, 0, none⟩)), (3, .pointer (some ⟨b19, 0, none⟩)), (10, .pointer (some ⟨b2, 2, none⟩))] (by kernel_rfl) ?_
  refine WL.st (.int .i64 a_0.Reserved) (ST.load (cell_ext (SH.boxAt (SH.front 2 hS36) 2 _ rfl)) rfl rfl Try.underlying2 rfl) rfl rfl rfl ?_
  refine WL.runk 1 [1, 2, 3, 11, 12] [(1, .pointer (some ⟨b2, 0, none⟩)), (2, .pointer (some ⟨b10, 0, none⟩)), (3, .pointer (some ⟨b19, 0, none⟩)), (11, .int .i64 a_0.Reserved), (12, .pointer (some ⟨b19, 2, none⟩))] (by kernel_rfl) ?_
  refine WL.boxStore 2 [.int .i64 a_0.Reserved] [.string (bs a_0.Name), .int .i64 a_0.OnHand, .int .i64 a_0.Reserved, .int .i64 0] (SH.front 0 hS36) hL38 rfl rfl rfl rfl rfl rfl rfl (info2).1 (info2).2.1 rfl rfl rfl ?_
  intro w40 hB41 hS42
  have hb43 : Ext w w40 := Below.trans hb37 hB41
  have hL44 : w.heap.size ≤ w40.heap.size := Nat.le_trans hL38 hB41.size
  refine WL.sub [(1, .pointer (some ⟨b2, 0, none⟩)), (2, .pointer (some ⟨b10, 0, none⟩)), (3, .pointer (some ⟨b19, 0, none⟩))] ⟨rfl, rfl, rfl, trivial⟩ ?_
  refine WL.nil ?_
  refine WQ.then_normal (hK39 _ _ _ ?_)
  refine WP.seq (fun K45 hK45 => ?_)
  refine WP.region ?_
  refine WL.runk 1 [2, 3, 13] [(2, .pointer (some ⟨b10, 0, none⟩)), (3, .pointer (some ⟨b19, 0, none⟩)), (13, .pointer (some ⟨b2, 3, none⟩))] (by kernel_rfl) ?_
  refine WL.st (.int .i64 a_0.Least) (ST.load (cell_ext (SH.boxAt (SH.front 2 hS42) 3 _ rfl)) rfl rfl Try.underlying2 rfl) rfl rfl rfl ?_
  refine WL.runk 1 [2, 3, 14, 15] [(2, .pointer (some ⟨b10, 0, none⟩)), (3, .pointer (some ⟨b19, 0, none⟩)), (14, .int .i64 a_0.Least), (15, .pointer (some ⟨b19, 3, none⟩))] (by kernel_rfl) ?_
  refine WL.boxStore 3 [.int .i64 a_0.Least] [.string (bs a_0.Name), .int .i64 a_0.OnHand, .int .i64 a_0.Reserved, .int .i64 a_0.Least] (SH.front 0 hS42) hL44 rfl rfl rfl rfl rfl rfl rfl (info2).1 (info2).2.1 rfl rfl rfl ?_
  intro w46 hB47 hS48
  have hb49 : Ext w w46 := Below.trans hb43 hB47
  have hL50 : w.heap.size ≤ w46.heap.size := Nat.le_trans hL44 hB47.size
  refine WL.sub [(2, .pointer (some ⟨b10, 0, none⟩)), (3, .pointer (some ⟨b19, 0, none⟩))] ⟨rfl, rfl, trivial⟩ ?_
  refine WL.nil ?_
  refine WQ.then_normal (hK45 _ _ _ ?_)
  refine WP.seq (fun K51 hK51 => ?_)
  refine WP.region ?_
  refine WL.st (.agg #[.string (bs a_0.Name), .int .i64 a_0.OnHand, .int .i64 a_0.Reserved, .int .i64 a_0.Least]) (ST.loadAgg (vs := [.string (bs a_0.Name), .int .i64 a_0.OnHand, .int .i64 a_0.Reserved, .int .i64 a_0.Least]) (fun j v hv => SH.boxPart (us := [.string (bs a_0.Name), .int .i64 a_0.OnHand, .int .i64 a_0.Reserved, .int .i64 a_0.Least]) (SH.front 0 hS48) 0 rfl j v hv) rfl rfl rfl Try.underlying56 rfl (info56).1 (info56).2.1) rfl rfl rfl ?_
  refine WL.boxStore 0 [.string (bs a_0.Name), .int .i64 a_0.OnHand, .int .i64 a_0.Reserved, .int .i64 a_0.Least] [.string (bs a_0.Name), .int .i64 a_0.OnHand, .int .i64 a_0.Reserved, .int .i64 a_0.Least] (SH.front 1 hS48) hL50 rfl rfl rfl rfl rfl rfl rfl (info56).1 (info56).2.1 rfl rfl rfl ?_
  intro w52 hB53 hS54
  have hb55 : Ext w w52 := Below.trans hb49 hB53
  have hL56 : w.heap.size ≤ w52.heap.size := Nat.le_trans hL50 hB53.size
  refine WL.sub [(2, .pointer (some ⟨b10, 0, none⟩))] ⟨rfl, trivial⟩ ?_
  refine WL.nil ?_
  refine WQ.then_normal (hK51 _ _ _ ?_)
  refine WP.ret ?_
  obtain rfl := Option.some.inj hm
  exact WQ.retv1 _ rfl (RVal.box (SH.front 0 hS54) rfl Try.underlying56 rfl (info56).1 (info56).2.1) ⟨rfl, hb55⟩

theorem c_15 (n : Nat) (a_0 : List SGood) (a0' : Option Addr) (c0' : Nat) (w : World) {r : List SGood} (hm : m_laws_toGoodS n a_0 = some r) (h0 : Rd fGood.ty w a0' a_0) (_hle0 : a_0.length ≤ c0') :
    CallV Try.prog 15 #[.slice a0' a_0.length c0'] w (fun v w' => ∃ (ra0 : Option Addr) (rc0 : Nat), v = .slice ra0 r.length rc0 ∧ Ext w w' ∧ SH w' w.heap.size [aOwn fGood 56 ra0 rc0 r]) := by
  unfold m_laws_toGoodS at hm
  refine CallV.enter Try.func15 rfl (by kernel_rfl) Try.ntmps15 (env := [(0, .slice a0' a_0.length c0')]) ⟨rfl, trivial⟩ ?_
  refine WP.seq (fun K1 hK1 => ?_)
  refine WP.region ?_
  refine WL.runk 1 [0] [(0, .slice a0' a_0.length c0')] (by kernel_rfl) ?_
  refine WL.nil ?_
  refine WQ.then_normal (hK1 _ _ _ ?_)
  refine WP.seq (fun K2 hK2 => ?_)
  refine WP.region ?_
  refine WL.runk 2 [0, 6] [(0, .slice a0' a_0.length c0'), (6, .int .i64 (a_0.length : Int))] (by kernel_rfl) ?_
  obtain ⟨x3, hx4, hm⟩ := bindE hm
  refine WL.make fGood 7 hx4 rfl rfl rfl Try.underlying25 (info56).1 (info56).2.2.1 (info56).2.1 (info56).2.2.2 rfl rfl rfl rfl rfl ?_
  intro a5 c6 w7 hE8 hR9
  have hb11 : Ext w w7 := Ext.trans (Ext.refl w) hE8
  have hL12 : w.heap.size ≤ w7.heap.size := Nat.le_trans (Nat.le_refl _) hE8.size
  have hS13 : SH w7 w.heap.size [aOwn fGood 56 a5 c6 x3] := SH.add (SH.nil _ _) hE8 (Nat.le_refl _) hR9
  refine WL.runk 1 [0, 3] [(0, .slice a0' a_0.length c0'), (3, .slice a5 x3.length c6)] (by kernel_rfl) ?_
  refine WL.nil ?_
  refine WQ.then_normal (hK2 _ _ _ ?_)
  refine WP.seq (fun K14 hK14 => ?_)
  refine WP.seq (fun K15 hK15 => ?_)
  refine WP.region ?_
  refine WL.runk 1 [0, 3, 4] [(0, .slice a0' a_0.length c0'), (3, .slice a5 x3.length c6), (4, .int .i64 0)] (by kernel_rfl) ?_
  refine WL.nil ?_
  refine WQ.then_normal (hK15 _ _ _ ?_)
  refine WP.block ?_
  obtain ⟨t62, ht63, hm⟩ := bindE hm
  have hmo57 := hm; clear hm
  refine WP.sub [(0, .slice a0' a_0.length c0'), (3, .slice a5 x3.length c6), (4, .int .i64 0)] ⟨rfl, rfl, rfl, trivial⟩ ?_
  refine WP.loop (fun n' env' w' => ∃ (st51 : Int × List SGood) , env' = [(0, .slice a0' a_0.length c0'), (3, .slice a5 st51.2.length c6), (4, .int .i64 st51.1)] ∧ Ext w w' ∧ w.heap.size ≤ w'.heap.size ∧ SH w' w.heap.size [aOwn fGood 56 a5 c6 st51.2] ∧ loopN (m_laws_toGoodS_l1 n a_0) n' st51 = some t62) n ⟨(0, x3), rfl, hb11, hL12, hS13, ht63⟩ ?_
  rintro n59 _ w52 ⟨st51, rfl, hb53, hL54, hS55, hl56⟩ K58 hK58
  obtain ⟨n60, s61, rfl, hm, hl56⟩ := loopN_some hl56
  unfold m_laws_toGoodS_l1 at hm
  refine WP.seq (fun K64 hK64 => ?_)
  refine WP.seq (fun K65 hK65 => ?_)
  refine WP.region ?_
  refine WL.runk 4 [0, 3, 4, 11] [(0, .slice a0' a_0.length c0'), (3, .slice a5 st51.2.length c6), (4, .int .i64 st51.1), (11, .bool (decide (st51.1 < (a_0.length : Int))))] (by kernel_rfl) ?_
  refine WL.nil ?_
  refine WQ.then_normal (hK65 _ _ _ ?_)
  refine WP.cond (decide (st51.1 < (a_0.length : Int))) rfl rfl (fun hc66 => ?_) (fun hc66 => ?_)
  rotate_left
  · have hm := iteF hm hc66
    refine WP.exit ?_
    refine WQ.then_exit ?_
    refine WQ.then_exit ?_
    refine WQ.block_here ?_
    obtain rfl := Option.some.inj hm
    obtain rfl := afterN_done hl56
    have hm := hmo57
    refine WQ.then_normal (hK14 _ _ _ ?_)
    refine WP.seq (fun K85 hK85 => ?_)
    refine WP.region ?_
    refine WL.runk 2 [2] [(2, .slice a5 st51.2.length c6)] (by kernel_rfl) ?_
    refine WL.nil ?_
    refine WQ.then_normal (hK85 _ _ _ ?_)
    refine WP.ret ?_
    obtain rfl := Option.some.inj hm
    exact WQ.ret1 _ rfl rfl ⟨_, _, rfl, hb53, hS55⟩
  have hm := iteT hm hc66
  refine WP.skip ?_
  refine WQ.then_normal (hK64 _ _ _ ?_)
  refine WP.seq (fun K67 hK67 => ?_)
  refine WP.block ?_
  refine WP.region ?_
  refine WL.runk 4 [0, 3, 4, 14, 15, 16, 17] [(0, .slice a0' a_0.length c0'), (3, .slice a5 st51.2.length c6), (4, .int .i64 st51.1), (14, .slice a5 st51.2.length c6), (15, .int .i64 st51.1), (16, .slice a0' a_0.length c0'), (17, .int .i64 st51.1)] (by kernel_rfl) ?_
  obtain ⟨x68, hx69, hm⟩ := bindE hm
  refine WL.st (.pointer (some (at_ a0' (Int.toNat st51.1 * 4)))) (ST.index (T := fGood.ty) (xs := a_0) (Rd.below h0 hb53) hx69 rfl rfl rfl Try.underlying22 (info53).1 (info53).2.1) rfl rfl rfl ?_
  refine WL.st (.agg #[.string (bs x68.Name), .int .i64 x68.OnHand, .int .i64 x68.Reserved, .int .i64 x68.Least]) (ST.loadAgg (vs := fGood.leaf x68) (fun j v hv => Rd.flatA (F := fGood) (Rd.below h0 hb53) hx69 j hv) rfl rfl rfl Try.underlying53 rfl (info53).1 (info53).2.1) rfl rfl rfl ?_
  obtain ⟨x70, hx71, hm⟩ := bindE hm
  refine WL.call 41 #[.agg #[.string (bs x68.Name), .int .i64 x68.OnHand, .int .i64 x68.Reserved, .int .i64 x68.Least]] rfl rfl (by kernel_rfl) (c_41 n x68 w52 hx71 ) ?_
  rintro _ w72 ⟨rfl, hE73⟩
  refine ⟨_, rfl, ?_⟩
  have hb75 : Ext w w72 := Ext.trans hb53 hE73
  have hL76 : w.heap.size ≤ w72.heap.size := Nat.le_trans hL54 hE73.size
  have hS77 : SH w72 w.heap.size [aOwn fGood 56 a5 c6 st51.2] := SH.ext hS55 hE73
  obtain ⟨x78, hx79, hm⟩ := bindE hm
  refine WL.st (.pointer (some (at_ a5 (Int.toNat st51.1 * 4)))) (ST.index (T := fGood.ty) (xs := st51.2) (SH.rd (SH.front 0 hS77)) hx79 rfl rfl rfl Try.underlying25 (info56).1 (info56).2.1) rfl rfl rfl ?_
  refine WL.store (F := fGood) x70 0 [.string (bs x70.Name), .int .i64 x70.OnHand, .int .i64 x70.Reserved, .int .i64 x70.Least] (SH.front 0 hS77) hL76 hx79 rfl rfl rfl rfl rfl rfl rfl (info56).1 (info56).2.1 rfl rfl rfl ?_
  intro w80 hB81 hS82
  have hb83 : Ext w w80 := Below.trans hb75 hB81
  have hL84 : w.heap.size ≤ w80.heap.size := Nat.le_trans hL76 hB81.size
  refine WL.sub [(0, .slice a0' a_0.length c0'), (3, .slice a5 ((st51.2.set (Int.toNat st51.1) x70).length) c6), (4, .int .i64 st51.1), (14, .slice a5 ((st51.2.set (Int.toNat st51.1) x70).length) c6), (15, .int .i64 st51.1), (16, .slice a0' a_0.length c0'), (17, .int .i64 st51.1), (18, .pointer (some (at_ a0' (Int.toNat st51.1 * 4)))), (19, .agg #[.string (bs x68.Name), .int .i64 x68.OnHand, .int .i64 x68.Reserved, .int .i64 x68.Least]), (20, .agg #[.string (bs x70.Name), .int .i64 x70.OnHand, .int .i64 x70.Reserved, .int .i64 x70.Least])] ⟨rfl, by first | (simp only [List.length_set]; done) | (simp only [List.length_set]; rfl), rfl, by first | (simp only [List.length_set]; done) | (simp only [List.length_set]; rfl), rfl, rfl, rfl, rfl, rfl, rfl, trivial⟩ ?_
  refine WL.sub [(0, .slice a0' a_0.length c0'), (3, .slice a5 ((st51.2.set (Int.toNat st51.1) x70).length) c6), (4, .int .i64 st51.1)] ⟨rfl, rfl, rfl, trivial⟩ ?_
  refine WL.nil ?_
  refine WQ.block_normal ?_
  refine WQ.then_normal (hK67 _ _ _ ?_)
  refine WP.region ?_
  refine WL.runk 3 [0, 3, 4] [(0, .slice a0' a_0.length c0'), (3, .slice a5 ((st51.2.set (Int.toNat st51.1) x70).length) c6), (4, .int .i64 (wI64 (st51.1 + 1)))] (by kernel_rfl) ?_
  refine WL.nil ?_
  obtain rfl := Option.some.inj hm
  exact WQ.round hK58 ⟨((wI64 (st51.1 + 1)), (st51.2.set (Int.toNat st51.1) x70)), rfl, hb83, hL84, hS82, hl56⟩ (Nat.lt_succ_self _) ⟨rfl, rfl, rfl, trivial⟩

theorem c_51 (n : Nat) (a_0 : SGood) (b_1 : SGood) (w : World) {r : Bool} (hm : m_laws_eqGood n a_0 b_1 = some r)  :
    CallV Try.prog 51 #[.agg #[.string (bs a_0.Name), .int .i64 a_0.OnHand, .int .i64 a_0.Reserved, .int .i64 a_0.Least], .agg #[.string (bs b_1.Name), .int .i64 b_1.OnHand, .int .i64 b_1.Reserved, .int .i64 b_1.Least]] w (fun v w' => v = .bool r ∧ Ext w w') := by
  unfold m_laws_eqGood at hm
  refine CallV.enter Try.func51 rfl (by kernel_rfl) Try.ntmps51 (env := [(0, .agg #[.string (bs a_0.Name), .int .i64 a_0.OnHand, .int .i64 a_0.Reserved, .int .i64 a_0.Least]), (1, .agg #[.string (bs b_1.Name), .int .i64 b_1.OnHand, .int .i64 b_1.Reserved, .int .i64 b_1.Least])]) ⟨rfl, rfl, trivial⟩ ?_
  refine WP.seq (fun K1 hK1 => ?_)
  refine WP.region ?_
  refine WL.box 56 [.string (bs a_0.Name), .int .i64 a_0.OnHand, .int .i64 a_0.Reserved, .int .i64 a_0.Least] 2 (by kernel_rfl) rfl rfl rfl rfl ?_
  intro b2 w3 hE4 hR5
  have hb7 : Ext w w3 := Ext.trans (Ext.refl w) hE4
  have hL8 : w.heap.size ≤ w3.heap.size := Nat.le_trans (Nat.le_refl _) hE4.size
  have hS9 : SH w3 w.heap.size [aBox 56 b2 [.string (bs a_0.Name), .int .i64 a_0.OnHand, .int .i64 a_0.Reserved, .int .i64 a_0.Least]] := SH.add (SH.nil _ _) hE4 (Nat.le_refl _) hR5
  refine WL.box 56 [.string (bs b_1.Name), .int .i64 b_1.OnHand, .int .i64 b_1.Reserved, .int .i64 b_1.Least] 3 (by kernel_rfl) rfl rfl rfl rfl ?_
  intro b10 w11 hE12 hR13
  have hb15 : Ext w w11 := Ext.trans hb7 hE12
  have hL16 : w.heap.size ≤ w11.heap.size := Nat.le_trans hL8 hE12.size
  have hS17 : SH w11 w.heap.size [aBox 56 b10 [.string (bs b_1.Name), .int .i64 b_1.OnHand, .int .i64 b_1.Reserved, .int .i64 b_1.Least], aBox 56 b2 [.string (bs a_0.Name), .int .i64 a_0.OnHand, .int .i64 a_0.Reserved, .int .i64 a_0.Least]] := SH.add hS9 hE12 hL8 hR13
  refine WL.runk 1 [2, 3] [(2, .pointer (some ⟨b2, 0, none⟩)), (3, .pointer (some ⟨b10, 0, none⟩))] (by kernel_rfl) ?_
  refine WL.nil ?_
  refine WQ.then_normal (hK1 _ _ _ ?_)
  refine WP.seq (fun K18 hK18 => ?_)
  refine WP.seq (fun K19 hK19 => ?_)
  refine WP.region ?_
  refine WL.runk 1 [2, 3, 5] [(2, .pointer (some ⟨b2, 0, none⟩)), (3, .pointer (some ⟨b10, 0, none⟩)), (5, .pointer (some ⟨b2, 0, none⟩))] (by kernel_rfl) ?_
  refine WL.st (.string (bs a_0.Name)) (ST.load (cell_ext (SH.boxAt (SH.front 1 hS17) 0 _ rfl)) rfl rfl Try.underlying9 rfl) rfl rfl rfl ?_
  refine WL.runk 1 [2, 3, 6, 7] [(2, .pointer (some ⟨b2, 0, none⟩)), (3, .pointer (some ⟨b10, 0, none⟩)), (6, .string (bs a_0.Name)), (7, .pointer (some ⟨b10, 0, none⟩))] (by kernel_rfl) ?_
  refine WL.st (.string (bs b_1.Name)) (ST.load (cell_ext (SH.boxAt (SH.front 0 hS17) 0 _ rfl)) rfl rfl Try.underlying9 rfl) rfl rfl rfl ?_
  refine WL.st (.bool (!(a_0.Name == b_1.Name))) (ST.strne (x := a_0.Name) (y := b_1.Name) rfl rfl rfl) rfl rfl rfl ?_
  refine WL.sub [(2, .pointer (some ⟨b2, 0, none⟩)), (3, .pointer (some ⟨b10, 0, none⟩)), (9, .bool (!(a_0.Name == b_1.Name)))] ⟨rfl, rfl, rfl, trivial⟩ ?_
  refine WL.nil ?_
  refine WQ.then_normal (hK19 _ _ _ ?_)
  refine WP.cond (!(a_0.Name == b_1.Name)) rfl rfl (fun hc20 => ?_) (fun hc20 => ?_)
  · have hm := iteT hm hc20
    refine WP.seq (fun K21 hK21 => ?_)
    refine WP.region ?_
    refine WL.runk 1 [4] [(4, .bool false)] (by kernel_rfl) ?_
    refine WL.nil ?_
    refine WQ.then_normal (hK21 _ _ _ ?_)
    refine WP.ret ?_
    refine WQ.then_ret ?_
    obtain rfl := Option.some.inj hm
    exact WQ.ret1 _ rfl rfl ⟨rfl, hb15⟩
  have hm := iteF hm hc20
  refine WP.skip ?_
  refine WQ.then_normal (hK18 _ _ _ ?_)
  refine WP.seq (fun K22 hK22 => ?_)
  refine WP.seq (fun K23 hK23 => ?_)
  refine WP.region ?_
  refine WL.runk 1 [2, 3, 10] [(2, .pointer (some ⟨b2, 0, none⟩)), (3, .pointer (some ⟨b10, 0, none⟩)), (10, .pointer (some ⟨b2, 1, none⟩))] (by kernel_rfl) ?_
  refine WL.st (.int .i64 a_0.OnHand) (ST.load (cell_ext (SH.boxAt (SH.front 1 hS17) 1 _ rfl)) rfl rfl Try.underlying2 rfl) rfl rfl rfl ?_
  refine WL.runk 1 [2, 3, 11, 12] [(2, .pointer (some ⟨b2, 0, none⟩)), (3, .pointer (some ⟨b10, 0, none⟩)), (11, .int .i64 a_0.OnHand), (12, .pointer (some ⟨b10, 1, none⟩))] (by kernel_rfl) ?_
  refine WL.st (.int .i64 b_1.OnHand) (ST.load (cell_ext (SH.boxAt (SH.front 0 hS17) 1 _ rfl)) rfl rfl Try.underlying2 rfl) rfl rfl rfl ?_
  refine WL.runk 1 [2, 3, 14] [(2, .pointer (some ⟨b2, 0, none⟩)), (3, .pointer (some ⟨b10, 0, none⟩)), (14, .bool (a_0.OnHand != b_1.OnHand))] (by kernel_rfl) ?_
  refine WL.nil ?_
  refine WQ.then_normal (hK23 _ _ _ ?_)
  refine WP.cond (a_0.OnHand != b_1.OnHand) rfl rfl (fun hc24 => ?_) (fun hc24 => ?_)
  · have hm := iteT hm hc24
    refine WP.seq (fun K25 hK25 => ?_)
    refine WP.region ?_
    refine WL.runk 1 [4] [(4, .bool false)] (by kernel_rfl) ?_
    refine WL.nil ?_
    refine WQ.then_normal (hK25 _ _ _ ?_)
    refine WP.ret ?_
    refine WQ.then_ret ?_
    obtain rfl := Option.some.inj hm
    exact WQ.ret1 _ rfl rfl ⟨rfl, hb15⟩
  have hm := iteF hm hc24
  refine WP.skip ?_
  refine WQ.then_normal (hK22 _ _ _ ?_)
  refine WP.seq (fun K26 hK26 => ?_)
  refine WP.seq (fun K27 hK27 => ?_)
  refine WP.region ?_
  refine WL.runk 1 [2, 3, 15] [(2, .pointer (some ⟨b2, 0, none⟩)), (3, .pointer (some ⟨b10, 0, none⟩)), (15, .pointer (some ⟨b2, 2, none⟩))] (by kernel_rfl) ?_
  refine WL.st (.int .i64 a_0.Reserved) (ST.load (cell_ext (SH.boxAt (SH.front 1 hS17) 2 _ rfl)) rfl rfl Try.underlying2 rfl) rfl rfl rfl ?_
  refine WL.runk 1 [2, 3, 16, 17] [(2, .pointer (some ⟨b2, 0, none⟩)), (3, .pointer (some ⟨b10, 0, none⟩)), (16, .int .i64 a_0.Reserved), (17, .pointer (some ⟨b10, 2, none⟩))] (by kernel_rfl) ?_
  refine WL.st (.int .i64 b_1.Reserved) (ST.load (cell_ext (SH.boxAt (SH.front 0 hS17) 2 _ rfl)) rfl rfl Try.underlying2 rfl) rfl rfl rfl ?_
  refine WL.runk 1 [2, 3, 19] [(2, .pointer (some ⟨b2, 0, none⟩)), (3, .pointer (some ⟨b10, 0, none⟩)), (19, .bool (a_0.Reserved != b_1.Reserved))] (by kernel_rfl) ?_
  refine WL.nil ?_
  refine WQ.then_normal (hK27 _ _ _ ?_)
  refine WP.cond (a_0.Reserved != b_1.Reserved) rfl rfl (fun hc28 => ?_) (fun hc28 => ?_)
  · have hm := iteT hm hc28
    refine WP.seq (fun K29 hK29 => ?_)
    refine WP.region ?_
    refine WL.runk 1 [4] [(4, .bool false)] (by kernel_rfl) ?_
    refine WL.nil ?_
    refine WQ.then_normal (hK29 _ _ _ ?_)
    refine WP.ret ?_
    refine WQ.then_ret ?_
    obtain rfl := Option.some.inj hm
    exact WQ.ret1 _ rfl rfl ⟨rfl, hb15⟩
  have hm := iteF hm hc28
  refine WP.skip ?_
  refine WQ.then_normal (hK26 _ _ _ ?_)
  refine WP.seq (fun K30 hK30 => ?_)
  refine WP.seq (fun K31 hK31 => ?_)
  refine WP.region ?_
  refine WL.runk 1 [3, 20] [(3, .pointer (some ⟨b10, 0, none⟩)), (20, .pointer (some ⟨b2, 3, none⟩))] (by kernel_rfl) ?_
  refine WL.st (.int .i64 a_0.Least) (ST.load (cell_ext (SH.boxAt (SH.front 1 hS17) 3 _ rfl)) rfl rfl Try.underlying2 rfl) rfl rfl rfl ?_
  refine WL.runk 1 [21, 22] [(21, .int .i64 a_0.Least), (22, .pointer (some ⟨b10, 3, none⟩))] (by kernel_rfl) ?_
  refine WL.st (.int .i64 b_1.Least) (ST.load (cell_ext (SH.boxAt (SH.front 0 hS17) 3 _ rfl)) rfl rfl Try.underlying2 rfl) rfl rfl rfl ?_
  refine WL.runk 1 [24] [(24, .bool (a_0.Least != b_1.Least))] (by kernel_rfl) ?_
  refine WL.nil ?_
  refine WQ.then_normal (hK31 _ _ _ ?_)
  refine WP.cond (a_0.Least != b_1.Least) rfl rfl (fun hc32 => ?_) (fun hc32 => ?_)
  · have hm := iteT hm hc32
    refine WP.seq (fun K33 hK33 => ?_)
    refine WP.region ?_
    refine WL.runk 1 [4] [(4, .bool false)] (by kernel_rfl) ?_
    refine WL.nil ?_
    refine WQ.then_normal (hK33 _ _ _ ?_)
    refine WP.ret ?_
    refine WQ.then_ret ?_
    obtain rfl := Option.some.inj hm
    exact WQ.ret1 _ rfl rfl ⟨rfl, hb15⟩
  have hm := iteF hm hc32
  refine WP.skip ?_
  refine WQ.then_normal (hK30 _ _ _ ?_)
  refine WP.seq (fun K34 hK34 => ?_)
  refine WP.region ?_
  refine WL.runk 1 [4] [(4, .bool true)] (by kernel_rfl) ?_
  refine WL.nil ?_
  refine WQ.then_normal (hK34 _ _ _ ?_)
  refine WP.ret ?_
  obtain rfl := Option.some.inj hm
  exact WQ.ret1 _ rfl rfl ⟨rfl, hb15⟩

theorem c_17 (n : Nat) (a_0 : List SGood) (a0' : Option Addr) (c0' : Nat) (b_1 : List SGood) (a1' : Option Addr) (c1' : Nat) (w : World) {r : Bool} (hm : m_laws_eqGoodS n a_0 b_1 = some r) (h0 : Rd fGood.ty w a0' a_0) (_hle0 : a_0.length ≤ c0') (h1 : Rd fGood.ty w a1' b_1) (_hle1 : b_1.length ≤ c1') :
    CallV Try.prog 17 #[.slice a0' a_0.length c0', .slice a1' b_1.length c1'] w (fun v w' => v = .bool r ∧ Ext w w') := by
  unfold m_laws_eqGoodS at hm
  refine CallV.enter Try.func17 rfl (by kernel_rfl) Try.ntmps17 (env := [(0, .slice a0' a_0.length c0'), (1, .slice a1' b_1.length c1')]) ⟨rfl, rfl, trivial⟩ ?_
  refine WP.seq (fun K1 hK1 => ?_)
  refine WP.region ?_
  refine WL.runk 1 [0, 1] [(0, .slice a0' a_0.length c0'), (1, .slice a1' b_1.length c1')] (by kernel_rfl) ?_
  refine WL.nil ?_
  refine WQ.then_normal (hK1 _ _ _ ?_)
  refine WP.seq (fun K2 hK2 => ?_)
  refine WP.seq (fun K3 hK3 => ?_)
  refine WP.region ?_
  refine WL.runk 5 [0, 1, 10] [(0, .slice a0' a_0.length c0'), (1, .slice a1' b_1.length c1'), (10, .bool ((a_0.length : Int) != (b_1.length : Int)))] (by kernel_rfl) ?_
  refine WL.nil ?_
  refine WQ.then_normal (hK3 _ _ _ ?_)
  refine WP.cond ((a_0.length : Int) != (b_1.length : Int)) rfl rfl (fun hc4 => ?_) (fun hc4 => ?_)
  · have hm := iteT hm hc4
    refine WP.seq (fun K5 hK5 => ?_)
    refine WP.region ?_
    refine WL.runk 1 [4] [(4, .bool false)] (by kernel_rfl) ?_
    refine WL.nil ?_
    refine WQ.then_normal (hK5 _ _ _ ?_)
    refine WP.ret ?_
    refine WQ.then_ret ?_
    obtain rfl := Option.some.inj hm
    exact WQ.ret1 _ rfl rfl ⟨rfl, (Ext.refl w)⟩
  have hm := iteF hm hc4
  refine WP.skip ?_
  refine WQ.then_normal (hK2 _ _ _ ?_)
  refine WP.seq (fun K6 hK6 => ?_)
  refine WP.seq (fun K7 hK7 => ?_)
  refine WP.region ?_
  refine WL.runk 1 [0, 1, 5] [(0, .slice a0' a_0.length c0'), (1, .slice a1' b_1.length c1'), (5, .int .i64 0)] (by kernel_rfl) ?_
  refine WL.nil ?_
  refine WQ.then_normal (hK7 _ _ _ ?_)
  refine WP.block ?_
  obtain ⟨t19, ht20, hm⟩ := bindE hm
  have hmo14 := hm; clear hm
  refine WP.sub [(0, .slice a0' a_0.length c0'), (1, .slice a1' b_1.length c1'), (5, .int .i64 0)] ⟨rfl, rfl, rfl, trivial⟩ ?_
  refine WP.loop (fun n' env' w' => ∃ (st8 : Int) , env' = [(0, .slice a0' a_0.length c0'), (1, .slice a1' b_1.length c1'), (5, .int .i64 st8)] ∧ Ext w w' ∧ w.heap.size ≤ w'.heap.size ∧ SH w' w.heap.size [] ∧ loopN (m_laws_eqGoodS_l1 n a_0 b_1) n' st8 = some t19) n ⟨0, rfl, (Ext.refl w), (Nat.le_refl _), (SH.nil _ _), ht20⟩ ?_
  rintro n16 _ w9 ⟨st8, rfl, hb10, hL11, hS12, hl13⟩ K15 hK15
  obtain ⟨n17, s18, rfl, hm, hl13⟩ := loopN_some hl13
  unfold m_laws_eqGoodS_l1 at hm
  refine WP.seq (fun K21 hK21 => ?_)
  refine WP.seq (fun K22 hK22 => ?_)
  refine WP.region ?_
  refine WL.runk 4 [0, 1, 5, 14] [(0, .slice a0' a_0.length c0'), (1, .slice a1' b_1.length c1'), (5, .int .i64 st8), (14, .bool (decide (st8 < (a_0.length : Int))))] (by kernel_rfl) ?_
  refine WL.nil ?_
  refine WQ.then_normal (hK22 _ _ _ ?_)
  refine WP.cond (decide (st8 < (a_0.length : Int))) rfl rfl (fun hc23 => ?_) (fun hc23 => ?_)
  rotate_left
  · have hm := iteF hm hc23
    refine WP.exit ?_
    refine WQ.then_exit ?_
    refine WQ.then_exit ?_
    refine WQ.block_here ?_
    obtain rfl := Option.some.inj hm
    obtain rfl := afterN_done hl13
    have hm := hmo14
    refine WQ.then_normal (hK6 _ _ _ ?_)
    refine WP.seq (fun K41 hK41 => ?_)
    refine WP.region ?_
    refine WL.runk 1 [4] [(4, .bool true)] (by kernel_rfl) ?_
    refine WL.nil ?_
    refine WQ.then_normal (hK41 _ _ _ ?_)
    refine WP.ret ?_
    obtain rfl := Option.some.inj hm
    exact WQ.ret1 _ rfl rfl ⟨rfl, hb10⟩
  have hm := iteT hm hc23
  refine WP.skip ?_
  refine WQ.then_normal (hK21 _ _ _ ?_)
  refine WP.seq (fun K24 hK24 => ?_)
  refine WP.block ?_
  refine WP.seq (fun K25 hK25 => ?_)
  refine WP.quiet (by kernel_rfl) (by kernel_rfl) ?_
  refine QL.step1v 17 (.slice a0' a_0.length c0') rfl (fun _ => by kernel_rfl) ?_
  refine QL.step1v 18 (.int .i64 st8) rfl (fun _ => by kernel_rfl) ?_
  refine QL.subk [0, 1, 5, 17, 18] [(0, .slice a0' a_0.length c0'), (1, .slice a1' b_1.length c1'), (5, .int .i64 st8), (17, .slice a0' a_0.length c0'), (18, .int .i64 st8)] (by kernel_rfl) ?_
  obtain ⟨x26, hx27, hm⟩ := bindE hm
  refine QL.st (.pointer (some (at_ a0' (Int.toNat st8 * 4)))) (ST.index (T := fGood.ty) (xs := a_0) (Rd.below h0 hb10) hx27 rfl rfl rfl Try.underlying25 (info56).1 (info56).2.1) rfl rfl rfl ?_
  refine QL.st (.agg #[.string (bs x26.Name), .int .i64 x26.OnHand, .int .i64 x26.Reserved, .int .i64 x26.Least]) (ST.loadAgg (vs := fGood.leaf x26) (fun j v hv => Rd.flatA (F := fGood) (Rd.below h0 hb10) hx27 j hv) rfl rfl rfl Try.underlying56 rfl (info56).1 (info56).2.1) rfl rfl rfl ?_
  refine QL.step1v 21 (.slice a1' b_1.length c1') rfl (fun _ => by kernel_rfl) ?_
  refine QL.step1v 22 (.int .i64 st8) rfl (fun _ => by kernel_rfl) ?_
  refine QL.subk [0, 1, 5, 20, 21, 22] [(0, .slice a0' a_0.length c0'), (1, .slice a1' b_1.length c1'), (5, .int .i64 st8), (20, .agg #[.string (bs x26.Name), .int .i64 x26.OnHand, .int .i64 x26.Reserved, .int .i64 x26.Least]), (21, .slice a1' b_1.length c1'), (22, .int .i64 st8)] (by kernel_rfl) ?_
  obtain ⟨x28, hx29, hm⟩ := bindE hm
  refine QL.st (.pointer (some (at_ a1' (Int.toNat st8 * 4)))) (ST.index (T := fGood.ty) (xs := b_1) (Rd.below h1 hb10) hx29 rfl rfl rfl Try.underlying25 (info56).1 (info56).2.1) rfl rfl rfl ?_
  refine QL.st (.agg #[.string (bs x28.Name), .int .i64 x28.OnHand, .int .i64 x28.Reserved, .int .i64 x28.Least]) (ST.loadAgg (vs := fGood.leaf x28) (fun j v hv => Rd.flatA (F := fGood) (Rd.below h1 hb10) hx29 j hv) rfl rfl rfl Try.underlying56 rfl (info56).1 (info56).2.1) rfl rfl rfl ?_
  obtain ⟨x30, hx31, hm⟩ := bindE hm
  refine QL.call 51 #[.agg #[.string (bs x26.Name), .int .i64 x26.OnHand, .int .i64 x26.Reserved, .int .i64 x26.Least], .agg #[.string (bs x28.Name), .int .i64 x28.OnHand, .int .i64 x28.Reserved, .int .i64 x28.Least]] (.bool x30) (fun _ => by kernel_rfl) (fun w32 hE33 => c_51 n x26 x28 w32 hx31 ) rfl rfl rfl ?_
  refine QL.step1v 26 (.bool (!x30)) rfl (fun _ => by kernel_rfl) ?_
  refine QL.subk [0, 1, 5, 26] [(0, .slice a0' a_0.length c0'), (1, .slice a1' b_1.length c1'), (5, .int .i64 st8), (26, .bool (!x30))] (by kernel_rfl) ?_
  refine QL.nil ?_
  intro w34 hE35
  have hb36 : Ext w w34 := Ext.trans hb10 hE35
  have hL37 : w.heap.size ≤ w34.heap.size := Nat.le_trans hL11 hE35.size
  have hS38 : SH w34 w.heap.size [] := SH.ext hS12 hE35
  refine WQ.then_normal (hK25 _ _ _ ?_)
  refine WP.cond (!x30) rfl rfl (fun hc39 => ?_) (fun hc39 => ?_)
  rotate_left
  · have hm := iteF hm hc39
    refine WP.skip ?_
    refine WQ.block_normal ?_
    refine WQ.then_normal (hK24 _ _ _ ?_)
    refine WP.region ?_
    refine WL.runk 3 [0, 1, 5] [(0, .slice a0' a_0.length c0'), (1, .slice a1' b_1.length c1'), (5, .int .i64 (wI64 (st8 + 1)))] (by kernel_rfl) ?_
    refine WL.nil ?_
    obtain rfl := Option.some.inj hm
    exact WQ.round hK15 ⟨(wI64 (st8 + 1)), rfl, hb36, hL37, hS38, hl13⟩ (Nat.lt_succ_self _) ⟨rfl, rfl, rfl, trivial⟩
  have hm := iteT hm hc39
  refine WP.seq (fun K40 hK40 => ?_)
  refine WP.region ?_
  refine WL.runk 1 [4] [(4, .bool false)] (by kernel_rfl) ?_
  refine WL.nil ?_
  refine WQ.then_normal (hK40 _ _ _ ?_)
  refine WP.ret ?_
  refine WQ.block_ret ?_
  refine WQ.then_ret ?_
  refine WQ.then_ret ?_
  refine WQ.block_ret ?_
  refine WQ.then_ret ?_
  obtain rfl := Option.some.inj hm
  obtain rfl := afterN_done hl13
  have hm := hmo14
  obtain rfl := Option.some.inj hm
  exact WQ.ret1 _ rfl rfl ⟨rfl, hb36⟩

theorem c_80 (n : Nat) (n_0 : Int) (low_1 : Int) (high_2 : Int) (w : World) {r : Bool} (hm : m_spec_l00In n n_0 low_1 high_2 = some r)  :
    CallV Try.prog 80 #[.int .i64 n_0, .int .i64 low_1, .int .i64 high_2] w (fun v w' => v = .bool r ∧ Ext w w') := by
  unfold m_spec_l00In at hm
  refine CallV.enter Try.func80 rfl (by kernel_rfl) Try.ntmps80 (env := [(0, .int .i64 n_0), (1, .int .i64 low_1), (2, .int .i64 high_2)]) ⟨rfl, rfl, rfl, trivial⟩ ?_
  refine WP.seq (fun K1 hK1 => ?_)
  refine WP.region ?_
  refine WL.runk 1 [0, 1, 2] [(0, .int .i64 n_0), (1, .int .i64 low_1), (2, .int .i64 high_2)] (by kernel_rfl) ?_
  refine WL.nil ?_
  refine WQ.then_normal (hK1 _ _ _ ?_)
  refine WP.seq (fun K2 hK2 => ?_)
  obtain ⟨x4, hx5, hm⟩ := bindE hm
  refine WP.cut (fun env' w' => env' = [(6, .bool x4)] ∧ Ext w w' ∧ w.heap.size ≤ w'.heap.size ∧ SH w' w.heap.size []) ?_ ?_
  rotate_left
  · clear hx5
    rintro _ w7 ⟨rfl, hb8, hL9, hS10⟩
    refine WQ.then_normal (hK2 _ _ _ ?_)
    refine WP.ret ?_
    obtain rfl := Option.some.inj hm
    exact WQ.ret1 _ rfl rfl ⟨rfl, hb8⟩
  have hm := hx5; clear hx5
  refine WP.region ?_
  refine WL.runk 4 [0, 2, 10] [(0, .int .i64 n_0), (2, .int .i64 high_2), (10, .bool (decide (n_0 ≥ low_1)))] (by kernel_rfl) ?_
  refine WL.case (decide (n_0 ≥ low_1)) [10] ⟨rfl, trivial⟩ (fun hc6 => ?_) (fun hc6 => ?_)
  · have hm := iteT hm hc6
    refine WL.runk 5 [6] [(6, .bool (decide (n_0 ≤ high_2)))] (by kernel_rfl) ?_
    refine WL.nil ?_
    obtain rfl := Option.some.inj hm
    exact WQ.post' ⟨rfl, (Ext.refl w), (Nat.le_refl _), (SH.nil _ _)⟩ ⟨rfl, trivial⟩
  have hm := iteF hm hc6
  refine WL.runk 5 [6] [(6, .bool false)] (by kernel_rfl) ?_
  refine WL.nil ?_
  obtain rfl := Option.some.inj hm
  exact WQ.post' ⟨rfl, (Ext.refl w), (Nat.le_refl _), (SH.nil _ _)⟩ ⟨rfl, trivial⟩

theorem c_81 (n : Nat) (n_0 : Int) (w : World) {r : Bool} (hm : m_spec_l23Many n n_0 = some r)  :
    CallV Try.prog 81 #[.int .i64 n_0] w (fun v w' => v = .bool r ∧ Ext w w') := by
  unfold m_spec_l23Many at hm
  refine CallV.enter Try.func81 rfl (by kernel_rfl) Try.ntmps81 (env := [(0, .int .i64 n_0)]) ⟨rfl, trivial⟩ ?_
  refine WP.seq (fun K1 hK1 => ?_)
  refine WP.region ?_
  refine WL.runk 1 [0] [(0, .int .i64 n_0)] (by kernel_rfl) ?_
  refine WL.nil ?_
  refine WQ.then_normal (hK1 _ _ _ ?_)
  refine WP.seq (fun K2 hK2 => ?_)
  refine WP.region ?_
  refine WL.runk 1 [3] [(3, .int .i64 n_0)] (by kernel_rfl) ?_
  obtain ⟨x3, hx4, hm⟩ := bindE hm
  refine WL.call 80 #[.int .i64 n_0, .int .i64 0, .int .i64 1000000] rfl rfl (by kernel_rfl) (c_80 n n_0 0 1000000 w hx4 ) ?_
  rintro _ w5 ⟨rfl, hE6⟩
  refine ⟨_, rfl, ?_⟩
  have hb8 : Ext w w5 := Ext.trans (Ext.refl w) hE6
  have hL9 : w.heap.size ≤ w5.heap.size := Nat.le_trans (Nat.le_refl _) hE6.size
  have hS10 : SH w5 w.heap.size [] := SH.ext (SH.nil _ _) hE6
  refine WL.runk 1 [2] [(2, .bool x3)] (by kernel_rfl) ?_
  refine WL.nil ?_
  refine WQ.then_normal (hK2 _ _ _ ?_)
  refine WP.ret ?_
  obtain rfl := Option.some.inj hm
  exact WQ.ret1 _ rfl rfl ⟨rfl, hb8⟩

theorem c_95 (n : Nat) (c_0 : Int) (w : World) {r : Bool} (hm : m_spec_l01Small n c_0 = some r)  :
    CallV Try.prog 95 #[.int .u8 c_0] w (fun v w' => v = .bool r ∧ Ext w w') := by
  unfold m_spec_l01Small at hm
  refine CallV.enter Try.func95 rfl (by kernel_rfl) Try.ntmps95 (env := [(0, .int .u8 c_0)]) ⟨rfl, trivial⟩ ?_
  refine WP.seq (fun K1 hK1 => ?_)
  refine WP.region ?_
  refine WL.runk 1 [0] [(0, .int .u8 c_0)] (by kernel_rfl) ?_
  refine WL.nil ?_
  refine WQ.then_normal (hK1 _ _ _ ?_)
  refine WP.seq (fun K2 hK2 => ?_)
  obtain ⟨x4, hx5, hm⟩ := bindE hm
  refine WP.cut (fun env' w' => env' = [(2, .bool x4)] ∧ Ext w w' ∧ w.heap.size ≤ w'.heap.size ∧ SH w' w.heap.size []) ?_ ?_
  rotate_left
  · clear hx5
    rintro _ w7 ⟨rfl, hb8, hL9, hS10⟩
    refine WQ.then_normal (hK2 _ _ _ ?_)
    refine WP.ret ?_
    obtain rfl := Option.some.inj hm
    exact WQ.ret1 _ rfl rfl ⟨rfl, hb8⟩
  have hm := hx5; clear hx5
  refine WP.region ?_
  refine WL.runk 3 [0, 5] [(0, .int .u8 c_0), (5, .bool (decide (c_0 ≥ 97)))] (by kernel_rfl) ?_
  refine WL.case (decide (c_0 ≥ 97)) [5] ⟨rfl, trivial⟩ (fun hc6 => ?_) (fun hc6 => ?_)
  · have hm := iteT hm hc6
    refine WL.runk 4 [2] [(2, .bool (decide (c_0 ≤ 122)))] (by kernel_rfl) ?_
    refine WL.nil ?_
    obtain rfl := Option.some.inj hm
    exact WQ.post' ⟨rfl, (Ext.refl w), (Nat.le_refl _), (SH.nil _ _)⟩ ⟨rfl, trivial⟩
  have hm := iteF hm hc6
  refine WL.runk 4 [2] [(2, .bool false)] (by kernel_rfl) ?_
  refine WL.nil ?_
  obtain rfl := Option.some.inj hm
  exact WQ.post' ⟨rfl, (Ext.refl w), (Nat.le_refl _), (SH.nil _ _)⟩ ⟨rfl, trivial⟩

theorem c_96 (n : Nat) (c_0 : Int) (w : World) {r : Bool} (hm : m_spec_l01Digit n c_0 = some r)  :
    CallV Try.prog 96 #[.int .u8 c_0] w (fun v w' => v = .bool r ∧ Ext w w') := by
  unfold m_spec_l01Digit at hm
  refine CallV.enter Try.func96 rfl (by kernel_rfl) Try.ntmps96 (env := [(0, .int .u8 c_0)]) ⟨rfl, trivial⟩ ?_
  refine WP.seq (fun K1 hK1 => ?_)
  refine WP.region ?_
  refine WL.runk 1 [0] [(0, .int .u8 c_0)] (by kernel_rfl) ?_
  refine WL.nil ?_
  refine WQ.then_normal (hK1 _ _ _ ?_)
  refine WP.seq (fun K2 hK2 => ?_)
  obtain ⟨x4, hx5, hm⟩ := bindE hm
  refine WP.cut (fun env' w' => env' = [(2, .bool x4)] ∧ Ext w w' ∧ w.heap.size ≤ w'.heap.size ∧ SH w' w.heap.size []) ?_ ?_
  rotate_left
  · clear hx5
    rintro _ w7 ⟨rfl, hb8, hL9, hS10⟩
    refine WQ.then_normal (hK2 _ _ _ ?_)
    refine WP.ret ?_
    obtain rfl := Option.some.inj hm
    exact WQ.ret1 _ rfl rfl ⟨rfl, hb8⟩
  have hm := hx5; clear hx5
  refine WP.region ?_
  refine WL.runk 3 [0, 5] [(0, .int .u8 c_0), (5, .bool (decide (c_0 ≥ 48)))] (by kernel_rfl) ?_
  refine WL.case (decide (c_0 ≥ 48)) [5] ⟨rfl, trivial⟩ (fun hc6 => ?_) (fun hc6 => ?_)
  · have hm := iteT hm hc6
    refine WL.runk 4 [2] [(2, .bool (decide (c_0 ≤ 57)))] (by kernel_rfl) ?_
    refine WL.nil ?_
    obtain rfl := Option.some.inj hm
    exact WQ.post' ⟨rfl, (Ext.refl w), (Nat.le_refl _), (SH.nil _ _)⟩ ⟨rfl, trivial⟩
  have hm := iteF hm hc6
  refine WL.runk 4 [2] [(2, .bool false)] (by kernel_rfl) ?_
  refine WL.nil ?_
  obtain rfl := Option.some.inj hm
  exact WQ.post' ⟨rfl, (Ext.refl w), (Nat.le_refl _), (SH.nil _ _)⟩ ⟨rfl, trivial⟩

theorem c_86 (n : Nat) (s_0 : List UInt8) (w : World) {r : Bool} (hm : m_spec_IsName n s_0 = some r)  :
    CallV Try.prog 86 #[.string (bs s_0)] w (fun v w' => v = .bool r ∧ Ext w w') := by
  unfold m_spec_IsName at hm
  refine CallV.enter Try.func86 rfl (by kernel_rfl) Try.ntmps86 (env := [(0, .string (bs s_0))]) ⟨rfl, trivial⟩ ?_
  refine WP.seq (fun K1 hK1 => ?_)
  refine WP.region ?_
  refine WL.runk 1 [0] [(0, .string (bs s_0))] (by kernel_rfl) ?_
  refine WL.nil ?_
  refine WQ.then_normal (hK1 _ _ _ ?_)
  refine WP.seq (fun K2 hK2 => ?_)
  refine WP.seq (fun K3 hK3 => ?_)
  obtain ⟨x16, hx17, hm⟩ := bindE hm
  refine WP.cut (fun env' w' => env' = [(0, .string (bs s_0)), (16, .bool x16)] ∧ Ext w w' ∧ w.heap.size ≤ w'.heap.size ∧ SH w' w.heap.size []) ?_ ?_
  · have hm := hx17; clear hx17
    refine WP.region ?_
    refine WL.runk 1 [0, 4] [(0, .string (bs s_0)), (4, .string (bs s_0))] (by kernel_rfl) ?_
    refine WL.st (.bool (s_0 == [])) (ST.streq (x := s_0) (y := []) rfl rfl rfl) rfl rfl rfl ?_
    refine WL.runk 1 [0, 6] [(0, .string (bs s_0)), (6, .bool (s_0 == []))] (by kernel_rfl) ?_
    refine WL.case (s_0 == []) [6] ⟨rfl, trivial⟩ (fun hc18 => ?_) (fun hc18 => ?_)
    · have hm := iteT hm hc18
      refine WL.runk 10 [0, 16] [(0, .string (bs s_0)), (16, .bool true)] (by kernel_rfl) ?_
      refine WL.nil ?_
      obtain rfl := Option.some.inj hm
      exact WQ.post' ⟨rfl, (Ext.refl w), (Nat.le_refl _), (SH.nil _ _)⟩ ⟨rfl, rfl, trivial⟩
    have hm := iteF hm hc18
    refine WL.runk 5 [0, 11] [(0, .string (bs s_0)), (11, .bool (decide ((s_0.length : Int) > 12)))] (by kernel_rfl) ?_
    refine WL.case (decide ((s_0.length : Int) > 12)) [11] ⟨rfl, trivial⟩ (fun hc19 => ?_) (fun hc19 => ?_)
    · have hm := iteT hm hc19
      refine WL.runk 5 [0, 16] [(0, .string (bs s_0)), (16, .bool true)] (by kernel_rfl) ?_
      refine WL.nil ?_
      obtain rfl := Option.some.inj hm
      exact WQ.post' ⟨rfl, (Ext.refl w), (Nat.le_refl _), (SH.nil _ _)⟩ ⟨rfl, rfl, trivial⟩
    have hm := iteF hm hc19
    refine WL.runk 1 [0, 11, 12] [(0, .string (bs s_0)), (11, .bool false), (12, .string (bs s_0))] (by kernel_rfl) ?_
    obtain ⟨x20, hx21, hm⟩ := bindE hm
    refine WL.st (.int .u8 (x20.toNat : Int)) (ST.sindex hx21 rfl rfl rfl Try.underlying9) rfl rfl rfl ?_
    obtain ⟨x22, hx23, hm⟩ := bindE hm
    refine WL.call 95 #[.int .u8 (x20.toNat : Int)] rfl rfl (by kernel_rfl) (c_95 n (x20.toNat : Int) w hx23 ) ?_
    rintro _ w24 ⟨rfl, hE25⟩
    refine ⟨_, rfl, ?_⟩
    have hb27 : Ext w w24 := Ext.trans (Ext.refl w) hE25
    have hL28 : w.heap.size ≤ w24.heap.size := Nat.le_trans (Nat.le_refl _) hE25.size
    have hS29 : SH w24 w.heap.size [] := SH.ext (SH.nil _ _) hE25
    refine WL.runk 2 [0, 16] [(0, .string (bs s_0)), (16, .bool (!x22))] (by kernel_rfl) ?_
    refine WL.nil ?_
    obtain rfl := Option.some.inj hm
    exact WQ.post' ⟨rfl, hb27, hL28, hS29⟩ ⟨rfl, rfl, trivial⟩
  clear hx17
  rintro _ w30 ⟨rfl, hb31, hL32, hS33⟩
  refine WQ.then_normal (hK3 _ _ _ ?_)
  refine WP.cond x16 rfl rfl (fun hc34 => ?_) (fun hc34 => ?_)
  · have hm := iteT hm hc34
    refine WP.seq (fun K35 hK35 => ?_)
    refine WP.region ?_
    refine WL.runk 1 [2] [(2, .bool false)] (by kernel_rfl) ?_
    refine WL.nil ?_
    refine WQ.then_normal (hK35 _ _ _ ?_)
    refine WP.ret ?_
    refine WQ.then_ret ?_
    obtain rfl := Option.some.inj hm
    exact WQ.ret1 _ rfl rfl ⟨rfl, hb31⟩
  have hm := iteF hm hc34
  refine WP.skip ?_
  refine WQ.then_normal (hK2 _ _ _ ?_)
  refine WP.seq (fun K36 hK36 => ?_)
  refine WP.seq (fun K37 hK37 => ?_)
  refine WP.region ?_
  refine WL.runk 1 [0, 3] [(0, .string (bs s_0)), (3, .int .i64 0)] (by kernel_rfl) ?_
  refine WL.nil ?_
  refine WQ.then_normal (hK37 _ _ _ ?_)
  refine WP.block ?_
  obtain ⟨t49, ht50, hm⟩ := bindE hm
  have hmo44 := hm; clear hm
  refine WP.sub [(0, .string (bs s_0)), (3, .int .i64 0)] ⟨rfl, rfl, trivial⟩ ?_
  refine WP.loop (fun n' env' w' => ∃ (st38 : Int) , env' = [(0, .string (bs s_0)), (3, .int .i64 st38)] ∧ Ext w w' ∧ w.heap.size ≤ w'.heap.size ∧ SH w' w.heap.size [] ∧ loopN (m_spec_IsName_l1 n s_0) n' st38 = some t49) n ⟨0, rfl, hb31, hL32, hS33, ht50⟩ ?_
  rintro n46 _ w39 ⟨st38, rfl, hb40, hL41, hS42, hl43⟩ K45 hK45
  obtain ⟨n47, s48, rfl, hm, hl43⟩ := loopN_some hl43
  unfold m_spec_IsName_l1 at hm
  refine WP.seq (fun K51 hK51 => ?_)
  refine WP.seq (fun K52 hK52 => ?_)
  refine WP.region ?_
  refine WL.runk 4 [0, 3, 20] [(0, .string (bs s_0)), (3, .int .i64 st38), (20, .bool (decide (st38 < (s_0.length : Int))))] (by kernel_rfl) ?_
  refine WL.nil ?_
  refine WQ.then_normal (hK52 _ _ _ ?_)
  refine WP.cond (decide (st38 < (s_0.length : Int))) rfl rfl (fun hc53 => ?_) (fun hc53 => ?_)
  rotate_left
  · have hm := iteF hm hc53
    refine WP.exit ?_
    refine WQ.then_exit ?_
    refine WQ.then_exit ?_
    refine WQ.block_here ?_
    obtain rfl := Option.some.inj hm
    obtain rfl := afterN_done hl43
    have hm := hmo44
    refine WQ.then_normal (hK36 _ _ _ ?_)
    refine WP.seq (fun K112 hK112 => ?_)
    refine WP.region ?_
    refine WL.runk 1 [2] [(2, .bool true)] (by kernel_rfl) ?_
    refine WL.nil ?_
    refine WQ.then_normal (hK112 _ _ _ ?_)
    refine WP.ret ?_
    obtain rfl := Option.some.inj hm
    exact WQ.ret1 _ rfl rfl ⟨rfl, hb40⟩
  have hm := iteT hm hc53
  refine WP.skip ?_
  refine WQ.then_normal (hK51 _ _ _ ?_)
  refine WP.seq (fun K54 hK54 => ?_)
  refine WP.block ?_
  refine WP.seq (fun K55 hK55 => ?_)
  obtain ⟨x80, hx81, hm⟩ := bindE hm
  refine WP.cut (fun env' w' => env' = [(0, .string (bs s_0)), (3, .int .i64 st38), (40, .bool x80)] ∧ Ext w w' ∧ w.heap.size ≤ w'.heap.size ∧ SH w' w.heap.size []) ?_ ?_
  rotate_left
  · clear hx81
    rintro _ w106 ⟨rfl, hb107, hL108, hS109⟩
    refine WQ.then_normal (hK55 _ _ _ ?_)
    refine WP.cond x80 rfl rfl (fun hc110 => ?_) (fun hc110 => ?_)
    rotate_left
    · have hm := iteF hm hc110
      refine WP.skip ?_
      refine WQ.block_normal ?_
      refine WQ.then_normal (hK54 _ _ _ ?_)
      refine WP.region ?_
      refine WL.runk 3 [0, 3] [(0, .string (bs s_0)), (3, .int .i64 (wI64 (st38 + 1)))] (by kernel_rfl) ?_
      refine WL.nil ?_
      obtain rfl := Option.some.inj hm
      exact WQ.round hK45 ⟨(wI64 (st38 + 1)), rfl, hb107, hL108, hS109, hl43⟩ (Nat.lt_succ_self _) ⟨rfl, rfl, trivial⟩
    have hm := iteT hm hc110
    refine WP.seq (fun K111 hK111 => ?_)
    refine WP.region ?_
    refine WL.runk 1 [2] [(2, .bool false)] (by kernel_rfl) ?_
    refine WL.nil ?_
    refine WQ.then_normal (hK111 _ _ _ ?_)
    refine WP.ret ?_
    refine WQ.block_ret ?_
    refine WQ.then_ret ?_
    refine WQ.then_ret ?_
    refine WQ.block_ret ?_
    refine WQ.then_ret ?_
    obtain rfl := Option.some.inj hm
    obtain rfl := afterN_done hl43
    have hm := hmo44
    obtain rfl := Option.some.inj hm
    exact WQ.ret1 _ rfl rfl ⟨rfl, hb107⟩
  have hm := hx81; clear hx81
  refine WP.region ?_
  refine WL.runk 2 [0, 3, 23, 24] [(0, .string (bs s_0)), (3, .int .i64 st38), (23, .string (bs s_0)), (24, .int .i64 st38)] (by kernel_rfl) ?_
  obtain ⟨x82, hx83, hm⟩ := bindE hm
  refine WL.st (.int .u8 (x82.toNat : Int)) (ST.sindex hx83 rfl rfl rfl Try.underlying9) rfl rfl rfl ?_
  obtain ⟨x84, hx85, hm⟩ := bindE hm
  refine WL.call 95 #[.int .u8 (x82.toNat : Int)] rfl rfl (by kernel_rfl) (c_95 n (x82.toNat : Int) w39 hx85 ) ?_
  rintro _ w86 ⟨rfl, hE87⟩
  refine ⟨_, rfl, ?_⟩
  have hb89 : Ext w w86 := Ext.trans hb40 hE87
  have hL90 : w.heap.size ≤ w86.heap.size := Nat.le_trans hL41 hE87.size
  have hS91 : SH w86 w.heap.size [] := SH.ext hS42 hE87
  refine WL.runk 2 [0, 3, 28] [(0, .string (bs s_0)), (3, .int .i64 st38), (28, .bool (!x84))] (by kernel_rfl) ?_
  refine WL.case (!x84) [28] ⟨rfl, trivial⟩ (fun hc92 => ?_) (fun hc92 => ?_)
  rotate_left
  · have hm := iteF hm hc92
    refine WL.runk 12 [0, 3, 40] [(0, .string (bs s_0)), (3, .int .i64 st38), (40, .bool false)] (by kernel_rfl) ?_
    refine WL.nil ?_
    obtain rfl := Option.some.inj hm
    exact WQ.post' ⟨rfl, hb89, hL90, hS91⟩ ⟨rfl, rfl, rfl, trivial⟩
  have hm := iteT hm hc92
  refine WL.runk 2 [0, 3, 28, 29, 30] [(0, .string (bs s_0)), (3, .int .i64 st38), (28, .bool true), (29, .string (bs s_0)), (30, .int .i64 st38)] (by kernel_rfl) ?_
  obtain ⟨x93, hx94, hm⟩ := bindE hm
  refine WL.st (.int .u8 (x93.toNat : Int)) (ST.sindex hx94 rfl rfl rfl Try.underlying9) rfl rfl rfl ?_
  obtain ⟨x95, hx96, hm⟩ := bindE hm
  refine WL.call 96 #[.int .u8 (x93.toNat : Int)] rfl rfl (by kernel_rfl) (c_96 n (x93.toNat : Int) w86 hx96 ) ?_
  rintro _ w97 ⟨rfl, hE98⟩
  refine ⟨_, rfl, ?_⟩
  have hb100 : Ext w w97 := Ext.trans hb89 hE98
  have hL101 : w.heap.size ≤ w97.heap.size := Nat.le_trans hL90 hE98.size
  have hS102 : SH w97 w.heap.size [] := SH.ext hS91 hE98
  refine WL.runk 3 [0, 3, 35] [(0, .string (bs s_0)), (3, .int .i64 st38), (35, .bool (!x95))] (by kernel_rfl) ?_
  refine WL.case (!x95) [35] ⟨rfl, trivial⟩ (fun hc103 => ?_) (fun hc103 => ?_)
  rotate_left
  · have hm := iteF hm hc103
    refine WL.runk 5 [0, 3, 40] [(0, .string (bs s_0)), (3, .int .i64 st38), (40, .bool false)] (by kernel_rfl) ?_
    refine WL.nil ?_
    obtain rfl := Option.some.inj hm
    exact WQ.post' ⟨rfl, hb100, hL101, hS102⟩ ⟨rfl, rfl, rfl, trivial⟩
  have hm := iteT hm hc103
  refine WL.runk 2 [0, 3, 35, 36, 37] [(0, .string (bs s_0)), (3, .int .i64 st38), (35, .bool true), (36, .string (bs s_0)), (37, .int .i64 st38)] (by kernel_rfl) ?_
  obtain ⟨x104, hx105, hm⟩ := bindE hm
  refine WL.st (.int .u8 (x104.toNat : Int)) (ST.sindex hx105 rfl rfl rfl Try.underlying9) rfl rfl rfl ?_
  refine WL.runk 2 [0, 3, 40] [(0, .string (bs s_0)), (3, .int .i64 st38), (40, .bool ((x104.toNat : Int) != 45))] (by kernel_rfl) ?_
  refine WL.nil ?_
  obtain rfl := Option.some.inj hm
  exact WQ.post' ⟨rfl, hb100, hL101, hS102⟩ ⟨rfl, rfl, rfl, trivial⟩

theorem c_69 (n : Nat) (g_0 : SGood) (b0' o0' : Nat) (w : World) {r : Bool} (hm : m_spec_l23One n g_0 = some r) (h0 : RdB w b0' o0' [.string (bs g_0.Name), .int .i64 g_0.OnHand, .int .i64 g_0.Reserved, .int .i64 g_0.Least]) :
    CallV Try.prog 69 #[.pointer (some ⟨b0', o0', none⟩)] w (fun v w' => v = .bool r ∧ Ext w w') := by
  unfold m_spec_l23One at hm
  refine CallV.enter Try.func69 rfl (by kernel_rfl) Try.ntmps69 (env := [(0, .pointer (some ⟨b0', o0', none⟩))]) ⟨rfl, trivial⟩ ?_
  refine WP.seq (fun K1 hK1 => ?_)
  refine WP.region ?_
  refine WL.runk 1 [0] [(0, .pointer (some ⟨b0', o0', none⟩))] (by kernel_rfl) ?_
  refine WL.nil ?_
  refine WQ.then_normal (hK1 _ _ _ ?_)
  refine WP.seq (fun K2 hK2 => ?_)
  obtain ⟨x42, hx43, hm⟩ := bindE hm
  refine WP.cut (fun env' w' => env' = [(2, .bool x42)] ∧ Ext w w' ∧ w.heap.size ≤ w'.heap.size ∧ SH w' w.heap.size []) ?_ ?_
  rotate_left
  · clear hx43
    rintro _ w83 ⟨rfl, hb84, hL85, hS86⟩
    refine WQ.then_normal (hK2 _ _ _ ?_)
    refine WP.ret ?_
    obtain rfl := Option.some.inj hm
    exact WQ.ret1 _ rfl rfl ⟨rfl, hb84⟩
  have hm := hx43; clear hx43
  refine WP.quiet (by kernel_rfl) (by kernel_rfl) ?_
  refine QL.step1v 3 (.pointer (some ⟨b0', o0', none⟩)) rfl (fun _ => by kernel_rfl) ?_
  refine QL.step1v 4 (.pointer (some ⟨b0', o0', none⟩)) rfl (fun _ => by kernel_rfl) ?_
  refine QL.step1v 5 (.pointer (some ⟨b0', o0', none⟩)) rfl (fun _ => by kernel_rfl) ?_
  refine QL.subk [0, 5] [(0, .pointer (some ⟨b0', o0', none⟩)), (5, .pointer (some ⟨b0', o0', none⟩))] (by kernel_rfl) ?_
  refine QL.st (.string (bs g_0.Name)) (ST.load (cell_ext (RdB.at (RdB.below h0 (Ext.refl w)) 0 _ rfl)) rfl rfl Try.underlying9 rfl) rfl rfl rfl ?_
  obtain ⟨x44, hx45, hm⟩ := bindE hm
  refine QL.call 86 #[.string (bs g_0.Name)] (.bool x44) (fun _ => by kernel_rfl) (fun w46 hE47 => c_86 n g_0.Name w46 hx45 ) rfl rfl rfl ?_
  refine QL.step1v 8 (.bool x44) rfl (fun _ => by kernel_rfl) ?_
  refine QL.subk [0, 8] [(0, .pointer (some ⟨b0', o0', none⟩)), (8, .bool x44)] (by kernel_rfl) ?_
  refine QL.case x44 [8] ⟨rfl, trivial⟩ (fun hc48 => ?_) (fun hc48 => ?_)
  rotate_left
  · have hm := iteF hm hc48
    refine QL.step1v 9 undef rfl (fun _ => by kernel_rfl) ?_
    refine QL.step1v 10 undef rfl (fun _ => by kernel_rfl) ?_
    refine QL.step1v 11 undef rfl (fun _ => by kernel_rfl) ?_
    refine QL.step1v 12 undef rfl (fun _ => by kernel_rfl) ?_
    refine QL.step1v 13 undef rfl (fun _ => by kernel_rfl) ?_
    refine QL.step1v 14 (.bool false) rfl (fun _ => by kernel_rfl) ?_
    refine QL.step1v 15 (.bool false) rfl (fun _ => by kernel_rfl) ?_
    refine QL.step1v 16 undef rfl (fun _ => by kernel_rfl) ?_
    refine QL.step1v 17 undef rfl (fun _ => by kernel_rfl) ?_
    refine QL.step1v 18 undef rfl (fun _ => by kernel_rfl) ?_
    refine QL.step1v 19 undef rfl (fun _ => by kernel_rfl) ?_
    refine QL.step1v 20 undef rfl (fun _ => by kernel_rfl) ?_
    refine QL.step1v 21 undef rfl (fun _ => by kernel_rfl) ?_
    refine QL.step1v 22 undef rfl (fun _ => by kernel_rfl) ?_
    refine QL.step1v 23 undef rfl (fun _ => by kernel_rfl) ?_
    refine QL.step1v 24 undef rfl (fun _ => by kernel_rfl) ?_
    refine QL.step1v 25 (.bool false) rfl (fun _ => by kernel_rfl) ?_
    refine QL.step1v 26 (.bool false) rfl (fun _ => by kernel_rfl) ?_
    refine QL.step1v 27 undef rfl (fun _ => by kernel_rfl) ?_
    refine QL.step1v 28 undef rfl (fun _ => by kernel_rfl) ?_
    refine QL.step1v 29 undef rfl (fun _ => by kernel_rfl) ?_
    refine QL.step1v 30 undef rfl (fun _ => by kernel_rfl) ?_
    refine QL.step1v 31 undef rfl (fun _ => by kernel_rfl) ?_
    refine QL.step1v 32 (.bool false) rfl (fun _ => by kernel_rfl) ?_
    refine QL.step1v 2 (.bool false) rfl (fun _ => by kernel_rfl) ?_
    refine QL.subk [2] [(2, .bool false)] (by kernel_rfl) ?_
    refine QL.nil ?_
    intro w78 hE79
    have hb80 : Ext w w78 := Ext.trans (Ext.refl w) hE79
    have hL81 : w.heap.size ≤ w78.heap.size := Nat.le_trans (Nat.le_refl _) hE79.size
    have hS82 : SH w78 w.heap.size [] := SH.ext (SH.nil _ _) hE79
    obtain rfl := Option.some.inj hm
    exact WQ.post' ⟨rfl, hb80, hL81, hS82⟩ ⟨rfl, trivial⟩
  have hm := iteT hm hc48
  refine QL.step1v 9 (.pointer (some ⟨b0', o0', none⟩)) rfl (fun _ => by kernel_rfl) ?_
  refine QL.step1v 10 (.pointer (some ⟨b0', o0', none⟩)) rfl (fun _ => by kernel_rfl) ?_
  refine QL.step1v 11 (.pointer (some ⟨b0', o0' + 1, none⟩)) rfl (fun _ => by kernel_rfl) ?_
  refine QL.subk [0, 8, 11] [(0, .pointer (some ⟨b0', o0', none⟩)), (8, .bool true), (11, .pointer (some ⟨b0', o0' + 1, none⟩))] (by kernel_rfl) ?_
  refine QL.st (.int .i64 g_0.OnHand) (ST.load (cell_ext (RdB.at (RdB.below h0 (Ext.refl w)) 1 _ rfl)) rfl rfl Try.underlying2 rfl) rfl rfl rfl ?_
  obtain ⟨x49, hx50, hm⟩ := bindE hm
  refine QL.call 81 #[.int .i64 g_0.OnHand] (.bool x49) (fun _ => by kernel_rfl) (fun w51 hE52 => c_81 n g_0.OnHand w51 hx50 ) rfl rfl rfl ?_
  refine QL.step1v 14 (.bool x49) rfl (fun _ => by kernel_rfl) ?_
  refine QL.step1v 15 (.bool x49) rfl (fun _ => by kernel_rfl) ?_
  refine QL.subk [0, 15] [(0, .pointer (some ⟨b0', o0', none⟩)), (15, .bool x49)] (by kernel_rfl) ?_
  refine QL.case x49 [15] ⟨rfl, trivial⟩ (fun hc53 => ?_) (fun hc53 => ?_)
  rotate_left
  · have hm := iteF hm hc53
    refine QL.step1v 16 undef rfl (fun _ => by kernel_rfl) ?_
    refine QL.step1v 17 undef rfl (fun _ => by kernel_rfl) ?_
    refine QL.step1v 18 undef rfl (fun _ => by kernel_rfl) ?_
    refine QL.step1v 19 undef rfl (fun _ => by kernel_rfl) ?_
    refine QL.step1v 20 undef rfl (fun _ => by kernel_rfl) ?_
    refine QL.step1v 21 undef rfl (fun _ => by kernel_rfl) ?_
    refine QL.step1v 22 undef rfl (fun _ => by kernel_rfl) ?_
    refine QL.step1v 23 undef rfl (fun _ => by kernel_rfl) ?_
    refine QL.step1v 24 undef rfl (fun _ => by kernel_rfl) ?_
    refine QL.step1v 25 (.bool false) rfl (fun _ => by kernel_rfl) ?_
    refine QL.step1v 26 (.bool false) rfl (fun _ => by kernel_rfl) ?_
    refine QL.step1v 27 undef rfl (fun _ => by kernel_rfl) ?_
    refine QL.step1v 28 undef rfl (fun _ => by kernel_rfl) ?_
    refine QL.step1v 29 undef rfl (fun _ => by kernel_rfl) ?_
    refine QL.step1v 30 undef rfl (fun _ => by kernel_rfl) ?_
    refine QL.step1v 31 undef rfl (fun _ => by kernel_rfl) ?_
    refine QL.step1v 32 (.bool false) rfl (fun _ => by kernel_rfl) ?_
    refine QL.step1v 2 (.bool false) rfl (fun _ => by kernel_rfl) ?_
    refine QL.subk [2] [(2, .bool false)] (by kernel_rfl) ?_
    refine QL.nil ?_
    intro w73 hE74
    have hb75 : Ext w w73 := Ext.trans (Ext.refl w) hE74
    have hL76 : w.heap.size ≤ w73.heap.size := Nat.le_trans (Nat.le_refl _) hE74.size
    have hS77 : SH w73 w.heap.size [] := SH.ext (SH.nil _ _) hE74
    obtain rfl := Option.some.inj hm
    exact WQ.post' ⟨rfl, hb75, hL76, hS77⟩ ⟨rfl, trivial⟩
  have hm := iteT hm hc53
  refine QL.step1v 16 (.pointer (some ⟨b0', o0', none⟩)) rfl (fun _ => by kernel_rfl) ?_
  refine QL.step1v 17 (.pointer (some ⟨b0', o0', none⟩)) rfl (fun _ => by kernel_rfl) ?_
  refine QL.step1v 18 (.pointer (some ⟨b0', o0' + 2, none⟩)) rfl (fun _ => by kernel_rfl) ?_
  refine QL.subk [0, 15, 18] [(0, .pointer (some ⟨b0', o0', none⟩)), (15, .bool true), (18, .pointer (some ⟨b0', o0' + 2, none⟩))] (by kernel_rfl) ?_
  refine QL.st (.int .i64 g_0.Reserved) (ST.load (cell_ext (RdB.at (RdB.below h0 (Ext.refl w)) 2 _ rfl)) rfl rfl Try.underlying2 rfl) rfl rfl rfl ?_
  refine QL.step1v 20 (.pointer (some ⟨b0', o0', none⟩)) rfl (fun _ => by kernel_rfl) ?_
  refine QL.step1v 21 (.pointer (some ⟨b0', o0', none⟩)) rfl (fun _ => by kernel_rfl) ?_
  refine QL.step1v 22 (.pointer (some ⟨b0', o0' + 1, none⟩)) rfl (fun _ => by kernel_rfl) ?_
  refine QL.subk [0, 15, 19, 22] [(0, .pointer (some ⟨b0', o0', none⟩)), (15, .bool true), (19, .int .i64 g_0.Reserved), (22, .pointer (some ⟨b0', o0' + 1, none⟩))] (by kernel_rfl) ?_
  refine QL.st (.int .i64 g_0.OnHand) (ST.load (cell_ext (RdB.at (RdB.below h0 (Ext.refl w)) 1 _ rfl)) rfl rfl Try.underlying2 rfl) rfl rfl rfl ?_
  obtain ⟨x54, hx55, hm⟩ := bindE hm
  refine QL.call 80 #[.int .i64 g_0.Reserved, .int .i64 0, .int .i64 g_0.OnHand] (.bool x54) (fun _ => by kernel_rfl) (fun w56 hE57 => c_80 n g_0.Reserved 0 g_0.OnHand w56 hx55 ) rfl rfl rfl ?_
  refine QL.step1v 25 (.bool x54) rfl (fun _ => by kernel_rfl) ?_
  refine QL.step1v 26 (.bool x54) rfl (fun _ => by kernel_rfl) ?_
  refine QL.subk [0, 26] [(0, .pointer (some ⟨b0', o0', none⟩)), (26, .bool x54)] (by kernel_rfl) ?_
  refine QL.case x54 [26] ⟨rfl, trivial⟩ (fun hc58 => ?_) (fun hc58 => ?_)
  rotate_left
  · have hm := iteF hm hc58
    refine QL.step1v 27 undef rfl (fun _ => by kernel_rfl) ?_
    refine QL.step1v 28 undef rfl (fun _ => by kernel_rfl) ?_
    refine QL.step1v 29 undef rfl (fun _ => by kernel_rfl) ?_
    refine QL.step1v 30 undef rfl (fun _ => by kernel_rfl) ?_
    refine QL.step1v 31 undef rfl (fun _ => by kernel_rfl) ?_
    refine QL.step1v 32 (.bool false) rfl (fun _ => by kernel_rfl) ?_
    refine QL.step1v 2 (.bool false) rfl (fun _ => by kernel_rfl) ?_
    refine QL.subk [2] [(2, .bool false)] (by kernel_rfl) ?_
    refine QL.nil ?_
    intro w68 hE69
    have hb70 : Ext w w68 := Ext.trans (Ext.refl w) hE69
    have hL71 : w.heap.size ≤ w68.heap.size := Nat.le_trans (Nat.le_refl _) hE69.size
    have hS72 : SH w68 w.heap.size [] := SH.ext (SH.nil _ _) hE69
    obtain rfl := Option.some.inj hm
    exact WQ.post' ⟨rfl, hb70, hL71, hS72⟩ ⟨rfl, trivial⟩
  have hm := iteT hm hc58
  refine QL.step1v 27 (.pointer (some ⟨b0', o0', none⟩)) rfl (fun _ => by kernel_rfl) ?_
  refine QL.step1v 28 (.pointer (some ⟨b0', o0', none⟩)) rfl (fun _ => by kernel_rfl) ?_
  refine QL.step1v 29 (.pointer (some ⟨b0', o0' + 3, none⟩)) rfl (fun _ => by kernel_rfl) ?_
  refine QL.subk [26, 29] [(26, .bool true), (29, .pointer (some ⟨b0', o0' + 3, none⟩))] (by kernel_rfl) ?_
  refine QL.st (.int .i64 g_0.Least) (ST.load (cell_ext (RdB.at (RdB.below h0 (Ext.refl w)) 3 _ rfl)) rfl rfl Try.underlying2 rfl) rfl rfl rfl ?_
  obtain ⟨x59, hx60, hm⟩ := bindE hm
  refine QL.call 81 #[.int .i64 g_0.Least] (.bool x59) (fun _ => by kernel_rfl) (fun w61 hE62 => c_81 n g_0.Least w61 hx60 ) rfl rfl rfl ?_
  refine QL.step1v 32 (.bool x59) rfl (fun _ => by kernel_rfl) ?_
  refine QL.step1v 2 (.bool x59) rfl (fun _ => by kernel_rfl) ?_
  refine QL.subk [2] [(2, .bool x59)] (by kernel_rfl) ?_
  refine QL.nil ?_
  intro w63 hE64
  have hb65 : Ext w w63 := Ext.trans (Ext.refl w) hE64
  have hL66 : w.heap.size ≤ w63.heap.size := Nat.le_trans (Nat.le_refl _) hE64.size
  have hS67 : SH w63 w.heap.size [] := SH.ext (SH.nil _ _) hE64
  obtain rfl := Option.some.inj hm
  exact WQ.post' ⟨rfl, hb65, hL66, hS67⟩ ⟨rfl, trivial⟩

theorem c_52 (n : Nat) (list_0 : List SGood) (a0' : Option Addr) (c0' : Nat) (w : World) {r : Bool} (hm : m_spec_l23Ok n list_0 = some r) (h0 : Rd fGood.ty w a0' list_0) (_hle0 : list_0.length ≤ c0') :
    CallV Try.prog 52 #[.slice a0' list_0.length c0'] w (fun v w' => v = .bool r ∧ Ext w w') := by
  unfold m_spec_l23Ok at hm
  refine CallV.enter Try.func52 rfl (by kernel_rfl) Try.ntmps52 (env := [(0, .slice a0' list_0.length c0')]) ⟨rfl, trivial⟩ ?_
  refine WP.seq (fun K1 hK1 => ?_)
  refine WP.region ?_
  refine WL.runk 1 [0] [(0, .slice a0' list_0.length c0')] (by kernel_rfl) ?_
  refine WL.nil ?_
  refine WQ.then_normal (hK1 _ _ _ ?_)
  refine WP.seq (fun K2 hK2 => ?_)
  refine WP.seq (fun K3 hK3 => ?_)
  refine WP.region ?_
  refine WL.runk 1 [0, 3] [(0, .slice a0' list_0.length c0'), (3, .int .i64 0)] (by kernel_rfl) ?_
  refine WL.nil ?_
  refine WQ.then_normal (hK3 _ _ _ ?_)
  refine WP.block ?_
  obtain ⟨t15, ht16, hm⟩ := bindE hm
  have hmo10 := hm; clear hm
  refine WP.sub [(0, .slice a0' list_0.length c0'), (3, .int .i64 0)] ⟨rfl, rfl, trivial⟩ ?_
  refine WP.loop (fun n' env' w' => ∃ (st4 : Int) , env' = [(0, .slice a0' list_0.length c0'), (3, .int .i64 st4)] ∧ Ext w w' ∧ w.heap.size ≤ w'.heap.size ∧ SH w' w.heap.size [] ∧ loopN (m_spec_l23Ok_l1 n list_0) n' st4 = some t15) n ⟨0, rfl, (Ext.refl w), (Nat.le_refl _), (SH.nil _ _), ht16⟩ ?_
  rintro n12 _ w5 ⟨st4, rfl, hb6, hL7, hS8, hl9⟩ K11 hK11
  obtain ⟨n13, s14, rfl, hm, hl9⟩ := loopN_some hl9
  unfold m_spec_l23Ok_l1 at hm
  refine WP.seq (fun K17 hK17 => ?_)
  refine WP.seq (fun K18 hK18 => ?_)
  refine WP.region ?_
  refine WL.runk 4 [0, 3, 7] [(0, .slice a0' list_0.length c0'), (3, .int .i64 st4), (7, .bool (decide (st4 < (list_0.length : Int))))] (by kernel_rfl) ?_
  refine WL.nil ?_
  refine WQ.then_normal (hK18 _ _ _ ?_)
  refine WP.cond (decide (st4 < (list_0.length : Int))) rfl rfl (fun hc19 => ?_) (fun hc19 => ?_)
  rotate_left
  · have hm := iteF hm hc19
    refine WP.exit ?_
    refine WQ.then_exit ?_
    refine WQ.then_exit ?_
    refine WQ.block_here ?_
    obtain rfl := Option.some.inj hm
    obtain rfl := afterN_done hl9
    have hm := hmo10
    refine WQ.then_normal (hK2 _ _ _ ?_)
    refine WP.seq (fun K84 hK84 => ?_)
    refine WP.region ?_
    refine WL.runk 4 [2] [(2, .bool (decide ((list_0.length : Int) ≤ 40)))] (by kernel_rfl) ?_
    refine WL.nil ?_
    refine WQ.then_normal (hK84 _ _ _ ?_)
    refine WP.ret ?_
    obtain rfl := Option.some.inj hm
    exact WQ.ret1 _ rfl rfl ⟨rfl, hb6⟩
  have hm := iteT hm hc19
  refine WP.skip ?_
  refine WQ.then_normal (hK17 _ _ _ ?_)
  refine WP.seq (fun K20 hK20 => ?_)
  refine WP.block ?_
  refine WP.seq (fun K21 hK21 => ?_)
  obtain ⟨x49, hx50, hm⟩ := bindE hm
  refine WP.cut (fun env' w' => env' = [(0, .slice a0' list_0.length c0'), (3, .int .i64 st4), (32, .bool x49)] ∧ Ext w w' ∧ w.heap.size ≤ w'.heap.size ∧ SH w' w.heap.size []) ?_ ?_
  rotate_left
  · clear hx50
    rintro _ w78 ⟨rfl, hb79, hL80, hS81⟩
    refine WQ.then_normal (hK21 _ _ _ ?_)
    refine WP.cond x49 rfl rfl (fun hc82 => ?_) (fun hc82 => ?_)
    rotate_left
    · have hm := iteF hm hc82
      refine WP.skip ?_
      refine WQ.block_normal ?_
      refine WQ.then_normal (hK20 _ _ _ ?_)
      refine WP.region ?_
      refine WL.runk 3 [0, 3] [(0, .slice a0' list_0.length c0'), (3, .int .i64 (wI64 (st4 + 1)))] (by kernel_rfl) ?_
      refine WL.nil ?_
      obtain rfl := Option.some.inj hm
      exact WQ.round hK11 ⟨(wI64 (st4 + 1)), rfl, hb79, hL80, hS81, hl9⟩ (Nat.lt_succ_self _) ⟨rfl, rfl, trivial⟩
    have hm := iteT hm hc82
    refine WP.seq (fun K83 hK83 => ?_)
    refine WP.region ?_
    refine WL.runk 1 [2] [(2, .bool false)] (by kernel_rfl) ?_
    refine WL.nil ?_
    refine WQ.then_normal (hK83 _ _ _ ?_)
    refine WP.ret ?_
    refine WQ.block_ret ?_
    refine WQ.then_ret ?_
    refine WQ.then_ret ?_
    refine WQ.block_ret ?_
    refine WQ.then_ret ?_
    obtain rfl := Option.some.inj hm
    obtain rfl := afterN_done hl9
    have hm := hmo10
    obtain rfl := Option.some.inj hm
    exact WQ.ret1 _ rfl rfl ⟨rfl, hb79⟩
  have hm := hx50; clear hx50
  refine WP.quiet (by kernel_rfl) (by kernel_rfl) ?_
  refine QL.step1v 10 (.slice a0' list_0.length c0') rfl (fun _ => by kernel_rfl) ?_
  refine QL.step1v 11 (.int .i64 st4) rfl (fun _ => by kernel_rfl) ?_
  refine QL.subk [0, 3, 10, 11] [(0, .slice a0' list_0.length c0'), (3, .int .i64 st4), (10, .slice a0' list_0.length c0'), (11, .int .i64 st4)] (by kernel_rfl) ?_
  obtain ⟨x51, hx52, hm⟩ := bindE hm
  refine QL.st (.pointer (some (at_ a0' (Int.toNat st4 * 4)))) (ST.index (T := fGood.ty) (xs := list_0) (Rd.below h0 hb6) hx52 rfl rfl rfl Try.underlying25 (info56).1 (info56).2.1) rfl rfl rfl ?_
  obtain ⟨x53, hx54, hm⟩ := bindE hm
  refine QL.call 69 #[.pointer (some (at_ a0' (Int.toNat st4 * 4)))] (.bool x53) (fun _ => by kernel_rfl) (fun w55 hE56 => c_69 n x51 ((ba a0').block) ((ba a0').off + Int.toNat st4 * 4) w55 hx54 (RdB.below (RdB.ofRd (F := fGood) (Rd.below h0 hb6) hx52) hE56)) rfl rfl rfl ?_
  refine QL.step1v 14 (.bool (!x53)) rfl (fun _ => by kernel_rfl) ?_
  refine QL.step1v 15 (.bool (!x53)) rfl (fun _ => by kernel_rfl) ?_
  refine QL.subk [0, 3, 15] [(0, .slice a0' list_0.length c0'), (3, .int .i64 st4), (15, .bool (!x53))] (by kernel_rfl) ?_
  refine QL.case (!x53) [15] ⟨rfl, trivial⟩ (fun hc57 => ?_) (fun hc57 => ?_)
  · have hm := iteT hm hc57
    refine QL.step1v 16 undef rfl (fun _ => by kernel_rfl) ?_
    refine QL.step1v 17 undef rfl (fun _ => by kernel_rfl) ?_
    refine QL.step1v 18 undef rfl (fun _ => by kernel_rfl) ?_
    refine QL.step1v 19 undef rfl (fun _ => by kernel_rfl) ?_
    refine QL.step1v 20 undef rfl (fun _ => by kernel_rfl) ?_
    refine QL.step1v 21 undef rfl (fun _ => by kernel_rfl) ?_
    refine QL.step1v 22 undef rfl (fun _ => by kernel_rfl) ?_
    refine QL.step1v 23 undef rfl (fun _ => by kernel_rfl) ?_
    refine QL.step1v 24 undef rfl (fun _ => by kernel_rfl) ?_
    refine QL.step1v 25 undef rfl (fun _ => by kernel_rfl) ?_
    refine QL.step1v 26 undef rfl (fun _ => by kernel_rfl) ?_
    refine QL.step1v 27 undef rfl (fun _ => by kernel_rfl) ?_
    refine QL.step1v 28 undef rfl (fun _ => by kernel_rfl) ?_
    refine QL.step1v 29 undef rfl (fun _ => by kernel_rfl) ?_
    refine QL.step1v 30 undef rfl (fun _ => by kernel_rfl) ?_
    refine QL.step1v 31 undef rfl (fun _ => by kernel_rfl) ?_
    refine QL.step1v 32 (.bool true) rfl (fun _ => by kernel_rfl) ?_
    refine QL.subk [0, 3, 32] [(0, .slice a0' list_0.length c0'), (3, .int .i64 st4), (32, .bool true)] (by kernel_rfl) ?_
    refine QL.nil ?_
    intro w58 hE59
    have hb60 : Ext w w58 := Ext.trans hb6 hE59
    have hL61 : w.heap.size ≤ w58.heap.size := Nat.le_trans hL7 hE59.size
    have hS62 : SH w58 w.heap.size [] := SH.ext hS8 hE59
    obtain rfl := Option.some.inj hm
    exact WQ.post' ⟨rfl, hb60, hL61, hS62⟩ ⟨rfl, rfl, rfl, trivial⟩
  have hm := iteF hm hc57
  refine QL.step1v 16 (.int .i64 st4) rfl (fun _ => by kernel_rfl) ?_
  refine QL.step1v 17 (.bool (decide (st4 > 0))) rfl (fun _ => by kernel_rfl) ?_
  refine QL.step1v 18 (.bool (decide (st4 > 0))) rfl (fun _ => by kernel_rfl) ?_
  refine QL.subk [0, 3, 15, 18] [(0, .slice a0' list_0.length c0'), (3, .int .i64 st4), (15, .bool false), (18, .bool (decide (st4 > 0)))] (by kernel_rfl) ?_
  refine QL.case (decide (st4 > 0)) [18] ⟨rfl, trivial⟩ (fun hc63 => ?_) (fun hc63 => ?_)
  rotate_left
  · have hm := iteF hm hc63
    refine QL.step1v 19 undef rfl (fun _ => by kernel_rfl) ?_
    refine QL.step1v 20 undef rfl (fun _ => by kernel_rfl) ?_
    refine QL.step1v 21 undef rfl (fun _ => by kernel_rfl) ?_
    refine QL.step1v 22 undef rfl (fun _ => by kernel_rfl) ?_
    refine QL.step1v 23 undef rfl (fun _ => by kernel_rfl) ?_
    refine QL.step1v 24 undef rfl (fun _ => by kernel_rfl) ?_
    refine QL.step1v 25 undef rfl (fun _ => by kernel_rfl) ?_
    refine QL.step1v 26 undef rfl (fun _ => by kernel_rfl) ?_
    refine QL.step1v 27 undef rfl (fun _ => by kernel_rfl) ?_
    refine QL.step1v 28 undef rfl (fun _ => by kernel_rfl) ?_
    refine QL.step1v 29 undef rfl (fun _ => by kernel_rfl) ?_
    refine QL.step1v 30 undef rfl (fun _ => by kernel_rfl) ?_
    refine QL.step1v 31 (.bool false) rfl (fun _ => by kernel_rfl) ?_
    refine QL.step1v 32 (.bool false) rfl (fun _ => by kernel_rfl) ?_
    refine QL.subk [0, 3, 32] [(0, .slice a0' list_0.length c0'), (3, .int .i64 st4), (32, .bool false)] (by kernel_rfl) ?_
    refine QL.nil ?_
    intro w73 hE74
    have hb75 : Ext w w73 := Ext.trans hb6 hE74
    have hL76 : w.heap.size ≤ w73.heap.size := Nat.le_trans hL7 hE74.size
    have hS77 : SH w73 w.heap.size [] := SH.ext hS8 hE74
    obtain rfl := Option.some.inj hm
    exact WQ.post' ⟨rfl, hb75, hL76, hS77⟩ ⟨rfl, rfl, rfl, trivial⟩
  have hm := iteT hm hc63
  refine QL.step1v 19 (.slice a0' list_0.length c0') rfl (fun _ => by kernel_rfl) ?_
  refine QL.step1v 20 (.int .i64 st4) rfl (fun _ => by kernel_rfl) ?_
  refine QL.step1v 21 (.int .i64 (wI64 (st4 - 1))) rfl (fun _ => by kernel_rfl) ?_
  refine QL.subk [0, 3, 15, 18, 19, 21] [(0, .slice a0' list_0.length c0'), (3, .int .i64 st4), (15, .bool false), (18, .bool true), (19, .slice a0' list_0.length c0'), (21, .int .i64 (wI64 (st4 - 1)))] (by kernel_rfl) ?_
  obtain ⟨x64, hx65, hm⟩ := bindE hm
  refine QL.st (.pointer (some (at_ a0' (Int.toNat (wI64 (st4 - 1)) * 4)))) (ST.index (T := fGood.ty) (xs := list_0) (Rd.below h0 hb6) hx65 rfl rfl rfl Try.underlying25 (info56).1 (info56).2.1) rfl rfl rfl ?_
  refine QL.step1v 23 (.pointer (some (at_ a0' (Int.toNat (wI64 (st4 - 1)) * 4)))) rfl (fun _ => by kernel_rfl) ?_
  refine QL.subk [0, 3, 15, 18, 23] [(0, .slice a0' list_0.length c0'), (3, .int .i64 st4), (15, .bool false), (18, .bool true), (23, .pointer (some (at_ a0' (Int.toNat (wI64 (st4 - 1)) * 4))))] (by kernel_rfl) ?_
  refine QL.st (.string (bs x64.Name)) (ST.load (cell_ext (Rd.flat (F := fGood) (Rd.below h0 hb6) hx65 0 rfl)) rfl rfl Try.underlying9 rfl) rfl rfl rfl ?_
  refine QL.step1v 25 (.slice a0' list_0.length c0') rfl (fun _ => by kernel_rfl) ?_
  refine QL.step1v 26 (.int .i64 st4) rfl (fun _ => by kernel_rfl) ?_
  refine QL.subk [0, 3, 15, 18, 24, 25, 26] [(0, .slice a0' list_0.length c0'), (3, .int .i64 st4), (15, .bool false), (18, .bool true), (24, .string (bs x64.Name)), (25, .slice a0' list_0.length c0'), (26, .int .i64 st4)] (by kernel_rfl) ?_
  obtain ⟨x66, hx67, hm⟩ := bindE hm
  refine QL.st (.pointer (some (at_ a0' (Int.toNat st4 * 4)))) (ST.index (T := fGood.ty) (xs := list_0) (Rd.below h0 hb6) hx67 rfl rfl rfl Try.underlying25 (info56).1 (info56).2.1) rfl rfl rfl ?_
  refine QL.step1v 28 (.pointer (some (at_ a0' (Int.toNat st4 * 4)))) rfl (fun _ => by kernel_rfl) ?_
  refine QL.subk [0, 3, 15, 18, 24, 28] [(0, .slice a0' list_0.length c0'), (3, .int .i64 st4), (15, .bool false), (18, .bool true), (24, .string (bs x64.Name)), (28, .pointer (some (at_ a0' (Int.toNat st4 * 4))))] (by kernel_rfl) ?_
  refine QL.st (.string (bs x66.Name)) (ST.load (cell_ext (Rd.flat (F := fGood) (Rd.below h0 hb6) hx67 0 rfl)) rfl rfl Try.underlying9 rfl) rfl rfl rfl ?_
  refine QL.st (.bool (!strLt x64.Name x66.Name)) (ST.strge (x := x64.Name) (y := x66.Name) rfl rfl rfl) rfl rfl rfl ?_
  refine QL.step1v 31 (.bool (!strLt x64.Name x66.Name)) rfl (fun _ => by kernel_rfl) ?_
  refine QL.step1v 32 (.bool (!strLt x64.Name x66.Name)) rfl (fun _ => by kernel_rfl) ?_
  refine QL.subk [0, 3, 32] [(0, .slice a0' list_0.length c0'), (3, .int .i64 st4), (32, .bool (!strLt x64.Name x66.Name))] (by kernel_rfl) ?_
  refine QL.nil ?_
  intro w68 hE69
  have hb70 : Ext w w68 := Ext.trans hb6 hE69
  have hL71 : w.heap.size ≤ w68.heap.size := Nat.le_trans hL7 hE69.size
  have hS72 : SH w68 w.heap.size [] := SH.ext hS8 hE69
  obtain rfl := Option.some.inj hm
  exact WQ.post' ⟨rfl, hb70, hL71, hS72⟩ ⟨rfl, rfl, rfl, trivial⟩

theorem c_67 (n : Nat) (n_0 : Int) (low_1 : Int) (high_2 : Int) (w : World) {r : Bool} (hm : m_impl_within n n_0 low_1 high_2 = some r)  :
    CallV Try.prog 67 #[.int .i64 n_0, .int .i64 low_1, .int .i64 high_2] w (fun v w' => v = .bool r ∧ Ext w w') := by
  unfold m_impl_within at hm
  refine CallV.enter Try.func67 rfl (by kernel_rfl) Try.ntmps67 (env := [(0, .int .i64 n_0), (1, .int .i64 low_1), (2, .int .i64 high_2)]) ⟨rfl, rfl, rfl, trivial⟩ ?_
  refine WP.seq (fun K1 hK1 => ?_)
  refine WP.region ?_
  refine WL.runk 1 [0, 1, 2] [(0, .int .i64 n_0), (1, .int .i64 low_1), (2, .int .i64 high_2)] (by kernel_rfl) ?_
  refine WL.nil ?_
  refine WQ.then_normal (hK1 _ _ _ ?_)
  refine WP.seq (fun K2 hK2 => ?_)
  obtain ⟨x4, hx5, hm⟩ := bindE hm
  refine WP.cut (fun env' w' => env' = [(6, .bool x4)] ∧ Ext w w' ∧ w.heap.size ≤ w'.heap.size ∧ SH w' w.heap.size []) ?_ ?_
  rotate_left
  · clear hx5
    rintro _ w7 ⟨rfl, hb8, hL9, hS10⟩
    refine WQ.then_normal (hK2 _ _ _ ?_)
    refine WP.ret ?_
    obtain rfl := Option.some.inj hm
    exact WQ.ret1 _ rfl rfl ⟨rfl, hb8⟩
  have hm := hx5; clear hx5
  refine WP.region ?_
  refine WL.runk 4 [0, 2, 10] [(0, .int .i64 n_0), (2, .int .i64 high_2), (10, .bool (decide (n_0 ≥ low_1)))] (by kernel_rfl) ?_
  refine WL.case (decide (n_0 ≥ low_1)) [10] ⟨rfl, trivial⟩ (fun hc6 => ?_) (fun hc6 => ?_)
  · have hm := iteT hm hc6
    refine WL.runk 5 [6] [(6, .bool (decide (n_0 ≤ high_2)))] (by kernel_rfl) ?_
    refine WL.nil ?_
    obtain rfl := Option.some.inj hm
    exact WQ.post' ⟨rfl, (Ext.refl w), (Nat.le_refl _), (SH.nil _ _)⟩ ⟨rfl, trivial⟩
  have hm := iteF hm hc6
  refine WL.runk 5 [6] [(6, .bool false)] (by kernel_rfl) ?_
  refine WL.nil ?_
  obtain rfl := Option.some.inj hm
  exact WQ.post' ⟨rfl, (Ext.refl w), (Nat.le_refl _), (SH.nil _ _)⟩ ⟨rfl, trivial⟩

theorem c_79 (n : Nat) (s_0 : List UInt8) (w : World) {r : Bool} (hm : m_impl_IsName n s_0 = some r)  :
    CallV Try.prog 79 #[.string (bs s_0)] w (fun v w' => v = .bool r ∧ Ext w w') := by
  unfold m_impl_IsName at hm
  refine CallV.enter Try.func79 rfl (by kernel_rfl) Try.ntmps79 (env := [(0, .string (bs s_0))]) ⟨rfl, trivial⟩ ?_
  refine WP.seq (fun K1 hK1 => ?_)
  refine WP.region ?_
  refine WL.runk 1 [0] [(0, .string (bs s_0))] (by kernel_rfl) ?_
  refine WL.nil ?_
  refine WQ.then_normal (hK1 _ _ _ ?_)
  refine WP.seq (fun K2 hK2 => ?_)
  refine WP.seq (fun K3 hK3 => ?_)
  obtain ⟨x11, hx12, hm⟩ := bindE hm
  refine WP.cut (fun env' w' => env' = [(0, .string (bs s_0)), (21, .bool x11)] ∧ Ext w w' ∧ w.heap.size ≤ w'.heap.size ∧ SH w' w.heap.size []) ?_ ?_
  · have hm := hx12; clear hx12
    refine WP.region ?_
    refine WL.runk 4 [0, 7] [(0, .string (bs s_0)), (7, .bool (decide ((s_0.length : Int) < 1)))] (by kernel_rfl) ?_
    refine WL.case (decide ((s_0.length : Int) < 1)) [7] ⟨rfl, trivial⟩ (fun hc13 => ?_) (fun hc13 => ?_)
    · have hm := iteT hm hc13
      refine WL.runk 14 [0, 21] [(0, .string (bs s_0)), (21, .bool true)] (by kernel_rfl) ?_
      refine WL.nil ?_
      obtain rfl := Option.some.inj hm
      exact WQ.post' ⟨rfl, (Ext.refl w), (Nat.le_refl _), (SH.nil _ _)⟩ ⟨rfl, rfl, trivial⟩
    have hm := iteF hm hc13
    refine WL.runk 5 [0, 12] [(0, .string (bs s_0)), (12, .bool (decide ((s_0.length : Int) > 12)))] (by kernel_rfl) ?_
    refine WL.case (decide ((s_0.length : Int) > 12)) [12] ⟨rfl, trivial⟩ (fun hc14 => ?_) (fun hc14 => ?_)
    · have hm := iteT hm hc14
      refine WL.runk 9 [0, 21] [(0, .string (bs s_0)), (21, .bool true)] (by kernel_rfl) ?_
      refine WL.nil ?_
      obtain rfl := Option.some.inj hm
      exact WQ.post' ⟨rfl, (Ext.refl w), (Nat.le_refl _), (SH.nil _ _)⟩ ⟨rfl, rfl, trivial⟩
    have hm := iteF hm hc14
    refine WL.runk 1 [0, 12, 13] [(0, .string (bs s_0)), (12, .bool false), (13, .string (bs s_0))] (by kernel_rfl) ?_
    obtain ⟨x15, hx16, hm⟩ := bindE hm
    refine WL.st (.int .u8 (x15.toNat : Int)) (ST.sindex hx16 rfl rfl rfl Try.underlying9) rfl rfl rfl ?_
    refine WL.runk 3 [0, 17] [(0, .string (bs s_0)), (17, .bool (decide ((x15.toNat : Int) < 97)))] (by kernel_rfl) ?_
    refine WL.case (decide ((x15.toNat : Int) < 97)) [17] ⟨rfl, trivial⟩ (fun hc17 => ?_) (fun hc17 => ?_)
    · have hm := iteT hm hc17
      refine WL.runk 4 [0, 21] [(0, .string (bs s_0)), (21, .bool true)] (by kernel_rfl) ?_
      refine WL.nil ?_
      obtain rfl := Option.some.inj hm
      exact WQ.post' ⟨rfl, (Ext.refl w), (Nat.le_refl _), (SH.nil _ _)⟩ ⟨rfl, rfl, trivial⟩
    have hm := iteF hm hc17
    refine WL.runk 1 [0, 17, 18] [(0, .string (bs s_0)), (17, .bool false), (18, .string (bs s_0))] (by kernel_rfl) ?_
    obtain ⟨x18, hx19, hm⟩ := bindE hm
    refine WL.st (.int .u8 (x18.toNat : Int)) (ST.sindex hx19 rfl rfl rfl Try.underlying9) rfl rfl rfl ?_
    refine WL.runk 2 [0, 21] [(0, .string (bs s_0)), (21, .bool (decide ((x18.toNat : Int) > 122)))] (by kernel_rfl) ?_
    refine WL.nil ?_
    obtain rfl := Option.some.inj hm
    exact WQ.post' ⟨rfl, (Ext.refl w), (Nat.le_refl _), (SH.nil _ _)⟩ ⟨rfl, rfl, trivial⟩
  clear hx12
  rintro _ w20 ⟨rfl, hb21, hL22, hS23⟩
  refine WQ.then_normal (hK3 _ _ _ ?_)
  refine WP.cond x11 rfl rfl (fun hc24 => ?_) (fun hc24 => ?_)
  · have hm := iteT hm hc24
    refine WP.seq (fun K25 hK25 => ?_)
    refine WP.region ?_
    refine WL.runk 1 [2] [(2, .bool false)] (by kernel_rfl) ?_
    refine WL.nil ?_
    refine WQ.then_normal (hK25 _ _ _ ?_)
    refine WP.ret ?_
    refine WQ.then_ret ?_
    obtain rfl := Option.some.inj hm
    exact WQ.ret1 _ rfl rfl ⟨rfl, hb21⟩
  have hm := iteF hm hc24
  refine WP.skip ?_
  refine WQ.then_normal (hK2 _ _ _ ?_)
  refine WP.seq (fun K26 hK26 => ?_)
  refine WP.seq (fun K27 hK27 => ?_)
  refine WP.region ?_
  refine WL.runk 1 [0, 3] [(0, .string (bs s_0)), (3, .int .i64 1)] (by kernel_rfl) ?_
  refine WL.nil ?_
  refine WQ.then_normal (hK27 _ _ _ ?_)
  refine WP.block ?_
  obtain ⟨t39, ht40, hm⟩ := bindE hm
  have hmo34 := hm; clear hm
  refine WP.sub [(0, .string (bs s_0)), (3, .int .i64 1)] ⟨rfl, rfl, trivial⟩ ?_
  refine WP.loop (fun n' env' w' => ∃ (st28 : Int) , env' = [(0, .string (bs s_0)), (3, .int .i64 st28)] ∧ Ext w w' ∧ w.heap.size ≤ w'.heap.size ∧ SH w' w.heap.size [] ∧ loopN (m_impl_IsName_l1 n s_0) n' st28 = some t39) n ⟨1, rfl, hb21, hL22, hS23, ht40⟩ ?_
  rintro n36 _ w29 ⟨st28, rfl, hb30, hL31, hS32, hl33⟩ K35 hK35
  obtain ⟨n37, s38, rfl, hm, hl33⟩ := loopN_some hl33
  unfold m_impl_IsName_l1 at hm
  refine WP.seq (fun K41 hK41 => ?_)
  refine WP.seq (fun K42 hK42 => ?_)
  refine WP.region ?_
  refine WL.runk 4 [0, 3, 25] [(0, .string (bs s_0)), (3, .int .i64 st28), (25, .bool (decide (st28 < (s_0.length : Int))))] (by kernel_rfl) ?_
  refine WL.nil ?_
  refine WQ.then_normal (hK42 _ _ _ ?_)
  refine WP.cond (decide (st28 < (s_0.length : Int))) rfl rfl (fun hc43 => ?_) (fun hc43 => ?_)
  rotate_left
  · have hm := iteF hm hc43
    refine WP.exit ?_
    refine WQ.then_exit ?_
    refine WQ.then_exit ?_
    refine WQ.block_here ?_
    obtain rfl := Option.some.inj hm
    obtain rfl := afterN_done hl33
    have hm := hmo34
    refine WQ.then_normal (hK26 _ _ _ ?_)
    refine WP.seq (fun K106 hK106 => ?_)
    refine WP.region ?_
    refine WL.runk 1 [2] [(2, .bool true)] (by kernel_rfl) ?_
    refine WL.nil ?_
    refine WQ.then_normal (hK106 _ _ _ ?_)
    refine WP.ret ?_
    obtain rfl := Option.some.inj hm
    exact WQ.ret1 _ rfl rfl ⟨rfl, hb30⟩
  have hm := iteT hm hc43
  refine WP.skip ?_
  refine WQ.then_normal (hK41 _ _ _ ?_)
  refine WP.seq (fun K44 hK44 => ?_)
  refine WP.block ?_
  refine WP.seq (fun K45 hK45 => ?_)
  obtain ⟨x72, hx73, hm⟩ := bindE hm
  refine WP.cut (fun env' w' => env' = [(0, .string (bs s_0)), (3, .int .i64 st28), (55, .bool x72)] ∧ Ext w w' ∧ w.heap.size ≤ w'.heap.size ∧ SH w' w.heap.size []) ?_ ?_
  rotate_left
  · clear hx73
    rintro _ w100 ⟨rfl, hb101, hL102, hS103⟩
    refine WQ.then_normal (hK45 _ _ _ ?_)
    refine WP.cond x72 rfl rfl (fun hc104 => ?_) (fun hc104 => ?_)
    rotate_left
    · have hm := iteF hm hc104
      refine WP.skip ?_
      refine WQ.block_normal ?_
      refine WQ.then_normal (hK44 _ _ _ ?_)
      refine WP.region ?_
      refine WL.runk 3 [0, 3] [(0, .string (bs s_0)), (3, .int .i64 (wI64 (st28 + 1)))] (by kernel_rfl) ?_
      refine WL.nil ?_
      obtain rfl := Option.some.inj hm
      exact WQ.round hK35 ⟨(wI64 (st28 + 1)), rfl, hb101, hL102, hS103, hl33⟩ (Nat.lt_succ_self _) ⟨rfl, rfl, trivial⟩
    have hm := iteT hm hc104
    refine WP.seq (fun K105 hK105 => ?_)
    refine WP.region ?_
    refine WL.runk 1 [2] [(2, .bool false)] (by kernel_rfl) ?_
    refine WL.nil ?_
    refine WQ.then_normal (hK105 _ _ _ ?_)
    refine WP.ret ?_
    refine WQ.block_ret ?_
    refine WQ.then_ret ?_
    refine WQ.then_ret ?_
    refine WQ.block_ret ?_
    refine WQ.then_ret ?_
    obtain rfl := Option.some.inj hm
    obtain rfl := afterN_done hl33
    have hm := hmo34
    obtain rfl := Option.some.inj hm
    exact WQ.ret1 _ rfl rfl ⟨rfl, hb101⟩
  have hm := hx73; clear hx73
  refine WP.region ?_
  refine WL.runk 2 [0, 3, 28, 29] [(0, .string (bs s_0)), (3, .int .i64 st28), (28, .string (bs s_0)), (29, .int .i64 st28)] (by kernel_rfl) ?_
  obtain ⟨x74, hx75, hm⟩ := bindE hm
  refine WL.st (.int .u8 (x74.toNat : Int)) (ST.sindex hx75 rfl rfl rfl Try.underlying9) rfl rfl rfl ?_
  refine WL.runk 2 [0, 3, 32] [(0, .string (bs s_0)), (3, .int .i64 st28), (32, .bool (decide ((x74.toNat : Int) < 97)))] (by kernel_rfl) ?_
  refine WL.case (decide ((x74.toNat : Int) < 97)) [32] ⟨rfl, trivial⟩ (fun hc76 => ?_) (fun hc76 => ?_)
  · have hm := iteT hm hc76
    refine WL.runk 8 [0, 3, 38, 39, 40] [(0, .string (bs s_0)), (3, .int .i64 st28), (38, .bool true), (39, .string (bs s_0)), (40, .int .i64 st28)] (by kernel_rfl) ?_
    obtain ⟨x77, hx78, hm⟩ := bindE hm
    refine WL.st (.int .u8 (x77.toNat : Int)) (ST.sindex hx78 rfl rfl rfl Try.underlying9) rfl rfl rfl ?_
    refine WL.runk 2 [0, 3, 38, 43] [(0, .string (bs s_0)), (3, .int .i64 st28), (38, .bool true), (43, .bool (decide ((x77.toNat : Int) < 48)))] (by kernel_rfl) ?_
    refine WL.case (decide ((x77.toNat : Int) < 48)) [43] ⟨rfl, trivial⟩ (fun hc79 => ?_) (fun hc79 => ?_)
    · have hm := iteT hm hc79
      refine WL.runk 9 [0, 3, 50, 51, 52] [(0, .string (bs s_0)), (3, .int .i64 st28), (50, .bool true), (51, .string (bs s_0)), (52, .int .i64 st28)] (by kernel_rfl) ?_
      obtain ⟨x80, hx81, hm⟩ := bindE hm
      refine WL.st (.int .u8 (x80.toNat : Int)) (ST.sindex hx81 rfl rfl rfl Try.underlying9) rfl rfl rfl ?_
      refine WL.runk 2 [0, 3, 55] [(0, .string (bs s_0)), (3, .int .i64 st28), (55, .bool ((x80.toNat : Int) != 45))] (by kernel_rfl) ?_
      refine WL.nil ?_
      obtain rfl := Option.some.inj hm
      exact WQ.post' ⟨rfl, hb30, hL31, hS32⟩ ⟨rfl, rfl, rfl, trivial⟩
    have hm := iteF hm hc79
    refine WL.runk 2 [0, 3, 38, 43, 44, 45] [(0, .string (bs s_0)), (3, .int .i64 st28), (38, .bool true), (43, .bool false), (44, .string (bs s_0)), (45, .int .i64 st28)] (by kernel_rfl) ?_
    obtain ⟨x82, hx83, hm⟩ := bindE hm
    refine WL.st (.int .u8 (x82.toNat : Int)) (ST.sindex hx83 rfl rfl rfl Try.underlying9) rfl rfl rfl ?_
    refine WL.runk 4 [0, 3, 50] [(0, .string (bs s_0)), (3, .int .i64 st28), (50, .bool (decide ((x82.toNat : Int) > 57)))] (by kernel_rfl) ?_
    refine WL.case (decide ((x82.toNat : Int) > 57)) [50] ⟨rfl, trivial⟩ (fun hc84 => ?_) (fun hc84 => ?_)
    rotate_left
    · have hm := iteF hm hc84
      refine WL.runk 5 [0, 3, 55] [(0, .string (bs s_0)), (3, .int .i64 st28), (55, .bool false)] (by kernel_rfl) ?_
      refine WL.nil ?_
      obtain rfl := Option.some.inj hm
      exact WQ.post' ⟨rfl, hb30, hL31, hS32⟩ ⟨rfl, rfl, rfl, trivial⟩
    have hm := iteT hm hc84
    refine WL.runk 2 [0, 3, 50, 51, 52] [(0, .string (bs s_0)), (3, .int .i64 st28), (50, .bool true), (51, .string (bs s_0)), (52, .int .i64 st28)] (by kernel_rfl) ?_
    obtain ⟨x85, hx86, hm⟩ := bindE hm
    refine WL.st (.int .u8 (x85.toNat : Int)) (ST.sindex hx86 rfl rfl rfl Try.underlying9) rfl rfl rfl ?_
    refine WL.runk 2 [0, 3, 55] [(0, .string (bs s_0)), (3, .int .i64 st28), (55, .bool ((x85.toNat : Int) != 45))] (by kernel_rfl) ?_
    refine WL.nil ?_
    obtain rfl := Option.some.inj hm
    exact WQ.post' ⟨rfl, hb30, hL31, hS32⟩ ⟨rfl, rfl, rfl, trivial⟩
  have hm := iteF hm hc76
  refine WL.runk 2 [0, 3, 32, 33, 34] [(0, .string (bs s_0)), (3, .int .i64 st28), (32, .bool false), (33, .string (bs s_0)), (34, .int .i64 st28)] (by kernel_rfl) ?_
  obtain ⟨x87, hx88, hm⟩ := bindE hm
  refine WL.st (.int .u8 (x87.toNat : Int)) (ST.sindex hx88 rfl rfl rfl Try.underlying9) rfl rfl rfl ?_
  refine WL.runk 3 [0, 3, 38] [(0, .string (bs s_0)), (3, .int .i64 st28), (38, .bool (decide ((x87.toNat : Int) > 122)))] (by kernel_rfl) ?_
  refine WL.case (decide ((x87.toNat : Int) > 122)) [38] ⟨rfl, trivial⟩ (fun hc89 => ?_) (fun hc89 => ?_)
  rotate_left
  · have hm := iteF hm hc89
    refine WL.runk 17 [0, 3, 55] [(0, .string (bs s_0)), (3, .int .i64 st28), (55, .bool false)] (by kernel_rfl) ?_
    refine WL.nil ?_
    obtain rfl := Option.some.inj hm
    exact WQ.post' ⟨rfl, hb30, hL31, hS32⟩ ⟨rfl, rfl, rfl, trivial⟩
  have hm := iteT hm hc89
  refine WL.runk 2 [0, 3, 38, 39, 40] [(0, .string (bs s_0)), (3, .int .i64 st28), (38, .bool true), (39, .string (bs s_0)), (40, .int .i64 st28)] (by kernel_rfl) ?_
  obtain ⟨x90, hx91, hm⟩ := bindE hm
  refine WL.st (.int .u8 (x90.toNat : Int)) (ST.sindex hx91 rfl rfl rfl Try.underlying9) rfl rfl rfl ?_
  refine WL.runk 2 [0, 3, 38, 43] [(0, .string (bs s_0)), (3, .int .i64 st28), (38, .bool true), (43, .bool (decide ((x90.toNat : Int) < 48)))] (by kernel_rfl) ?_
  refine WL.case (decide ((x90.toNat : Int) < 48)) [43] ⟨rfl, trivial⟩ (fun hc92 => ?_) (fun hc92 => ?_)
  · have hm := iteT hm hc92
    refine WL.runk 9 [0, 3, 50, 51, 52] [(0, .string (bs s_0)), (3, .int .i64 st28), (50, .bool true), (51, .string (bs s_0)), (52, .int .i64 st28)] (by kernel_rfl) ?_
    obtain ⟨x93, hx94, hm⟩ := bindE hm
    refine WL.st (.int .u8 (x93.toNat : Int)) (ST.sindex hx94 rfl rfl rfl Try.underlying9) rfl rfl rfl ?_
    refine WL.runk 2 [0, 3, 55] [(0, .string (bs s_0)), (3, .int .i64 st28), (55, .bool ((x93.toNat : Int) != 45))] (by kernel_rfl) ?_
    refine WL.nil ?_
    obtain rfl := Option.some.inj hm
    exact WQ.post' ⟨rfl, hb30, hL31, hS32⟩ ⟨rfl, rfl, rfl, trivial⟩
  have hm := iteF hm hc92
  refine WL.runk 2 [0, 3, 38, 43, 44, 45] [(0, .string (bs s_0)), (3, .int .i64 st28), (38, .bool true), (43, .bool false), (44, .string (bs s_0)), (45, .int .i64 st28)] (by kernel_rfl) ?_
  obtain ⟨x95, hx96, hm⟩ := bindE hm
  refine WL.st (.int .u8 (x95.toNat : Int)) (ST.sindex hx96 rfl rfl rfl Try.underlying9) rfl rfl rfl ?_
  refine WL.runk 4 [0, 3, 50] [(0, .string (bs s_0)), (3, .int .i64 st28), (50, .bool (decide ((x95.toNat : Int) > 57)))] (by kernel_rfl) ?_
  refine WL.case (decide ((x95.toNat : Int) > 57)) [50] ⟨rfl, trivial⟩ (fun hc97 => ?_) (fun hc97 => ?_)
  rotate_left
  · have hm := iteF hm hc97
    refine WL.runk 5 [0, 3, 55] [(0, .string (bs s_0)), (3, .int .i64 st28), (55, .bool false)] (by kernel_rfl) ?_
    refine WL.nil ?_
    obtain rfl := Option.some.inj hm
    exact WQ.post' ⟨rfl, hb30, hL31, hS32⟩ ⟨rfl, rfl, rfl, trivial⟩
  have hm := iteT hm hc97
  refine WL.runk 2 [0, 3, 50, 51, 52] [(0, .string (bs s_0)), (3, .int .i64 st28), (50, .bool true), (51, .string (bs s_0)), (52, .int .i64 st28)] (by kernel_rfl) ?_
  obtain ⟨x98, hx99, hm⟩ := bindE hm
  refine WL.st (.int .u8 (x98.toNat : Int)) (ST.sindex hx99 rfl rfl rfl Try.underlying9) rfl rfl rfl ?_
  refine WL.runk 2 [0, 3, 55] [(0, .string (bs s_0)), (3, .int .i64 st28), (55, .bool ((x98.toNat : Int) != 45))] (by kernel_rfl) ?_
  refine WL.nil ?_
  obtain rfl := Option.some.inj hm
  exact WQ.post' ⟨rfl, hb30, hL31, hS32⟩ ⟨rfl, rfl, rfl, trivial⟩

theorem c_53 (n : Nat) (g_0 : SGood) (w : World) {r : Bool} (hm : m_impl_validGood n g_0 = some r)  :
    CallV Try.prog 53 #[.agg #[.string (bs g_0.Name), .int .i64 g_0.OnHand, .int .i64 g_0.Reserved, .int .i64 g_0.Least]] w (fun v w' => v = .bool r ∧ Ext w w') := by
  unfold m_impl_validGood at hm
  refine CallV.enter Try.func53 rfl (by kernel_rfl) Try.ntmps53 (env := [(0, .agg #[.string (bs g_0.Name), .int .i64 g_0.OnHand, .int .i64 g_0.Reserved, .int .i64 g_0.Least])]) ⟨rfl, trivial⟩ ?_
  refine WP.seq (fun K1 hK1 => ?_)
  refine WP.region ?_
  refine WL.box 56 [.string (bs g_0.Name), .int .i64 g_0.OnHand, .int .i64 g_0.Reserved, .int .i64 g_0.Least] 1 (by kernel_rfl) rfl rfl rfl rfl ?_
  intro b2 w3 hE4 hR5
  have hb7 : Ext w w3 := Ext.trans (Ext.refl w) hE4
  have hL8 : w.heap.size ≤ w3.heap.size := Nat.le_trans (Nat.le_refl _) hE4.size
  have hS9 : SH w3 w.heap.size [aBox 56 b2 [.string (bs g_0.Name), .int .i64 g_0.OnHand, .int .i64 g_0.Reserved, .int .i64 g_0.Least]] := SH.add (SH.nil _ _) hE4 (Nat.le_refl _) hR5
  refine WL.runk 1 [1] [(1, .pointer (some ⟨b2, 0, none⟩))] (by kernel_rfl) ?_
  refine WL.nil ?_
  refine WQ.then_normal (hK1 _ _ _ ?_)
  refine WP.seq (fun K10 hK10 => ?_)
  obtain ⟨x46, hx47, hm⟩ := bindE hm
  refine WP.cut (fun env' w' => env' = [(2, .bool x46)] ∧ Ext w w' ∧ w.heap.size ≤ w'.heap.size ∧ SH w' w.heap.size [aBox 56 b2 [.string (bs g_0.Name), .int .i64 g_0.OnHand, .int .i64 g_0.Reserved, .int .i64 g_0.Least]]) ?_ ?_
  rotate_left
  · clear hx47
    rintro _ w83 ⟨rfl, hb84, hL85, hS86⟩
    refine WQ.then_normal (hK10 _ _ _ ?_)
    refine WP.ret ?_
    obtain rfl := Option.some.inj hm
    exact WQ.ret1 _ rfl rfl ⟨rfl, hb84⟩
  have hm := hx47; clear hx47
  refine WP.region ?_
  refine WL.runk 1 [1, 3] [(1, .pointer (some ⟨b2, 0, none⟩)), (3, .pointer (some ⟨b2, 0, none⟩))] (by kernel_rfl) ?_
  refine WL.st (.string (bs g_0.Name)) (ST.load (cell_ext (SH.boxAt (SH.front 0 hS9) 0 _ rfl)) rfl rfl Try.underlying9 rfl) rfl rfl rfl ?_
  obtain ⟨x48, hx49, hm⟩ := bindE hm
  refine WL.call 79 #[.string (bs g_0.Name)] rfl rfl (by kernel_rfl) (c_79 n g_0.Name w3 hx49 ) ?_
  rintro _ w50 ⟨rfl, hE51⟩
  refine ⟨_, rfl, ?_⟩
  have hb53 : Ext w w50 := Ext.trans hb7 hE51
  have hL54 : w.heap.size ≤ w50.heap.size := Nat.le_trans hL8 hE51.size
  have hS55 : SH w50 w.heap.size [aBox 56 b2 [.string (bs g_0.Name), .int .i64 g_0.OnHand, .int .i64 g_0.Reserved, .int .i64 g_0.Least]] := SH.ext hS9 hE51
  refine WL.runk 1 [1, 6] [(1, .pointer (some ⟨b2, 0, none⟩)), (6, .bool x48)] (by kernel_rfl) ?_
  refine WL.case x48 [6] ⟨rfl, trivial⟩ (fun hc56 => ?_) (fun hc56 => ?_)
  rotate_left
  · have hm := iteF hm hc56
    refine WL.runk 17 [2] [(2, .bool false)] (by kernel_rfl) ?_
    refine WL.nil ?_
    obtain rfl := Option.some.inj hm
    exact WQ.post' ⟨rfl, hb53, hL54, hS55⟩ ⟨rfl, trivial⟩
  have hm := iteT hm hc56
  refine WL.runk 1 [1, 6, 7] [(1, .pointer (some ⟨b2, 0, none⟩)), (6, .bool true), (7, .pointer (some ⟨b2, 1, none⟩))] (by kernel_rfl) ?_
  refine WL.st (.int .i64 g_0.OnHand) (ST.load (cell_ext (SH.boxAt (SH.front 0 hS55) 1 _ rfl)) rfl rfl Try.underlying2 rfl) rfl rfl rfl ?_
  obtain ⟨x57, hx58, hm⟩ := bindE hm
  refine WL.call 67 #[.int .i64 g_0.OnHand, .int .i64 0, .int .i64 1000000] rfl rfl (by kernel_rfl) (c_67 n g_0.OnHand 0 1000000 w50 hx58 ) ?_
  rintro _ w59 ⟨rfl, hE60⟩
  refine ⟨_, rfl, ?_⟩
  have hb62 : Ext w w59 := Ext.trans hb53 hE60
  have hL63 : w.heap.size ≤ w59.heap.size := Nat.le_trans hL54 hE60.size
  have hS64 : SH w59 w.heap.size [aBox 56 b2 [.string (bs g_0.Name), .int .i64 g_0.OnHand, .int .i64 g_0.Reserved, .int .i64 g_0.Least]] := SH.ext hS55 hE60
  refine WL.runk 2 [1, 11] [(1, .pointer (some ⟨b2, 0, none⟩)), (11, .bool x57)] (by kernel_rfl) ?_
  refine WL.case x57 [11] ⟨rfl, trivial⟩ (fun hc65 => ?_) (fun hc65 => ?_)
  rotate_left
  · have hm := iteF hm hc65
    refine WL.runk 12 [2] [(2, .bool false)] (by kernel_rfl) ?_
    refine WL.nil ?_
    obtain rfl := Option.some.inj hm
    exact WQ.post' ⟨rfl, hb62, hL63, hS64⟩ ⟨rfl, trivial⟩
  have hm := iteT hm hc65
  refine WL.runk 1 [1, 11, 12] [(1, .pointer (some ⟨b2, 0, none⟩)), (11, .bool true), (12, .pointer (some ⟨b2, 2, none⟩))] (by kernel_rfl) ?_
  refine WL.st (.int .i64 g_0.Reserved) (ST.load (cell_ext (SH.boxAt (SH.front 0 hS64) 2 _ rfl)) rfl rfl Try.underlying2 rfl) rfl rfl rfl ?_
  refine WL.runk 1 [1, 11, 13, 14] [(1, .pointer (some ⟨b2, 0, none⟩)), (11, .bool true), (13, .int .i64 g_0.Reserved), (14, .pointer (some ⟨b2, 1, none⟩))] (by kernel_rfl) ?_
  refine WL.st (.int .i64 g_0.OnHand) (ST.load (cell_ext (SH.boxAt (SH.front 0 hS64) 1 _ rfl)) rfl rfl Try.underlying2 rfl) rfl rfl rfl ?_
  obtain ⟨x66, hx67, hm⟩ := bindE hm
  refine WL.call 67 #[.int .i64 g_0.Reserved, .int .i64 0, .int .i64 g_0.OnHand] rfl rfl (by kernel_rfl) (c_67 n g_0.Reserved 0 g_0.OnHand w59 hx67 ) ?_
  rintro _ w68 ⟨rfl, hE69⟩
  refine ⟨_, rfl, ?_⟩
  have hb71 : Ext w w68 := Ext.trans hb62 hE69
  have hL72 : w.heap.size ≤ w68.heap.size := Nat.le_trans hL63 hE69.size
  have hS73 : SH w68 w.heap.size [aBox 56 b2 [.string (bs g_0.Name), .int .i64 g_0.OnHand, .int .i64 g_0.Reserved, .int .i64 g_0.Least]] := SH.ext hS64 hE69
  refine WL.runk 2 [1, 18] [(1, .pointer (some ⟨b2, 0, none⟩)), (18, .bool x66)] (by kernel_rfl) ?_
  refine WL.case x66 [18] ⟨rfl, trivial⟩ (fun hc74 => ?_) (fun hc74 => ?_)
  rotate_left
  · have hm := iteF hm hc74
    refine WL.runk 5 [2] [(2, .bool false)] (by kernel_rfl) ?_
    refine WL.nil ?_
    obtain rfl := Option.some.inj hm
    exact WQ.post' ⟨rfl, hb71, hL72, hS73⟩ ⟨rfl, trivial⟩
  have hm := iteT hm hc74
  refine WL.runk 1 [18, 19] [(18, .bool true), (19, .pointer (some ⟨b2, 3, none⟩))] (by kernel_rfl) ?_
  refine WL.st (.int .i64 g_0.Least) (ST.load (cell_ext (SH.boxAt (SH.front 0 hS73) 3 _ rfl)) rfl rfl Try.underlying2 rfl) rfl rfl rfl ?_
  obtain ⟨x75, hx76, hm⟩ := bindE hm
  refine WL.call 67 #[.int .i64 g_0.Least, .int .i64 0, .int .i64 1000000] rfl rfl (by kernel_rfl) (c_67 n g_0.Least 0 1000000 w68 hx76 ) ?_
  rintro _ w77 ⟨rfl, hE78⟩
  refine ⟨_, rfl, ?_⟩
  have hb80 : Ext w w77 := Ext.trans hb71 hE78
  have hL81 : w.heap.size ≤ w77.heap.size := Nat.le_trans hL72 hE78.size
  have hS82 : SH w77 w.heap.size [aBox 56 b2 [.string (bs g_0.Name), .int .i64 g_0.OnHand, .int .i64 g_0.Reserved, .int .i64 g_0.Least]] := SH.ext hS73 hE78
  refine WL.runk 2 [2] [(2, .bool x75)] (by kernel_rfl) ?_
  refine WL.nil ?_
  obtain rfl := Option.some.inj hm
  exact WQ.post' ⟨rfl, hb80, hL81, hS82⟩ ⟨rfl, trivial⟩

theorem c_19 (n : Nat) (list_0 : List SGood) (a0' : Option Addr) (c0' : Nat) (w : World) {r : Bool} (hm : m_impl_ValidGoods n list_0 = some r) (h0 : Rd fGood.ty w a0' list_0) (_hle0 : list_0.length ≤ c0') :
    CallV Try.prog 19 #[.slice a0' list_0.length c0'] w (fun v w' => v = .bool r ∧ Ext w w') := by
  unfold m_impl_ValidGoods at hm
  refine CallV.enter Try.func19 rfl (by kernel_rfl) Try.ntmps19 (env := [(0, .slice a0' list_0.length c0')]) ⟨rfl, trivial⟩ ?_
  refine WP.seq (fun K1 hK1 => ?_)
  refine WP.region ?_
  refine WL.runk 1 [0] [(0, .slice a0' list_0.length c0')] (by kernel_rfl) ?_
  refine WL.nil ?_
  refine WQ.then_normal (hK1 _ _ _ ?_)
  refine WP.seq (fun K2 hK2 => ?_)
  refine WP.seq (fun K3 hK3 => ?_)
  refine WP.region ?_
  refine WL.runk 3 [0, 5, 6, 7] [(0, .slice a0' list_0.length c0'), (5, .slice a0' list_0.length c0'), (6, .int .i64 (list_0.length : Int)), (7, .int .i64 0)] (by kernel_rfl) ?_
  refine WL.nil ?_
  refine WQ.then_normal (hK3 _ _ _ ?_)
  refine WP.block ?_
  obtain ⟨t15, ht16, hm⟩ := bindE hm
  have hmo10 := hm; clear hm
  refine WP.sub [(0, .slice a0' list_0.length c0'), (5, .slice a0' list_0.length c0'), (6, .int .i64 (list_0.length : Int)), (7, .int .i64 0)] ⟨rfl, rfl, rfl, rfl, trivial⟩ ?_
  refine WP.loop (fun n' env' w' => ∃ (st4 : Int) , env' = [(0, .slice a0' list_0.length c0'), (5, .slice a0' list_0.length c0'), (6, .int .i64 (list_0.length : Int)), (7, .int .i64 st4)] ∧ Ext w w' ∧ w.heap.size ≤ w'.heap.size ∧ SH w' w.heap.size [] ∧ loopN (m_impl_ValidGoods_l1 n list_0) n' st4 = some t15) n ⟨0, rfl, (Ext.refl w), (Nat.le_refl _), (SH.nil _ _), ht16⟩ ?_
  rintro n12 _ w5 ⟨st4, rfl, hb6, hL7, hS8, hl9⟩ K11 hK11
  obtain ⟨n13, s14, rfl, hm, hl9⟩ := loopN_some hl9
  unfold m_impl_ValidGoods_l1 at hm
  refine WP.seq (fun K17 hK17 => ?_)
  refine WP.region ?_
  refine WL.runk 1 [0, 5, 6, 7, 8] [(0, .slice a0' list_0.length c0'), (5, .slice a0' list_0.length c0'), (6, .int .i64 (list_0.length : Int)), (7, .int .i64 st4), (8, .bool (decide (st4 < (list_0.length : Int))))] (by kernel_rfl) ?_
  refine WL.nil ?_
  refine WQ.then_normal (hK17 _ _ _ ?_)
  refine WP.seq (fun K18 hK18 => ?_)
  refine WP.cond (decide (st4 < (list_0.length : Int))) rfl rfl (fun hc19 => ?_) (fun hc19 => ?_)
  rotate_left
  · have hm := iteF hm hc19
    refine WP.exit ?_
    refine WQ.then_exit ?_
    refine WQ.then_exit ?_
    refine WQ.block_here ?_
    obtain rfl := Option.some.inj hm
    obtain rfl := afterN_done hl9
    have hm := hmo10
    refine WQ.then_normal (hK2 _ _ _ ?_)
    refine WP.seq (fun K92 hK92 => ?_)
    refine WP.region ?_
    refine WL.runk 4 [2] [(2, .bool (decide ((list_0.length : Int) ≤ 40)))] (by kernel_rfl) ?_
    refine WL.nil ?_
    refine WQ.then_normal (hK92 _ _ _ ?_)
    refine WP.ret ?_
    obtain rfl := Option.some.inj hm
    exact WQ.ret1 _ rfl rfl ⟨rfl, hb6⟩
  have hm := iteT hm hc19
  refine WP.skip ?_
  refine WQ.then_normal (hK18 _ _ _ ?_)
  refine WP.seq (fun K20 hK20 => ?_)
  refine WP.block ?_
  refine WP.seq (fun K21 hK21 => ?_)
  refine WP.region ?_
  refine WL.runk 1 [0, 5, 6, 7, 9] [(0, .slice a0' list_0.length c0'), (5, .slice a0' list_0.length c0'), (6, .int .i64 (list_0.length : Int)), (7, .int .i64 st4), (9, .int .i64 st4)] (by kernel_rfl) ?_
  obtain ⟨x22, hx23, hm⟩ := bindE hm
  refine WL.st (.pointer (some (at_ a0' (Int.toNat st4 * 4)))) (ST.index (T := fGood.ty) (xs := list_0) (Rd.below h0 hb6) hx23 rfl rfl rfl Try.underlying25 (info56).1 (info56).2.1) rfl rfl rfl ?_
  refine WL.st (.agg #[.string (bs x22.Name), .int .i64 x22.OnHand, .int .i64 x22.Reserved, .int .i64 x22.Least]) (ST.loadAgg (vs := fGood.leaf x22) (fun j v hv => Rd.flatA (F := fGood) (Rd.below h0 hb6) hx23 j hv) rfl rfl rfl Try.underlying56 rfl (info56).1 (info56).2.1) rfl rfl rfl ?_
  refine WL.box 56 [.string (bs []), .int .i64 0, .int .i64 0, .int .i64 0] 4 (by kernel_rfl) rfl rfl rfl rfl ?_
  intro b24 w25 hE26 hR27
  have hb29 : Ext w w25 := Ext.trans hb6 hE26
  have hL30 : w.heap.size ≤ w25.heap.size := Nat.le_trans hL7 hE26.size
  have hS31 : SH w25 w.heap.size [aBox 56 b24 [.string (bs []), .int .i64 0, .int .i64 0, .int .i64 0]] := SH.add hS8 hE26 hL7 hR27
  refine WL.runk 1 [0, 3, 4, 5, 6, 7, 11] [(0, .slice a0' list_0.length c0'), (5, .slice a0' list_0.length c0'), (6, .int .i64 (list_0.length : Int)), (7, .int .i64 st4), (11, .agg #[.string (bs x22.Name), .int .i64 x22.OnHand, .int .i64 x22.Reserved, .int .i64 x22.Least]), (4, .pointer (some ⟨b24, 0, none⟩)), (3, .int .i64 st4)] (by kernel_rfl) ?_
  refine WL.boxStore 0 [.string (bs x22.Name), .int .i64 x22.OnHand, .int .i64 x22.Reserved, .int .i64 x22.Least] [.string (bs x22.Name), .int .i64 x22.OnHand, .int .i64 x22.Reserved, .int .i64 x22.Least] (SH.front 0 hS31) hL30 rfl rfl rfl rfl rfl rfl rfl (info56).1 (info56).2.1 rfl rfl rfl ?_
  intro w32 hB33 hS34
  have hb35 : Ext w w32 := Below.trans hb29 hB33
  have hL36 : w.heap.size ≤ w32.heap.size := Nat.le_trans hL30 hB33.size
  refine WL.sub [(0, .slice a0' list_0.length c0'), (5, .slice a0' list_0.length c0'), (6, .int .i64 (list_0.length : Int)), (7, .int .i64 st4), (4, .pointer (some ⟨b24, 0, none⟩)), (3, .int .i64 st4)] ⟨rfl, rfl, rfl, rfl, rfl, rfl, trivial⟩ ?_
  refine WL.nil ?_
  refine WQ.then_normal (hK21 _ _ _ ?_)
  refine WP.seq (fun K37 hK37 => ?_)
  obtain ⟨x61, hx62, hm⟩ := bindE hm
  refine WP.cut (fun env' w' => env' = [(0, .slice a0' list_0.length c0'), (5, .slice a0' list_0.length c0'), (6, .int .i64 (list_0.length : Int)), (7, .int .i64 st4), (29, .bool x61)] ∧ Ext w w' ∧ w.heap.size ≤ w'.heap.size ∧ SH w' w.heap.size [aBox 56 b24 [.string (bs x22.Name), .int .i64 x22.OnHand, .int .i64 x22.Reserved, .int .i64 x22.Least]]) ?_ ?_
  rotate_left
  · clear hx62
    rintro _ w86 ⟨rfl, hb87, hL88, hS89⟩
    refine WQ.then_normal (hK37 _ _ _ ?_)
    refine WP.cond x61 rfl rfl (fun hc90 => ?_) (fun hc90 => ?_)
    rotate_left
    · have hm := iteF hm hc90
      refine WP.skip ?_
      refine WQ.block_normal ?_
      refine WQ.then_normal (hK20 _ _ _ ?_)
      refine WP.region ?_
      refine WL.runk 2 [0, 5, 6, 7] [(0, .slice a0' list_0.length c0'), (5, .slice a0' list_0.length c0'), (6, .int .i64 (list_0.length : Int)), (7, .int .i64 (wI64 (st4 + 1)))] (by kernel_rfl) ?_
      refine WL.nil ?_
      obtain rfl := Option.some.inj hm
      exact WQ.round hK11 ⟨(wI64 (st4 + 1)), rfl, hb87, hL88, (SH.take 0 hS89), hl9⟩ (Nat.lt_succ_self _) ⟨rfl, rfl, rfl, rfl, trivial⟩
    have hm := iteT hm hc90
    refine WP.seq (fun K91 hK91 => ?_)
    refine WP.region ?_
    refine WL.runk 1 [2] [(2, .bool false)] (by kernel_rfl) ?_
    refine WL.nil ?_
    refine WQ.then_normal (hK91 _ _ _ ?_)
    refine WP.ret ?_
    refine WQ.block_ret ?_
    refine WQ.then_ret ?_
    refine WQ.then_ret ?_
    refine WQ.block_ret ?_
    refine WQ.then_ret ?_
    obtain rfl := Option.some.inj hm
    obtain rfl := afterN_done hl9
    have hm := hmo10
    obtain rfl := Option.some.inj hm
    exact WQ.ret1 _ rfl rfl ⟨rfl, hb87⟩
  have hm := hx62; clear hx62
  refine WP.quiet (by kernel_rfl) (by kernel_rfl) ?_
  refine QL.st (.agg #[.string (bs x22.Name), .int .i64 x22.OnHand, .int .i64 x22.Reserved, .int .i64 x22.Least]) (ST.loadAgg (vs := [.string (bs x22.Name), .int .i64 x22.OnHand, .int .i64 x22.Reserved, .int .i64 x22.Least]) (fun j v hv => SH.boxPart (us := [.string (bs x22.Name), .int .i64 x22.OnHand, .int .i64 x22.Reserved, .int .i64 x22.Least]) (SH.front 0 hS34) 0 rfl j v hv) rfl rfl rfl Try.underlying56 rfl (info56).1 (info56).2.1) rfl rfl rfl ?_
  obtain ⟨x63, hx64, hm⟩ := bindE hm
  refine QL.call 53 #[.agg #[.string (bs x22.Name), .int .i64 x22.OnHand, .int .i64 x22.Reserved, .int .i64 x22.Least]] (.bool x63) (fun _ => by kernel_rfl) (fun w65 hE66 => c_53 n x22 w65 hx64 ) rfl rfl rfl ?_
  refine QL.step1v 14 (.bool (!x63)) rfl (fun _ => by kernel_rfl) ?_
  refine QL.step1v 15 (.bool (!x63)) rfl (fun _ => by kernel_rfl) ?_
  refine QL.subk [0, 5, 6, 7, 4, 3, 15] [(0, .slice a0' list_0.length c0'), (5, .slice a0' list_0.length c0'), (6, .int .i64 (list_0.length : Int)), (7, .int .i64 st4), (4, .pointer (some ⟨b24, 0, none⟩)), (3, .int .i64 st4), (15, .bool (!x63))] (by kernel_rfl) ?_
  refine QL.case (!x63) [15] ⟨rfl, trivial⟩ (fun hc67 => ?_) (fun hc67 => ?_)
  · have hm := iteT hm hc67
    refine QL.step1v 16 undef rfl (fun _ => by kernel_rfl) ?_
    refine QL.step1v 17 undef rfl (fun _ => by kernel_rfl) ?_
    refine QL.step1v 18 undef rfl (fun _ => by kernel_rfl) ?_
    refine QL.step1v 19 undef rfl (fun _ => by kernel_rfl) ?_
    refine QL.step1v 20 undef rfl (fun _ => by kernel_rfl) ?_
    refine QL.step1v 21 undef rfl (fun _ => by kernel_rfl) ?_
    refine QL.step1v 22 undef rfl (fun _ => by kernel_rfl) ?_
    refine QL.step1v 23 undef rfl (fun _ => by kernel_rfl) ?_
    refine QL.step1v 24 undef rfl (fun _ => by kernel_rfl) ?_
    refine QL.step1v 25 undef rfl (fun _ => by kernel_rfl) ?_
    refine QL.step1v 26 undef rfl (fun _ => by kernel_rfl) ?_
    refine QL.step1v 27 undef rfl (fun _ => by kernel_rfl) ?_
    refine QL.step1v 28 undef rfl (fun _ => by kernel_rfl) ?_
    refine QL.step1v 29 (.bool true) rfl (fun _ => by kernel_rfl) ?_
    refine QL.subk [0, 5, 6, 7, 29] [(0, .slice a0' list_0.length c0'), (5, .slice a0' list_0.length c0'), (6, .int .i64 (list_0.length : Int)), (7, .int .i64 st4), (29, .bool true)] (by kernel_rfl) ?_
    refine QL.nil ?_
    intro w68 hE69
    have hb70 : Ext w w68 := Ext.trans hb35 hE69
    have hL71 : w.heap.size ≤ w68.heap.size := Nat.le_trans hL36 hE69.size
    have hS72 : SH w68 w.heap.size [aBox 56 b24 [.string (bs x22.Name), .int .i64 x22.OnHand, .int .i64 x22.Reserved, .int .i64 x22.Least]] := SH.ext hS34 hE69
    obtain rfl := Option.some.inj hm
    exact WQ.post' ⟨rfl, hb70, hL71, hS72⟩ ⟨rfl, rfl, rfl, rfl, rfl, trivial⟩
  have hm := iteF hm hc67
  refine QL.step1v 16 (.int .i64 st4) rfl (fun _ => by kernel_rfl) ?_
  refine QL.step1v 17 (.bool (decide (st4 > 0))) rfl (fun _ => by kernel_rfl) ?_
  refine QL.step1v 18 (.bool (decide (st4 > 0))) rfl (fun _ => by kernel_rfl) ?_
  refine QL.subk [0, 5, 6, 7, 4, 3, 15, 18] [(0, .slice a0' list_0.length c0'), (5, .slice a0' list_0.length c0'), (6, .int .i64 (list_0.length : Int)), (7, .int .i64 st4), (4, .pointer (some ⟨b24, 0, none⟩)), (3, .int .i64 st4), (15, .bool false), (18, .bool (decide (st4 > 0)))] (by kernel_rfl) ?_
  refine QL.case (decide (st4 > 0)) [18] ⟨rfl, trivial⟩ (fun hc73 => ?_) (fun hc73 => ?_)
  rotate_left
  · have hm := iteF hm hc73
    refine QL.step1v 19 undef rfl (fun _ => by kernel_rfl) ?_
    refine QL.step1v 20 undef rfl (fun _ => by kernel_rfl) ?_
    refine QL.step1v 21 undef rfl (fun _ => by kernel_rfl) ?_
    refine QL.step1v 22 undef rfl (fun _ => by kernel_rfl) ?_
    refine QL.step1v 23 undef rfl (fun _ => by kernel_rfl) ?_
    refine QL.step1v 24 undef rfl (fun _ => by kernel_rfl) ?_
    refine QL.step1v 25 undef rfl (fun _ => by kernel_rfl) ?_
    refine QL.step1v 26 undef rfl (fun _ => by kernel_rfl) ?_
    refine QL.step1v 27 undef rfl (fun _ => by kernel_rfl) ?_
    refine QL.step1v 28 (.bool false) rfl (fun _ => by kernel_rfl) ?_
    refine QL.step1v 29 (.bool false) rfl (fun _ => by kernel_rfl) ?_
    refine QL.subk [0, 5, 6, 7, 29] [(0, .slice a0' list_0.length c0'), (5, .slice a0' list_0.length c0'), (6, .int .i64 (list_0.length : Int)), (7, .int .i64 st4), (29, .bool false)] (by kernel_rfl) ?_
    refine QL.nil ?_
    intro w81 hE82
    have hb83 : Ext w w81 := Ext.trans hb35 hE82
    have hL84 : w.heap.size ≤ w81.heap.size := Nat.le_trans hL36 hE82.size
    have hS85 : SH w81 w.heap.size [aBox 56 b24 [.string (bs x22.Name), .int .i64 x22.OnHand, .int .i64 x22.Reserved, .int .i64 x22.Least]] := SH.ext hS34 hE82
    obtain rfl := Option.some.inj hm
    exact WQ.post' ⟨rfl, hb83, hL84, hS85⟩ ⟨rfl, rfl, rfl, rfl, rfl, trivial⟩
  have hm := iteT hm hc73
  refine QL.step1v 19 (.slice a0' list_0.length c0') rfl (fun _ => by kernel_rfl) ?_
  refine QL.step1v 20 (.int .i64 st4) rfl (fun _ => by kernel_rfl) ?_
  refine QL.step1v 21 (.int .i64 (wI64 (st4 - 1))) rfl (fun _ => by kernel_rfl) ?_
  refine QL.subk [0, 5, 6, 7, 4, 15, 18, 19, 21] [(0, .slice a0' list_0.length c0'), (5, .slice a0' list_0.length c0'), (6, .int .i64 (list_0.length : Int)), (7, .int .i64 st4), (4, .pointer (some ⟨b24, 0, none⟩)), (15, .bool false), (18, .bool true), (19, .slice a0' list_0.length c0'), (21, .int .i64 (wI64 (st4 - 1)))] (by kernel_rfl) ?_
  obtain ⟨x74, hx75, hm⟩ := bindE hm
  refine QL.st (.pointer (some (at_ a0' (Int.toNat (wI64 (st4 - 1)) * 4)))) (ST.index (T := fGood.ty) (xs := list_0) (Rd.below h0 hb35) hx75 rfl rfl rfl Try.underlying25 (info56).1 (info56).2.1) rfl rfl rfl ?_
  refine QL.step1v 23 (.pointer (some (at_ a0' (Int.toNat (wI64 (st4 - 1)) * 4)))) rfl (fun _ => by kernel_rfl) ?_
  refine QL.subk [0, 5, 6, 7, 4, 15, 18, 23] [(0, .slice a0' list_0.length c0'), (5, .slice a0' list_0.length c0'), (6, .int .i64 (list_0.length : Int)), (7, .int .i64 st4), (4, .pointer (some ⟨b24, 0, none⟩)), (15, .bool false), (18, .bool true), (23, .pointer (some (at_ a0' (Int.toNat (wI64 (st4 - 1)) * 4))))] (by kernel_rfl) ?_
  refine QL.st (.string (bs x74.Name)) (ST.load (cell_ext (Rd.flat (F := fGood) (Rd.below h0 hb35) hx75 0 rfl)) rfl rfl Try.underlying9 rfl) rfl rfl rfl ?_
  refine QL.step1v 25 (.pointer (some ⟨b24, 0, none⟩)) rfl (fun _ => by kernel_rfl) ?_
  refine QL.subk [0, 5, 6, 7, 15, 18, 24, 25] [(0, .slice a0' list_0.length c0'), (5, .slice a0' list_0.length c0'), (6, .int .i64 (list_0.length : Int)), (7, .int .i64 st4), (15, .bool false), (18, .bool true), (24, .string (bs x74.Name)), (25, .pointer (some ⟨b24, 0, none⟩))] (by kernel_rfl) ?_
  refine QL.st (.string (bs x22.Name)) (ST.load (cell_ext (SH.boxAt (SH.front 0 hS34) 0 _ rfl)) rfl rfl Try.underlying9 rfl) rfl rfl rfl ?_
  refine QL.st (.bool (!strLt x74.Name x22.Name)) (ST.strge (x := x74.Name) (y := x22.Name) rfl rfl rfl) rfl rfl rfl ?_
  refine QL.step1v 28 (.bool (!strLt x74.Name x22.Name)) rfl (fun _ => by kernel_rfl) ?_
  refine QL.step1v 29 (.bool (!strLt x74.Name x22.Name)) rfl (fun _ => by kernel_rfl) ?_
  refine QL.subk [0, 5, 6, 7, 29] [(0, .slice a0' list_0.length c0'), (5, .slice a0' list_0.length c0'), (6, .int .i64 (list_0.length : Int)), (7, .int .i64 st4), (29, .bool (!strLt x74.Name x22.Name))] (by kernel_rfl) ?_
  refine QL.nil ?_
  intro w76 hE77
  have hb78 : Ext w w76 := Ext.trans hb35 hE77
  have hL79 : w.heap.size ≤ w76.heap.size := Nat.le_trans hL36 hE77.size
  have hS80 : SH w76 w.heap.size [aBox 56 b24 [.string (bs x22.Name), .int .i64 x22.OnHand, .int .i64 x22.Reserved, .int .i64 x22.Least]] := SH.ext hS34 hE77
  obtain rfl := Option.some.inj hm
  exact WQ.post' ⟨rfl, hb78, hL79, hS80⟩ ⟨rfl, rfl, rfl, rfl, rfl, trivial⟩

theorem c_55 (n : Nat) (k_0 : Int) (w : World) {r : List UInt8} (hm : m_laws_markText n k_0 = some r)  :
    CallV Try.prog 55 #[.int .i64 k_0] w (fun v w' => v = .string (bs r) ∧ Ext w w') := by
  unfold m_laws_markText at hm
  refine CallV.enter Try.func55 rfl (by kernel_rfl) Try.ntmps55 (env := [(0, .int .i64 k_0)]) ⟨rfl, trivial⟩ ?_
  refine WP.seq (fun K1 hK1 => ?_)
  refine WP.region ?_
  refine WL.runk 1 [0] [(0, .int .i64 k_0)] (by kernel_rfl) ?_
  refine WL.nil ?_
  refine WQ.then_normal (hK1 _ _ _ ?_)
  refine WP.seq (fun K2 hK2 => ?_)
  refine WP.seq (fun K3 hK3 => ?_)
  refine WP.region ?_
  refine WL.runk 2 [0, 5] [(0, .int .i64 k_0), (5, .bool (decide (k_0 ≤ 0)))] (by kernel_rfl) ?_
  refine WL.nil ?_
  refine WQ.then_normal (hK3 _ _ _ ?_)
  refine WP.cond (decide (k_0 ≤ 0)) rfl rfl (fun hc4 => ?_) (fun hc4 => ?_)
  · have hm := iteT hm hc4
    refine WP.seq (fun K5 hK5 => ?_)
    refine WP.region ?_
    refine WL.runk 1 [2] [(2, .string (bs [109, 48]))] (by kernel_rfl) ?_
    refine WL.nil ?_
    refine WQ.then_normal (hK5 _ _ _ ?_)
    refine WP.ret ?_
    refine WQ.then_ret ?_
    obtain rfl := Option.some.inj hm
    exact WQ.ret1 _ rfl rfl ⟨rfl, (Ext.refl w)⟩
  have hm := iteF hm hc4
  refine WP.skip ?_
  refine WQ.then_normal (hK2 _ _ _ ?_)
  refine WP.seq (fun K6 hK6 => ?_)
  refine WP.region ?_
  refine WL.runk 1 [0, 3] [(0, .int .i64 k_0), (3, .string (bs []))] (by kernel_rfl) ?_
  refine WL.nil ?_
  refine WQ.then_normal (hK6 _ _ _ ?_)
  refine WP.seq (fun K7 hK7 => ?_)
  refine WP.block ?_
  obtain ⟨t19, ht20, hm⟩ := bindE hm
  have hmo14 := hm; clear hm
  refine WP.sub [(0, .int .i64 k_0), (3, .string (bs []))] ⟨rfl, rfl, trivial⟩ ?_
  refine WP.loop (fun n' env' w' => ∃ (st8 : Int × List UInt8) , env' = [(0, .int .i64 st8.1), (3, .string (bs st8.2))] ∧ Ext w w' ∧ w.heap.size ≤ w'.heap.size ∧ SH w' w.heap.size [] ∧ loopN (m_laws_markText_l1 n) n' st8 = some t19) n ⟨(k_0, []), rfl, (Ext.refl w), (Nat.le_refl _), (SH.nil _ _), ht20⟩ ?_
  rintro n16 _ w9 ⟨st8, rfl, hb10, hL11, hS12, hl13⟩ K15 hK15
  obtain ⟨n17, s18, rfl, hm, hl13⟩ := loopN_some hl13
  unfold m_laws_markText_l1 at hm
  refine WP.seq (fun K21 hK21 => ?_)
  refine WP.seq (fun K22 hK22 => ?_)
  refine WP.region ?_
  refine WL.runk 2 [0, 3, 7] [(0, .int .i64 st8.1), (3, .string (bs st8.2)), (7, .bool (decide (st8.1 > 0)))] (by kernel_rfl) ?_
  refine WL.nil ?_
  refine WQ.then_normal (hK22 _ _ _ ?_)
  refine WP.cond (decide (st8.1 > 0)) rfl rfl (fun hc23 => ?_) (fun hc23 => ?_)
  rotate_left
  · have hm := iteF hm hc23
    refine WP.exit ?_
    refine WQ.then_exit ?_
    refine WQ.then_exit ?_
    refine WQ.block_here ?_
    obtain rfl := Option.some.inj hm
    obtain rfl := afterN_done hl13
    have hm := hmo14
    refine WQ.then_normal (hK7 _ _ _ ?_)
    refine WP.seq (fun K36 hK36 => ?_)
    refine WP.region ?_
    refine WL.runk 1 [18] [(18, .string (bs st8.2))] (by kernel_rfl) ?_
    obtain ⟨x37, hx38, hm⟩ := bindE hm
    refine WL.st (.string (bs x37)) (ST.cat hx38 rfl rfl rfl) rfl rfl rfl ?_
    refine WL.runk 1 [2] [(2, .string (bs x37))] (by kernel_rfl) ?_
    refine WL.nil ?_
    refine WQ.then_normal (hK36 _ _ _ ?_)
    refine WP.ret ?_
    obtain rfl := Option.some.inj hm
    exact WQ.ret1 _ rfl rfl ⟨rfl, hb10⟩
  have hm := iteT hm hc23
  refine WP.skip ?_
  refine WQ.then_normal (hK21 _ _ _ ?_)
  refine WP.block ?_
  refine WP.seq (fun K24 hK24 => ?_)
  refine WP.region ?_
  refine WL.runk 4 [0, 3, 11] [(0, .int .i64 st8.1), (3, .string (bs st8.2)), (11, .int .u8 (IntKind.u8.wrap (wI64 (48 + (Int.tmod st8.1 10)))))] (by kernel_rfl) ?_
  refine WL.row fU8 5 ([(IntKind.u8.wrap (wI64 (48 + (Int.tmod st8.1 10))))] : List Int) 1 #[.int .u8 (IntKind.u8.wrap (wI64 (48 + (Int.tmod st8.1 10))))] 12 (by kernel_rfl) rfl rfl rfl rfl rfl rfl rfl ?_
  intro a25 c26 w27 hE28 hR29
  have hb31 : Ext w w27 := Ext.trans hb10 hE28
  have hL32 : w.heap.size ≤ w27.heap.size := Nat.le_trans hL11 hE28.size
  have hS33 : SH w27 w.heap.size [aOwn fU8 5 a25 c26 ([(IntKind.u8.wrap (wI64 (48 + (Int.tmod st8.1 10))))] : List Int)] := SH.add hS12 hE28 hL11 hR29
  refine WL.st (.string (bs (ofBytes ([(IntKind.u8.wrap (wI64 (48 + (Int.tmod st8.1 10))))] : List Int)))) (ST.b2s (SH.rd (SH.front 0 hS33)) (SH.le (SH.front 0 hS33)).2 rfl rfl Try.underlying61 Try.underlying9 Try.underlying5) rfl rfl rfl ?_
  refine WL.runk 1 [0, 13, 14] [(0, .int .i64 st8.1), (13, .string (bs (ofBytes ([(IntKind.u8.wrap (wI64 (48 + (Int.tmod st8.1 10))))] : List Int)))), (14, .string (bs st8.2))] (by kernel_rfl) ?_
  obtain ⟨x34, hx35, hm⟩ := bindE hm
  refine WL.st (.string (bs x34)) (ST.cat hx35 rfl rfl rfl) rfl rfl rfl ?_
  refine WL.runk 1 [0, 3] [(0, .int .i64 st8.1), (3, .string (bs x34))] (by kernel_rfl) ?_
  refine WL.nil ?_
  refine WQ.then_normal (hK24 _ _ _ ?_)
  refine WP.region ?_
  refine WL.runk 3 [0, 3] [(0, .int .i64 (wI64 (Int.tdiv st8.1 10))), (3, .string (bs x34))] (by kernel_rfl) ?_
  refine WL.nil ?_
  refine WQ.block_normal ?_
  obtain rfl := Option.some.inj hm
  exact WQ.round hK15 ⟨((wI64 (Int.tdiv st8.1 10)), x34), rfl, hb31, hL32, (SH.take 0 hS33), hl13⟩ (Nat.lt_succ_self _) ⟨rfl, rfl, trivial⟩

theorem c_23 (n : Nat) (a_0 : List SGood) (a0' : Option Addr) (c0' : Nat) (k_1 : Int) (w : World) (w0 : World) (B : Nat) (L : List Asrt) {r : Int × List SGood} (hm : m_laws_markGoodS n a_0 k_1 = some r) (_hE0 : Ext w0 w) (_hW : w0.heap.size ≤ B) (hL : B ≤ w.heap.size) (hS : SH w B (aOwn fGood 56 a0' c0' a_0 :: L)) :
    CallV Try.prog 23 #[.slice a0' a_0.length c0', .int .i64 k_1] w (fun v w' => v = .int .i64 r.1 ∧ Below B w w' ∧ SH w' B (aOwn fGood 56 a0' c0' r.2 :: L) ∧ r.2.length = a_0.length) := by
  unfold m_laws_markGoodS at hm
  refine CallV.enter Try.func23 rfl (by kernel_rfl) Try.ntmps23 (env := [(0, .slice a0' a_0.length c0'), (1, .int .i64 k_1)]) ⟨rfl, rfl, trivial⟩ ?_
  refine WP.seq (fun K1 hK1 => ?_)
  refine WP.region ?_
  refine WL.runk 1 [0, 1] [(0, .slice a0' a_0.length c0'), (1, .int .i64 k_1)] (by kernel_rfl) ?_
  refine WL.nil ?_
  refine WQ.then_normal (hK1 _ _ _ ?_)
  refine WP.seq (fun K2 hK2 => ?_)
  refine WP.seq (fun K3 hK3 => ?_)
  refine WP.region ?_
  refine WL.runk 1 [0, 1, 5] [(0, .slice a0' a_0.length c0'), (1, .int .i64 k_1), (5, .int .i64 0)] (by kernel_rfl) ?_
  refine WL.nil ?_
  refine WQ.then_normal (hK3 _ _ _ ?_)
  refine WP.block ?_
  obtain ⟨t80, ht81, hm⟩ := bindE hm
  have hmo75 := hm; clear hm
  refine WP.sub [(0, .slice a0' a_0.length c0'), (1, .int .i64 k_1), (5, .int .i64 0)] ⟨rfl, rfl, rfl, trivial⟩ ?_
  refine WP.loop (fun n' env' w' => ∃ (st69 : Int × Int × List SGood) , env' = [(0, .slice a0' st69.2.2.length c0'), (1, .int .i64 st69.1), (5, .int .i64 st69.2.1)] ∧ Below B w w' ∧ B ≤ w'.heap.size ∧ SH w' B (aOwn fGood 56 a0' c0' st69.2.2 :: L) ∧ st69.2.2.length = a_0.length ∧ loopN (m_laws_markGoodS_l1 n) n' st69 = some t80) n ⟨(k_1, 0, a_0), rfl, (Below.refl _ _), hL, hS, rfl, ht81⟩ ?_
  rintro n77 _ w70 ⟨st69, rfl, hb71, hL72, hS73, hn82, hl74⟩ K76 hK76
  obtain ⟨n78, s79, rfl, hm, hl74⟩ := loopN_some hl74
  unfold m_laws_markGoodS_l1 at hm
  refine WP.seq (fun K83 hK83 => ?_)
  refine WP.seq (fun K84 hK84 => ?_)
  refine WP.region ?_
  refine WL.runk 4 [0, 1, 5, 9] [(0, .slice a0' st69.2.2.length c0'), (1, .int .i64 st69.1), (5, .int .i64 st69.2.1), (9, .bool (decide (st69.2.1 < (st69.2.2.length : Int))))] (by kernel_rfl) ?_
  refine WL.nil ?_
  refine WQ.then_normal (hK84 _ _ _ ?_)
  refine WP.cond (decide (st69.2.1 < (st69.2.2.length : Int))) rfl rfl (fun hc85 => ?_) (fun hc85 => ?_)
  rotate_left
  · have hm := iteF hm hc85
    refine WP.exit ?_
    refine WQ.then_exit ?_
    refine WQ.then_exit ?_
    refine WQ.block_here ?_
    obtain rfl := Option.some.inj hm
    obtain rfl := afterN_done hl74
    have hm := hmo75
    refine WQ.then_normal (hK2 _ _ _ ?_)
    refine WP.seq (fun K134 hK134 => ?_)
    refine WP.region ?_
    refine WL.runk 2 [4] [(4, .int .i64 st69.1)] (by kernel_rfl) ?_
    refine WL.nil ?_
    refine WQ.then_normal (hK134 _ _ _ ?_)
    refine WP.ret ?_
    obtain rfl := Option.some.inj hm
    exact WQ.ret1 _ rfl rfl ⟨rfl, hb71, hS73, hn82⟩
  have hm := iteT hm hc85
  refine WP.skip ?_
  refine WQ.then_normal (hK83 _ _ _ ?_)
  refine WP.seq (fun K86 hK86 => ?_)
  refine WP.block ?_
  refine WP.seq (fun K87 hK87 => ?_)
  refine WP.region ?_
  refine WL.runk 3 [0, 1, 5, 12, 13, 14] [(0, .slice a0' st69.2.2.length c0'), (1, .int .i64 st69.1), (5, .int .i64 st69.2.1), (12, .slice a0' st69.2.2.length c0'), (13, .int .i64 st69.2.1), (14, .int .i64 st69.1)] (by kernel_rfl) ?_
  obtain ⟨x88, hx89, hm⟩ := bindE hm
  refine WL.call 55 #[.int .i64 st69.1] rfl rfl (by kernel_rfl) (c_55 n st69.1 w70 hx89 ) ?_
  rintro _ w90 ⟨rfl, hE91⟩
  refine ⟨_, rfl, ?_⟩
  have hb93 : Below B w w90 := Below.trans hb71 (Below.mono hE91 hL72)
  have hL94 : B ≤ w90.heap.size := Nat.le_trans hL72 hE91.size
  have hS95 : SH w90 B (aOwn fGood 56 a0' c0' st69.2.2 :: L) := SH.ext hS73 hE91
  obtain ⟨x96, hx97, hm⟩ := bindE hm
  refine WL.st (.pointer (some (at_ a0' (Int.toNat st69.2.1 * 4)))) (ST.index (T := fGood.ty) (xs := st69.2.2) (SH.rd (SH.front 0 hS95)) hx97 rfl rfl rfl Try.underlying25 (info56).1 (info56).2.1) rfl rfl rfl ?_
  refine WL.runk 1 [0, 1, 5, 15, 17] [(0, .slice a0' st69.2.2.length c0'), (1, .int .i64 st69.1), (5, .int .i64 st69.2.1), (15, .string (bs x88)), (17, .pointer (some (at_ a0' (Int.toNat st69.2.1 * 4))))] (by kernel_rfl) ?_
  refine WL.store (F := fGood) (SGood.mk x88 x96.OnHand x96.Reserved x96.Least) 0 [.string (bs x88)] (SH.front 0 hS95) hL94 hx97 rfl rfl rfl rfl rfl rfl rfl (info9).1 (info9).2.1 rfl rfl rfl ?_
  intro w98 hB99 hS100
  have hb101 : Below B w w98 := Below.trans hb93 hB99
  have hL102 : B ≤ w98.heap.size := Nat.le_trans hL94 hB99.size
  refine WL.sub [(0, .slice a0' ((st69.2.2.set (Int.toNat st69.2.1) (SGood.mk x88 x96.OnHand x96.Reserved x96.Least)).length) c0'), (1, .int .i64 st69.1), (5, .int .i64 st69.2.1), (15, .string (bs x88))] ⟨by first | (simp only [List.length_set]; done) | (simp only [List.length_set]; rfl), rfl, rfl, rfl, trivial⟩ ?_
  have hn103 : (st69.2.2.set (Int.toNat st69.2.1) (SGood.mk x88 x96.OnHand x96.Reserved x96.Least)).length = a_0.length := List.length_set.trans hn82
  refine WL.sub [(0, .slice a0' ((st69.2.2.set (Int.toNat st69.2.1) (SGood.mk x88 x96.OnHand x96.Reserved x96.Least)).length) c0'), (1, .int .i64 st69.1), (5, .int .i64 st69.2.1)] ⟨rfl, rfl, rfl, trivial⟩ ?_
  refine WL.nil ?_
  refine WQ.then_normal (hK87 _ _ _ ?_)
  refine WP.seq (fun K104 hK104 => ?_)
  refine WP.region ?_
  refine WL.runk 3 [0, 1, 5] [(0, .slice a0' ((st69.2.2.set (Int.toNat st69.2.1) (SGood.mk x88 x96.OnHand x96.Reserved x96.Least)).length) c0'), (1, .int .i64 (wI64 (st69.1 + 1))), (5, .int .i64 st69.2.1)] (by kernel_rfl) ?_
  refine WL.nil ?_
  refine WQ.then_normal (hK104 _ _ _ ?_)
  refine WP.seq (fun K105 hK105 => ?_)
  refine WP.region ?_
  refine WL.runk 3 [0, 1, 5, 20, 21, 22] [(0, .slice a0' ((st69.2.2.set (Int.toNat st69.2.1) (SGood.mk x88 x96.OnHand x96.Reserved x96.Least)).length) c0'), (1, .int .i64 (wI64 (st69.1 + 1))), (5, .int .i64 st69.2.1), (20, .slice a0' ((st69.2.2.set (Int.toNat st69.2.1) (SGood.mk x88 x96.OnHand x96.Reserved x96.Least)).length) c0'), (21, .int .i64 st69.2.1), (22, .int .i64 (wI64 (st69.1 + 1)))] (by kernel_rfl) ?_
  obtain ⟨x106, hx107, hm⟩ := bindE hm
  refine WL.st (.pointer (some (at_ a0' (Int.toNat st69.2.1 * 4)))) (ST.index (T := fGood.ty) (xs := (st69.2.2.set (Int.toNat st69.2.1) (SGood.mk x88 x96.OnHand x96.Reserved x96.Least))) (SH.rd (SH.front 0 hS100)) hx107 rfl rfl rfl Try.underlying25 (info56).1 (info56).2.1) rfl rfl rfl ?_
  refine WL.runk 1 [0, 1, 5, 22, 24] [(0, .slice a0' ((st69.2.2.set (Int.toNat st69.2.1) (SGood.mk x88 x96.OnHand x96.Reserved x96.Least)).length) c0'), (1, .int .i64 (wI64 (st69.1 + 1))), (5, .int .i64 st69.2.1), (22, .int .i64 (wI64 (st69.1 + 1))), (24, .pointer (some (at_ a0' (Int.toNat st69.2.1 * 4 + 1))))] (by kernel_rfl) ?_
  refine WL.store (F := fGood) (SGood.mk x106.Name (wI64 (st69.1 + 1)) x106.Reserved x106.Least) 1 [.int .i64 (wI64 (st69.1 + 1))] (SH.front 0 hS100) hL102 hx107 rfl rfl rfl rfl rfl rfl rfl (info2).1 (info2).2.1 rfl rfl rfl ?_
  intro w108 hB109 hS110
  have hb111 : Below B w w108 := Below.trans hb101 hB109
  have hL112 : B ≤ w108.heap.size := Nat.le_trans hL102 hB109.size
  refine WL.sub [(0, .slice a0' (((st69.2.2.set (Int.toNat st69.2.1) (SGood.mk x88 x96.OnHand x96.Reserved x96.Least)).set (Int.toNat st69.2.1) (SGood.mk x106.Name (wI64 (st69.1 + 1)) x106.Reserved x106.Least)).length) c0'), (1, .int .i64 (wI64 (st69.1 + 1))), (5, .int .i64 st69.2.1), (22, .int .i64 (wI64 (st69.1 + 1)))] ⟨by first | (simp only [List.length_set]; done) | (simp only [List.length_set]; rfl), rfl, rfl, rfl, trivial⟩ ?_
  have hn113 : ((st69.2.2.set (Int.toNat st69.2.1) (SGood.mk x88 x96.OnHand x96.Reserved x96.Least)).set (Int.toNat st69.2.1) (SGood.mk x106.Name (wI64 (st69.1 + 1)) x106.Reserved x106.Least)).length = a_0.length := List.length_set.trans hn103
  refine WL.sub [(0, .slice a0' (((st69.2.2.set (Int.toNat st69.2.1) (SGood.mk x88 x96.OnHand x96.Reserved x96.Least)).set (Int.toNat st69.2.1) (SGood.mk x106.Name (wI64 (st69.1 + 1)) x106.Reserved x106.Least)).length) c0'), (1, .int .i64 (wI64 (st69.1 + 1))), (5, .int .i64 st69.2.1)] ⟨rfl, rfl, rfl, trivial⟩ ?_
  refine WL.nil ?_
  refine WQ.then_normal (hK105 _ _ _ ?_)
  refine WP.seq (fun K114 hK114 => ?_)
  refine WP.region ?_
  refine WL.runk 3 [0, 1, 5] [(0, .slice a0' (((st69.2.2.set (Int.toNat st69.2.1) (SGood.mk x88 x96.OnHand x96.Reserved x96.Least)).set (Int.toNat st69.2.1) (SGood.mk x106.Name (wI64 (st69.1 + 1)) x106.Reserved x106.Least)).length) c0'), (1, .int .i64 (wI64 ((wI64 (st69.1 + 1)) + 1))), (5, .int .i64 st69.2.1)] (by kernel_rfl) ?_
  refine WL.nil ?_
  refine WQ.then_normal (hK114 _ _ _ ?_)
  refine WP.seq (fun K115 hK115 => ?_)
  refine WP.region ?_
  refine WL.runk 3 [0, 1, 5, 27, 28, 29] [(0, .slice a0' (((st69.2.2.set (Int.toNat st69.2.1) (SGood.mk x88 x96.OnHand x96.Reserved x96.Least)).set (Int.toNat st69.2.1) (SGood.mk x106.Name (wI64 (st69.1 + 1)) x106.Reserved x106.Least)).length) c0'), (1, .int .i64 (wI64 ((wI64 (st69.1 + 1)) + 1))), (5, .int .i64 st69.2.1), (27, .slice a0' (((st69.2.2.set (Int.toNat st69.2.1) (SGood.mk x88 x96.OnHand x96.Reserved x96.Least)).set (Int.toNat st69.2.1) (SGood.mk x106.Name (wI64 (st69.1 + 1)) x106.Reserved x106.Least)).length) c0'), (28, .int .i64 st69.2.1), (29, .int .i64 (wI64 ((wI64 (st69.1 + 1)) + 1)))] (by kernel_rfl) ?_
  obtain ⟨x116, hx117, hm⟩ := bindE hm
  refine WL.st (.pointer (some (at_ a0' (Int.toNat st69.2.1 * 4)))) (ST.index (T := fGood.ty) (xs := ((st69.2.2.set (Int.toNat st69.2.1) (SGood.mk x88 x96.OnHand x96.Reserved x96.Least)).set (Int.toNat st69.2.1) (SGood.mk x106.Name (wI64 (st69.1 + 1)) x106.Reserved x106.Least))) (SH.rd (SH.front 0 hS110)) hx117 rfl rfl rfl Try.underlying25 (info56).1 (info56).2.1) rfl rfl rfl ?_
  refine WL.runk 1 [0, 1, 5, 29, 31] [(0, .slice a0' (((st69.2.2.set (Int.toNat st69.2.1) (SGood.mk x88 x96.OnHand x96.Reserved x96.Least)).set (Int.toNat st69.2.1) (SGood.mk x106.Name (wI64 (st69.1 + 1)) x106.Reserved x106.Least)).length) c0'), (1, .int .i64 (wI64 ((wI64 (st69.1 + 1)) + 1))), (5, .int .i64 st69.2.1), (29, .int .i64 (wI64 ((wI64 (st69.1 + 1)) + 1))), (31, .pointer (some (at_ a0' (Int.toNat st69.2.1 * 4 + 2))))] (by kernel_rfl) ?_
  refine WL.store (F := fGood) (SGood.mk x116.Name x116.OnHand (wI64 ((wI64 (st69.1 + 1)) + 1)) x116.Least) 2 [.int .i64 (wI64 ((wI64 (st69.1 + 1)) + 1))] (SH.front 0 hS110) hL112 hx117 rfl rfl rfl rfl rfl rfl rfl (info2).1 (info2).2.1 rfl rfl rfl ?_
  intro w118 hB119 hS120
  have hb121 : Below B w w118 := Below.trans hb111 hB119
  have hL122 : B ≤ w118.heap.size := Nat.le_trans hL112 hB119.size
  refine WL.sub [(0, .slice a0' ((((st69.2.2.set (Int.toNat st69.2.1) (SGood.mk x88 x96.OnHand x96.Reserved x96.Least)).set (Int.toNat st69.2.1) (SGood.mk x106.Name (wI64 (st69.1 + 1)) x106.Reserved x106.Least)).set (Int.toNat st69.2.1) (SGood.mk x116.Name x116.OnHand (wI64 ((wI64 (st69.1 + 1)) + 1)) x116.Least)).length) c0'), (1, .int .i64 (wI64 ((wI64 (st69.1 + 1)) + 1))), (5, .int .i64 st69.2.1), (29, .int .i64 (wI64 ((wI64 (st69.1 + 1)) + 1)))] ⟨by first | (simp only [List.length_set]; done) | (simp only [List.length_set]; rfl), rfl, rfl, rfl, trivial⟩ ?_
  have hn123 : (((st69.2.2.set (Int.toNat st69.2.1) (SGood.mk x88 x96.OnHand x96.Reserved x96.Least)).set (Int.toNat st69.2.1) (SGood.mk x106.Name (wI64 (st69.1 + 1)) x106.Reserved x106.Least)).set (Int.toNat st69.2.1) (SGood.mk x116.Name x116.OnHand (wI64 ((wI64 (st69.1 + 1)) + 1)) x116.Least)).length = a_0.length := List.length_set.trans hn113
  refine WL.sub [(0, .slice a0' ((((st69.2.2.set (Int.toNat st69.2.1) (SGood.mk x88 x96.OnHand x96.Reserved x96.Least)).set (Int.toNat st69.2.1) (SGood.mk x106.Name (wI64 (st69.1 + 1)) x106.Reserved x106.Least)).set (Int.toNat st69.2.1) (SGood.mk x116.Name x116.OnHand (wI64 ((wI64 (st69.1 + 1)) + 1)) x116.Least)).length) c0'), (1, .int .i64 (wI64 ((wI64 (st69.1 + 1)) + 1))), (5, .int .i64 st69.2.1)] ⟨rfl, rfl, rfl, trivial⟩ ?_
  refine WL.nil ?_
  refine WQ.then_normal (hK115 _ _ _ ?_)
  refine WP.seq (fun K124 hK124 => ?_)
  refine WP.region ?_
  refine WL.runk 3 [0, 1, 5] [(0, .slice a0' ((((st69.2.2.set (Int.toNat st69.2.1) (SGood.mk x88 x96.OnHand x96.Reserved x96.Least)).set (Int.toNat st69.2.1) (SGood.mk x106.Name (wI64 (st69.1 + 1)) x106.Reserved x106.Least)).set (Int.toNat st69.2.1) (SGood.mk x116.Name x116.OnHand (wI64 ((wI64 (st69.1 + 1)) + 1)) x116.Least)).length) c0'), (1, .int .i64 (wI64 ((wI64 ((wI64 (st69.1 + 1)) + 1)) + 1))), (5, .int .i64 st69.2.1)] (by kernel_rfl) ?_
  refine WL.nil ?_
  refine WQ.then_normal (hK124 _ _ _ ?_)
  refine WP.seq (fun K125 hK125 => ?_)
  refine WP.region ?_
  refine WL.runk 3 [0, 1, 5, 34, 35, 36] [(0, .slice a0' ((((st69.2.2.set (Int.toNat st69.2.1) (SGood.mk x88 x96.OnHand x96.Reserved x96.Least)).set (Int.toNat st69.2.1) (SGood.mk x106.Name (wI64 (st69.1 + 1)) x106.Reserved x106.Least)).set (Int.toNat st69.2.1) (SGood.mk x116.Name x116.OnHand (wI64 ((wI64 (st69.1 + 1)) + 1)) x116.Least)).length) c0'), (1, .int .i64 (wI64 ((wI64 ((wI64 (st69.1 + 1)) + 1)) + 1))), (5, .int .i64 st69.2.1), (34, .slice a0' ((((st69.2.2.set (Int.toNat st69.2.1) (SGood.mk x88 x96.OnHand x96.Reserved x96.Least)).set (Int.toNat st69.2.1) (SGood.mk x106.Name (wI64 (st69.1 + 1)) x106.Reserved x106.Least)).set (Int.toNat st69.2.1) (SGood.mk x116.Name x116.OnHand (wI64 ((wI64 (st69.1 + 1)) + 1)) x116.Least)).length) c0'), (35, .int .i64 st69.2.1), (36, .int .i64 (wI64 ((wI64 ((wI64 (st69.1 + 1)) + 1)) + 1)))] (by kernel_rfl) ?_
  obtain ⟨x126, hx127, hm⟩ := bindE hm
  refine WL.st (.pointer (some (at_ a0' (Int.toNat st69.2.1 * 4)))) (ST.index (T := fGood.ty) (xs := (((st69.2.2.set (Int.toNat st69.2.1) (SGood.mk x88 x96.OnHand x96.Reserved x96.Least)).set (Int.toNat st69.2.1) (SGood.mk x106.Name (wI64 (st69.1 + 1)) x106.Reserved x106.Least)).set (Int.toNat st69.2.1) (SGood.mk x116.Name x116.OnHand (wI64 ((wI64 (st69.1 + 1)) + 1)) x116.Least))) (SH.rd (SH.front 0 hS120)) hx127 rfl rfl rfl Try.underlying25 (info56).1 (info56).2.1) rfl rfl rfl ?_
  refine WL.runk 1 [0, 1, 5, 36, 38] [(0, .slice a0' ((((st69.2.2.set (Int.toNat st69.2.1) (SGood.mk x88 x96.OnHand x96.Reserved x96.Least)).set (Int.toNat st69.2.1) (SGood.mk x106.Name (wI64 (st69.1 + 1)) x106.Reserved x106.Least)).set (Int.toNat st69.2.1) (SGood.mk x116.Name x116.OnHand (wI64 ((wI64 (st69.1 + 1)) + 1)) x116.Least)).length) c0'), (1, .int .i64 (wI64 ((wI64 ((wI64 (st69.1 + 1)) + 1)) + 1))), (5, .int .i64 st69.2.1), (36, .int .i64 (wI64 ((wI64 ((wI64 (st69.1 + 1)) + 1)) + 1))), (38, .pointer (some (at_ a0' (Int.toNat st69.2.1 * 4 + 3))))] (by kernel_rfl) ?_
  refine WL.store (F := fGood) (SGood.mk x126.Name x126.OnHand x126.Reserved (wI64 ((wI64 ((wI64 (st69.1 + 1)) + 1)) + 1))) 3 [.int .i64 (wI64 ((wI64 ((wI64 (st69.1 + 1)) + 1)) + 1))] (SH.front 0 hS120) hL122 hx127 rfl rfl rfl rfl rfl rfl rfl (info2).1 (info2).2.1 rfl rfl rfl ?_
  intro w128 hB129 hS130
  have hb131 : Below B w w128 := Below.trans hb121 hB129
  have hL132 : B ≤ w128.heap.size := Nat.le_trans hL122 hB129.size
  refine WL.sub [(0, .slice a0' (((((st69.2.2.set (Int.toNat st69.2.1) (SGood.mk x88 x96.OnHand x96.Reserved x96.Least)).set (Int.toNat st69.2.1) (SGood.mk x106.Name (wI64 (st69.1 + 1)) x106.Reserved x106.Least)).set (Int.toNat st69.2.1) (SGood.mk x116.Name x116.OnHand (wI64 ((wI64 (st69.1 + 1)) + 1)) x116.Least)).set (Int.toNat st69.2.1) (SGood.mk x126.Name x126.OnHand x126.Reserved (wI64 ((wI64 ((wI64 (st69.1 + 1)) + 1)) + 1)))).length) c0'), (1, .int .i64 (wI64 ((wI64 ((wI64 (st69.1 + 1)) + 1)) + 1))), (5, .int .i64 st69.2.1), (36, .int .i64 (wI64 ((wI64 ((wI64 (st69.1 + 1)) + 1)) + 1)))] ⟨by first | (simp only [List.length_set]; done) | (simp only [List.length_set]; rfl), rfl, rfl, rfl, trivial⟩ ?_
  have hn133 : ((((st69.2.2.set (Int.toNat st69.2.1) (SGood.mk x88 x96.OnHand x96.Reserved x96.Least)).set (Int.toNat st69.2.1) (SGood.mk x106.Name (wI64 (st69.1 + 1)) x106.Reserved x106.Least)).set (Int.toNat st69.2.1) (SGood.mk x116.Name x116.OnHand (wI64 ((wI64 (st69.1 + 1)) + 1)) x116.Least)).set (Int.toNat st69.2.1) (SGood.mk x126.Name x126.OnHand x126.Reserved (wI64 ((wI64 ((wI64 (st69.1 + 1)) + 1)) + 1)))).length = a_0.length := List.length_set.trans hn123
  refine WL.sub [(0, .slice a0' (((((st69.2.2.set (Int.toNat st69.2.1) (SGood.mk x88 x96.OnHand x96.Reserved x96.Least)).set (Int.toNat st69.2.1) (SGood.mk x106.Name (wI64 (st69.1 + 1)) x106.Reserved x106.Least)).set (Int.toNat st69.2.1) (SGood.mk x116.Name x116.OnHand (wI64 ((wI64 (st69.1 + 1)) + 1)) x116.Least)).set (Int.toNat st69.2.1) (SGood.mk x126.Name x126.OnHand x126.Reserved (wI64 ((wI64 ((wI64 (st69.1 + 1)) + 1)) + 1)))).length) c0'), (1, .int .i64 (wI64 ((wI64 ((wI64 (st69.1 + 1)) + 1)) + 1))), (5, .int .i64 st69.2.1)] ⟨rfl, rfl, rfl, trivial⟩ ?_
  refine WL.nil ?_
  refine WQ.then_normal (hK125 _ _ _ ?_)
  refine WP.region ?_
  refine WL.runk 3 [0, 1, 5] [(0, .slice a0' (((((st69.2.2.set (Int.toNat st69.2.1) (SGood.mk x88 x96.OnHand x96.Reserved x96.Least)).set (Int.toNat st69.2.1) (SGood.mk x106.Name (wI64 (st69.1 + 1)) x106.Reserved x106.Least)).set (Int.toNat st69.2.1) (SGood.mk x116.Name x116.OnHand (wI64 ((wI64 (st69.1 + 1)) + 1)) x116.Least)).set (Int.toNat st69.2.1) (SGood.mk x126.Name x126.OnHand x126.Reserved (wI64 ((wI64 ((wI64 (st69.1 + 1)) + 1)) + 1)))).length) c0'), (1, .int .i64 (wI64 ((wI64 ((wI64 ((wI64 (st69.1 + 1)) + 1)) + 1)) + 1))), (5, .int .i64 st69.2.1)] (by kernel_rfl) ?_
  refine WL.nil ?_
  refine WQ.block_normal ?_
  refine WQ.then_normal (hK86 _ _ _ ?_)
  refine WP.region ?_
  refine WL.runk 3 [0, 1, 5] [(0, .slice a0' (((((st69.2.2.set (Int.toNat st69.2.1) (SGood.mk x88 x96.OnHand x96.Reserved x96.Least)).set (Int.toNat st69.2.1) (SGood.mk x106.Name (wI64 (st69.1 + 1)) x106.Reserved x106.Least)).set (Int.toNat st69.2.1) (SGood.mk x116.Name x116.OnHand (wI64 ((wI64 (st69.1 + 1)) + 1)) x116.Least)).set (Int.toNat st69.2.1) (SGood.mk x126.Name x126.OnHand x126.Reserved (wI64 ((wI64 ((wI64 (st69.1 + 1)) + 1)) + 1)))).length) c0'), (1, .int .i64 (wI64 ((wI64 ((wI64 ((wI64 (st69.1 + 1)) + 1)) + 1)) + 1))), (5, .int .i64 (wI64 (st69.2.1 + 1)))] (by kernel_rfl) ?_
  refine WL.nil ?_
  obtain rfl := Option.some.inj hm
  exact WQ.round hK76 ⟨((wI64 ((wI64 ((wI64 ((wI64 (st69.1 + 1)) + 1)) + 1)) + 1)), (wI64 (st69.2.1 + 1)), ((((st69.2.2.set (Int.toNat st69.2.1) (SGood.mk x88 x96.OnHand x96.Reserved x96.Least)).set (Int.toNat st69.2.1) (SGood.mk x106.Name (wI64 (st69.1 + 1)) x106.Reserved x106.Least)).set (Int.toNat st69.2.1) (SGood.mk x116.Name x116.OnHand (wI64 ((wI64 (st69.1 + 1)) + 1)) x116.Least)).set (Int.toNat st69.2.1) (SGood.mk x126.Name x126.OnHand x126.Reserved (wI64 ((wI64 ((wI64 (st69.1 + 1)) + 1)) + 1))))), rfl, hb131, hL132, hS130, hn133, hl74⟩ (Nat.lt_succ_self _) ⟨rfl, rfl, rfl, trivial⟩

theorem c_64 (n : Nat) (list_0 : List SGood) (a0' : Option Addr) (c0' : Nat) (name_1 : List UInt8) (w : World) {r : Int} (hm : m_spec_l23Find n list_0 name_1 = some r) (h0 : Rd fGood.ty w a0' list_0) (_hle0 : list_0.length ≤ c0') :
    CallV Try.prog 64 #[.slice a0' list_0.length c0', .string (bs name_1)] w (fun v w' => v = .int .i64 r ∧ Ext w w') := by
  unfold m_spec_l23Find at hm
  refine CallV.enter Try.func64 rfl (by kernel_rfl) Try.ntmps64 (env := [(0, .slice a0' list_0.length c0'), (1, .string (bs name_1))]) ⟨rfl, rfl, trivial⟩ ?_
  refine WP.seq (fun K1 hK1 => ?_)
  refine WP.region ?_
  refine WL.runk 1 [0, 1] [(0, .slice a0' list_0.length c0'), (1, .string (bs name_1))] (by kernel_rfl) ?_
  refine WL.nil ?_
  refine WQ.then_normal (hK1 _ _ _ ?_)
  refine WP.seq (fun K2 hK2 => ?_)
  refine WP.seq (fun K3 hK3 => ?_)
  refine WP.region ?_
  refine WL.runk 1 [0, 1, 5] [(0, .slice a0' list_0.length c0'), (1, .string (bs name_1)), (5, .int .i64 0)] (by kernel_rfl) ?_
  refine WL.nil ?_
  refine WQ.then_normal (hK3 _ _ _ ?_)
  refine WP.block ?_
  obtain ⟨t15, ht16, hm⟩ := bindE hm
  have hmo10 := hm; clear hm
  refine WP.sub [(0, .slice a0' list_0.length c0'), (1, .string (bs name_1)), (5, .int .i64 0)] ⟨rfl, rfl, rfl, trivial⟩ ?_
  refine WP.loop (fun n' env' w' => ∃ (st4 : Int) , env' = [(0, .slice a0' list_0.length c0'), (1, .string (bs name_1)), (5, .int .i64 st4)] ∧ Ext w w' ∧ w.heap.size ≤ w'.heap.size ∧ SH w' w.heap.size [] ∧ loopN (m_spec_l23Find_l1 n list_0 name_1) n' st4 = some t15) n ⟨0, rfl, (Ext.refl w), (Nat.le_refl _), (SH.nil _ _), ht16⟩ ?_
  rintro n12 _ w5 ⟨st4, rfl, hb6, hL7, hS8, hl9⟩ K11 hK11
  obtain ⟨n13, s14, rfl, hm, hl9⟩ := loopN_some hl9
  unfold m_spec_l23Find_l1 at hm
  refine WP.seq (fun K17 hK17 => ?_)
  refine WP.seq (fun K18 hK18 => ?_)
  refine WP.region ?_
  refine WL.runk 4 [0, 1, 5, 9] [(0, .slice a0' list_0.length c0'), (1, .string (bs name_1)), (5, .int .i64 st4), (9, .bool (decide (st4 < (list_0.length : Int))))] (by kernel_rfl) ?_
  refine WL.nil ?_
  refine WQ.then_normal (hK18 _ _ _ ?_)
  refine WP.cond (decide (st4 < (list_0.length : Int))) rfl rfl (fun hc19 => ?_) (fun hc19 => ?_)
  rotate_left
  · have hm := iteF hm hc19
    refine WP.exit ?_
    refine WQ.then_exit ?_
    refine WQ.then_exit ?_
    refine WQ.block_here ?_
    obtain rfl := Option.some.inj hm
    obtain rfl := afterN_done hl9
    have hm := hmo10
    refine WQ.then_normal (hK2 _ _ _ ?_)
    refine WP.seq (fun K26 hK26 => ?_)
    refine WP.region ?_
    refine WL.runk 1 [4] [(4, .int .i64 (-1))] (by kernel_rfl) ?_
    refine WL.nil ?_
    refine WQ.then_normal (hK26 _ _ _ ?_)
    refine WP.ret ?_
    obtain rfl := Option.some.inj hm
    exact WQ.ret1 _ rfl rfl ⟨rfl, hb6⟩
  have hm := iteT hm hc19
  refine WP.skip ?_
  refine WQ.then_normal (hK17 _ _ _ ?_)
  refine WP.seq (fun K20 hK20 => ?_)
  refine WP.block ?_
  refine WP.seq (fun K21 hK21 => ?_)
  refine WP.region ?_
  refine WL.runk 2 [0, 1, 5, 12, 13] [(0, .slice a0' list_0.length c0'), (1, .string (bs name_1)), (5, .int .i64 st4), (12, .slice a0' list_0.length c0'), (13, .int .i64 st4)] (by kernel_rfl) ?_
  obtain ⟨x22, hx23, hm⟩ := bindE hm
  refine WL.st (.pointer (some (at_ a0' (Int.toNat st4 * 4)))) (ST.index (T := fGood.ty) (xs := list_0) (Rd.below h0 hb6) hx23 rfl rfl rfl Try.underlying25 (info56).1 (info56).2.1) rfl rfl rfl ?_
  refine WL.runk 1 [0, 1, 5, 15] [(0, .slice a0' list_0.length c0'), (1, .string (bs name_1)), (5, .int .i64 st4), (15, .pointer (some (at_ a0' (Int.toNat st4 * 4))))] (by kernel_rfl) ?_
  refine WL.st (.string (bs x22.Name)) (ST.load (cell_ext (Rd.flat (F := fGood) (Rd.below h0 hb6) hx23 0 rfl)) rfl rfl Try.underlying9 rfl) rfl rfl rfl ?_
  refine WL.runk 1 [0, 1, 5, 16, 17] [(0, .slice a0' list_0.length c0'), (1, .string (bs name_1)), (5, .int .i64 st4), (16, .string (bs x22.Name)), (17, .string (bs name_1))] (by kernel_rfl) ?_
  refine WL.st (.bool (x22.Name == name_1)) (ST.streq (x := x22.Name) (y := name_1) rfl rfl rfl) rfl rfl rfl ?_
  refine WL.sub [(0, .slice a0' list_0.length c0'), (1, .string (bs name_1)), (5, .int .i64 st4), (18, .bool (x22.Name == name_1))] ⟨rfl, rfl, rfl, rfl, trivial⟩ ?_
  refine WL.nil ?_
  refine WQ.then_normal (hK21 _ _ _ ?_)
  refine WP.cond (x22.Name == name_1) rfl rfl (fun hc24 => ?_) (fun hc24 => ?_)
  rotate_left
  · have hm := iteF hm hc24
    refine WP.skip ?_
    refine WQ.block_normal ?_
    refine WQ.then_normal (hK20 _ _ _ ?_)
    refine WP.region ?_
    refine WL.runk 3 [0, 1, 5] [(0, .slice a0' list_0.length c0'), (1, .string (bs name_1)), (5, .int .i64 (wI64 (st4 + 1)))] (by kernel_rfl) ?_
    refine WL.nil ?_
    obtain rfl := Option.some.inj hm
    exact WQ.round hK11 ⟨(wI64 (st4 + 1)), rfl, hb6, hL7, hS8, hl9⟩ (Nat.lt_succ_self _) ⟨rfl, rfl, rfl, trivial⟩
  have hm := iteT hm hc24
  refine WP.seq (fun K25 hK25 => ?_)
  refine WP.region ?_
  refine WL.runk 2 [4] [(4, .int .i64 st4)] (by kernel_rfl) ?_
  refine WL.nil ?_
  refine WQ.then_normal (hK25 _ _ _ ?_)
  refine WP.ret ?_
  refine WQ.block_ret ?_
  refine WQ.then_ret ?_
  refine WQ.then_ret ?_
  refine WQ.block_ret ?_
  refine WQ.then_ret ?_
  obtain rfl := Option.some.inj hm
  obtain rfl := afterN_done hl9
  have hm := hmo10
  obtain rfl := Option.some.inj hm
  exact WQ.ret1 _ rfl rfl ⟨rfl, hb6⟩

theorem c_94 (n : Nat) (x_0 : List UInt8) (w : World) {r : Bool} (hm : m_cmp_isNaN_string n x_0 = some r)  :
    CallV Try.prog 94 #[.string (bs x_0)] w (fun v w' => v = .bool r ∧ Ext w w') := by
  unfold m_cmp_isNaN_string at hm
  refine CallV.enter Try.func94 rfl (by kernel_rfl) Try.ntmps94 (env := [(0, .string (bs x_0))]) ⟨rfl, trivial⟩ ?_
  refine WP.seq (fun K1 hK1 => ?_)
  refine WP.region ?_
  refine WL.runk 1 [0] [(0, .string (bs x_0))] (by kernel_rfl) ?_
  refine WL.nil ?_
  refine WQ.then_normal (hK1 _ _ _ ?_)
  refine WP.seq (fun K2 hK2 => ?_)
  refine WP.region ?_
  refine WL.runk 2 [3, 4] [(3, .string (bs x_0)), (4, .string (bs x_0))] (by kernel_rfl) ?_
  refine WL.st (.bool (!(x_0 == x_0))) (ST.strne (x := x_0) (y := x_0) rfl rfl rfl) rfl rfl rfl ?_
  refine WL.runk 1 [2] [(2, .bool (!(x_0 == x_0)))] (by kernel_rfl) ?_
  refine WL.nil ?_
  refine WQ.then_normal (hK2 _ _ _ ?_)
  refine WP.ret ?_
  obtain rfl := Option.some.inj hm
  exact WQ.ret1 _ rfl rfl ⟨rfl, (Ext.refl w)⟩

theorem c_85 (n : Nat) (x_0 : List UInt8) (y_1 : List UInt8) (w : World) {r : Int} (hm : m_cmp_Compare_string n x_0 y_1 = some r)  :
    CallV Try.prog 85 #[.string (bs x_0), .string (bs y_1)] w (fun v w' => v = .int .i64 r ∧ Ext w w') := by
  unfold m_cmp_Compare_string at hm
  refine CallV.enter Try.func85 rfl (by kernel_rfl) Try.ntmps85 (env := [(0, .string (bs x_0)), (1, .string (bs y_1))]) ⟨rfl, rfl, trivial⟩ ?_
  refine WP.seq (fun K1 hK1 => ?_)
  refine WP.region ?_
  refine WL.runk 1 [0, 1] [(0, .string (bs x_0)), (1, .string (bs y_1))] (by kernel_rfl) ?_
  refine WL.nil ?_
  refine WQ.then_normal (hK1 _ _ _ ?_)
  refine WP.seq (fun K2 hK2 => ?_)
  refine WP.region ?_
  refine WL.runk 1 [0, 1, 7] [(0, .string (bs x_0)), (1, .string (bs y_1)), (7, .string (bs x_0))] (by kernel_rfl) ?_
  obtain ⟨x3, hx4, hm⟩ := bindE hm
  refine WL.call 94 #[.string (bs x_0)] rfl rfl (by kernel_rfl) (c_94 n x_0 w hx4 ) ?_
  rintro _ w5 ⟨rfl, hE6⟩
  refine ⟨_, rfl, ?_⟩
  have hb8 : Ext w w5 := Ext.trans (Ext.refl w) hE6
  have hL9 : w.heap.size ≤ w5.heap.size := Nat.le_trans (Nat.le_refl _) hE6.size
  have hS10 : SH w5 w.heap.size [] := SH.ext (SH.nil _ _) hE6
  refine WL.runk 1 [0, 1, 5] [(0, .string (bs x_0)), (1, .string (bs y_1)), (5, .bool x3)] (by kernel_rfl) ?_
  refine WL.nil ?_
  refine WQ.then_normal (hK2 _ _ _ ?_)
  refine WP.seq (fun K11 hK11 => ?_)
  refine WP.region ?_
  refine WL.runk 1 [0, 1, 5, 9] [(0, .string (bs x_0)), (1, .string (bs y_1)), (5, .bool x3), (9, .string (bs y_1))] (by kernel_rfl) ?_
  obtain ⟨x12, hx13, hm⟩ := bindE hm
  refine WL.call 94 #[.string (bs y_1)] rfl rfl (by kernel_rfl) (c_94 n y_1 w5 hx13 ) ?_
  rintro _ w14 ⟨rfl, hE15⟩
  refine ⟨_, rfl, ?_⟩
  have hb17 : Ext w w14 := Ext.trans hb8 hE15
  have hL18 : w.heap.size ≤ w14.heap.size := Nat.le_trans hL9 hE15.size
  have hS19 : SH w14 w.heap.size [] := SH.ext hS10 hE15
  refine WL.runk 1 [0, 1, 5, 6] [(0, .string (bs x_0)), (1, .string (bs y_1)), (5, .bool x3), (6, .bool x12)] (by kernel_rfl) ?_
  refine WL.nil ?_
  refine WQ.then_normal (hK11 _ _ _ ?_)
  refine WP.seq (fun K20 hK20 => ?_)
  refine WP.seq (fun K21 hK21 => ?_)
  refine WP.region ?_
  refine WL.runk 1 [0, 1, 6, 11] [(0, .string (bs x_0)), (1, .string (bs y_1)), (6, .bool x12), (11, .bool x3)] (by kernel_rfl) ?_
  refine WL.nil ?_
  refine WQ.then_normal (hK21 _ _ _ ?_)
  refine WP.cond x3 rfl rfl (fun hc22 => ?_) (fun hc22 => ?_)
  · have hm := iteT hm hc22
    refine WP.seq (fun K23 hK23 => ?_)
    refine WP.seq (fun K24 hK24 => ?_)
    refine WP.region ?_
    refine WL.runk 1 [12] [(12, .bool x12)] (by kernel_rfl) ?_
    refine WL.nil ?_
    refine WQ.then_normal (hK24 _ _ _ ?_)
    refine WP.cond x12 rfl rfl (fun hc25 => ?_) (fun hc25 => ?_)
    · have hm := iteT hm hc25
      refine WP.seq (fun K26 hK26 => ?_)
      refine WP.region ?_
      refine WL.runk 1 [4] [(4, .int .i64 0)] (by kernel_rfl) ?_
      refine WL.nil ?_
      refine WQ.then_normal (hK26 _ _ _ ?_)
      refine WP.ret ?_
      refine WQ.then_ret ?_
      refine WQ.then_ret ?_
      obtain rfl := Option.some.inj hm
      exact WQ.ret1 _ rfl rfl ⟨rfl, hb17⟩
    have hm := iteF hm hc25
    refine WP.skip ?_
    refine WQ.then_normal (hK23 _ _ _ ?_)
    refine WP.seq (fun K27 hK27 => ?_)
    refine WP.region ?_
    refine WL.runk 1 [4] [(4, .int .i64 (-1))] (by kernel_rfl) ?_
    refine WL.nil ?_
    refine WQ.then_normal (hK27 _ _ _ ?_)
    refine WP.ret ?_
    refine WQ.then_ret ?_
    obtain rfl := Option.some.inj hm
    exact WQ.ret1 _ rfl rfl ⟨rfl, hb17⟩
  have hm := iteF hm hc22
  refine WP.skip ?_
  refine WQ.then_normal (hK20 _ _ _ ?_)
  refine WP.seq (fun K28 hK28 => ?_)
  refine WP.seq (fun K29 hK29 => ?_)
  refine WP.region ?_
  refine WL.runk 1 [0, 1, 13] [(0, .string (bs x_0)), (1, .string (bs y_1)), (13, .bool x12)] (by kernel_rfl) ?_
  refine WL.nil ?_
  refine WQ.then_normal (hK29 _ _ _ ?_)
  refine WP.cond x12 rfl rfl (fun hc30 => ?_) (fun hc30 => ?_)
  · have hm := iteT hm hc30
    refine WP.seq (fun K31 hK31 => ?_)
    refine WP.region ?_
    refine WL.runk 1 [4] [(4, .int .i64 1)] (by kernel_rfl) ?_
    refine WL.nil ?_
    refine WQ.then_normal (hK31 _ _ _ ?_)
    refine WP.ret ?_
    refine WQ.then_ret ?_
    obtain rfl := Option.some.inj hm
    exact WQ.ret1 _ rfl rfl ⟨rfl, hb17⟩
  have hm := iteF hm hc30
  refine WP.skip ?_
  refine WQ.then_normal (hK28 _ _ _ ?_)
  refine WP.seq (fun K32 hK32 => ?_)
  refine WP.seq (fun K33 hK33 => ?_)
  refine WP.region ?_
  refine WL.runk 2 [0, 1, 14, 15] [(0, .string (bs x_0)), (1, .string (bs y_1)), (14, .string (bs x_0)), (15, .string (bs y_1))] (by kernel_rfl) ?_
  refine WL.st (.bool (strLt x_0 y_1)) (ST.strlt (x := x_0) (y := y_1) rfl rfl rfl) rfl rfl rfl ?_
  refine WL.sub [(0, .string (bs x_0)), (1, .string (bs y_1)), (16, .bool (strLt x_0 y_1))] ⟨rfl, rfl, rfl, trivial⟩ ?_
  refine WL.nil ?_
  refine WQ.then_normal (hK33 _ _ _ ?_)
  refine WP.cond (strLt x_0 y_1) rfl rfl (fun hc34 => ?_) (fun hc34 => ?_)
  · have hm := iteT hm hc34
    refine WP.seq (fun K35 hK35 => ?_)
    refine WP.region ?_
    refine WL.runk 1 [4] [(4, .int .i64 (-1))] (by kernel_rfl) ?_
    refine WL.nil ?_
    refine WQ.then_normal (hK35 _ _ _ ?_)
    refine WP.ret ?_
    refine WQ.then_ret ?_
    obtain rfl := Option.some.inj hm
    exact WQ.ret1 _ rfl rfl ⟨rfl, hb17⟩
  have hm := iteF hm hc34
  refine WP.skip ?_
  refine WQ.then_normal (hK32 _ _ _ ?_)
  refine WP.seq (fun K36 hK36 => ?_)
  refine WP.seq (fun K37 hK37 => ?_)
  refine WP.region ?_
  refine WL.runk 2 [17, 18] [(17, .string (bs x_0)), (18, .string (bs y_1))] (by kernel_rfl) ?_
  refine WL.st (.bool (!(strLt x_0 y_1 || x_0 == y_1))) (ST.strgt (x := x_0) (y := y_1) rfl rfl rfl) rfl rfl rfl ?_
  refine WL.sub [(19, .bool (!(strLt x_0 y_1 || x_0 == y_1)))] ⟨rfl, trivial⟩ ?_
  refine WL.nil ?_
  refine WQ.then_normal (hK37 _ _ _ ?_)
  refine WP.cond (!(strLt x_0 y_1 || x_0 == y_1)) rfl rfl (fun hc38 => ?_) (fun hc38 => ?_)
  · have hm := iteT hm hc38
    refine WP.seq (fun K39 hK39 => ?_)
    refine WP.region ?_
    refine WL.runk 1 [4] [(4, .int .i64 1)] (by kernel_rfl) ?_
    refine WL.nil ?_
    refine WQ.then_normal (hK39 _ _ _ ?_)
    refine WP.ret ?_
    refine WQ.then_ret ?_
    obtain rfl := Option.some.inj hm
    exact WQ.ret1 _ rfl rfl ⟨rfl, hb17⟩
  have hm := iteF hm hc38
  refine WP.skip ?_
  refine WQ.then_normal (hK36 _ _ _ ?_)
  refine WP.seq (fun K40 hK40 => ?_)
  refine WP.region ?_
  refine WL.runk 1 [4] [(4, .int .i64 0)] (by kernel_rfl) ?_
  refine WL.nil ?_
  refine WQ.then_normal (hK40 _ _ _ ?_)
  refine WP.ret ?_
  obtain rfl := Option.some.inj hm
  exact WQ.ret1 _ rfl rfl ⟨rfl, hb17⟩

theorem c_84 (n : Nat) (g_0 : SGood) (name_1 : List UInt8) (w : World) {r : Int} (hm : m_impl_goodPlace_1 n g_0 name_1 = some r)  :
    CallV Try.prog 84 #[.agg #[.string (bs g_0.Name), .int .i64 g_0.OnHand, .int .i64 g_0.Reserved, .int .i64 g_0.Least], .string (bs name_1)] w (fun v w' => v = .int .i64 r ∧ Ext w w') := by
  unfold m_impl_goodPlace_1 at hm
  refine CallV.enter Try.func84 rfl (by kernel_rfl) Try.ntmps84 (env := [(0, .agg #[.string (bs g_0.Name), .int .i64 g_0.OnHand, .int .i64 g_0.Reserved, .int .i64 g_0.Least]), (1, .string (bs name_1))]) ⟨rfl, rfl, trivial⟩ ?_
  refine WP.seq (fun K1 hK1 => ?_)
  refine WP.region ?_
  refine WL.box 56 [.string (bs g_0.Name), .int .i64 g_0.OnHand, .int .i64 g_0.Reserved, .int .i64 g_0.Least] 2 (by kernel_rfl) rfl rfl rfl rfl ?_
  intro b2 w3 hE4 hR5
  have hb7 : Ext w w3 := Ext.trans (Ext.refl w) hE4
  have hL8 : w.heap.size ≤ w3.heap.size := Nat.le_trans (Nat.le_refl _) hE4.size
  have hS9 : SH w3 w.heap.size [aBox 56 b2 [.string (bs g_0.Name), .int .i64 g_0.OnHand, .int .i64 g_0.Reserved, .int .i64 g_0.Least]] := SH.add (SH.nil _ _) hE4 (Nat.le_refl _) hR5
  refine WL.runk 1 [1, 2] [(1, .string (bs name_1)), (2, .pointer (some ⟨b2, 0, none⟩))] (by kernel_rfl) ?_
  refine WL.nil ?_
  refine WQ.then_normal (hK1 _ _ _ ?_)
  refine WP.seq (fun K10 hK10 => ?_)
  refine WP.region ?_
  refine WL.runk 1 [1, 5] [(1, .string (bs name_1)), (5, .pointer (some ⟨b2, 0, none⟩))] (by kernel_rfl) ?_
  refine WL.st (.string (bs g_0.Name)) (ST.load (cell_ext (SH.boxAt (SH.front 0 hS9) 0 _ rfl)) rfl rfl Try.underlying9 rfl) rfl rfl rfl ?_
  refine WL.runk 1 [6, 7] [(6, .string (bs g_0.Name)), (7, .string (bs name_1))] (by kernel_rfl) ?_
  obtain ⟨x11, hx12, hm⟩ := bindE hm
  refine WL.call 85 #[.string (bs g_0.Name), .string (bs name_1)] rfl rfl (by kernel_rfl) (c_85 n g_0.Name name_1 w3 hx12 ) ?_
  rintro _ w13 ⟨rfl, hE14⟩
  refine ⟨_, rfl, ?_⟩
  have hb16 : Ext w w13 := Ext.trans hb7 hE14
  have hL17 : w.heap.size ≤ w13.heap.size := Nat.le_trans hL8 hE14.size
  have hS18 : SH w13 w.heap.size [aBox 56 b2 [.string (bs g_0.Name), .int .i64 g_0.OnHand, .int .i64 g_0.Reserved, .int .i64 g_0.Least]] := SH.ext hS9 hE14
  refine WL.runk 1 [4] [(4, .int .i64 x11)] (by kernel_rfl) ?_
  refine WL.nil ?_
  refine WQ.then_normal (hK10 _ _ _ ?_)
  refine WP.ret ?_
  obtain rfl := Option.some.inj hm
  exact WQ.ret1 _ rfl rfl ⟨rfl, hb16⟩

theorem c_83_84 (n : Nat) (x_0 : List SGood) (a0' : Option Addr) (c0' : Nat) (target_1 : List UInt8) (w : World) {r : Int × Bool} (hm : m_slices_BinarySearchFunc_impl_Good_impl_Good_string_f84 n x_0 target_1 = some r) (h0 : Rd fGood.ty w a0' x_0) (_hle0 : x_0.length ≤ c0') :
    CallV Try.prog 83 #[.slice a0' x_0.length c0', .string (bs target_1), .func (.func 84) #[] #[]] w (fun v w' => v = .tuple #[.int .i64 r.1, .bool r.2] ∧ Ext w w') := by
  unfold m_slices_BinarySearchFunc_impl_Good_impl_Good_string_f84 at hm
  refine CallV.enter Try.func83 rfl (by kernel_rfl) Try.ntmps83 (env := [(0, .slice a0' x_0.length c0'), (1, .string (bs target_1)), (2, .func (.func 84) #[] #[])]) ⟨rfl, rfl, rfl, trivial⟩ ?_
  refine WP.seq (fun K1 hK1 => ?_)
  refine WP.region ?_
  refine WL.runk 2 [0, 1, 2] [(0, .slice a0' x_0.length c0'), (1, .string (bs target_1)), (2, .func (.func 84) #[] #[])] (by kernel_rfl) ?_
  refine WL.nil ?_
  refine WQ.then_normal (hK1 _ _ _ ?_)
  refine WP.seq (fun K2 hK2 => ?_)
  refine WP.region ?_
  refine WL.runk 3 [0, 1, 2, 8] [(0, .slice a0' x_0.length c0'), (1, .string (bs target_1)), (2, .func (.func 84) #[] #[]), (8, .int .i64 (x_0.length : Int))] (by kernel_rfl) ?_
  refine WL.nil ?_
  refine WQ.then_normal (hK2 _ _ _ ?_)
  refine WP.seq (fun K3 hK3 => ?_)
  refine WP.region ?_
  refine WL.runk 3 [0, 1, 2, 8, 9, 10] [(0, .slice a0' x_0.length c0'), (1, .string (bs target_1)), (2, .func (.func 84) #[] #[]), (8, .int .i64 (x_0.length : Int)), (9, .int .i64 0), (10, .int .i64 (x_0.length : Int))] (by kernel_rfl) ?_
  refine WL.nil ?_
  refine WQ.then_normal (hK3 _ _ _ ?_)
  refine WP.seq (fun K4 hK4 => ?_)
  refine WP.block ?_
  obtain ⟨t16, ht17, hm⟩ := bindE hm
  have hmo11 := hm; clear hm
  refine WP.sub [(0, .slice a0' x_0.length c0'), (1, .string (bs target_1)), (2, .func (.func 84) #[] #[]), (8, .int .i64 (x_0.length : Int)), (9, .int .i64 0), (10, .int .i64 (x_0.length : Int))] ⟨rfl, rfl, rfl, rfl, rfl, rfl, trivial⟩ ?_
  refine WP.loop (fun n' env' w' => ∃ (st5 : Int × Int) , env' = [(0, .slice a0' x_0.length c0'), (1, .string (bs target_1)), (2, .func (.func 84) #[] #[]), (8, .int .i64 (x_0.length : Int)), (9, .int .i64 st5.1), (10, .int .i64 st5.2)] ∧ Ext w w' ∧ w.heap.size ≤ w'.heap.size ∧ SH w' w.heap.size [] ∧ loopN (m_slices_BinarySearchFunc_impl_Good_impl_Good_string_f84_l1 n x_0 target_1) n' st5 = some t16) n ⟨(0, (x_0.length : Int)), rfl, (Ext.refl w), (Nat.le_refl _), (SH.nil _ _), ht17⟩ ?_
  rintro n13 _ w6 ⟨st5, rfl, hb7, hL8, hS9, hl10⟩ K12 hK12
  obtain ⟨n14, s15, rfl, hm, hl10⟩ := loopN_some hl10
  unfold m_slices_BinarySearchFunc_impl_Good_impl_Good_string_f84_l1 at hm
  refine WP.seq (fun K18 hK18 => ?_)
  refine WP.seq (fun K19 hK19 => ?_)
  refine WP.region ?_
  refine WL.runk 3 [0, 1, 2, 8, 9, 10, 17] [(0, .slice a0' x_0.length c0'), (1, .string (bs target_1)), (2, .func (.func 84) #[] #[]), (8, .int .i64 (x_0.length : Int)), (9, .int .i64 st5.1), (10, .int .i64 st5.2), (17, .bool (decide (st5.1 < st5.2)))] (by kernel_rfl) ?_
  refine WL.nil ?_
  refine WQ.then_normal (hK19 _ _ _ ?_)
  refine WP.cond (decide (st5.1 < st5.2)) rfl rfl (fun hc20 => ?_) (fun hc20 => ?_)
  rotate_left
  · have hm := iteF hm hc20
    refine WP.exit ?_
    refine WQ.then_exit ?_
    refine WQ.then_exit ?_
    refine WQ.block_here ?_
    obtain rfl := Option.some.inj hm
    obtain rfl := afterN_done hl10
    have hm := hmo11
    refine WQ.then_normal (hK4 _ _ _ ?_)
    refine WP.seq (fun K42 hK42 => ?_)
    obtain ⟨x54, hx55, hm⟩ := bindE hm
    refine WP.cut (fun env' w' => env' = [(6, .int .i64 x54.1), (7, .bool x54.2)] ∧ Ext w w' ∧ w.heap.size ≤ w'.heap.size ∧ SH w' w.heap.size []) ?_ ?_
    rotate_left
    · clear hx55
      rintro _ w67 ⟨rfl, hb68, hL69, hS70⟩
      refine WQ.then_normal (hK42 _ _ _ ?_)
      refine WP.ret ?_
      obtain rfl := Option.some.inj hm
      exact WQ.ret2 _ _ rfl rfl rfl ⟨rfl, hb68⟩
    have hm := hx55; clear hx55
    refine WP.region ?_
    refine WL.runk 5 [0, 1, 2, 9, 35, 39] [(0, .slice a0' x_0.length c0'), (1, .string (bs target_1)), (2, .func (.func 84) #[] #[]), (9, .int .i64 st5.1), (35, .int .i64 st5.1), (39, .bool (decide (st5.1 < (x_0.length : Int))))] (by kernel_rfl) ?_
    refine WL.case (decide (st5.1 < (x_0.length : Int))) [39] ⟨rfl, trivial⟩ (fun hc56 => ?_) (fun hc56 => ?_)
    rotate_left
    · have hm := iteF hm hc56
      refine WL.runk 11 [6, 7] [(6, .int .i64 st5.1), (7, .bool false)] (by kernel_rfl) ?_
      refine WL.nil ?_
      obtain rfl := Option.some.inj hm
      exact WQ.post' ⟨rfl, hb7, hL8, hS9⟩ ⟨rfl, rfl, trivial⟩
    have hm := iteT hm hc56
    refine WL.runk 3 [1, 35, 39, 40, 41, 42] [(1, .string (bs target_1)), (35, .int .i64 st5.1), (39, .bool true), (40, .func (.func 84) #[] #[]), (41, .slice a0' x_0.length c0'), (42, .int .i64 st5.1)] (by kernel_rfl) ?_
    obtain ⟨x57, hx58, hm⟩ := bindE hm
    refine WL.st (.pointer (some (at_ a0' (Int.toNat st5.1 * 4)))) (ST.index (T := fGood.ty) (xs := x_0) (Rd.below h0 hb7) hx58 rfl rfl rfl Try.underlying25 (info56).1 (info56).2.1) rfl rfl rfl ?_
    refine WL.st (.agg #[.string (bs x57.Name), .int .i64 x57.OnHand, .int .i64 x57.Reserved, .int .i64 x57.Least]) (ST.loadAgg (vs := fGood.leaf x57) (fun j v hv => Rd.flatA (F := fGood) (Rd.below h0 hb7) hx58 j hv) rfl rfl rfl Try.underlying56 rfl (info56).1 (info56).2.1) rfl rfl rfl ?_
    refine WL.runk 1 [35, 39, 40, 44, 45] [(35, .int .i64 st5.1), (39, .bool true), (40, .func (.func 84) #[] #[]), (44, .agg #[.string (bs x57.Name), .int .i64 x57.OnHand, .int .i64 x57.Reserved, .int .i64 x57.Least]), (45, .string (bs target_1))] (by kernel_rfl) ?_
    obtain ⟨x59, hx60, hm⟩ := bindE hm
    refine WL.call 84 #[.agg #[.string (bs x57.Name), .int .i64 x57.OnHand, .int .i64 x57.Reserved, .int .i64 x57.Least], .string (bs target_1)] rfl rfl (by kernel_rfl) (c_84 n x57 target_1 w6 hx60 ) ?_
    rintro _ w61 ⟨rfl, hE62⟩
    refine ⟨_, rfl, ?_⟩
    have hb64 : Ext w w61 := Ext.trans hb7 hE62
    have hL65 : w.heap.size ≤ w61.heap.size := Nat.le_trans hL8 hE62.size
    have hS66 : SH w61 w.heap.size [] := SH.ext hS9 hE62
    refine WL.runk 4 [6, 7] [(6, .int .i64 st5.1), (7, .bool (x59 == 0))] (by kernel_rfl) ?_
    refine WL.nil ?_
    obtain rfl := Option.some.inj hm
    exact WQ.post' ⟨rfl, hb64, hL65, hS66⟩ ⟨rfl, rfl, trivial⟩
  have hm := iteT hm hc20
  refine WP.skip ?_
  refine WQ.then_normal (hK18 _ _ _ ?_)
  refine WP.block ?_
  refine WP.seq (fun K21 hK21 => ?_)
  refine WP.region ?_
  refine WL.runk 4 [0, 1, 2, 8, 9, 10, 21] [(0, .slice a0' x_0.length c0'), (1, .string (bs target_1)), (2, .func (.func 84) #[] #[]), (8, .int .i64 (x_0.length : Int)), (9, .int .i64 st5.1), (10, .int .i64 st5.2), (21, .int .u64 (IntKind.u64.wrap (wI64 (st5.1 + st5.2))))] (by kernel_rfl) ?_
  obtain ⟨x22, hx23, hm⟩ := bindE hm
  refine WL.st (.int .u64 x22) (ST.shr (k := .u64) hx23 rfl rfl rfl) rfl rfl rfl ?_
  refine WL.runk 2 [0, 1, 2, 8, 9, 10, 11] [(0, .slice a0' x_0.length c0'), (1, .string (bs target_1)), (2, .func (.func 84) #[] #[]), (8, .int .i64 (x_0.length : Int)), (9, .int .i64 st5.1), (10, .int .i64 st5.2), (11, .int .i64 (wI64 x22))] (by kernel_rfl) ?_
  refine WL.nil ?_
  refine WQ.then_normal (hK21 _ _ _ ?_)
  refine WP.seq (fun K24 hK24 => ?_)
  refine WP.region ?_
  refine WL.runk 3 [0, 1, 2, 8, 9, 10, 11, 24, 25, 26] [(0, .slice a0' x_0.length c0'), (1, .string (bs target_1)), (2, .func (.func 84) #[] #[]), (8, .int .i64 (x_0.length : Int)), (9, .int .i64 st5.1), (10, .int .i64 st5.2), (11, .int .i64 (wI64 x22)), (24, .func (.func 84) #[] #[]), (25, .slice a0' x_0.length c0'), (26, .int .i64 (wI64 x22))] (by kernel_rfl) ?_
  obtain ⟨x25, hx26, hm⟩ := bindE hm
  refine WL.st (.pointer (some (at_ a0' (Int.toNat (wI64 x22) * 4)))) (ST.index (T := fGood.ty) (xs := x_0) (Rd.below h0 hb7) hx26 rfl rfl rfl Try.underlying25 (info56).1 (info56).2.1) rfl rfl rfl ?_
  refine WL.st (.agg #[.string (bs x25.Name), .int .i64 x25.OnHand, .int .i64 x25.Reserved, .int .i64 x25.Least]) (ST.loadAgg (vs := fGood.leaf x25) (fun j v hv => Rd.flatA (F := fGood) (Rd.below h0 hb7) hx26 j hv) rfl rfl rfl Try.underlying56 rfl (info56).1 (info56).2.1) rfl rfl rfl ?_
  refine WL.runk 1 [0, 1, 2, 8, 9, 10, 11, 24, 28, 29] [(0, .slice a0' x_0.length c0'), (1, .string (bs target_1)), (2, .func (.func 84) #[] #[]), (8, .int .i64 (x_0.length : Int)), (9, .int .i64 st5.1), (10, .int .i64 st5.2), (11, .int .i64 (wI64 x22)), (24, .func (.func 84) #[] #[]), (28, .agg #[.string (bs x25.Name), .int .i64 x25.OnHand, .int .i64 x25.Reserved, .int .i64 x25.Least]), (29, .string (bs target_1))] (by kernel_rfl) ?_
  obtain ⟨x27, hx28, hm⟩ := bindE hm
  refine WL.call 84 #[.agg #[.string (bs x25.Name), .int .i64 x25.OnHand, .int .i64 x25.Reserved, .int .i64 x25.Least], .string (bs target_1)] rfl rfl (by kernel_rfl) (c_84 n x25 target_1 w6 hx28 ) ?_
  rintro _ w29 ⟨rfl, hE30⟩
  refine ⟨_, rfl, ?_⟩
  have hb32 : Ext w w29 := Ext.trans hb7 hE30
  have hL33 : w.heap.size ≤ w29.heap.size := Nat.le_trans hL8 hE30.size
  have hS34 : SH w29 w.heap.size [] := SH.ext hS9 hE30
  refine WL.runk 1 [0, 1, 2, 8, 9, 10, 11, 31] [(0, .slice a0' x_0.length c0'), (1, .string (bs target_1)), (2, .func (.func 84) #[] #[]), (8, .int .i64 (x_0.length : Int)), (9, .int .i64 st5.1), (10, .int .i64 st5.2), (11, .int .i64 (wI64 x22)), (31, .bool (decide (x27 < 0)))] (by kernel_rfl) ?_
  refine WL.nil ?_
  refine WQ.then_normal (hK24 _ _ _ ?_)
  obtain ⟨x36, hx37, hm⟩ := bindE hm
  refine WP.cut (fun env' w' => env' = [(0, .slice a0' x_0.length c0'), (1, .string (bs target_1)), (2, .func (.func 84) #[] #[]), (8, .int .i64 (x_0.length : Int)), (9, .int .i64 x36.1), (10, .int .i64 x36.2)] ∧ Ext w w' ∧ w.heap.size ≤ w'.heap.size ∧ SH w' w.heap.size []) ?_ ?_
  rotate_left
  · clear hx37
    rintro _ w38 ⟨rfl, hb39, hL40, hS41⟩
    refine WQ.block_normal ?_
    obtain rfl := Option.some.inj hm
    exact WQ.round hK12 ⟨(x36.1, x36.2), rfl, hb39, hL40, hS41, hl10⟩ (Nat.lt_succ_self _) ⟨rfl, rfl, rfl, rfl, rfl, rfl, trivial⟩
  have hm := hx37; clear hx37
  refine WP.cond (decide (x27 < 0)) rfl rfl (fun hc35 => ?_) (fun hc35 => ?_)
  · have hm := iteT hm hc35
    refine WP.region ?_
    refine WL.runk 3 [0, 1, 2, 8, 9, 10] [(0, .slice a0' x_0.length c0'), (1, .string (bs target_1)), (2, .func (.func 84) #[] #[]), (8, .int .i64 (x_0.length : Int)), (9, .int .i64 (wI64 ((wI64 x22) + 1))), (10, .int .i64 st5.2)] (by kernel_rfl) ?_
    refine WL.nil ?_
    obtain rfl := Option.some.inj hm
    exact WQ.post' ⟨rfl, hb32, hL33, hS34⟩ ⟨rfl, rfl, rfl, rfl, rfl, rfl, trivial⟩
  have hm := iteF hm hc35
  refine WP.region ?_
  refine WL.runk 2 [0, 1, 2, 8, 9, 10] [(0, .slice a0' x_0.length c0'), (1, .string (bs target_1)), (2, .func (.func 84) #[] #[]), (8, .int .i64 (x_0.length : Int)), (9, .int .i64 st5.1), (10, .int .i64 (wI64 x22))] (by kernel_rfl) ?_
  refine WL.nil ?_
  obtain rfl := Option.some.inj hm
  exact WQ.post' ⟨rfl, hb32, hL33, hS34⟩ ⟨rfl, rfl, rfl, rfl, rfl, rfl, trivial⟩

theorem c_68 (n : Nat) (list_0 : List SGood) (a0' : Option Addr) (c0' : Nat) (name_1 : List UInt8) (w : World) {r : Int × Bool} (hm : m_impl_goodPlace n list_0 name_1 = some r) (h0 : Rd fGood.ty w a0' list_0) (hle0 : list_0.length ≤ c0') :
    CallV Try.prog 68 #[.slice a0' list_0.length c0', .string (bs name_1)] w (fun v w' => v = .tuple #[.int .i64 r.1, .bool r.2] ∧ Ext w w') := by
  unfold m_impl_goodPlace at hm
  refine CallV.enter Try.func68 rfl (by kernel_rfl) Try.ntmps68 (env := [(0, .slice a0' list_0.length c0'), (1, .string (bs name_1))]) ⟨rfl, rfl, trivial⟩ ?_
  refine WP.seq (fun K1 hK1 => ?_)
  refine WP.region ?_
  refine WL.runk 2 [0, 1] [(0, .slice a0' list_0.length c0'), (1, .string (bs name_1))] (by kernel_rfl) ?_
  refine WL.nil ?_
  refine WQ.then_normal (hK1 _ _ _ ?_)
  refine WP.seq (fun K2 hK2 => ?_)
  refine WP.region ?_
  refine WL.runk 2 [6, 7] [(6, .slice a0' list_0.length c0'), (7, .string (bs name_1))] (by kernel_rfl) ?_
  obtain ⟨x3, hx4, hm⟩ := bindE hm
  refine WL.call 83 #[.slice a0' list_0.length c0', .string (bs name_1), .func (.func 84) #[] #[]] rfl rfl (by kernel_rfl) (c_83_84 n list_0 a0' c0' name_1 w hx4 (Rd.below h0 (Ext.refl w)) hle0) ?_
  rintro _ w5 ⟨rfl, hE6⟩
  refine ⟨_, rfl, ?_⟩
  have hb8 : Ext w w5 := Ext.trans (Ext.refl w) hE6
  have hL9 : w.heap.size ≤ w5.heap.size := Nat.le_trans (Nat.le_refl _) hE6.size
  have hS10 : SH w5 w.heap.size [] := SH.ext (SH.nil _ _) hE6
  refine WL.runk 4 [4, 5] [(4, .int .i64 x3.1), (5, .bool x3.2)] (by kernel_rfl) ?_
  refine WL.nil ?_
  refine WQ.then_normal (hK2 _ _ _ ?_)
  refine WP.ret ?_
  obtain rfl := Option.some.inj hm
  exact WQ.ret2 _ _ rfl rfl rfl ⟨rfl, hb8⟩

theorem c_58 (n : Nat) (s_0 : List SGood) (a0' : Option Addr) (c0' : Nat) (w : World) {r : List SGood} (hm : m_slices_Clone_impl_Good_impl_Good n s_0 = some r) (h0 : Rd fGood.ty w a0' s_0) (_hle0 : s_0.length ≤ c0') :
    CallV Try.prog 58 #[.slice a0' s_0.length c0'] w (fun v w' => ∃ (ra0 : Option Addr) (rc0 : Nat), v = .slice ra0 r.length rc0 ∧ Ext w w' ∧ SH w' w.heap.size [aOwn fGood 56 ra0 rc0 r]) := by
  unfold m_slices_Clone_impl_Good_impl_Good at hm
  rcases a0' with _ | a0'
  · obtain rfl : s_0 = [] := by
      cases s_0 with
      | nil => rfl
      | cons x t => exact absurd (h0 0 x rfl).1 (by simp)
    obtain rfl : ([] : List SGood) = r := by simpa [app] using hm
    refine CallV.enter Try.func58 rfl (by kernel_rfl) Try.ntmps58 (env := [(0, .slice none 0 c0')]) ⟨rfl, trivial⟩ ?_
    refine WP.seq (fun K1 hK1 => ?_)
    refine WP.region ?_
    refine WL.runk 1 [0] [(0, .slice none 0 c0')] (by kernel_rfl) ?_
    refine WL.nil ?_
    refine WQ.then_normal (hK1 _ _ _ ?_)
    refine WP.seq (fun K2 hK2 => ?_)
    refine WP.seq (fun K3 hK3 => ?_)
    refine WP.region ?_
    refine WL.runk 2 [4] [(4, .bool true)] (by kernel_rfl) ?_
    refine WL.nil ?_
    refine WQ.then_normal (hK3 _ _ _ ?_)
    refine WP.cond true rfl rfl (fun _ => ?_) (fun hc4 => ?_)
    rotate_left
    · cases hc4
    refine WP.seq (fun K5 hK5 => ?_)
    refine WP.region ?_
    refine WL.runk 1 [2] [(2, .slice none 0 0)] (by kernel_rfl) ?_
    refine WL.nil ?_
    refine WQ.then_normal (hK5 _ _ _ ?_)
    refine WP.ret ?_
    refine WQ.then_ret ?_
    have hS7 : SH w w.heap.size [aOwn fGood 56 none 0 ([] : List SGood)] := SH.nilOwn (SH.nil _ _)
    exact WQ.ret1 _ rfl rfl ⟨_, _, rfl, (Ext.refl w), hS7⟩
  refine CallV.enter Try.func58 rfl (by kernel_rfl) Try.ntmps58 (env := [(0, .slice (some a0') s_0.length c0')]) ⟨rfl, trivial⟩ ?_
  refine WP.seq (fun K1 hK1 => ?_)
  refine WP.region ?_
  refine WL.runk 1 [0] [(0, .slice (some a0') s_0.length c0')] (by kernel_rfl) ?_
  refine WL.nil ?_
  refine WQ.then_normal (hK1 _ _ _ ?_)
  refine WP.seq (fun K2 hK2 => ?_)
  refine WP.seq (fun K3 hK3 => ?_)
  refine WP.region ?_
  refine WL.runk 2 [0, 4] [(0, .slice (some a0') s_0.length c0'), (4, .bool false)] (by kernel_rfl) ?_
  refine WL.nil ?_
  refine WQ.then_normal (hK3 _ _ _ ?_)
  refine WP.cond false rfl rfl (fun hc4 => ?_) (fun _ => ?_)
  · cases hc4
  refine WP.skip ?_
  refine WQ.then_normal (hK2 _ _ _ ?_)
  refine WP.seq (fun K8 hK8 => ?_)
  refine WP.region ?_
  refine WL.row fGood 56 ([] : List SGood) 0 #[] 5 (by kernel_rfl) rfl rfl rfl rfl rfl rfl rfl ?_
  intro a9 c10 w11 hE12 hR13
  have hb15 : Ext w w11 := Ext.trans (Ext.refl w) hE12
  have hL16 : w.heap.size ≤ w11.heap.size := Nat.le_trans (Nat.le_refl _) hE12.size
  have hS17 : SH w11 w.heap.size [aOwn fGood 56 a9 c10 ([] : List SGood)] := SH.add (SH.nil _ _) hE12 (Nat.le_refl _) hR13
  refine WL.runk 1 [5, 6] [(5, .slice a9 (([] : List SGood).length) c10), (6, .slice (some a0') s_0.length c0')] (by kernel_rfl) ?_
  obtain ⟨x18, hx19, hm⟩ := bindE hm
  refine WL.append (F := fGood) (xs := ([] : List SGood)) (ys := s_0) 7 (SH.front 0 hS17) hL16 (Rd.below h0 hb15) hx19 rfl rfl rfl Try.underlying25 (info56).1 (info56).2.2.1 (info56).2.1 (info56).2.2.2 rfl rfl rfl rfl rfl ?_
  intro a20 c21 w22 hB23 hS24
  have hb25 : Ext w w22 := Below.trans hb15 hB23
  refine WL.runk 1 [2] [(2, .slice a20 x18.length c21)] (by kernel_rfl) ?_
  refine WL.nil ?_
  refine WQ.then_normal (hK8 _ _ _ ?_)
  refine WP.ret ?_
  obtain rfl := Option.some.inj hm
  exact WQ.ret1 _ rfl rfl ⟨_, _, rfl, hb25, hS24⟩

theorem c_28 (n : Nat) (a_0 : List SGood) (a0' : Option Addr) (c0' : Nat) (k_1 : Int) (w : World) {r : Int} (hm : m_laws_heldGoodS n a_0 k_1 = some r) (h0 : Rd fGood.ty w a0' a_0) (_hle0 : a_0.length ≤ c0') :
    CallV Try.prog 28 #[.slice a0' a_0.length c0', .int .i64 k_1] w (fun v w' => v = .int .i64 r ∧ Ext w w') := by
  unfold m_laws_heldGoodS at hm
  refine CallV.enter Try.func28 rfl (by kernel_rfl) Try.ntmps28 (env := [(0, .slice a0' a_0.length c0'), (1, .int .i64 k_1)]) ⟨rfl, rfl, trivial⟩ ?_
  refine WP.seq (fun K1 hK1 => ?_)
  refine WP.region ?_
  refine WL.runk 1 [0, 1] [(0, .slice a0' a_0.length c0'), (1, .int .i64 k_1)] (by kernel_rfl) ?_
  refine WL.nil ?_
  refine WQ.then_normal (hK1 _ _ _ ?_)
  refine WP.seq (fun K2 hK2 => ?_)
  refine WP.seq (fun K3 hK3 => ?_)
  refine WP.region ?_
  refine WL.runk 1 [0, 1, 5] [(0, .slice a0' a_0.length c0'), (1, .int .i64 k_1), (5, .int .i64 0)] (by kernel_rfl) ?_
  refine WL.nil ?_
  refine WQ.then_normal (hK3 _ _ _ ?_)
  refine WP.block ?_
  obtain ⟨t15, ht16, hm⟩ := bindE hm
  have hmo10 := hm; clear hm
  refine WP.sub [(0, .slice a0' a_0.length c0'), (1, .int .i64 k_1), (5, .int .i64 0)] ⟨rfl, rfl, rfl, trivial⟩ ?_
  refine WP.loop (fun n' env' w' => ∃ (st4 : Int × Int) , env' = [(0, .slice a0' a_0.length c0'), (1, .int .i64 st4.1), (5, .int .i64 st4.2)] ∧ Ext w w' ∧ w.heap.size ≤ w'.heap.size ∧ SH w' w.heap.size [] ∧ loopN (m_laws_heldGoodS_l1 n a_0) n' st4 = some t15) n ⟨(k_1, 0), rfl, (Ext.refl w), (Nat.le_refl _), (SH.nil _ _), ht16⟩ ?_
  rintro n12 _ w5 ⟨st4, rfl, hb6, hL7, hS8, hl9⟩ K11 hK11
  obtain ⟨n13, s14, rfl, hm, hl9⟩ := loopN_some hl9
  unfold m_laws_heldGoodS_l1 at hm
  refine WP.seq (fun K17 hK17 => ?_)
  refine WP.seq (fun K18 hK18 => ?_)
  refine WP.region ?_
  refine WL.runk 4 [0, 1, 5, 9] [(0, .slice a0' a_0.length c0'), (1, .int .i64 st4.1), (5, .int .i64 st4.2), (9, .bool (decide (st4.2 < (a_0.length : Int))))] (by kernel_rfl) ?_
  refine WL.nil ?_
  refine WQ.then_normal (hK18 _ _ _ ?_)
  refine WP.cond (decide (st4.2 < (a_0.length : Int))) rfl rfl (fun hc19 => ?_) (fun hc19 => ?_)
  rotate_left
  · have hm := iteF hm hc19
    refine WP.exit ?_
    refine WQ.then_exit ?_
    refine WQ.then_exit ?_
    refine WQ.block_here ?_
    obtain rfl := Option.some.inj hm
    obtain rfl := afterN_done hl9
    have hm := hmo10
    refine WQ.then_normal (hK2 _ _ _ ?_)
    refine WP.seq (fun K57 hK57 => ?_)
    refine WP.region ?_
    refine WL.runk 2 [4] [(4, .int .i64 st4.1)] (by kernel_rfl) ?_
    refine WL.nil ?_
    refine WQ.then_normal (hK57 _ _ _ ?_)
    refine WP.ret ?_
    obtain rfl := Option.some.inj hm
    exact WQ.ret1 _ rfl rfl ⟨rfl, hb6⟩
  have hm := iteT hm hc19
  refine WP.skip ?_
  refine WQ.then_normal (hK17 _ _ _ ?_)
  refine WP.seq (fun K20 hK20 => ?_)
  refine WP.block ?_
  refine WP.seq (fun K21 hK21 => ?_)
  refine WP.seq (fun K22 hK22 => ?_)
  refine WP.quiet (by kernel_rfl) (by kernel_rfl) ?_
  refine QL.step1v 12 (.slice a0' a_0.length c0') rfl (fun _ => by kernel_rfl) ?_
  refine QL.step1v 13 (.int .i64 st4.2) rfl (fun _ => by kernel_rfl) ?_
  refine QL.subk [0, 1, 5, 12, 13] [(0, .slice a0' a_0.length c0'), (1, .int .i64 st4.1), (5, .int .i64 st4.2), (12, .slice a0' a_0.length c0'), (13, .int .i64 st4.2)] (by kernel_rfl) ?_
  obtain ⟨x23, hx24, hm⟩ := bindE hm
  refine QL.st (.pointer (some (at_ a0' (Int.toNat st4.2 * 4)))) (ST.index (T := fGood.ty) (xs := a_0) (Rd.below h0 hb6) hx24 rfl rfl rfl Try.underlying25 (info56).1 (info56).2.1) rfl rfl rfl ?_
  refine QL.step1v 15 (.pointer (some (at_ a0' (Int.toNat st4.2 * 4)))) rfl (fun _ => by kernel_rfl) ?_
  refine QL.subk [0, 1, 5, 15] [(0, .slice a0' a_0.length c0'), (1, .int .i64 st4.1), (5, .int .i64 st4.2), (15, .pointer (some (at_ a0' (Int.toNat st4.2 * 4))))] (by kernel_rfl) ?_
  refine QL.st (.string (bs x23.Name)) (ST.load (cell_ext (Rd.flat (F := fGood) (Rd.below h0 hb6) hx24 0 rfl)) rfl rfl Try.underlying9 rfl) rfl rfl rfl ?_
  refine QL.step1v 17 (.int .i64 st4.1) rfl (fun _ => by kernel_rfl) ?_
  refine QL.subk [0, 1, 5, 16, 17] [(0, .slice a0' a_0.length c0'), (1, .int .i64 st4.1), (5, .int .i64 st4.2), (16, .string (bs x23.Name)), (17, .int .i64 st4.1)] (by kernel_rfl) ?_
  obtain ⟨x25, hx26, hm⟩ := bindE hm
  refine QL.call 55 #[.int .i64 st4.1] (.string (bs x25)) (fun _ => by kernel_rfl) (fun w27 hE28 => c_55 n st4.1 w27 hx26 ) rfl rfl rfl ?_
  refine QL.st (.bool (!(x23.Name == x25))) (ST.strne (x := x23.Name) (y := x25) rfl rfl rfl) rfl rfl rfl ?_
  refine QL.subk [0, 1, 5, 19] [(0, .slice a0' a_0.length c0'), (1, .int .i64 st4.1), (5, .int .i64 st4.2), (19, .bool (!(x23.Name == x25)))] (by kernel_rfl) ?_
  refine QL.nil ?_
  intro w29 hE30
  have hb31 : Ext w w29 := Ext.trans hb6 hE30
  have hL32 : w.heap.size ≤ w29.heap.size := Nat.le_trans hL7 hE30.size
  have hS33 : SH w29 w.heap.size [] := SH.ext hS8 hE30
  refine WQ.then_normal (hK22 _ _ _ ?_)
  refine WP.cond (!(x23.Name == x25)) rfl rfl (fun hc34 => ?_) (fun hc34 => ?_)
  · have hm := iteT hm hc34
    refine WP.seq (fun K35 hK35 => ?_)
    refine WP.region ?_
    refine WL.runk 1 [4] [(4, .int .i64 (-1))] (by kernel_rfl) ?_
    refine WL.nil ?_
    refine WQ.then_normal (hK35 _ _ _ ?_)
    refine WP.ret ?_
    refine WQ.then_ret ?_
    refine WQ.block_ret ?_
    refine WQ.then_ret ?_
    refine WQ.then_ret ?_
    refine WQ.block_ret ?_
    refine WQ.then_ret ?_
    obtain rfl := Option.some.inj hm
    obtain rfl := afterN_done hl9
    have hm := hmo10
    obtain rfl := Option.some.inj hm
    exact WQ.ret1 _ rfl rfl ⟨rfl, hb31⟩
  have hm := iteF hm hc34
  refine WP.skip ?_
  refine WQ.then_normal (hK21 _ _ _ ?_)
  refine WP.seq (fun K36 hK36 => ?_)
  refine WP.region ?_
  refine WL.runk 3 [0, 1, 5] [(0, .slice a0' a_0.length c0'), (1, .int .i64 (wI64 (st4.1 + 1))), (5, .int .i64 st4.2)] (by kernel_rfl) ?_
  refine WL.nil ?_
  refine WQ.then_normal (hK36 _ _ _ ?_)
  refine WP.seq (fun K37 hK37 => ?_)
  refine WP.seq (fun K38 hK38 => ?_)
  refine WP.region ?_
  refine WL.runk 2 [0, 1, 5, 22, 23] [(0, .slice a0' a_0.length c0'), (1, .int .i64 (wI64 (st4.1 + 1))), (5, .int .i64 st4.2), (22, .slice a0' a_0.length c0'), (23, .int .i64 st4.2)] (by kernel_rfl) ?_
  obtain ⟨x39, hx40, hm⟩ := bindE hm
  refine WL.st (.pointer (some (at_ a0' (Int.toNat st4.2 * 4)))) (ST.index (T := fGood.ty) (xs := a_0) (Rd.below h0 hb31) hx40 rfl rfl rfl Try.underlying25 (info56).1 (info56).2.1) rfl rfl rfl ?_
  refine WL.runk 1 [0, 1, 5, 25] [(0, .slice a0' a_0.length c0'), (1, .int .i64 (wI64 (st4.1 + 1))), (5, .int .i64 st4.2), (25, .pointer (some (at_ a0' (Int.toNat st4.2 * 4 + 1))))] (by kernel_rfl) ?_
  refine WL.st (.int .i64 x39.OnHand) (ST.load (cell_ext (Rd.flat (F := fGood) (Rd.below h0 hb31) hx40 1 rfl)) rfl rfl Try.underlying2 rfl) rfl rfl rfl ?_
  refine WL.runk 2 [0, 1, 5, 28] [(0, .slice a0' a_0.length c0'), (1, .int .i64 (wI64 (st4.1 + 1))), (5, .int .i64 st4.2), (28, .bool (x39.OnHand != (wI64 (st4.1 + 1))))] (by kernel_rfl) ?_
  refine WL.nil ?_
  refine WQ.then_normal (hK38 _ _ _ ?_)
  refine WP.cond (x39.OnHand != (wI64 (st4.1 + 1))) rfl rfl (fun hc41 => ?_) (fun hc41 => ?_)
  · have hm := iteT hm hc41
    refine WP.seq (fun K42 hK42 => ?_)
    refine WP.region ?_
    refine WL.runk 1 [4] [(4, .int .i64 (-1))] (by kernel_rfl) ?_
    refine WL.nil ?_
    refine WQ.then_normal (hK42 _ _ _ ?_)
    refine WP.ret ?_
    refine WQ.then_ret ?_
    refine WQ.block_ret ?_
    refine WQ.then_ret ?_
    refine WQ.then_ret ?_
    refine WQ.block_ret ?_
    refine WQ.then_ret ?_
    obtain rfl := Option.some.inj hm
    obtain rfl := afterN_done hl9
    have hm := hmo10
    obtain rfl := Option.some.inj hm
    exact WQ.ret1 _ rfl rfl ⟨rfl, hb31⟩
  have hm := iteF hm hc41
  refine WP.skip ?_
  refine WQ.then_normal (hK37 _ _ _ ?_)
  refine WP.seq (fun K43 hK43 => ?_)
  refine WP.region ?_
  refine WL.runk 3 [0, 1, 5] [(0, .slice a0' a_0.length c0'), (1, .int .i64 (wI64 ((wI64 (st4.1 + 1)) + 1))), (5, .int .i64 st4.2)] (by kernel_rfl) ?_
  refine WL.nil ?_
  refine WQ.then_normal (hK43 _ _ _ ?_)
  refine WP.seq (fun K44 hK44 => ?_)
  refine WP.seq (fun K45 hK45 => ?_)
  refine WP.region ?_
  refine WL.runk 2 [0, 1, 5, 31, 32] [(0, .slice a0' a_0.length c0'), (1, .int .i64 (wI64 ((wI64 (st4.1 + 1)) + 1))), (5, .int .i64 st4.2), (31, .slice a0' a_0.length c0'), (32, .int .i64 st4.2)] (by kernel_rfl) ?_
  obtain ⟨x46, hx47, hm⟩ := bindE hm
  refine WL.st (.pointer (some (at_ a0' (Int.toNat st4.2 * 4)))) (ST.index (T := fGood.ty) (xs := a_0) (Rd.below h0 hb31) hx47 rfl rfl rfl Try.underlying25 (info56).1 (info56).2.1) rfl rfl rfl ?_
  refine WL.runk 1 [0, 1, 5, 34] [(0, .slice a0' a_0.length c0'), (1, .int .i64 (wI64 ((wI64 (st4.1 + 1)) + 1))), (5, .int .i64 st4.2), (34, .pointer (some (at_ a0' (Int.toNat st4.2 * 4 + 2))))] (by kernel_rfl) ?_
  refine WL.st (.int .i64 x46.Reserved) (ST.load (cell_ext (Rd.flat (F := fGood) (Rd.below h0 hb31) hx47 2 rfl)) rfl rfl Try.underlying2 rfl) rfl rfl rfl ?_
  refine WL.runk 2 [0, 1, 5, 37] [(0, .slice a0' a_0.length c0'), (1, .int .i64 (wI64 ((wI64 (st4.1 + 1)) + 1))), (5, .int .i64 st4.2), (37, .bool (x46.Reserved != (wI64 ((wI64 (st4.1 + 1)) + 1))))] (by kernel_rfl) ?_
  refine WL.nil ?_
  refine WQ.then_normal (hK45 _ _ _ ?_)
  refine WP.cond (x46.Reserved != (wI64 ((wI64 (st4.1 + 1)) + 1))) rfl rfl (fun hc48 => ?_) (fun hc48 => ?_)
  · have hm := iteT hm hc48
    refine WP.seq (fun K49 hK49 => ?_)
    refine WP.region ?_
    refine WL.runk 1 [4] [(4, .int .i64 (-1))] (by kernel_rfl) ?_
    refine WL.nil ?_
    refine WQ.then_normal (hK49 _ _ _ ?_)
    refine WP.ret ?_
    refine WQ.then_ret ?_
    refine WQ.block_ret ?_
    refine WQ.then_ret ?_
    refine WQ.then_ret ?_
    refine WQ.block_ret ?_
    refine WQ.then_ret ?_
    obtain rfl := Option.some.inj hm
    obtain rfl := afterN_done hl9
    have hm := hmo10
    obtain rfl := Option.some.inj hm
    exact WQ.ret1 _ rfl rfl ⟨rfl, hb31⟩
  have hm := iteF hm hc48
  refine WP.skip ?_
  refine WQ.then_normal (hK44 _ _ _ ?_)
  refine WP.seq (fun K50 hK50 => ?_)
  refine WP.region ?_
  refine WL.runk 3 [0, 1, 5] [(0, .slice a0' a_0.length c0'), (1, .int .i64 (wI64 ((wI64 ((wI64 (st4.1 + 1)) + 1)) + 1))), (5, .int .i64 st4.2)] (by kernel_rfl) ?_
  refine WL.nil ?_
  refine WQ.then_normal (hK50 _ _ _ ?_)
  refine WP.seq (fun K51 hK51 => ?_)
  refine WP.seq (fun K52 hK52 => ?_)
  refine WP.region ?_
  refine WL.runk 2 [0, 1, 5, 40, 41] [(0, .slice a0' a_0.length c0'), (1, .int .i64 (wI64 ((wI64 ((wI64 (st4.1 + 1)) + 1)) + 1))), (5, .int .i64 st4.2), (40, .slice a0' a_0.length c0'), (41, .int .i64 st4.2)] (by kernel_rfl) ?_
  obtain ⟨x53, hx54, hm⟩ := bindE hm
  refine WL.st (.pointer (some (at_ a0' (Int.toNat st4.2 * 4)))) (ST.index (T := fGood.ty) (xs := a_0) (Rd.below h0 hb31) hx54 rfl rfl rfl Try.underlying25 (info56).1 (info56).2.1) rfl rfl rfl ?_
  refine WL.runk 1 [0, 1, 5, 43] [(0, .slice a0' a_0.length c0'), (1, .int .i64 (wI64 ((wI64 ((wI64 (st4.1 + 1)) + 1)) + 1))), (5, .int .i64 st4.2), (43, .pointer (some (at_ a0' (Int.toNat st4.2 * 4 + 3))))] (by kernel_rfl) ?_
  refine WL.st (.int .i64 x53.Least) (ST.load (cell_ext (Rd.flat (F := fGood) (Rd.below h0 hb31) hx54 3 rfl)) rfl rfl Try.underlying2 rfl) rfl rfl rfl ?_
  refine WL.runk 2 [0, 1, 5, 46] [(0, .slice a0' a_0.length c0'), (1, .int .i64 (wI64 ((wI64 ((wI64 (st4.1 + 1)) + 1)) + 1))), (5, .int .i64 st4.2), (46, .bool (x53.Least != (wI64 ((wI64 ((wI64 (st4.1 + 1)) + 1)) + 1))))] (by kernel_rfl) ?_
  refine WL.nil ?_
  refine WQ.then_normal (hK52 _ _ _ ?_)
  refine WP.cond (x53.Least != (wI64 ((wI64 ((wI64 (st4.1 + 1)) + 1)) + 1))) rfl rfl (fun hc55 => ?_) (fun hc55 => ?_)
  rotate_left
  · have hm := iteF hm hc55
    refine WP.skip ?_
    refine WQ.then_normal (hK51 _ _ _ ?_)
    refine WP.region ?_
    refine WL.runk 3 [0, 1, 5] [(0, .slice a0' a_0.length c0'), (1, .int .i64 (wI64 ((wI64 ((wI64 ((wI64 (st4.1 + 1)) + 1)) + 1)) + 1))), (5, .int .i64 st4.2)] (by kernel_rfl) ?_
    refine WL.nil ?_
    refine WQ.block_normal ?_
    refine WQ.then_normal (hK20 _ _ _ ?_)
    refine WP.region ?_
    refine WL.runk 3 [0, 1, 5] [(0, .slice a0' a_0.length c0'), (1, .int .i64 (wI64 ((wI64 ((wI64 ((wI64 (st4.1 + 1)) + 1)) + 1)) + 1))), (5, .int .i64 (wI64 (st4.2 + 1)))] (by kernel_rfl) ?_
    refine WL.nil ?_
    obtain rfl := Option.some.inj hm
    exact WQ.round hK11 ⟨((wI64 ((wI64 ((wI64 ((wI64 (st4.1 + 1)) + 1)) + 1)) + 1)), (wI64 (st4.2 + 1))), rfl, hb31, hL32, hS33, hl9⟩ (Nat.lt_succ_self _) ⟨rfl, rfl, rfl, trivial⟩
  have hm := iteT hm hc55
  refine WP.seq (fun K56 hK56 => ?_)
  refine WP.region ?_
  refine WL.runk 1 [4] [(4, .int .i64 (-1))] (by kernel_rfl) ?_
  refine WL.nil ?_
  refine WQ.then_normal (hK56 _ _ _ ?_)
  refine WP.ret ?_
  refine WQ.then_ret ?_
  refine WQ.block_ret ?_
  refine WQ.then_ret ?_
  refine WQ.then_ret ?_
  refine WQ.block_ret ?_
  refine WQ.then_ret ?_
  obtain rfl := Option.some.inj hm
  obtain rfl := afterN_done hl9
  have hm := hmo10
  obtain rfl := Option.some.inj hm
  exact WQ.ret1 _ rfl rfl ⟨rfl, hb31⟩

theorem c_40 (n : Nat) (list_0 : List SGood) (a0' : Option Addr) (c0' : Nat) (g_1 : SGood) (w : World) {r : List SGood × Int} (hm : m_spec_AddGood n list_0 g_1 = some r) (h0 : Rd fGood.ty w a0' list_0) (hle0 : list_0.length ≤ c0') :
    CallV Try.prog 40 #[.slice a0' list_0.length c0', .agg #[.string (bs g_1.Name), .int .i64 g_1.OnHand, .int .i64 g_1.Reserved, .int .i64 g_1.Least]] w (fun v w' => ∃ (ra0 : Option Addr) (rc0 : Nat), v = .tuple #[.slice ra0 r.1.length rc0, .int .i64 r.2] ∧ Ext w w' ∧ SH w' w.heap.size [aOwn fGood 56 ra0 rc0 r.1]) := by
  unfold m_spec_AddGood at hm
  refine CallV.enter Try.func40 rfl (by kernel_rfl) Try.ntmps40 (env := [(0, .slice a0' list_0.length c0'), (1, .agg #[.string (bs g_1.Name), .int .i64 g_1.OnHand, .int .i64 g_1.Reserved, .int .i64 g_1.Least])]) ⟨rfl, rfl, trivial⟩ ?_
  refine WP.seq (fun K1 hK1 => ?_)
  refine WP.region ?_
  refine WL.box 56 [.string (bs g_1.Name), .int .i64 g_1.OnHand, .int .i64 g_1.Reserved, .int .i64 g_1.Least] 3 (by kernel_rfl) rfl rfl rfl rfl ?_
  intro b2 w3 hE4 hR5
  have hb7 : Ext w w3 := Ext.trans (Ext.refl w) hE4
  have hL8 : w.heap.size ≤ w3.heap.size := Nat.le_trans (Nat.le_refl _) hE4.size
  have hS9 : SH w3 w.heap.size [aBox 56 b2 [.string (bs g_1.Name), .int .i64 g_1.OnHand, .int .i64 g_1.Reserved, .int .i64 g_1.Least]] := SH.add (SH.nil _ _) hE4 (Nat.le_refl _) hR5
  refine WL.runk 2 [0, 3] [(0, .slice a0' list_0.length c0'), (3, .pointer (some ⟨b2, 0, none⟩))] (by kernel_rfl) ?_
  refine WL.nil ?_
  refine WQ.then_normal (hK1 _ _ _ ?_)
  refine WP.seq (fun K10 hK10 => ?_)
  refine WP.seq (fun K11 hK11 => ?_)
  refine WP.region ?_
  refine WL.runk 1 [0, 3, 8] [(0, .slice a0' list_0.length c0'), (3, .pointer (some ⟨b2, 0, none⟩)), (8, .slice a0' list_0.length c0')] (by kernel_rfl) ?_
  obtain ⟨x12, hx13, hm⟩ := bindE hm
  refine WL.call 52 #[.slice a0' list_0.length c0'] rfl rfl (by kernel_rfl) (c_52 n list_0 a0' c0' w3 hx13 (Rd.below h0 hb7) hle0) ?_
  rintro _ w14 ⟨rfl, hE15⟩
  refine ⟨_, rfl, ?_⟩
  have hb17 : Ext w w14 := Ext.trans hb7 hE15
  have hL18 : w.heap.size ≤ w14.heap.size := Nat.le_trans hL8 hE15.size
  have hS19 : SH w14 w.heap.size [aBox 56 b2 [.string (bs g_1.Name), .int .i64 g_1.OnHand, .int .i64 g_1.Reserved, .int .i64 g_1.Least]] := SH.ext hS9 hE15
  refine WL.runk 1 [0, 3, 10] [(0, .slice a0' list_0.length c0'), (3, .pointer (some ⟨b2, 0, none⟩)), (10, .bool (!x12))] (by kernel_rfl) ?_
  refine WL.nil ?_
  refine WQ.then_normal (hK11 _ _ _ ?_)
  refine WP.cond (!x12) rfl rfl (fun hc20 => ?_) (fun hc20 => ?_)
  · have hm := iteT hm hc20
    refine WP.seq (fun K21 hK21 => ?_)
    refine WP.region ?_
    refine WL.runk 2 [4, 5] [(4, .slice none 0 0), (5, .int .i64 1)] (by kernel_rfl) ?_
    refine WL.nil ?_
    refine WQ.then_normal (hK21 _ _ _ ?_)
    refine WP.ret ?_
    refine WQ.then_ret ?_
    obtain rfl := Option.some.inj hm
    have hS23 : SH w14 w.heap.size [aOwn fGood 56 none 0 ([] : List SGood), aBox 56 b2 [.string (bs g_1.Name), .int .i64 g_1.OnHand, .int .i64 g_1.Reserved, .int .i64 g_1.Least]] := SH.nilOwn hS19
    exact WQ.ret2 _ _ rfl rfl rfl ⟨_, _, rfl, hb17, (SH.take 1 hS23)⟩
  have hm := iteF hm hc20
  refine WP.skip ?_
  refine WQ.then_normal (hK10 _ _ _ ?_)
  refine WP.seq (fun K24 hK24 => ?_)
  refine WP.seq (fun K25 hK25 => ?_)
  refine WP.region ?_
  obtain ⟨x26, hx27, hm⟩ := bindE hm
  refine WL.call 69 #[.pointer (some ⟨b2, 0, none⟩)] rfl rfl (by kernel_rfl) (c_69 n g_1 b2 0 w14 hx27 (SH.boxRd (SH.front 0 hS19))) ?_
  rintro _ w28 ⟨rfl, hE29⟩
  refine ⟨_, rfl, ?_⟩
  have hb31 : Ext w w28 := Ext.trans hb17 hE29
  have hL32 : w.heap.size ≤ w28.heap.size := Nat.le_trans hL18 hE29.size
  have hS33 : SH w28 w.heap.size [aBox 56 b2 [.string (bs g_1.Name), .int .i64 g_1.OnHand, .int .i64 g_1.Reserved, .int .i64 g_1.Least]] := SH.ext hS19 hE29
  refine WL.runk 1 [0, 3, 12] [(0, .slice a0' list_0.length c0'), (3, .pointer (some ⟨b2, 0, none⟩)), (12, .bool (!x26))] (by kernel_rfl) ?_
  refine WL.nil ?_
  refine WQ.then_normal (hK25 _ _ _ ?_)
  refine WP.cond (!x26) rfl rfl (fun hc34 => ?_) (fun hc34 => ?_)
  · have hm := iteT hm hc34
    refine WP.seq (fun K35 hK35 => ?_)
    refine WP.region ?_
    refine WL.runk 2 [4, 5] [(4, .slice none 0 0), (5, .int .i64 2)] (by kernel_rfl) ?_
    refine WL.nil ?_
    refine WQ.then_normal (hK35 _ _ _ ?_)
    refine WP.ret ?_
    refine WQ.then_ret ?_
    obtain rfl := Option.some.inj hm
    have hS37 : SH w28 w.heap.size [aOwn fGood 56 none 0 ([] : List SGood), aBox 56 b2 [.string (bs g_1.Name), .int .i64 g_1.OnHand, .int .i64 g_1.Reserved, .int .i64 g_1.Least]] := SH.nilOwn hS33
    exact WQ.ret2 _ _ rfl rfl rfl ⟨_, _, rfl, hb31, (SH.take 1 hS37)⟩
  have hm := iteF hm hc34
  refine WP.skip ?_
  refine WQ.then_normal (hK24 _ _ _ ?_)
  refine WP.seq (fun K38 hK38 => ?_)
  refine WP.seq (fun K39 hK39 => ?_)
  refine WP.region ?_
  refine WL.runk 2 [0, 3, 13, 14] [(0, .slice a0' list_0.length c0'), (3, .pointer (some ⟨b2, 0, none⟩)), (13, .slice a0' list_0.length c0'), (14, .pointer (some ⟨b2, 0, none⟩))] (by kernel_rfl) ?_
  refine WL.st (.string (bs g_1.Name)) (ST.load (cell_ext (SH.boxAt (SH.front 0 hS33) 0 _ rfl)) rfl rfl Try.underlying9 rfl) rfl rfl rfl ?_
  obtain ⟨x40, hx41, hm⟩ := bindE hm
  refine WL.call 64 #[.slice a0' list_0.length c0', .string (bs g_1.Name)] rfl rfl (by kernel_rfl) (c_64 n list_0 a0' c0' g_1.Name w28 hx41 (Rd.below h0 hb31) hle0) ?_
  rintro _ w42 ⟨rfl, hE43⟩
  refine ⟨_, rfl, ?_⟩
  have hb45 : Ext w w42 := Ext.trans hb31 hE43
  have hL46 : w.heap.size ≤ w42.heap.size := Nat.le_trans hL32 hE43.size
  have hS47 : SH w42 w.heap.size [aBox 56 b2 [.string (bs g_1.Name), .int .i64 g_1.OnHand, .int .i64 g_1.Reserved, .int .i64 g_1.Least]] := SH.ext hS33 hE43
  refine WL.runk 1 [0, 3, 17] [(0, .slice a0' list_0.length c0'), (3, .pointer (some ⟨b2, 0, none⟩)), (17, .bool (decide (x40 ≥ 0)))] (by kernel_rfl) ?_
  refine WL.nil ?_
  refine WQ.then_normal (hK39 _ _ _ ?_)
  refine WP.cond (decide (x40 ≥ 0)) rfl rfl (fun hc48 => ?_) (fun hc48 => ?_)
  · have hm := iteT hm hc48
    refine WP.seq (fun K49 hK49 => ?_)
    refine WP.region ?_
    refine WL.runk 2 [4, 5] [(4, .slice none 0 0), (5, .int .i64 4)] (by kernel_rfl) ?_
    refine WL.nil ?_
    refine WQ.then_normal (hK49 _ _ _ ?_)
    refine WP.ret ?_
    refine WQ.then_ret ?_
    obtain rfl := Option.some.inj hm
    have hS51 : SH w42 w.heap.size [aOwn fGood 56 none 0 ([] : List SGood), aBox 56 b2 [.string (bs g_1.Name), .int .i64 g_1.OnHand, .int .i64 g_1.Reserved, .int .i64 g_1.Least]] := SH.nilOwn hS47
    exact WQ.ret2 _ _ rfl rfl rfl ⟨_, _, rfl, hb45, (SH.take 1 hS51)⟩
  have hm := iteF hm hc48
  refine WP.skip ?_
  refine WQ.then_normal (hK38 _ _ _ ?_)
  refine WP.seq (fun K52 hK52 => ?_)
  refine WP.seq (fun K53 hK53 => ?_)
  refine WP.region ?_
  refine WL.runk 3 [0, 3, 20] [(0, .slice a0' list_0.length c0'), (3, .pointer (some ⟨b2, 0, none⟩)), (20, .bool (decide ((list_0.length : Int) ≥ 40)))] (by kernel_rfl) ?_
  refine WL.nil ?_
  refine WQ.then_normal (hK53 _ _ _ ?_)
  refine WP.cond (decide ((list_0.length : Int) ≥ 40)) rfl rfl (fun hc54 => ?_) (fun hc54 => ?_)
  · have hm := iteT hm hc54
    refine WP.seq (fun K55 hK55 => ?_)
    refine WP.region ?_
    refine WL.runk 2 [4, 5] [(4, .slice none 0 0), (5, .int .i64 5)] (by kernel_rfl) ?_
    refine WL.nil ?_
    refine WQ.then_normal (hK55 _ _ _ ?_)
    refine WP.ret ?_
    refine WQ.then_ret ?_
    obtain rfl := Option.some.inj hm
    have hS57 : SH w42 w.heap.size [aOwn fGood 56 none 0 ([] : List SGood), aBox 56 b2 [.string (bs g_1.Name), .int .i64 g_1.OnHand, .int .i64 g_1.Reserved, .int .i64 g_1.Least]] := SH.nilOwn hS47
    exact WQ.ret2 _ _ rfl rfl rfl ⟨_, _, rfl, hb45, (SH.take 1 hS57)⟩
  have hm := iteF hm hc54
  refine WP.skip ?_
  refine WQ.then_normal (hK52 _ _ _ ?_)
  refine WP.seq (fun K58 hK58 => ?_)
  refine WP.region ?_
  refine WL.runk 3 [0, 3, 6] [(0, .slice a0' list_0.length c0'), (3, .pointer (some ⟨b2, 0, none⟩)), (6, .int .i64 (list_0.length : Int))] (by kernel_rfl) ?_
  refine WL.nil ?_
  refine WQ.then_normal (hK58 _ _ _ ?_)
  refine WP.seq (fun K59 hK59 => ?_)
  refine WP.block ?_
  obtain ⟨t71, ht72, hm⟩ := bindE hm
  have hmo66 := hm; clear hm
  refine WP.sub [(0, .slice a0' list_0.length c0'), (3, .pointer (some ⟨b2, 0, none⟩)), (6, .int .i64 (list_0.length : Int))] ⟨rfl, rfl, rfl, trivial⟩ ?_
  refine WP.loop (fun n' env' w' => ∃ (st60 : Int) , env' = [(0, .slice a0' list_0.length c0'), (3, .pointer (some ⟨b2, 0, none⟩)), (6, .int .i64 st60)] ∧ Ext w w' ∧ w.heap.size ≤ w'.heap.size ∧ SH w' w.heap.size [aBox 56 b2 [.string (bs g_1.Name), .int .i64 g_1.OnHand, .int .i64 g_1.Reserved, .int .i64 g_1.Least]] ∧ loopN (m_spec_AddGood_l1 n list_0 g_1) n' st60 = some t71) n ⟨(list_0.length : Int), rfl, hb45, hL46, hS47, ht72⟩ ?_
  rintro n68 _ w61 ⟨st60, rfl, hb62, hL63, hS64, hl65⟩ K67 hK67
  obtain ⟨n69, s70, rfl, hm, hl65⟩ := loopN_some hl65
  unfold m_spec_AddGood_l1 at hm
  refine WP.seq (fun K73 hK73 => ?_)
  refine WP.seq (fun K74 hK74 => ?_)
  obtain ⟨x88, hx89, hm⟩ := bindE hm
  refine WP.cut (fun env' w' => env' = [(0, .slice a0' list_0.length c0'), (3, .pointer (some ⟨b2, 0, none⟩)), (6, .int .i64 st60), (35, .bool x88)] ∧ Ext w w' ∧ w.heap.size ≤ w'.heap.size ∧ SH w' w.heap.size [aBox 56 b2 [.string (bs g_1.Name), .int .i64 g_1.OnHand, .int .i64 g_1.Reserved, .int .i64 g_1.Least]]) ?_ ?_
  · have hm := hx89; clear hx89
    refine WP.quiet (by kernel_rfl) (by kernel_rfl) ?_
    refine QL.step1v 23 (.int .i64 st60) rfl (fun _ => by kernel_rfl) ?_
    refine QL.step1v 24 (.bool (decide (st60 > 0))) rfl (fun _ => by kernel_rfl) ?_
    refine QL.step1v 25 (.bool (decide (st60 > 0))) rfl (fun _ => by kernel_rfl) ?_
    refine QL.subk [0, 3, 6, 25] [(0, .slice a0' list_0.length c0'), (3, .pointer (some ⟨b2, 0, none⟩)), (6, .int .i64 st60), (25, .bool (decide (st60 > 0)))] (by kernel_rfl) ?_
    refine QL.case (decide (st60 > 0)) [25] ⟨rfl, trivial⟩ (fun hc90 => ?_) (fun hc90 => ?_)
    rotate_left
    · have hm := iteF hm hc90
      refine QL.step1v 26 undef rfl (fun _ => by kernel_rfl) ?_
      refine QL.step1v 27 undef rfl (fun _ => by kernel_rfl) ?_
      refine QL.step1v 28 undef rfl (fun _ => by kernel_rfl) ?_
      refine QL.step1v 29 undef rfl (fun _ => by kernel_rfl) ?_
      refine QL.step1v 30 undef rfl (fun _ => by kernel_rfl) ?_
      refine QL.step1v 31 undef rfl (fun _ => by kernel_rfl) ?_
      refine QL.step1v 32 undef rfl (fun _ => by kernel_rfl) ?_
      refine QL.step1v 33 undef rfl (fun _ => by kernel_rfl) ?_
      refine QL.step1v 34 undef rfl (fun _ => by kernel_rfl) ?_
      refine QL.step1v 35 (.bool false) rfl (fun _ => by kernel_rfl) ?_
      refine QL.subk [0, 3, 6, 35] [(0, .slice a0' list_0.length c0'), (3, .pointer (some ⟨b2, 0, none⟩)), (6, .int .i64 st60), (35, .bool false)] (by kernel_rfl) ?_
      refine QL.nil ?_
      intro w98 hE99
      have hb100 : Ext w w98 := Ext.trans hb62 hE99
      have hL101 : w.heap.size ≤ w98.heap.size := Nat.le_trans hL63 hE99.size
      have hS102 : SH w98 w.heap.size [aBox 56 b2 [.string (bs g_1.Name), .int .i64 g_1.OnHand, .int .i64 g_1.Reserved, .int .i64 g_1.Least]] := SH.ext hS64 hE99
      obtain rfl := Option.some.inj hm
      exact WQ.post' ⟨rfl, hb100, hL101, hS102⟩ ⟨rfl, rfl, rfl, rfl, trivial⟩
    have hm := iteT hm hc90
    refine QL.step1v 26 (.slice a0' list_0.length c0') rfl (fun _ => by kernel_rfl) ?_
    refine QL.step1v 27 (.int .i64 st60) rfl (fun _ => by kernel_rfl) ?_
    refine QL.step1v 28 (.int .i64 (wI64 (st60 - 1))) rfl (fun _ => by kernel_rfl) ?_
    refine QL.subk [0, 3, 6, 25, 26, 28] [(0, .slice a0' list_0.length c0'), (3, .pointer (some ⟨b2, 0, none⟩)), (6, .int .i64 st60), (25, .bool true), (26, .slice a0' list_0.length c0'), (28, .int .i64 (wI64 (st60 - 1)))] (by kernel_rfl) ?_
    obtain ⟨x91, hx92, hm⟩ := bindE hm
    refine QL.st (.pointer (some (at_ a0' (Int.toNat (wI64 (st60 - 1)) * 4)))) (ST.index (T := fGood.ty) (xs := list_0) (Rd.below h0 hb62) hx92 rfl rfl rfl Try.underlying25 (info56).1 (info56).2.1) rfl rfl rfl ?_
    refine QL.step1v 30 (.pointer (some (at_ a0' (Int.toNat (wI64 (st60 - 1)) * 4)))) rfl (fun _ => by kernel_rfl) ?_
    refine QL.subk [0, 3, 6, 25, 30] [(0, .slice a0' list_0.length c0'), (3, .pointer (some ⟨b2, 0, none⟩)), (6, .int .i64 st60), (25, .bool true), (30, .pointer (some (at_ a0' (Int.toNat (wI64 (st60 - 1)) * 4))))] (by kernel_rfl) ?_
    refine QL.st (.string (bs x91.Name)) (ST.load (cell_ext (Rd.flat (F := fGood) (Rd.below h0 hb62) hx92 0 rfl)) rfl rfl Try.underlying9 rfl) rfl rfl rfl ?_
    refine QL.step1v 32 (.pointer (some ⟨b2, 0, none⟩)) rfl (fun _ => by kernel_rfl) ?_
    refine QL.subk [0, 3, 6, 25, 31, 32] [(0, .slice a0' list_0.length c0'), (3, .pointer (some ⟨b2, 0, none⟩)), (6, .int .i64 st60), (25, .bool true), (31, .string (bs x91.Name)), (32, .pointer (some ⟨b2, 0, none⟩))] (by kernel_rfl) ?_
    refine QL.st (.string (bs g_1.Name)) (ST.load (cell_ext (SH.boxAt (SH.front 0 hS64) 0 _ rfl)) rfl rfl Try.underlying9 rfl) rfl rfl rfl ?_
    refine QL.st (.bool (!(strLt x91.Name g_1.Name || x91.Name == g_1.Name))) (ST.strgt (x := x91.Name) (y := g_1.Name) rfl rfl rfl) rfl rfl rfl ?_
    refine QL.step1v 35 (.bool (!(strLt x91.Name g_1.Name || x91.Name == g_1.Name))) rfl (fun _ => by kernel_rfl) ?_
    refine QL.subk [0, 3, 6, 35] [(0, .slice a0' list_0.length c0'), (3, .pointer (some ⟨b2, 0, none⟩)), (6, .int .i64 st60), (35, .bool (!(strLt x91.Name g_1.Name || x91.Name == g_1.Name)))] (by kernel_rfl) ?_
    refine QL.nil ?_
    intro w93 hE94
    have hb95 : Ext w w93 := Ext.trans hb62 hE94
    have hL96 : w.heap.size ≤ w93.heap.size := Nat.le_trans hL63 hE94.size
    have hS97 : SH w93 w.heap.size [aBox 56 b2 [.string (bs g_1.Name), .int .i64 g_1.OnHand, .int .i64 g_1.Reserved, .int .i64 g_1.Least]] := SH.ext hS64 hE94
    obtain rfl := Option.some.inj hm
    exact WQ.post' ⟨rfl, hb95, hL96, hS97⟩ ⟨rfl, rfl, rfl, rfl, trivial⟩
  clear hx89
  rintro _ w103 ⟨rfl, hb104, hL105, hS106⟩
  refine WQ.then_normal (hK74 _ _ _ ?_)
  refine WP.cond x88 rfl rfl (fun hc107 => ?_) (fun hc107 => ?_)
  · have hm := iteT hm hc107
    refine WP.skip ?_
    refine WQ.then_normal (hK73 _ _ _ ?_)
    refine WP.block ?_
    refine WP.region ?_
    refine WL.runk 3 [0, 3, 6] [(0, .slice a0' list_0.length c0'), (3, .pointer (some ⟨b2, 0, none⟩)), (6, .int .i64 (wI64 (st60 - 1)))] (by kernel_rfl) ?_
    refine WL.nil ?_
    refine WQ.block_normal ?_
    obtain rfl := Option.some.inj hm
    exact WQ.round hK67 ⟨(wI64 (st60 - 1)), rfl, hb104, hL105, hS106, hl65⟩ (Nat.lt_succ_self _) ⟨rfl, rfl, rfl, trivial⟩
  have hm := iteF hm hc107
  refine WP.exit ?_
  refine WQ.then_exit ?_
  refine WQ.then_exit ?_
  refine WQ.block_here ?_
  obtain rfl := Option.some.inj hm
  obtain rfl := afterN_done hl65
  have hm := hmo66
  refine WQ.then_normal (hK59 _ _ _ ?_)
  refine WP.seq (fun K108 hK108 => ?_)
  refine WP.region ?_
  refine WL.row fGood 56 ([] : List SGood) 0 #[] 38 (by kernel_rfl) rfl rfl rfl rfl rfl rfl rfl ?_
  intro a109 c110 w111 hE112 hR113
  have hb115 : Ext w w111 := Ext.trans hb104 hE112
  have hL116 : w.heap.size ≤ w111.heap.size := Nat.le_trans hL105 hE112.size
  have hS117 : SH w111 w.heap.size [aOwn fGood 56 a109 c110 ([] : List SGood), aBox 56 b2 [.string (bs g_1.Name), .int .i64 g_1.OnHand, .int .i64 g_1.Reserved, .int .i64 g_1.Least]] := SH.add hS106 hE112 hL105 hR113
  refine WL.runk 2 [0, 3, 6, 38, 39, 40] [(0, .slice a0' list_0.length c0'), (3, .pointer (some ⟨b2, 0, none⟩)), (6, .int .i64 st60), (38, .slice a109 (([] : List SGood).length) c110), (39, .slice a0' list_0.length c0'), (40, .int .i64 st60)] (by kernel_rfl) ?_
  obtain ⟨x118, hx119, hm⟩ := bindE hm
  refine WL.rsub (T := fGood.ty) 41 h0 hb115 hle0 hx119 rfl rfl Try.underlying25 (info56).1 (info56).2.1 rfl ⟨_, rfl⟩ rfl rfl rfl rfl ?_
  intro a120 c121 hR123 hle124
  obtain ⟨x126, hx127, hm⟩ := bindE hm
  refine WL.append (F := fGood) (xs := ([] : List SGood)) (ys := x118) 42 (SH.front 0 hS117) hL116 (Rd.below hR123 hb115) hx127 rfl rfl rfl Try.underlying25 (info56).1 (info56).2.2.1 (info56).2.1 (info56).2.2.2 rfl rfl rfl rfl rfl ?_
  intro a128 c129 w130 hB131 hS132
  have hb133 : Ext w w130 := Below.trans hb115 hB131
  have hL134 : w.heap.size ≤ w130.heap.size := Nat.le_trans hL116 hB131.size
  refine WL.runk 1 [0, 3, 6, 7] [(0, .slice a0' list_0.length c0'), (3, .pointer (some ⟨b2, 0, none⟩)), (6, .int .i64 st60), (7, .slice a128 x126.length c129)] (by kernel_rfl) ?_
  refine WL.nil ?_
  refine WQ.then_normal (hK108 _ _ _ ?_)
  refine WP.seq (fun K135 hK135 => ?_)
  refine WP.region ?_
  refine WL.runk 1 [0, 3, 6, 43] [(0, .slice a0' list_0.length c0'), (3, .pointer (some ⟨b2, 0, none⟩)), (6, .int .i64 st60), (43, .slice a128 x126.length c129)] (by kernel_rfl) ?_
  refine WL.st (.agg #[.string (bs g_1.Name), .int .i64 g_1.OnHand, .int .i64 g_1.Reserved, .int .i64 g_1.Least]) (ST.loadAgg (vs := [.string (bs g_1.Name), .int .i64 g_1.OnHand, .int .i64 g_1.Reserved, .int .i64 g_1.Least]) (fun j v hv => SH.boxPart (us := [.string (bs g_1.Name), .int .i64 g_1.OnHand, .int .i64 g_1.Reserved, .int .i64 g_1.Least]) (SH.front 1 hS132) 0 rfl j v hv) rfl rfl rfl Try.underlying56 rfl (info56).1 (info56).2.1) rfl rfl rfl ?_
  refine WL.row fGood 56 ([g_1] : List SGood) 1 #[.string (bs g_1.Name), .int .i64 g_1.OnHand, .int .i64 g_1.Reserved, .int .i64 g_1.Least] 45 (by kernel_rfl) rfl rfl rfl rfl rfl rfl rfl ?_
  intro a136 c137 w138 hE139 hR140
  have hb142 : Ext w w138 := Ext.trans hb133 hE139
  have hL143 : w.heap.size ≤ w138.heap.size := Nat.le_trans hL134 hE139.size
  have hS144 : SH w138 w.heap.size [aOwn fGood 56 a136 c137 ([g_1] : List SGood), aOwn fGood 56 a128 c129 x126, aBox 56 b2 [.string (bs g_1.Name), .int .i64 g_1.OnHand, .int .i64 g_1.Reserved, .int .i64 g_1.Least]] := SH.add hS132 hE139 hL134 hR140
  obtain ⟨x145, hx146, hm⟩ := bindE hm
  refine WL.append (F := fGood) (xs := x126) (ys := ([g_1] : List SGood)) 46 (SH.front 1 hS144) hL143 (SH.rd (SH.front 0 hS144)) hx146 rfl rfl rfl Try.underlying25 (info56).1 (info56).2.2.1 (info56).2.1 (info56).2.2.2 rfl rfl rfl rfl rfl ?_
  intro a147 c148 w149 hB150 hS151
  have hb152 : Ext w w149 := Below.trans hb142 hB150
  have hL153 : w.heap.size ≤ w149.heap.size := Nat.le_trans hL143 hB150.size
  refine WL.runk 1 [0, 6, 7] [(0, .slice a0' list_0.length c0'), (6, .int .i64 st60), (7, .slice a147 x145.length c148)] (by kernel_rfl) ?_
  refine WL.nil ?_
  refine WQ.then_normal (hK135 _ _ _ ?_)
  refine WP.seq (fun K154 hK154 => ?_)
  refine WP.region ?_
  refine WL.runk 3 [47, 48, 49] [(47, .slice a147 x145.length c148), (48, .slice a0' list_0.length c0'), (49, .int .i64 st60)] (by kernel_rfl) ?_
  obtain ⟨x155, hx156, hm⟩ := bindE hm
  refine WL.rsub (T := fGood.ty) 50 h0 hb152 hle0 hx156 rfl rfl Try.underlying25 (info56).1 (info56).2.1 ⟨_, rfl⟩ rfl rfl rfl rfl rfl ?_
  intro a157 c158 hR160 hle161
  obtain ⟨x163, hx164, hm⟩ := bindE hm
  refine WL.append (F := fGood) (xs := x145) (ys := x155) 51 (SH.front 0 hS151) hL153 (Rd.below hR160 hb152) hx164 rfl rfl rfl Try.underlying25 (info56).1 (info56).2.2.1 (info56).2.1 (info56).2.2.2 rfl rfl rfl rfl rfl ?_
  intro a165 c166 w167 hB168 hS169
  have hb170 : Ext w w167 := Below.trans hb152 hB168
  have hL171 : w.heap.size ≤ w167.heap.size := Nat.le_trans hL153 hB168.size
  refine WL.runk 2 [4, 5] [(4, .slice a165 x163.length c166), (5, .int .i64 0)] (by kernel_rfl) ?_
  refine WL.nil ?_
  refine WQ.then_normal (hK154 _ _ _ ?_)
  refine WP.ret ?_
  obtain rfl := Option.some.inj hm
  exact WQ.ret2 _ _ rfl rfl rfl ⟨_, _, rfl, hb170, (SH.take 1 hS169)⟩


theorem c_70 (n : Nat) (s_0 : List SGood) (a0' : Option Addr) (c0' : Nat) (i_1 : Int) (v_2 : List SGood) (a2' : Option Addr) (c2' : Nat) (w : World) (w0 : World) (B : Nat) (L : List Asrt) {r : List SGood} (hm : m_slices_Insert_impl_Good_impl_Good n s_0 i_1 v_2 = some r) (_hE0 : Ext w0 w) (_hW : w0.heap.size ≤ B) (hL : B ≤ w.heap.size) (hS : SH w B (aOwn fGood 56 a0' c0' s_0 :: aOwn fGood 56 a2' c2' v_2 :: L)) :
    CallV Try.prog 70 #[.slice a0' s_0.length c0', .int .i64 i_1, .slice a2' v_2.length c2'] w (fun v w' => ∃ (ra0 : Option Addr) (rc0 : Nat), v = .slice ra0 r.length rc0 ∧ Below B w w' ∧ SH w' B (aOwn fGood 56 ra0 rc0 r :: L)) := by
  have hm : insM s_0 i_1 v_2 = some r := hm
  obtain ⟨k, rfl, hk, hm0, hbig, rfl⟩ := insM_some hm
  clear hm
  have hle := (SH.le hS).1
  have hRv : Rd fGood.ty w a2' v_2 := SH.rd (SH.front 1 hS)
  have hS1 : SH w B (aOwn fGood 56 a0' c0' s_0 :: L) := SH.cutOut 1 1 hS
  obtain ⟨S2, hV, hSV, -⟩ := (SH.front 1 hS).upd
  rcases own_shape hV with ⟨_, rfl, _⟩ | ⟨g2, cur2, rfl, hg2, hh2, v1, v2, v3, v4⟩
  · simp at hm0
  have hg2l : g2 < w.heap.size := (hSV _ hg2).2
  have hlz : (s_0.take k ++ v_2 ++ s_0.drop k).length = s_0.length + v_2.length := by simp; omega
  have hw1 : wI64 ((s_0.length : Int) + (v_2.length : Int)) = ((s_0.length + v_2.length : Nat) : Int) := by
    show IntKind.i64.wrap _ = _; rw [IntKind.wrap_i64]; omega
  have hw2 : wI64 ((k : Int) + (v_2.length : Int)) = ((k + v_2.length : Nat) : Int) := by
    show IntKind.i64.wrap _ = _; rw [IntKind.wrap_i64]; omega
  have hw3 : wI64 (((s_0.length + v_2.length : Nat) : Int) - (k : Int)) = ((s_0.length + v_2.length - k : Nat) : Int) := by
    show IntKind.i64.wrap _ = _; rw [IntKind.wrap_i64]; omega
  refine CallV.enter Try.func70 rfl (by kernel_rfl) Try.ntmps70 (env := [(0, .slice a0' s_0.length c0'), (1, .int .i64 (k : Int)), (2, .slice (some ⟨g2, 0, none⟩) v_2.length c2')]) ⟨rfl, rfl, rfl, trivial⟩ ?_
  -- 0
  refine WP.seq (fun K0 hK0 => ?_)
  refine WP.region ?_
  refine WL.runk 1 [0, 1, 2] [(0, .slice a0' s_0.length c0'), (1, .int .i64 (k : Int)), (2, .slice (some ⟨g2, 0, none⟩) v_2.length c2')] (by kernel_rfl) ?_
  refine WL.nil ?_
  refine WQ.then_normal (hK0 _ _ _ ?_)
  -- 1
  refine WP.seq (fun K1 hK1 => ?_)
  refine WP.region ?_
  refine WL.runk 2 [0, 1, 2, 10, 11] [(0, .slice a0' s_0.length c0'), (1, .int .i64 (k : Int)), (2, .slice (some ⟨g2, 0, none⟩) v_2.length c2'), (10, .slice a0' s_0.length c0'), (11, .int .i64 (k : Int))] (by kernel_rfl) ?_
  refine WL.st _ (ST.cut (F := fGood) (i := (k : Int)) (j := (s_0.length : Int)) rfl rfl Try.underlying25 (info56).1 (info56).2.1 ⟨_, rfl⟩ rfl (by omega) (by omega) (by omega)) rfl rfl rfl ?_
  refine WL.sub [(0, .slice a0' s_0.length c0'), (1, .int .i64 (k : Int)), (2, .slice (some ⟨g2, 0, none⟩) v_2.length c2')] ⟨rfl, rfl, rfl, trivial⟩ ?_
  refine WL.nil ?_
  refine WQ.then_normal (hK1 _ _ _ ?_)
  -- 2
  refine WP.seq (fun K2 hK2 => ?_)
  refine WP.region ?_
  refine WL.runk 3 [0, 1, 2, 7] [(0, .slice a0' s_0.length c0'), (1, .int .i64 (k : Int)), (2, .slice (some ⟨g2, 0, none⟩) v_2.length c2'), (7, .int .i64 (v_2.length : Int))] (by kernel_rfl) ?_
  refine WL.nil ?_
  refine WQ.then_normal (hK2 _ _ _ ?_)
  -- 3
  refine WP.seq (fun K3 hK3 => ?_)
  refine WP.seq (fun K3' hK3' => ?_)
  refine WP.region ?_
  refine WL.runk 2 [0, 1, 2, 7, 16] [(0, .slice a0' s_0.length c0'), (1, .int .i64 (k : Int)), (2, .slice (some ⟨g2, 0, none⟩) v_2.length c2'), (7, .int .i64 (v_2.length : Int)), (16, .bool ((v_2.length : Int) == 0))] (by kernel_rfl) ?_
  refine WL.nil ?_
  refine WQ.then_normal (hK3' _ _ _ ?_)
  refine WP.cond ((v_2.length : Int) == 0) rfl rfl (fun hc => ?_) (fun _ => ?_)
  · exfalso; have := eq_of_beq hc; omega
  refine WP.skip ?_
  refine WQ.then_normal (hK3 _ _ _ ?_)
  -- 5
  refine WP.seq (fun K5 hK5 => ?_)
  refine WP.region ?_
  refine WL.runk 3 [0, 1, 2, 7, 8] [(0, .slice a0' s_0.length c0'), (1, .int .i64 (k : Int)), (2, .slice (some ⟨g2, 0, none⟩) v_2.length c2'), (7, .int .i64 (v_2.length : Int)), (8, .int .i64 (s_0.length : Int))] (by kernel_rfl) ?_
  refine WL.nil ?_
  refine WQ.then_normal (hK5 _ _ _ ?_)
  -- 6
  refine WP.seq (fun K6 hK6 => ?_)
  refine WP.seq (fun K6' hK6' => ?_)
  refine WP.region ?_
  refine WL.runk 3 [0, 1, 2, 7, 8, 22] [(0, .slice a0' s_0.length c0'), (1, .int .i64 (k : Int)), (2, .slice (some ⟨g2, 0, none⟩) v_2.length c2'), (7, .int .i64 (v_2.length : Int)), (8, .int .i64 (s_0.length : Int)), (22, .bool ((k : Int) == (s_0.length : Int)))] (by kernel_rfl) ?_
  refine WL.nil ?_
  refine WQ.then_normal (hK6' _ _ _ ?_)
  refine WP.cond ((k : Int) == (s_0.length : Int)) rfl rfl (fun hc => ?_) (fun hc => ?_)
  · -- at the end
    have hkn : k = s_0.length := by have := eq_of_beq hc; omega
    subst hkn
    have happ : app s_0 v_2 = some (s_0.take s_0.length ++ v_2 ++ s_0.drop s_0.length) := by
      unfold app big; rw [if_pos hbig]; simp
    refine WP.seq (fun K7 hK7 => ?_)
    refine WP.region ?_
    refine WL.runk 2 [23, 24] [(23, .slice a0' s_0.length c0'), (24, .slice (some ⟨g2, 0, none⟩) v_2.length c2')] (by kernel_rfl) ?_
    refine WL.append (F := fGood) (xs := s_0) (ys := v_2) 25 hS1 hL hRv happ rfl rfl rfl Try.underlying25 (info56).1 (info56).2.2.1 (info56).2.1 (info56).2.2.2 rfl rfl rfl rfl rfl ?_
    intro a' c' w' hb hS'
    refine WL.runk 1 [6] [(6, .slice a' (s_0.take s_0.length ++ v_2 ++ s_0.drop s_0.length).length c')] (by kernel_rfl) ?_
    refine WL.nil ?_
    refine WQ.then_normal (hK7 _ _ _ ?_)
    refine WP.ret ?_
    refine WQ.then_ret ?_
    exact WQ.ret1 _ rfl rfl ⟨_, _, rfl, hb, hS'⟩
  have hkn : k < s_0.length := by
    have : ¬ (k : Int) = (s_0.length : Int) := by intro h; rw [h] at hc; simp at hc
    omega
  refine WP.skip ?_
  refine WQ.then_normal (hK6 _ _ _ ?_)
  -- the row
  obtain ⟨S, hA, hSS, hup⟩ := SH.turnRow (α := SGood) (F := fGood) (e := 56) hS1 hL
  rcases own_shape hA with ⟨_, rfl, _⟩ | ⟨g, cur, rfl, hg, hh, h1, h2, h3, h4⟩
  · simp at hkn
  have hgl : g < w.heap.size := (hSS _ hg).2
  have hne : g2 ≠ g := SH.apart hS
  obtain ⟨sz, hsz⟩ : ∃ sz, sz = fGood.sz := ⟨_, rfl⟩
  have hsp : 0 < sz := by rw [hsz]; exact fGood.pos
  obtain ⟨V, hV⟩ : ∃ V, V = v_2.flatMap fGood.leaf := ⟨_, rfl⟩
  obtain ⟨X, hX⟩ : ∃ X, X = (s_0.drop k).flatMap fGood.leaf := ⟨_, rfl⟩
  obtain ⟨A, hAe⟩ : ∃ A, A = (s_0.take k).flatMap fGood.leaf := ⟨_, rfl⟩
  have hlV : V.length = v_2.length * sz := by rw [hV, flat_len, hsz]
  have hlX : X.length = (s_0.length - k) * sz := by rw [hX, flat_len, List.length_drop, hsz]
  have hlA : A.length = k * sz := by rw [hAe, flat_len, List.length_take, Nat.min_eq_left hk, hsz]
  have hflat : (s_0.take k ++ v_2 ++ s_0.drop k).flatMap fGood.leaf = A ++ V ++ X := by rw [List.flatMap_append, List.flatMap_append, hV, hX, hAe]
  have hsum : A.length + V.length + X.length = (s_0.length + v_2.length) * sz := by
    rw [hlA, hlV, hlX, ← Nat.add_mul, ← Nat.add_mul]; congr 1; omega
  have hAV : A.length + V.length = (k + v_2.length) * sz := by rw [hlA, hlV, ← Nat.add_mul]
  have hzl : (s_0.take k ++ v_2 ++ s_0.drop k).length * fGood.sz = A.length + V.length + X.length := by rw [hlz, ← hsz, hsum]
  have hcv : ∀ (w' : World), w'.heap[g2]? = w.heap[g2]? → ∀ j v, V[j]? = some v → w'.cell? ((⟨g2, 0, none⟩ : Addr).add j) = some v := by
    intro w' he j v hj
    have := row_src (F := fGood) (xs := v_2) (k := 0) (by rw [he]; exact hh2) v4 (Nat.zero_le _) j v (by simpa [hV] using hj)
    simpa using this
  have hcx : ∀ (w' : World), w'.heap[g]? = w.heap[g]? → ∀ j v, X[j]? = some v → w'.cell? ((⟨g, k * fGood.sz, none⟩ : Addr).add j) = some v := by
    intro w' he j v hj
    exact row_src (F := fGood) (xs := s_0) (k := k) (by rw [he]; exact hh) h4 hk j v (by rw [← hX]; exact hj)
  have oneV : ∀ u ∈ V, u.oneCell' = true := fun u hu => flat_one (F := fGood) v_2 u (by rw [← hV]; exact hu)
  have oneX : ∀ u ∈ X, u.oneCell' = true := fun u hu => flat_one (F := fGood) (s_0.drop k) u (by rw [← hX]; exact hu)
  -- 8
  refine WP.seq (fun K8 hK8 => ?_)
  refine WP.seq (fun K8' hK8' => ?_)
  refine WP.region ?_
  refine WL.runk 6 [0, 1, 2, 7, 8, 31] [(0, .slice (some ⟨g, 0, none⟩) s_0.length c0'), (1, .int .i64 (k : Int)), (2, .slice (some ⟨g2, 0, none⟩) v_2.length c2'), (7, .int .i64 (v_2.length : Int)), (8, .int .i64 (s_0.length : Int)), (31, .bool (decide (wI64 ((s_0.length : Int) + (v_2.length : Int)) > (c0' : Int))))] (by kernel_rfl) ?_
  refine WL.nil ?_
  refine WQ.then_normal (hK8' _ _ _ ?_)
  refine WP.cond (decide (wI64 ((s_0.length : Int) + (v_2.length : Int)) > (c0' : Int))) rfl rfl (fun hc => ?_) (fun hc => ?_)
  · -- no room: a new row
    have hroom : c0' < s_0.length + v_2.length := by
      have := of_decide_eq_true hc
      rw [hw1] at this; omega
    have hkz : k + (s_0.length + v_2.length - k) = s_0.length + v_2.length := by omega
    refine WP.seq (fun K9 hK9 => ?_)
    refine WP.region ?_
    refine WL.runk 2 [0, 1, 2, 7, 8, 32, 33] [(0, .slice (some ⟨g, 0, none⟩) s_0.length c0'), (1, .int .i64 (k : Int)), (2, .slice (some ⟨g2, 0, none⟩) v_2.length c2'), (7, .int .i64 (v_2.length : Int)), (8, .int .i64 (s_0.length : Int)), (32, .slice (some ⟨g, 0, none⟩) s_0.length c0'), (33, .int .i64 (k : Int))] (by kernel_rfl) ?_
    refine WL.st (.slice (some ⟨g, 0, none⟩) k c0') (ST.cutTo (F := fGood) rfl rfl Try.underlying25 (info56).1 (info56).2.1 ⟨_, rfl⟩ (by omega)) rfl rfl rfl ?_
    refine WL.runk 5 [0, 1, 2, 7, 8, 34, 39] [(0, .slice (some ⟨g, 0, none⟩) s_0.length c0'), (1, .int .i64 (k : Int)), (2, .slice (some ⟨g2, 0, none⟩) v_2.length c2'), (7, .int .i64 (v_2.length : Int)), (8, .int .i64 (s_0.length : Int)), (34, .slice (some ⟨g, 0, none⟩) k c0'), (39, .int .i64 (wI64 (wI64 ((s_0.length : Int) + (v_2.length : Int)) - (k : Int))))] (by kernel_rfl) ?_
    rw [hw1, hw3]
    refine WL.growZ (F := fGood) (xs := s_0.take k) (SGood.mk [] 0 0 0) 40 g k c0' (s_0.length + v_2.length - k) cur hh ?_ ?_ rfl rfl rfl Try.underlying25 Try.underlying3 (info56).1 (info56).2.2.1 (info56).2.1 (info56).2.2.2 rfl (by omega) (by omega) (by omega) rfl rfl rfl rfl ?_
    · rw [flat_take k hk, ← h4, List.take_take, Nat.min_eq_left (Nat.mul_le_mul_right _ hk)]
    · rw [List.length_take, Nat.min_eq_left hk]
    intro cap cur1 w1 hE1 hcap hcm hh1 hs1 hp1
    rw [← hAe] at hp1
    rw [hkz] at hcap ⊢
    obtain ⟨N, hN⟩ : ∃ N, N = w.heap.size := ⟨_, rfl⟩
    rw [← hN] at hh1 ⊢
    refine WL.runk 1 [0, 1, 2, 7, 9] [(0, .slice (some ⟨g, 0, none⟩) s_0.length c0'), (1, .int .i64 (k : Int)), (2, .slice (some ⟨g2, 0, none⟩) v_2.length c2'), (7, .int .i64 (v_2.length : Int)), (9, .slice (some ⟨N, 0, none⟩) (s_0.length + v_2.length) cap)] (by kernel_rfl) ?_
    refine WL.nil ?_
    refine WQ.then_normal (hK9 _ _ _ ?_)
    have hsz1 : cur1.toList.length = cap * sz := by rw [Array.length_toList, hs1, hsz]
    have hT : A.length + V.length + X.length ≤ cur1.toList.length := by rw [hsz1, hsum]; exact Nat.mul_le_mul_right _ hcap
    -- 10
    refine WP.seq (fun K10 hK10 => ?_)
    refine WP.region ?_
    refine WL.runk 2 [0, 1, 2, 7, 9, 41, 42] [(0, .slice (some ⟨g, 0, none⟩) s_0.length c0'), (1, .int .i64 (k : Int)), (2, .slice (some ⟨g2, 0, none⟩) v_2.length c2'), (7, .int .i64 (v_2.length : Int)), (9, .slice (some ⟨N, 0, none⟩) (s_0.length + v_2.length) cap), (41, .slice (some ⟨N, 0, none⟩) (s_0.length + v_2.length) cap), (42, .int .i64 (k : Int))] (by kernel_rfl) ?_
    refine WL.st (.slice (some ⟨N, k * fGood.sz, none⟩) (s_0.length + v_2.length - k) (cap - k)) (ST.cutFrom (F := fGood) rfl rfl Try.underlying25 (info56).1 (info56).2.1 ⟨_, rfl⟩ (by omega) hcap (by omega)) rfl rfl rfl ?_
    refine WL.runk 1 [0, 1, 2, 7, 9, 43, 44] [(0, .slice (some ⟨g, 0, none⟩) s_0.length c0'), (1, .int .i64 (k : Int)), (2, .slice (some ⟨g2, 0, none⟩) v_2.length c2'), (7, .int .i64 (v_2.length : Int)), (9, .slice (some ⟨N, 0, none⟩) (s_0.length + v_2.length) cap), (43, .slice (some ⟨N, k * fGood.sz, none⟩) (s_0.length + v_2.length - k) (cap - k)), (44, .slice (some ⟨g2, 0, none⟩) v_2.length c2')] (by kernel_rfl) ?_
    refine WL.copyH (F := fGood) 45 N (k * fGood.sz) (s_0.length + v_2.length - k) (cap - k) ⟨g2, 0, none⟩ v_2.length c2' cur1 V v_2.length rfl rfl rfl Try.underlying25 (info56).1 (info56).2.1 hh1 (Nat.min_eq_left (by omega)) (by rw [hlV, hsz]) (hcv w1 (hE1.block g2 hg2l)) ?_ oneV rfl rfl rfl rfl ?_
    · have e1 : cur1.toList.length = cur1.size := Array.length_toList
      rw [← hsz, ← hlA]; omega
    have hlA' : k * fGood.sz = A.length := by rw [hlA, hsz]
    rw [hlA']
    obtain ⟨cur2, hc2⟩ : ∃ cur2, cur2 = (ins cur1.toList A.length V).toArray := ⟨_, rfl⟩
    rw [← hc2]
    have hE2 : Ext w (w1.setRow N cur2) := Ext.row hE1 (by omega) _
    have hh2' : (w1.setRow N cur2).heap[N]? = some (.cells cur2 56 (0, 0)) := setRow_heap w1 N cur1 _ 56 _ hh1
    obtain ⟨w2, hw2e⟩ : ∃ w2, w2 = w1.setRow N cur2 := ⟨_, rfl⟩
    rw [← hw2e] at hE2 hh2' ⊢
    have hl2 : cur2.toList.length = cur1.toList.length := by rw [hc2]; exact ins_len (by omega)
    refine WL.sub [(0, .slice (some ⟨g, 0, none⟩) s_0.length c0'), (1, .int .i64 (k : Int)), (2, .slice (some ⟨g2, 0, none⟩) v_2.length c2'), (7, .int .i64 (v_2.length : Int)), (9, .slice (some ⟨N, 0, none⟩) (s_0.length + v_2.length) cap)] ⟨rfl, rfl, rfl, rfl, rfl, trivial⟩ ?_
    refine WL.nil ?_
    refine WQ.then_normal (hK10 _ _ _ ?_)
    -- 11
    refine WP.seq (fun K11 hK11 => ?_)
    refine WP.open (n := 9) (by kernel_rfl) rfl (fun w3 hE3 => ?_)
    have hN2 : N < w2.heap.size := (Array.getElem?_eq_some_iff.1 hh2').1
    have hh3 := (hE3.block N hN2).trans hh2'
    have hEw3 : Ext w w3 := Ext.trans hE2 hE3
    refine WA.quiet (f' := 1) (D' := [0, 1, 2, 3, 4, 5, 6, 7]) [0, 1, 2, 3, 4, 5, 6, 7] rfl rfl (by kernel_rfl) ?_
    refine QL.step1v 46 (.slice (some ⟨N, 0, none⟩) (s_0.length + v_2.length) cap) rfl (fun _ => by kernel_rfl) ?_
    refine QL.step1v 47 (.int .i64 (k : Int)) rfl (fun _ => by kernel_rfl) ?_
    refine QL.step1v 48 (.int .i64 (v_2.length : Int)) rfl (fun _ => by kernel_rfl) ?_
    refine QL.step1v 49 (.int .i64 (wI64 ((k : Int) + (v_2.length : Int)))) rfl (fun _ => by kernel_rfl) ?_
    rw [hw2]
    refine QL.subk [0, 1, 9, 46, 49] [(0, .slice (some ⟨g, 0, none⟩) s_0.length c0'), (1, .int .i64 (k : Int)), (9, .slice (some ⟨N, 0, none⟩) (s_0.length + v_2.length) cap), (46, .slice (some ⟨N, 0, none⟩) (s_0.length + v_2.length) cap), (49, .int .i64 ((k + v_2.length : Nat) : Int))] (by kernel_rfl) ?_
    refine QL.st (.slice (some ⟨N, (k + v_2.length) * fGood.sz, none⟩) (s_0.length + v_2.length - (k + v_2.length)) (cap - (k + v_2.length))) (ST.cutFrom (F := fGood) rfl rfl Try.underlying25 (info56).1 (info56).2.1 ⟨_, rfl⟩ (by omega) hcap (by omega)) rfl rfl rfl ?_
    refine QL.step1v 51 (.slice (some ⟨g, 0, none⟩) s_0.length c0') rfl (fun _ => by kernel_rfl) ?_
    refine QL.step1v 52 (.int .i64 (k : Int)) rfl (fun _ => by kernel_rfl) ?_
    refine QL.subk [9, 50, 51, 52] [(9, .slice (some ⟨N, 0, none⟩) (s_0.length + v_2.length) cap), (50, .slice (some ⟨N, (k + v_2.length) * fGood.sz, none⟩) (s_0.length + v_2.length - (k + v_2.length)) (cap - (k + v_2.length))), (51, .slice (some ⟨g, 0, none⟩) s_0.length c0'), (52, .int .i64 (k : Int))] (by kernel_rfl) ?_
    refine QL.st (.slice (some ⟨g, k * fGood.sz, none⟩) (s_0.length - k) (c0' - k)) (ST.cutFrom (F := fGood) rfl rfl Try.underlying25 (info56).1 (info56).2.1 ⟨_, rfl⟩ (by omega) hle (by omega)) rfl rfl rfl ?_
    refine QL.subk [9, 50, 53] [(9, .slice (some ⟨N, 0, none⟩) (s_0.length + v_2.length) cap), (50, .slice (some ⟨N, (k + v_2.length) * fGood.sz, none⟩) (s_0.length + v_2.length - (k + v_2.length)) (cap - (k + v_2.length))), (53, .slice (some ⟨g, k * fGood.sz, none⟩) (s_0.length - k) (c0' - k))] (by kernel_rfl) ?_
    refine QL.nil ?_
    intro w4 hE4
    have hN3 : N < w3.heap.size := (Array.getElem?_eq_some_iff.1 hh3).1
    have hh4 := (hE4.block N hN3).trans hh3
    have hEw4 : Ext w w4 := Ext.trans hEw3 hE4
    refine WA.one (i := 8) (D' := [0, 1, 2, 3, 4, 5, 6, 7, 8]) rfl rfl (by kernel_rfl) ?_
    refine WL.copyH (F := fGood) 54 N ((k + v_2.length) * fGood.sz) (s_0.length + v_2.length - (k + v_2.length)) (cap - (k + v_2.length)) ⟨g, k * fGood.sz, none⟩ (s_0.length - k) (c0' - k) cur2 X (s_0.length - k) rfl rfl rfl Try.underlying25 (info56).1 (info56).2.1 hh4 (Nat.min_eq_left (by omega)) (by rw [hlX, hsz]) (hcx w4 (hEw4.block g hgl)) ?_ oneX rfl rfl rfl rfl ?_
    · have e1 : cur2.toList.length = cur2.size := Array.length_toList
      rw [← hsz, ← hAV]; omega
    have hAV' : (k + v_2.length) * fGood.sz = A.length + V.length := by rw [hAV, hsz]
    rw [hAV']
    obtain ⟨cur3, hc3⟩ : ∃ cur3, cur3 = (ins cur2.toList (A.length + V.length) X).toArray := ⟨_, rfl⟩
    rw [← hc3]
    refine WL.sub [(9, .slice (some ⟨N, 0, none⟩) (s_0.length + v_2.length) cap)] ⟨rfl, trivial⟩ ?_
    refine WL.nil ?_
    refine WA.done (by kernel_rfl) ?_
    refine WQ.then_normal (hK11 _ _ _ ?_)
    have hE5 : Ext w (w4.setRow N cur3) := Ext.row hEw4 (by omega) _
    have hh5 : (w4.setRow N cur3).heap[N]? = some (.cells cur3 56 (0, 0)) := setRow_heap w4 N cur2 _ 56 _ hh4
    have hl3 : cur3.size = cap * fGood.sz := by
      rw [hc3, ins_arr (by rw [hl2]; exact hT), hl2, hsz1, hsz]
    have htk : cur3.toList.take ((s_0.take k ++ v_2 ++ s_0.drop k).length * fGood.sz) = (s_0.take k ++ v_2 ++ s_0.drop k).flatMap fGood.leaf := by
      rw [hzl, hflat, hc3, hc2]
      exact ins_grow (by rw [hlA, ← hp1, hsz]) hT
    obtain ⟨hB5, hS5⟩ := hup (w4.setRow N cur3) N cur3 cap (s_0.take k ++ v_2 ++ s_0.drop k) hE5.mod (.inr (by omega)) hh5 (by rw [hlz]; exact hcap) hcm hl3 htk
    refine WP.seq (fun K12 hK12 => ?_)
    refine WP.region ?_
    refine WL.runk 2 [6] [(6, .slice (some ⟨N, 0, none⟩) (s_0.length + v_2.length) cap)] (by kernel_rfl) ?_
    refine WL.nil ?_
    refine WQ.then_normal (hK12 _ _ _ ?_)
    refine WP.ret ?_
    refine WQ.then_ret ?_
    exact WQ.ret1 _ rfl rfl ⟨_, _, by rw [hlz], hB5, hS5⟩
  -- room
  have hroom : s_0.length + v_2.length ≤ c0' := by
    have := of_decide_eq_false hc
    rw [hw1] at this; omega
  have hT : A.length + V.length + X.length ≤ cur.toList.length := by
    have e1 : cur.toList.length = cur.size := Array.length_toList
    rw [e1, h3, ← hsz, hsum]; exact Nat.mul_le_mul_right _ hroom
  refine WP.skip ?_
  refine WQ.then_normal (hK8 _ _ _ ?_)
  -- 13
  refine WP.seq (fun K13 hK13 => ?_)
  refine WP.region ?_
  refine WL.runk 4 [1, 2, 7, 56, 59] [(1, .int .i64 (k : Int)), (2, .slice (some ⟨g2, 0, none⟩) v_2.length c2'), (7, .int .i64 (v_2.length : Int)), (56, .slice (some ⟨g, 0, none⟩) s_0.length c0'), (59, .int .i64 (wI64 ((s_0.length : Int) + (v_2.length : Int))))] (by kernel_rfl) ?_
  rw [hw1]
  refine WL.st (.slice (some ⟨g, 0, none⟩) (s_0.length + v_2.length) c0') (ST.cutTo (F := fGood) rfl rfl Try.underlying25 (info56).1 (info56).2.1 ⟨_, rfl⟩ hroom) rfl rfl rfl ?_
  refine WL.runk 1 [0, 1, 2, 7] [(1, .int .i64 (k : Int)), (2, .slice (some ⟨g2, 0, none⟩) v_2.length c2'), (7, .int .i64 (v_2.length : Int)), (0, .slice (some ⟨g, 0, none⟩) (s_0.length + v_2.length) c0')] (by kernel_rfl) ?_
  refine WL.nil ?_
  refine WQ.then_normal (hK13 _ _ _ ?_)
  -- 14
  refine WP.seq (fun K14 hK14 => ?_)
  refine WP.seq (fun K14' hK14' => ?_)
  refine WP.region ?_
  refine WL.runk 5 [0, 1, 2, 7, 61, 62, 65] [(1, .int .i64 (k : Int)), (2, .slice (some ⟨g2, 0, none⟩) v_2.length c2'), (7, .int .i64 (v_2.length : Int)), (0, .slice (some ⟨g, 0, none⟩) (s_0.length + v_2.length) c0'), (61, .slice (some ⟨g2, 0, none⟩) v_2.length c2'), (62, .slice (some ⟨g, 0, none⟩) (s_0.length + v_2.length) c0'), (65, .int .i64 (wI64 ((k : Int) + (v_2.length : Int))))] (by kernel_rfl) ?_
  rw [hw2]
  refine WL.st (.slice (some ⟨g, (k + v_2.length) * fGood.sz, none⟩) (s_0.length + v_2.length - (k + v_2.length)) (c0' - (k + v_2.length))) (ST.cutFrom (F := fGood) rfl rfl Try.underlying25 (info56).1 (info56).2.1 ⟨_, rfl⟩ (by omega) hroom (by omega)) rfl rfl rfl ?_
  refine WL.apart (f := 87) (fn := Try.f87) (t := 25) (tR := 4) 67 rfl rfl rfl Try.func87 (by kernel_rfl) rfl (by kernel_rfl) rfl Try.underlying25 (info56).1 hne hh2 hh (by rw [h3]; have := Nat.mul_pos (by omega : 0 < c0') fGood.pos; omega) rfl rfl rfl rfl ?_
  refine WL.runk 1 [0, 1, 2, 7, 68] [(1, .int .i64 (k : Int)), (2, .slice (some ⟨g2, 0, none⟩) v_2.length c2'), (7, .int .i64 (v_2.length : Int)), (0, .slice (some ⟨g, 0, none⟩) (s_0.length + v_2.length) c0'), (68, .bool true)] (by kernel_rfl) ?_
  refine WL.nil ?_
  refine WQ.then_normal (hK14' _ _ _ ?_)
  refine WP.cond true rfl rfl (fun _ => ?_) (fun h => by cases h)
  -- 15
  refine WP.seq (fun K15 hK15 => ?_)
  refine WP.open (n := 9) (by kernel_rfl) rfl (fun w3 hE3 => ?_)
  refine WA.quiet (f' := 1) (D' := [0, 1, 2, 3, 4, 5, 6, 7]) [0, 1, 2, 3, 4, 5, 6, 7] rfl rfl (by kernel_rfl) ?_
  refine QL.step1v 69 (.slice (some ⟨g, 0, none⟩) (s_0.length + v_2.length) c0') rfl (fun _ => by kernel_rfl) ?_
  refine QL.step1v 70 (.int .i64 (k : Int)) rfl (fun _ => by kernel_rfl) ?_
  refine QL.step1v 71 (.int .i64 (v_2.length : Int)) rfl (fun _ => by kernel_rfl) ?_
  refine QL.step1v 72 (.int .i64 (wI64 ((k : Int) + (v_2.length : Int)))) rfl (fun _ => by kernel_rfl) ?_
  rw [hw2]
  refine QL.subk [1, 2, 0, 69, 72] [(1, .int .i64 (k : Int)), (2, .slice (some ⟨g2, 0, none⟩) v_2.length c2'), (0, .slice (some ⟨g, 0, none⟩) (s_0.length + v_2.length) c0'), (69, .slice (some ⟨g, 0, none⟩) (s_0.length + v_2.length) c0'), (72, .int .i64 ((k + v_2.length : Nat) : Int))] (by kernel_rfl) ?_
  refine QL.st (.slice (some ⟨g, (k + v_2.length) * fGood.sz, none⟩) (s_0.length + v_2.length - (k + v_2.length)) (c0' - (k + v_2.length))) (ST.cutFrom (F := fGood) rfl rfl Try.underlying25 (info56).1 (info56).2.1 ⟨_, rfl⟩ (by omega) hroom (by omega)) rfl rfl rfl ?_
  refine QL.step1v 74 (.slice (some ⟨g, 0, none⟩) (s_0.length + v_2.length) c0') rfl (fun _ => by kernel_rfl) ?_
  refine QL.step1v 75 (.int .i64 (k : Int)) rfl (fun _ => by kernel_rfl) ?_
  refine QL.subk [1, 2, 0, 73, 74, 75] [(1, .int .i64 (k : Int)), (2, .slice (some ⟨g2, 0, none⟩) v_2.length c2'), (0, .slice (some ⟨g, 0, none⟩) (s_0.length + v_2.length) c0'), (73, .slice (some ⟨g, (k + v_2.length) * fGood.sz, none⟩) (s_0.length + v_2.length - (k + v_2.length)) (c0' - (k + v_2.length))), (74, .slice (some ⟨g, 0, none⟩) (s_0.length + v_2.length) c0'), (75, .int .i64 (k : Int))] (by kernel_rfl) ?_
  refine QL.st (.slice (some ⟨g, k * fGood.sz, none⟩) (s_0.length + v_2.length - k) (c0' - k)) (ST.cutFrom (F := fGood) rfl rfl Try.underlying25 (info56).1 (info56).2.1 ⟨_, rfl⟩ (by omega) hroom (by omega)) rfl rfl rfl ?_
  refine QL.subk [1, 2, 0, 73, 76] [(1, .int .i64 (k : Int)), (2, .slice (some ⟨g2, 0, none⟩) v_2.length c2'), (0, .slice (some ⟨g, 0, none⟩) (s_0.length + v_2.length) c0'), (73, .slice (some ⟨g, (k + v_2.length) * fGood.sz, none⟩) (s_0.length + v_2.length - (k + v_2.length)) (c0' - (k + v_2.length))), (76, .slice (some ⟨g, k * fGood.sz, none⟩) (s_0.length + v_2.length - k) (c0' - k))] (by kernel_rfl) ?_
  refine QL.nil ?_
  intro w4 hE4
  have hEw4 : Ext w w4 := Ext.trans hE3 hE4
  have hh4 := (hEw4.block g hgl).trans hh
  refine WA.one (i := 8) (D' := [0, 1, 2, 3, 4, 5, 6, 7, 8]) rfl rfl (by kernel_rfl) ?_
  refine WL.copyH (F := fGood) 77 g ((k + v_2.length) * fGood.sz) (s_0.length + v_2.length - (k + v_2.length)) (c0' - (k + v_2.length)) ⟨g, k * fGood.sz, none⟩ (s_0.length + v_2.length - k) (c0' - k) cur X (s_0.length - k) rfl rfl rfl Try.underlying25 (info56).1 (info56).2.1 hh4 (by rw [show s_0.length + v_2.length - (k + v_2.length) = s_0.length - k by omega]; exact Nat.min_eq_right (by omega)) (by rw [hlX, hsz]) (hcx w4 (hEw4.block g hgl)) ?_ oneX rfl rfl rfl rfl ?_
  · have e1 : cur.toList.length = cur.size := Array.length_toList
    rw [← hsz, ← hAV]; omega
  have hAV' : (k + v_2.length) * fGood.sz = A.length + V.length := by rw [hAV, hsz]
  rw [hAV']
  obtain ⟨cur5, hc5⟩ : ∃ cur5, cur5 = (ins cur.toList (A.length + V.length) X).toArray := ⟨_, rfl⟩
  rw [← hc5]
  have hm5 : Mod S w (w4.setRow g cur5) := Mod.trans hEw4.mod (Mod.row cur5 hg)
  have hh5 : (w4.setRow g cur5).heap[g]? = some (.cells cur5 56 (0, 0)) := setRow_heap w4 g cur _ 56 _ hh4
  have hv5 : (w4.setRow g cur5).heap[g2]? = w.heap[g2]? := (setRow_other w4 g g2 _ (fun e => hne e)).trans (hEw4.block g2 hg2l)
  obtain ⟨w5, hw5e⟩ : ∃ w5, w5 = w4.setRow g cur5 := ⟨_, rfl⟩
  rw [← hw5e] at hm5 hh5 hv5 ⊢
  have hl5 : cur5.toList.length = cur.toList.length := by rw [hc5]; exact ins_len hT
  refine WL.sub [(1, .int .i64 (k : Int)), (2, .slice (some ⟨g2, 0, none⟩) v_2.length c2'), (0, .slice (some ⟨g, 0, none⟩) (s_0.length + v_2.length) c0')] ⟨rfl, rfl, rfl, trivial⟩ ?_
  refine WL.nil ?_
  refine WA.done (by kernel_rfl) ?_
  refine WQ.then_normal (hK15 _ _ _ ?_)
  -- 16
  refine WP.seq (fun K16 hK16 => ?_)
  refine WP.region ?_
  refine WL.runk 2 [2, 0, 78, 79] [(2, .slice (some ⟨g2, 0, none⟩) v_2.length c2'), (0, .slice (some ⟨g, 0, none⟩) (s_0.length + v_2.length) c0'), (78, .slice (some ⟨g, 0, none⟩) (s_0.length + v_2.length) c0'), (79, .int .i64 (k : Int))] (by kernel_rfl) ?_
  refine WL.st (.slice (some ⟨g, k * fGood.sz, none⟩) (s_0.length + v_2.length - k) (c0' - k)) (ST.cutFrom (F := fGood) rfl rfl Try.underlying25 (info56).1 (info56).2.1 ⟨_, rfl⟩ (by omega) hroom (by omega)) rfl rfl rfl ?_
  refine WL.runk 1 [0, 80, 81] [(0, .slice (some ⟨g, 0, none⟩) (s_0.length + v_2.length) c0'), (80, .slice (some ⟨g, k * fGood.sz, none⟩) (s_0.length + v_2.length - k) (c0' - k)), (81, .slice (some ⟨g2, 0, none⟩) v_2.length c2')] (by kernel_rfl) ?_
  refine WL.copyH (F := fGood) 82 g (k * fGood.sz) (s_0.length + v_2.length - k) (c0' - k) ⟨g2, 0, none⟩ v_2.length c2' cur5 V v_2.length rfl rfl rfl Try.underlying25 (info56).1 (info56).2.1 hh5 (Nat.min_eq_left (by omega)) (by rw [hlV, hsz]) (hcv w5 hv5) ?_ oneV rfl rfl rfl rfl ?_
  · have e1 : cur5.toList.length = cur5.size := Array.length_toList
    rw [← hsz, ← hlA]; omega
  have hlA' : k * fGood.sz = A.length := by rw [hlA, hsz]
  rw [hlA']
  obtain ⟨cur6, hc6⟩ : ∃ cur6, cur6 = (ins cur5.toList A.length V).toArray := ⟨_, rfl⟩
  rw [← hc6]
  have hm6 : Mod S w (w5.setRow g cur6) := Mod.trans hm5 (Mod.row cur6 hg)
  have hh6 : (w5.setRow g cur6).heap[g]? = some (.cells cur6 56 (0, 0)) := setRow_heap w5 g cur5 _ 56 _ hh5
  have hl6 : cur6.size = c0' * fGood.sz := by
    rw [hc6, ins_arr (by rw [hl5]; omega), hl5, Array.length_toList, h3]
  have htk : cur6.toList.take ((s_0.take k ++ v_2 ++ s_0.drop k).length * fGood.sz) = (s_0.take k ++ v_2 ++ s_0.drop k).flatMap fGood.leaf := by
    rw [hzl, hflat, hc6, hc5]
    exact ins_room (by rw [hlA, hAe, flat_take k hk, ← h4, List.take_take, Nat.min_eq_left (Nat.mul_le_mul_right _ hk), hsz]) hT
  obtain ⟨hB6, hS6⟩ := hup (w5.setRow g cur6) g cur6 c0' (s_0.take k ++ v_2 ++ s_0.drop k) hm6 (.inl hg) hh6 (by rw [hlz]; exact hroom) h2 hl6 htk
  refine WL.sub [(0, .slice (some ⟨g, 0, none⟩) (s_0.length + v_2.length) c0')] ⟨rfl, trivial⟩ ?_
  refine WL.nil ?_
  refine WQ.then_normal (hK16 _ _ _ ?_)
  refine WP.seq (fun K17 hK17 => ?_)
  refine WP.region ?_
  refine WL.runk 2 [6] [(6, .slice (some ⟨g, 0, none⟩) (s_0.length + v_2.length) c0')] (by kernel_rfl) ?_
  refine WL.nil ?_
  refine WQ.then_normal (hK17 _ _ _ ?_)
  refine WP.ret ?_
  refine WQ.then_ret ?_
  exact WQ.ret1 _ rfl rfl ⟨_, _, by rw [hlz], hB6, hS6⟩

theorem c_42 (n : Nat) (list_0 : List SGood) (a0' : Option Addr) (c0' : Nat) (g_1 : SGood) (w : World) {r : List SGood × Int} (hm : m_impl_AddGood n list_0 g_1 = some r) (h0 : Rd fGood.ty w a0' list_0) (hle0 : list_0.length ≤ c0') :
    CallV Try.prog 42 #[.slice a0' list_0.length c0', .agg #[.string (bs g_1.Name), .int .i64 g_1.OnHand, .int .i64 g_1.Reserved, .int .i64 g_1.Least]] w (fun v w' => ∃ (ra0 : Option Addr) (rc0 : Nat), v = .tuple #[.slice ra0 r.1.length rc0, .int .i64 r.2] ∧ Ext w w' ∧ SH w' w.heap.size [aOwn fGood 56 ra0 rc0 r.1]) := by
  unfold m_impl_AddGood at hm
  refine CallV.enter Try.func42 rfl (by kernel_rfl) Try.ntmps42 (env := [(0, .slice a0' list_0.length c0'), (1, .agg #[.string (bs g_1.Name), .int .i64 g_1.OnHand, .int .i64 g_1.Reserved, .int .i64 g_1.Least])]) ⟨rfl, rfl, trivial⟩ ?_
  refine WP.seq (fun K1 hK1 => ?_)
  refine WP.region ?_
  refine WL.box 56 [.string (bs g_1.Name), .int .i64 g_1.OnHand, .int .i64 g_1.Reserved, .int .i64 g_1.Least] 3 (by kernel_rfl) rfl rfl rfl rfl ?_
  intro b2 w3 hE4 hR5
  have hb7 : Ext w w3 := Ext.trans (Ext.refl w) hE4
  have hL8 : w.heap.size ≤ w3.heap.size := Nat.le_trans (Nat.le_refl _) hE4.size
  have hS9 : SH w3 w.heap.size [aBox 56 b2 [.string (bs g_1.Name), .int .i64 g_1.OnHand, .int .i64 g_1.Reserved, .int .i64 g_1.Least]] := SH.add (SH.nil _ _) hE4 (Nat.le_refl _) hR5
  refine WL.runk 2 [0, 3] [(0, .slice a0' list_0.length c0'), (3, .pointer (some ⟨b2, 0, none⟩))] (by kernel_rfl) ?_
  refine WL.nil ?_
  refine WQ.then_normal (hK1 _ _ _ ?_)
  refine WP.seq (fun K10 hK10 => ?_)
  refine WP.block ?_
  refine WP.seq (fun K11 hK11 => ?_)
  refine WP.region ?_
  refine WL.runk 1 [0, 3, 9] [(0, .slice a0' list_0.length c0'), (3, .pointer (some ⟨b2, 0, none⟩)), (9, .slice a0' list_0.length c0')] (by kernel_rfl) ?_
  obtain ⟨x12, hx13, hm⟩ := bindE hm
  refine WL.call 19 #[.slice a0' list_0.length c0'] rfl rfl (by kernel_rfl) (c_19 n list_0 a0' c0' w3 hx13 (Rd.below h0 hb7) hle0) ?_
  rintro _ w14 ⟨rfl, hE15⟩
  refine ⟨_, rfl, ?_⟩
  have hb17 : Ext w w14 := Ext.trans hb7 hE15
  have hL18 : w.heap.size ≤ w14.heap.size := Nat.le_trans hL8 hE15.size
  have hS19 : SH w14 w.heap.size [aBox 56 b2 [.string (bs g_1.Name), .int .i64 g_1.OnHand, .int .i64 g_1.Reserved, .int .i64 g_1.Least]] := SH.ext hS9 hE15
  refine WL.runk 2 [0, 3, 8] [(0, .slice a0' list_0.length c0'), (3, .pointer (some ⟨b2, 0, none⟩)), (8, .bool (!x12))] (by kernel_rfl) ?_
  refine WL.nil ?_
  refine WQ.then_normal (hK11 _ _ _ ?_)
  refine WP.cond (!x12) rfl rfl (fun hc20 => ?_) (fun hc20 => ?_)
  · have hm := iteT hm hc20
    refine WP.seq (fun K21 hK21 => ?_)
    refine WP.region ?_
    refine WL.runk 2 [4, 5] [(4, .slice none 0 0), (5, .int .i64 1)] (by kernel_rfl) ?_
    refine WL.nil ?_
    refine WQ.then_normal (hK21 _ _ _ ?_)
    refine WP.ret ?_
    refine WQ.block_ret ?_
    refine WQ.then_ret ?_
    obtain rfl := Option.some.inj hm
    have hS23 : SH w14 w.heap.size [aOwn fGood 56 none 0 ([] : List SGood), aBox 56 b2 [.string (bs g_1.Name), .int .i64 g_1.OnHand, .int .i64 g_1.Reserved, .int .i64 g_1.Least]] := SH.nilOwn hS19
    exact WQ.ret2 _ _ rfl rfl rfl ⟨_, _, rfl, hb17, (SH.take 1 hS23)⟩
  have hm := iteF hm hc20
  refine WP.seq (fun K24 hK24 => ?_)
  refine WP.region ?_
  refine WL.st (.agg #[.string (bs g_1.Name), .int .i64 g_1.OnHand, .int .i64 g_1.Reserved, .int .i64 g_1.Least]) (ST.loadAgg (vs := [.string (bs g_1.Name), .int .i64 g_1.OnHand, .int .i64 g_1.Reserved, .int .i64 g_1.Least]) (fun j v hv => SH.boxPart (us := [.string (bs g_1.Name), .int .i64 g_1.OnHand, .int .i64 g_1.Reserved, .int .i64 g_1.Least]) (SH.front 0 hS19) 0 rfl j v hv) rfl rfl rfl Try.underlying56 rfl (info56).1 (info56).2.1) rfl rfl rfl ?_
  obtain ⟨x25, hx26, hm⟩ := bindE hm
  refine WL.call 53 #[.agg #[.string (bs g_1.Name), .int .i64 g_1.OnHand, .int .i64 g_1.Reserved, .int .i64 g_1.Least]] rfl rfl (by kernel_rfl) (c_53 n g_1 w14 hx26 ) ?_
  rintro _ w27 ⟨rfl, hE28⟩
  refine ⟨_, rfl, ?_⟩
  have hb30 : Ext w w27 := Ext.trans hb17 hE28
  have hL31 : w.heap.size ≤ w27.heap.size := Nat.le_trans hL18 hE28.size
  have hS32 : SH w27 w.heap.size [aBox 56 b2 [.string (bs g_1.Name), .int .i64 g_1.OnHand, .int .i64 g_1.Reserved, .int .i64 g_1.Least]] := SH.ext hS19 hE28
  refine WL.runk 2 [0, 3, 12] [(0, .slice a0' list_0.length c0'), (3, .pointer (some ⟨b2, 0, none⟩)), (12, .bool (!x25))] (by kernel_rfl) ?_
  refine WL.nil ?_
  refine WQ.then_normal (hK24 _ _ _ ?_)
  refine WP.cond (!x25) rfl rfl (fun hc33 => ?_) (fun hc33 => ?_)
  · have hm := iteT hm hc33
    refine WP.seq (fun K34 hK34 => ?_)
    refine WP.region ?_
    refine WL.runk 2 [4, 5] [(4, .slice none 0 0), (5, .int .i64 2)] (by kernel_rfl) ?_
    refine WL.nil ?_
    refine WQ.then_normal (hK34 _ _ _ ?_)
    refine WP.ret ?_
    refine WQ.block_ret ?_
    refine WQ.then_ret ?_
    obtain rfl := Option.some.inj hm
    have hS36 : SH w27 w.heap.size [aOwn fGood 56 none 0 ([] : List SGood), aBox 56 b2 [.string (bs g_1.Name), .int .i64 g_1.OnHand, .int .i64 g_1.Reserved, .int .i64 g_1.Least]] := SH.nilOwn hS32
    exact WQ.ret2 _ _ rfl rfl rfl ⟨_, _, rfl, hb30, (SH.take 1 hS36)⟩
  have hm := iteF hm hc33
  refine WP.skip ?_
  refine WQ.block_normal ?_
  refine WQ.then_normal (hK10 _ _ _ ?_)
  refine WP.seq (fun K37 hK37 => ?_)
  refine WP.region ?_
  refine WL.runk 2 [0, 3, 17, 18] [(0, .slice a0' list_0.length c0'), (3, .pointer (some ⟨b2, 0, none⟩)), (17, .slice a0' list_0.length c0'), (18, .pointer (some ⟨b2, 0, none⟩))] (by kernel_rfl) ?_
  refine WL.st (.string (bs g_1.Name)) (ST.load (cell_ext (SH.boxAt (SH.front 0 hS32) 0 _ rfl)) rfl rfl Try.underlying9 rfl) rfl rfl rfl ?_
  obtain ⟨x38, hx39, hm⟩ := bindE hm
  refine WL.call 68 #[.slice a0' list_0.length c0', .string (bs g_1.Name)] rfl rfl (by kernel_rfl) (c_68 n list_0 a0' c0' g_1.Name w27 hx39 (Rd.below h0 hb30) hle0) ?_
  rintro _ w40 ⟨rfl, hE41⟩
  refine ⟨_, rfl, ?_⟩
  have hb43 : Ext w w40 := Ext.trans hb30 hE41
  have hL44 : w.heap.size ≤ w40.heap.size := Nat.le_trans hL31 hE41.size
  have hS45 : SH w40 w.heap.size [aBox 56 b2 [.string (bs g_1.Name), .int .i64 g_1.OnHand, .int .i64 g_1.Reserved, .int .i64 g_1.Least]] := SH.ext hS32 hE41
  refine WL.runk 5 [0, 3, 6, 7] [(0, .slice a0' list_0.length c0'), (3, .pointer (some ⟨b2, 0, none⟩)), (6, .int .i64 x38.1), (7, .bool x38.2)] (by kernel_rfl) ?_
  refine WL.nil ?_
  refine WQ.then_normal (hK37 _ _ _ ?_)
  refine WP.seq (fun K46 hK46 => ?_)
  refine WP.block ?_
  refine WP.seq (fun K47 hK47 => ?_)
  refine WP.region ?_
  refine WL.runk 2 [0, 3, 6, 23] [(0, .slice a0' list_0.length c0'), (3, .pointer (some ⟨b2, 0, none⟩)), (6, .int .i64 x38.1), (23, .bool x38.2)] (by kernel_rfl) ?_
  refine WL.nil ?_
  refine WQ.then_normal (hK47 _ _ _ ?_)
  refine WP.cond x38.2 rfl rfl (fun hc48 => ?_) (fun hc48 => ?_)
  · have hm := iteT hm hc48
    refine WP.seq (fun K49 hK49 => ?_)
    refine WP.region ?_
    refine WL.runk 2 [4, 5] [(4, .slice none 0 0), (5, .int .i64 4)] (by kernel_rfl) ?_
    refine WL.nil ?_
    refine WQ.then_normal (hK49 _ _ _ ?_)
    refine WP.ret ?_
    refine WQ.block_ret ?_
    refine WQ.then_ret ?_
    obtain rfl := Option.some.inj hm
    have hS51 : SH w40 w.heap.size [aOwn fGood 56 none 0 ([] : List SGood), aBox 56 b2 [.string (bs g_1.Name), .int .i64 g_1.OnHand, .int .i64 g_1.Reserved, .int .i64 g_1.Least]] := SH.nilOwn hS45
    exact WQ.ret2 _ _ rfl rfl rfl ⟨_, _, rfl, hb43, (SH.take 1 hS51)⟩
  have hm := iteF hm hc48
  refine WP.seq (fun K52 hK52 => ?_)
  refine WP.region ?_
  refine WL.runk 4 [0, 3, 6, 25] [(0, .slice a0' list_0.length c0'), (3, .pointer (some ⟨b2, 0, none⟩)), (6, .int .i64 x38.1), (25, .bool ((list_0.length : Int) == 40))] (by kernel_rfl) ?_
  refine WL.nil ?_
  refine WQ.then_normal (hK52 _ _ _ ?_)
  refine WP.cond ((list_0.length : Int) == 40) rfl rfl (fun hc53 => ?_) (fun hc53 => ?_)
  · have hm := iteT hm hc53
    refine WP.seq (fun K54 hK54 => ?_)
    refine WP.region ?_
    refine WL.runk 2 [4, 5] [(4, .slice none 0 0), (5, .int .i64 5)] (by kernel_rfl) ?_
    refine WL.nil ?_
    refine WQ.then_normal (hK54 _ _ _ ?_)
    refine WP.ret ?_
    refine WQ.block_ret ?_
    refine WQ.then_ret ?_
    obtain rfl := Option.some.inj hm
    have hS56 : SH w40 w.heap.size [aOwn fGood 56 none 0 ([] : List SGood), aBox 56 b2 [.string (bs g_1.Name), .int .i64 g_1.OnHand, .int .i64 g_1.Reserved, .int .i64 g_1.Least]] := SH.nilOwn hS45
    exact WQ.ret2 _ _ rfl rfl rfl ⟨_, _, rfl, hb43, (SH.take 1 hS56)⟩
  have hm := iteF hm hc53
  refine WP.skip ?_
  refine WQ.block_normal ?_
  refine WQ.then_normal (hK46 _ _ _ ?_)
  refine WP.seq (fun K57 hK57 => ?_)
  refine WP.open (n := 8) (by kernel_rfl) rfl (fun w58 hE59 => ?_)
  have hb60 : Ext w w58 := Ext.trans hb43 hE59
  have hL61 : w.heap.size ≤ w58.heap.size := Nat.le_trans hL44 hE59.size
  have hS62 : SH w58 w.heap.size [aBox 56 b2 [.string (bs g_1.Name), .int .i64 g_1.OnHand, .int .i64 g_1.Reserved, .int .i64 g_1.Least]] := SH.ext hS45 hE59
  obtain ⟨x77, hx78, hm⟩ := bindE hm
  refine WA.par (R := []) (f' := 3) (D' := [0, 1, 2, 3, 4]) [⟨0, [], fun _ => .slice a0' list_0.length c0'⟩, ⟨1, [1], fun g63 => .slice ((g63 1 0).1) x77.length ((g63 1 0).2)⟩, ⟨2, [], fun _ => .int .i64 x38.1⟩, ⟨3, [], fun _ => .agg #[.string (bs g_1.Name), .int .i64 g_1.OnHand, .int .i64 g_1.Reserved, .int .i64 g_1.Least]⟩, ⟨4, [4], fun g63 => .slice ((g63 4 0).1) (([g_1] : List SGood).length) ((g63 4 0).2)⟩] [⟨[aBox 56 b2 [.string (bs g_1.Name), .int .i64 g_1.OnHand, .int .i64 g_1.Reserved, .int .i64 g_1.Least]], []⟩, ⟨[], [⟨1, [1], fun g63 => [aOwn fGood 56 ((g63 1 0).1) ((g63 1 0).2) x77]⟩]⟩, ⟨[], [⟨4, [4], fun g63 => [aOwn fGood 56 ((g63 4 0).1) ((g63 4 0).2) ([g_1] : List SGood)]⟩]⟩] rfl rfl hS62 (by kernel_rfl) (by kernel_rfl) ⟨?_, ?_, ?_, ?_, ?_, trivial⟩ ?_
  · intro g63 w65 R64 hB66 hS67
    have hS68 : SH w65 w.heap.size (aBox 56 b2 [.string (bs g_1.Name), .int .i64 g_1.OnHand, .int .i64 g_1.Reserved, .int .i64 g_1.Least] :: R64) := memEq hS67 (by kernel_rfl)
    have hb69 : Ext w w65 := Below.trans hb60 hB66
    have hL70 : w.heap.size ≤ w65.heap.size := Nat.le_trans hL61 hB66.size
    refine WL.subk [0] [(0, .slice a0' list_0.length c0')] (by kernel_rfl) ?_
    refine WL.runk 1 [29] [(29, .slice a0' list_0.length c0')] (by kernel_rfl) ?_
    refine WL.nil ?_
    exact QP.intro (fun k => ([] : List (Option Addr × Nat)).getD k (none, 0)) (d := 29) (by kernel_rfl) (by kernel_rfl) (Below.refl _ _) hS68 (by kernel_rfl)
  · intro g63 w71 R64 hB72 hS73
    have hS74 : SH w71 w.heap.size (aBox 56 b2 [.string (bs g_1.Name), .int .i64 g_1.OnHand, .int .i64 g_1.Reserved, .int .i64 g_1.Least] :: R64) := memEq hS73 (by kernel_rfl)
    have hb75 : Ext w w71 := Below.trans hb60 hB72
    have hL76 : w.heap.size ≤ w71.heap.size := Nat.le_trans hL61 hB72.size
    refine WL.subk [29] [(29, .slice a0' list_0.length c0')] (by kernel_rfl) ?_
    refine WL.call 58 #[.slice a0' list_0.length c0'] rfl rfl (by kernel_rfl) (c_58 n list_0 a0' c0' w71 hx78 (Rd.below h0 hb75) hle0) ?_
    rintro _ w82 ⟨a79, c80, rfl, hE83, hR84⟩
    refine ⟨_, rfl, ?_⟩
    have hb85 : Ext w w82 := Ext.trans hb75 hE83
    have hL86 : w.heap.size ≤ w82.heap.size := Nat.le_trans hL76 hE83.size
    have hS87 : SH w82 w.heap.size (aOwn fGood 56 a79 c80 x77 :: aBox 56 b2 [.string (bs g_1.Name), .int .i64 g_1.OnHand, .int .i64 g_1.Reserved, .int .i64 g_1.Least] :: R64) := SH.add hS74 hE83 hL76 hR84
    refine WL.nil ?_
    exact QP.intro (fun k => ([(a79, c80)] : List (Option Addr × Nat)).getD k (none, 0)) (d := 30) (by kernel_rfl) (by kernel_rfl) (Below.mono hE83 hL76) (SH.front 1 hS87) (by kernel_rfl)
  · intro g63 w88 R64 hB89 hS90
    have hS91 : SH w88 w.heap.size (aBox 56 b2 [.string (bs g_1.Name), .int .i64 g_1.OnHand, .int .i64 g_1.Reserved, .int .i64 g_1.Least] :: R64) := memEq hS90 (by kernel_rfl)
    have hb92 : Ext w w88 := Below.trans hb60 hB89
    have hL93 : w.heap.size ≤ w88.heap.size := Nat.le_trans hL61 hB89.size
    refine WL.subk [6] [(6, .int .i64 x38.1)] (by kernel_rfl) ?_
    refine WL.runk 1 [31] [(31, .int .i64 x38.1)] (by kernel_rfl) ?_
    refine WL.nil ?_
    exact QP.intro (fun k => ([] : List (Option Addr × Nat)).getD k (none, 0)) (d := 31) (by kernel_rfl) (by kernel_rfl) (Below.refl _ _) hS91 (by kernel_rfl)
  · intro g63 w94 R64 hB95 hS96
    have hS97 : SH w94 w.heap.size (aBox 56 b2 [.string (bs g_1.Name), .int .i64 g_1.OnHand, .int .i64 g_1.Reserved, .int .i64 g_1.Least] :: R64) := memEq hS96 (by kernel_rfl)
    have hb98 : Ext w w94 := Below.trans hb60 hB95
    have hL99 : w.heap.size ≤ w94.heap.size := Nat.le_trans hL61 hB95.size
    refine WL.subk [3] [(3, .pointer (some ⟨b2, 0, none⟩))] (by kernel_rfl) ?_
    refine WL.st (.agg #[.string (bs g_1.Name), .int .i64 g_1.OnHand, .int .i64 g_1.Reserved, .int .i64 g_1.Least]) (ST.loadAgg (vs := [.string (bs g_1.Name), .int .i64 g_1.OnHand, .int .i64 g_1.Reserved, .int .i64 g_1.Least]) (fun j v hv => SH.boxPart (us := [.string (bs g_1.Name), .int .i64 g_1.OnHand, .int .i64 g_1.Reserved, .int .i64 g_1.Least]) (SH.front 0 hS97) 0 rfl j v hv) rfl rfl rfl Try.underlying56 rfl (info56).1 (info56).2.1) rfl rfl rfl ?_
    refine WL.nil ?_
    exact QP.intro (fun k => ([] : List (Option Addr × Nat)).getD k (none, 0)) (d := 32) (by kernel_rfl) (by kernel_rfl) (Below.refl _ _) hS97 (by kernel_rfl)
  · intro g63 w100 R64 hB101 hS102
    have hS103 : SH w100 w.heap.size (aBox 56 b2 [.string (bs g_1.Name), .int .i64 g_1.OnHand, .int .i64 g_1.Reserved, .int .i64 g_1.Least] :: R64) := memEq hS102 (by kernel_rfl)
    have hb104 : Ext w w100 := Below.trans hb60 hB101
    have hL105 : w.heap.size ≤ w100.heap.size := Nat.le_trans hL61 hB101.size
    refine WL.subk [32] [(32, .agg #[.string (bs g_1.Name), .int .i64 g_1.OnHand, .int .i64 g_1.Reserved, .int .i64 g_1.Least])] (by kernel_rfl) ?_
    refine WL.row fGood 56 ([g_1] : List SGood) 1 #[.string (bs g_1.Name), .int .i64 g_1.OnHand, .int .i64 g_1.Reserved, .int .i64 g_1.Least] 33 (by kernel_rfl) rfl rfl rfl rfl rfl rfl rfl ?_
    intro a106 c107 w108 hE109 hR110
    have hb112 : Ext w w108 := Ext.trans hb104 hE109
    have hL113 : w.heap.size ≤ w108.heap.size := Nat.le_trans hL105 hE109.size
    have hS114 : SH w108 w.heap.size (aOwn fGood 56 a106 c107 ([g_1] : List SGood) :: aBox 56 b2 [.string (bs g_1.Name), .int .i64 g_1.OnHand, .int .i64 g_1.Reserved, .int .i64 g_1.Least] :: R64) := SH.add hS103 hE109 hL105 hR110
    refine WL.nil ?_
    exact QP.intro (fun k => ([(a106, c107)] : List (Option Addr × Nat)).getD k (none, 0)) (d := 33) (by kernel_rfl) (by kernel_rfl) (Below.mono hE109 hL105) (SH.front 1 hS114) (by kernel_rfl)
  intro g63 w115 hB116 hS117
  have hS118 : SH w115 w.heap.size [aBox 56 b2 [.string (bs g_1.Name), .int .i64 g_1.OnHand, .int .i64 g_1.Reserved, .int .i64 g_1.Least], aOwn fGood 56 ((g63 1 0).1) ((g63 1 0).2) x77, aOwn fGood 56 ((g63 4 0).1) ((g63 4 0).2) ([g_1] : List SGood)] := memEq hS117 (by kernel_rfl)
  have hb119 : Ext w w115 := Below.trans hb60 hB116
  have hL120 : w.heap.size ≤ w115.heap.size := Nat.le_trans hL61 hB116.size
  refine WQ.subk [30, 31, 33] [(30, .slice ((g63 1 0).1) x77.length ((g63 1 0).2)), (31, .int .i64 x38.1), (33, .slice ((g63 4 0).1) (([g_1] : List SGood).length) ((g63 4 0).2))] (by kernel_rfl) ?_
  refine WA.one (i := 5) (D' := [0, 1, 2, 3, 4, 5]) rfl rfl (by kernel_rfl) ?_
  obtain ⟨x121, hx122, hm⟩ := bindE hm
  refine WL.call 70 #[.slice ((g63 1 0).1) x77.length ((g63 1 0).2), .int .i64 x38.1, .slice ((g63 4 0).1) (([g_1] : List SGood).length) ((g63 4 0).2)] rfl rfl (by kernel_rfl) (c_70 n x77 ((g63 1 0).1) ((g63 1 0).2) x38.1 ([g_1] : List SGood) ((g63 4 0).1) ((g63 4 0).2) w115 w w.heap.size [aBox 56 b2 [.string (bs g_1.Name), .int .i64 g_1.OnHand, .int .i64 g_1.Reserved, .int .i64 g_1.Least]] hx122 hb119 (Nat.le_refl _) hL120  (SH.front 2 (SH.front 2 hS118))) ?_
  rintro _ w126 ⟨a123, c124, rfl, hB130, hS129⟩
  refine ⟨_, rfl, ?_⟩
  have hb131 : Ext w w126 := Below.trans hb119 hB130
  have hL132 : w.heap.size ≤ w126.heap.size := Nat.le_trans hL120 hB130.size
  refine WL.sub [(34, .slice a123 x121.length c124)] ⟨rfl, trivial⟩ ?_
  refine WL.nil ?_
  refine WA.one (i := 6) (D' := [0, 1, 2, 3, 4, 5, 6]) rfl rfl (by kernel_rfl) ?_
  refine WL.runk 1 [4, 5] [(4, .slice a123 x121.length c124)] (by kernel_rfl) ?_
  refine WL.nil ?_
  refine WA.one (i := 7) (D' := [0, 1, 2, 3, 4, 5, 6, 7]) rfl rfl (by kernel_rfl) ?_
  refine WL.runk 1 [4, 5] [(4, .slice a123 x121.length c124), (5, .int .i64 0)] (by kernel_rfl) ?_
  refine WL.nil ?_
  refine WA.done (by kernel_rfl) ?_
  refine WQ.then_normal (hK57 _ _ _ ?_)
  refine WP.ret ?_
  obtain rfl := Option.some.inj hm
  exact WQ.ret2 _ _ rfl rfl rfl ⟨_, _, rfl, hb131, (SH.take 1 hS129)⟩

end Go.Proofs.Ytkpdicajinionaa
