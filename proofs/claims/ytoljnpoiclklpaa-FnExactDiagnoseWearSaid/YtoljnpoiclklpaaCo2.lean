/- Each call does what its Lean function says. -/
import Derived.Test.YtoljnpoiclklpaaCo1
set_option maxRecDepth 20000
set_option maxHeartbeats 4000000
namespace Go.Proofs.Ytoljnpoiclklpaa
open Go Go.Gv Go.RowKit

theorem c_19 (n : Nat) (a_0 : List (List UInt8)) (a0' : Option Addr) (c0' : Nat) (b_1 : List (List UInt8)) (a1' : Option Addr) (c1' : Nat) (w : World) {r : Bool} (hm : m_laws_eqStringS n a_0 b_1 = some r) (h0 : Rd fStr.ty w a0' a_0) (hle0 : a_0.length ≤ c0') (h1 : Rd fStr.ty w a1' b_1) (hle1 : b_1.length ≤ c1') :
    CallV Try.prog 19 #[.slice a0' a_0.length c0', .slice a1' b_1.length c1'] w (fun v w' => v = .bool r ∧ Ext w w') := by
  unfold m_laws_eqStringS at hm
  refine CallV.enter Try.func19 rfl (by kernel_rfl) Try.ntmps19 (env := [(0, .slice a0' a_0.length c0'), (1, .slice a1' b_1.length c1')]) ⟨rfl, rfl, trivial⟩ ?_
  refine WP.seq (fun K1 hK1 => ?_)
  refine WP.region ?_
  refine WL.runk 1 [0, 1] [(0, .slice a0' a_0.length c0'), (1, .slice a1' b_1.length c1')] (by kernel_rfl) ?_
  refine WL.nil ?_
  refine WQ.then_normal (hK1 _ _ _ ?_)
  refine WP.seq (fun K2 hK2 => ?_)
  refine WP.seq (fun K3 hK3 => ?_)
  refine WP.region ?_
  refine WL.runk 5 [0, 1, 10] [(0, .slice a0' a_0.length c0'), (1, .slice a1' b_1.length c1'), (10, .bool ((a_0.length : Int) != (b_1.length : Int)))] (by kernel_rfl) ?_
  refine WL.nil ?_
  refine WQ.then_normal (hK3 _ _ _ ?_)
  refine WP.cond ((a_0.length : Int) != (b_1.length : Int)) rfl rfl (fun hc4 => ?_) (fun hc4 => ?_)
  · have hm := iteT hm hc4
    refine WP.seq (fun K5 hK5 => ?_)
    refine WP.region ?_
    refine WL.runk 1 [4] [(4, .bool false)] (by kernel_rfl) ?_
    refine WL.nil ?_
    refine WQ.then_normal (hK5 _ _ _ ?_)
    refine WP.ret ?_
    refine WQ.then_ret ?_
    obtain rfl := Option.some.inj hm
    exact WQ.ret1 _ rfl rfl ⟨rfl, (Ext.refl w)⟩
  · have hm := iteF hm hc4
    refine WP.skip ?_
    refine WQ.then_normal (hK2 _ _ _ ?_)
    refine WP.seq (fun K6 hK6 => ?_)
    refine WP.seq (fun K7 hK7 => ?_)
    refine WP.region ?_
    refine WL.runk 1 [0, 1, 5] [(0, .slice a0' a_0.length c0'), (1, .slice a1' b_1.length c1'), (5, .int .i64 0)] (by kernel_rfl) ?_
    refine WL.nil ?_
    refine WQ.then_normal (hK7 _ _ _ ?_)
    refine WP.block ?_
    obtain ⟨t19, ht20, hm⟩ := bindE hm
    have hmo14 := hm; clear hm
    refine WP.sub [(0, .slice a0' a_0.length c0'), (1, .slice a1' b_1.length c1'), (5, .int .i64 0)] ⟨rfl, rfl, rfl, trivial⟩ ?_
    refine WP.loop (fun n' env' w' => ∃ (st8 : Int) , env' = [(0, .slice a0' a_0.length c0'), (1, .slice a1' b_1.length c1'), (5, .int .i64 st8)] ∧ Ext w w' ∧ w.heap.size ≤ w'.heap.size ∧ SH w' w.heap.size [] ∧ loopN (m_laws_eqStringS_l1 n a_0 b_1) n' st8 = some t19) n ⟨0, rfl, (Ext.refl w), (Nat.le_refl _), (SH.nil _ _), ht20⟩ ?_
    rintro n16 _ w9 ⟨st8, rfl, hb10, hL11, hS12, hl13⟩ K15 hK15
    obtain ⟨n17, s18, rfl, hm, hl13⟩ := loopN_some hl13
    unfold m_laws_eqStringS_l1 at hm
    refine WP.seq (fun K21 hK21 => ?_)
    refine WP.seq (fun K22 hK22 => ?_)
    refine WP.region ?_
    refine WL.runk 4 [0, 1, 5, 14] [(0, .slice a0' a_0.length c0'), (1, .slice a1' b_1.length c1'), (5, .int .i64 st8), (14, .bool (decide (st8 < (a_0.length : Int))))] (by kernel_rfl) ?_
    refine WL.nil ?_
    refine WQ.then_normal (hK22 _ _ _ ?_)
    refine WP.cond (decide (st8 < (a_0.length : Int))) rfl rfl (fun hc23 => ?_) (fun hc23 => ?_)
    · have hm := iteT hm hc23
      refine WP.skip ?_
      refine WQ.then_normal (hK21 _ _ _ ?_)
      refine WP.seq (fun K24 hK24 => ?_)
      refine WP.block ?_
      refine WP.seq (fun K25 hK25 => ?_)
      refine WP.quiet (by kernel_rfl) (by kernel_rfl) ?_
      refine QL.step1 rfl (env' := [(0, .slice a0' a_0.length c0'), (1, .slice a1' b_1.length c1'), (5, .int .i64 st8), (14, .bool (decide (st8 < (a_0.length : Int)))), (17, .slice a0' a_0.length c0')]) (fun _ => by kernel_rfl) ?_
      refine QL.sub [(0, .slice a0' a_0.length c0'), (1, .slice a1' b_1.length c1'), (5, .int .i64 st8), (17, .slice a0' a_0.length c0')] ⟨rfl, rfl, rfl, rfl, trivial⟩ ?_
      refine QL.step1 rfl (env' := [(0, .slice a0' a_0.length c0'), (1, .slice a1' b_1.length c1'), (5, .int .i64 st8), (17, .slice a0' a_0.length c0'), (18, .int .i64 st8)]) (fun _ => by kernel_rfl) ?_
      obtain ⟨x26, hx27, hm⟩ := bindE hm
      refine QL.st (.pointer (some (at_ a0' (Int.toNat st8 * 1)))) (ST.index (T := fStr.ty) (xs := a_0) (Rd.below h0 hb10) hx27 rfl rfl rfl Try.underlying22 (info9).1 (info9).2.1) rfl rfl rfl ?_
      refine QL.st (.string (bs x26)) (ST.load (cell_ext (Rd.flat (F := fStr) (Rd.below h0 hb10) hx27 0 rfl)) rfl rfl Try.underlying9 rfl) rfl rfl rfl ?_
      refine QL.step1 rfl (env' := [(0, .slice a0' a_0.length c0'), (1, .slice a1' b_1.length c1'), (5, .int .i64 st8), (17, .slice a0' a_0.length c0'), (18, .int .i64 st8), (19, .pointer (some (at_ a0' (Int.toNat st8 * 1)))), (20, .string (bs x26)), (21, .slice a1' b_1.length c1')]) (fun _ => by kernel_rfl) ?_
      refine QL.sub [(0, .slice a0' a_0.length c0'), (1, .slice a1' b_1.length c1'), (5, .int .i64 st8), (20, .string (bs x26)), (21, .slice a1' b_1.length c1')] ⟨rfl, rfl, rfl, rfl, rfl, trivial⟩ ?_
      refine QL.step1 rfl (env' := [(0, .slice a0' a_0.length c0'), (1, .slice a1' b_1.length c1'), (5, .int .i64 st8), (20, .string (bs x26)), (21, .slice a1' b_1.length c1'), (22, .int .i64 st8)]) (fun _ => by kernel_rfl) ?_
      obtain ⟨x28, hx29, hm⟩ := bindE hm
      refine QL.st (.pointer (some (at_ a1' (Int.toNat st8 * 1)))) (ST.index (T := fStr.ty) (xs := b_1) (Rd.below h1 hb10) hx29 rfl rfl rfl Try.underlying22 (info9).1 (info9).2.1) rfl rfl rfl ?_
      refine QL.st (.string (bs x28)) (ST.load (cell_ext (Rd.flat (F := fStr) (Rd.below h1 hb10) hx29 0 rfl)) rfl rfl Try.underlying9 rfl) rfl rfl rfl ?_
      refine QL.st (.bool (!(x26 == x28))) (ST.strne (x := x26) (y := x28) rfl rfl rfl) rfl rfl rfl ?_
      refine QL.sub [(0, .slice a0' a_0.length c0'), (1, .slice a1' b_1.length c1'), (5, .int .i64 st8), (25, .bool (!(x26 == x28)))] ⟨rfl, rfl, rfl, rfl, trivial⟩ ?_
      refine QL.nil ?_
      intro w30 hE31
      have hb32 : Ext w w30 := Ext.trans hb10 hE31
      have hL33 : w.heap.size ≤ w30.heap.size := Nat.le_trans hL11 hE31.size
      have hS34 : SH w30 w.heap.size [] := SH.ext hS12 hE31
      refine WQ.then_normal (hK25 _ _ _ ?_)
      refine WP.cond (!(x26 == x28)) rfl rfl (fun hc35 => ?_) (fun hc35 => ?_)
      · have hm := iteT hm hc35
        refine WP.seq (fun K36 hK36 => ?_)
        refine WP.region ?_
        refine WL.runk 1 [4] [(4, .bool false)] (by kernel_rfl) ?_
        refine WL.nil ?_
        refine WQ.then_normal (hK36 _ _ _ ?_)
        refine WP.ret ?_
        refine WQ.block_ret ?_
        refine WQ.then_ret ?_
        refine WQ.then_ret ?_
        refine WQ.block_ret ?_
        refine WQ.then_ret ?_
        obtain rfl := Option.some.inj hm
        obtain rfl := afterN_done hl13
        have hm := hmo14
        obtain rfl := Option.some.inj hm
        exact WQ.ret1 _ rfl rfl ⟨rfl, hb32⟩
      · have hm := iteF hm hc35
        refine WP.skip ?_
        refine WQ.block_normal ?_
        refine WQ.then_normal (hK24 _ _ _ ?_)
        refine WP.region ?_
        refine WL.runk 3 [0, 1, 5] [(0, .slice a0' a_0.length c0'), (1, .slice a1' b_1.length c1'), (5, .int .i64 (wI64 (st8 + 1)))] (by kernel_rfl) ?_
        refine WL.nil ?_
        obtain rfl := Option.some.inj hm
        exact WQ.round hK15 ⟨(wI64 (st8 + 1)), rfl, hb32, hL33, hS34, hl13⟩ (Nat.lt_succ_self _) ⟨rfl, rfl, rfl, trivial⟩
    · have hm := iteF hm hc23
      refine WP.exit ?_
      refine WQ.then_exit ?_
      refine WQ.then_exit ?_
      refine WQ.block_here ?_
      obtain rfl := Option.some.inj hm
      obtain rfl := afterN_done hl13
      have hm := hmo14
      refine WQ.then_normal (hK6 _ _ _ ?_)
      refine WP.seq (fun K37 hK37 => ?_)
      refine WP.region ?_
      refine WL.runk 1 [4] [(4, .bool true)] (by kernel_rfl) ?_
      refine WL.nil ?_
      refine WQ.then_normal (hK37 _ _ _ ?_)
      refine WP.ret ?_
      obtain rfl := Option.some.inj hm
      exact WQ.ret1 _ rfl rfl ⟨rfl, hb10⟩

theorem c_3 (n : Nat) (aRows_0 : List (List UInt8)) (a0' : Option Addr) (c0' : Nat) (w : World) {r : Bool} (hm : m_laws_FnExactValidWear n aRows_0 = some r) (h0 : Rd fStr.ty w a0' aRows_0) (hle0 : aRows_0.length ≤ c0') :
    CallV Try.prog 3 #[.slice a0' aRows_0.length c0'] w (fun v w' => v = .bool r ∧ Ext w w') := by
  unfold m_laws_FnExactValidWear at hm
  refine CallV.enter Try.func3 rfl (by kernel_rfl) Try.ntmps3 (env := [(0, .slice a0' aRows_0.length c0')]) ⟨rfl, trivial⟩ ?_
  refine WP.seq (fun K1 hK1 => ?_)
  refine WP.region ?_
  refine WL.runk 1 [0] [(0, .slice a0' aRows_0.length c0')] (by kernel_rfl) ?_
  refine WL.nil ?_
  refine WQ.then_normal (hK1 _ _ _ ?_)
  refine WP.seq (fun K2 hK2 => ?_)
  refine WP.region ?_
  refine WL.runk 1 [0, 3] [(0, .slice a0' aRows_0.length c0'), (3, .int .i64 1048576)] (by kernel_rfl) ?_
  refine WL.nil ?_
  refine WQ.then_normal (hK2 _ _ _ ?_)
  refine WP.seq (fun K3 hK3 => ?_)
  refine WP.region ?_
  refine WL.runk 2 [0, 7, 8] [(0, .slice a0' aRows_0.length c0'), (7, .slice a0' aRows_0.length c0'), (8, .int .i64 1048576)] (by kernel_rfl) ?_
  obtain ⟨x4, hx5, hm⟩ := bindE hm
  refine WL.call 15 #[.slice a0' aRows_0.length c0', .int .i64 1048576] rfl rfl (by kernel_rfl) (c_15 n aRows_0 a0' c0' 1048576 w hx5 (Rd.below h0 (Ext.refl w)) hle0) ?_
  rintro _ w6 ⟨rfl, hE7⟩
  refine ⟨_, rfl, ?_⟩
  have hb9 : Ext w w6 := Ext.trans (Ext.refl w) hE7
  have hL10 : w.heap.size ≤ w6.heap.size := Nat.le_trans (Nat.le_refl _) hE7.size
  have hS11 : SH w6 w.heap.size [] := SH.ext (SH.nil _ _) hE7
  refine WL.runk 1 [0, 3] [(0, .slice a0' aRows_0.length c0'), (3, .int .i64 x4)] (by kernel_rfl) ?_
  refine WL.nil ?_
  refine WQ.then_normal (hK3 _ _ _ ?_)
  refine WP.seq (fun K12 hK12 => ?_)
  refine WP.seq (fun K13 hK13 => ?_)
  refine WP.region ?_
  refine WL.runk 2 [0, 11] [(0, .slice a0' aRows_0.length c0'), (11, .bool (decide (x4 < 0)))] (by kernel_rfl) ?_
  refine WL.nil ?_
  refine WQ.then_normal (hK13 _ _ _ ?_)
  refine WP.cond (decide (x4 < 0)) rfl rfl (fun hc14 => ?_) (fun hc14 => ?_)
  · have hm := iteT hm hc14
    refine WP.seq (fun K15 hK15 => ?_)
    refine WP.region ?_
    refine WL.runk 1 [2] [(2, .bool true)] (by kernel_rfl) ?_
    refine WL.nil ?_
    refine WQ.then_normal (hK15 _ _ _ ?_)
    refine WP.ret ?_
    refine WQ.then_ret ?_
    obtain rfl := Option.some.inj hm
    exact WQ.ret1 _ rfl rfl ⟨rfl, hb9⟩
  · have hm := iteF hm hc14
    refine WP.skip ?_
    refine WQ.then_normal (hK12 _ _ _ ?_)
    refine WP.seq (fun K16 hK16 => ?_)
    refine WP.region ?_
    refine WL.runk 1 [0, 12] [(0, .slice a0' aRows_0.length c0'), (12, .slice a0' aRows_0.length c0')] (by kernel_rfl) ?_
    obtain ⟨x17, hx18, hm⟩ := bindE hm
    refine WL.call 17 #[.slice a0' aRows_0.length c0'] rfl rfl (by kernel_rfl) (c_17 n aRows_0 a0' c0' w6 hx18 (Rd.below h0 hb9) hle0) ?_
    rintro _ w22 ⟨a19, c20, rfl, hE23, hR24⟩
    refine ⟨_, rfl, ?_⟩
    have hb25 : Ext w w22 := Ext.trans hb9 hE23
    have hL26 : w.heap.size ≤ w22.heap.size := Nat.le_trans hL10 hE23.size
    have hS27 : SH w22 w.heap.size [aOwn fStr 9 a19 c20 x17] := SH.add hS11 hE23 hL10 hR24
    obtain ⟨x28, hx29, hm⟩ := bindE hm
    refine WL.call 16 #[.slice a19 x17.length c20] rfl rfl (by kernel_rfl) (c_16 n x17 a19 c20 w22 hx29 (SH.rd (SH.front 0 hS27)) (SH.le (SH.front 0 hS27)).1) ?_
    rintro _ w30 ⟨rfl, hE31⟩
    refine ⟨_, rfl, ?_⟩
    have hb33 : Ext w w30 := Ext.trans hb25 hE31
    have hL34 : w.heap.size ≤ w30.heap.size := Nat.le_trans hL26 hE31.size
    have hS35 : SH w30 w.heap.size [aOwn fStr 9 a19 c20 x17] := SH.ext hS27 hE31
    refine WL.runk 1 [0, 4] [(0, .slice a0' aRows_0.length c0'), (4, .bool x28)] (by kernel_rfl) ?_
    refine WL.nil ?_
    refine WQ.then_normal (hK16 _ _ _ ?_)
    refine WP.seq (fun K36 hK36 => ?_)
    refine WP.region ?_
    refine WL.runk 1 [0, 4, 15] [(0, .slice a0' aRows_0.length c0'), (4, .bool x28), (15, .slice a0' aRows_0.length c0')] (by kernel_rfl) ?_
    obtain ⟨x37, hx38, hm⟩ := bindE hm
    refine WL.call 17 #[.slice a0' aRows_0.length c0'] rfl rfl (by kernel_rfl) (c_17 n aRows_0 a0' c0' w30 hx38 (Rd.below h0 hb33) hle0) ?_
    rintro _ w42 ⟨a39, c40, rfl, hE43, hR44⟩
    refine ⟨_, rfl, ?_⟩
    have hb45 : Ext w w42 := Ext.trans hb33 hE43
    have hL46 : w.heap.size ≤ w42.heap.size := Nat.le_trans hL34 hE43.size
    have hS47 : SH w42 w.heap.size [aOwn fStr 9 a39 c40 x37, aOwn fStr 9 a19 c20 x17] := SH.add hS35 hE43 hL34 hR44
    refine WL.runk 1 [0, 4, 5] [(0, .slice a0' aRows_0.length c0'), (4, .bool x28), (5, .slice a39 x37.length c40)] (by kernel_rfl) ?_
    refine WL.nil ?_
    refine WQ.then_normal (hK36 _ _ _ ?_)
    refine WP.seq (fun K48 hK48 => ?_)
    refine WP.region ?_
    refine WL.runk 1 [0, 4, 5, 17] [(0, .slice a0' aRows_0.length c0'), (4, .bool x28), (5, .slice a39 x37.length c40), (17, .slice a39 x37.length c40)] (by kernel_rfl) ?_
    obtain ⟨x49, hx50, hm⟩ := bindE hm
    refine WL.call 18 #[.slice a39 x37.length c40] rfl rfl (by kernel_rfl) (c_18 n x37 a39 c40 w42 hx50 (SH.rd (SH.front 0 hS47)) (SH.le (SH.front 0 hS47)).1) ?_
    rintro _ w51 ⟨rfl, hE52⟩
    refine ⟨_, rfl, ?_⟩
    have hb54 : Ext w w51 := Ext.trans hb45 hE52
    have hL55 : w.heap.size ≤ w51.heap.size := Nat.le_trans hL46 hE52.size
    have hS56 : SH w51 w.heap.size [aOwn fStr 9 a39 c40 x37, aOwn fStr 9 a19 c20 x17] := SH.ext hS47 hE52
    refine WL.runk 1 [0, 4, 5, 6] [(0, .slice a0' aRows_0.length c0'), (4, .bool x28), (5, .slice a39 x37.length c40), (6, .bool x49)] (by kernel_rfl) ?_
    refine WL.nil ?_
    refine WQ.then_normal (hK48 _ _ _ ?_)
    refine WP.seq (fun K57 hK57 => ?_)
    refine WP.seq (fun K58 hK58 => ?_)
    refine WP.region ?_
    refine WL.runk 3 [0, 5, 21] [(0, .slice a0' aRows_0.length c0'), (5, .slice a39 x37.length c40), (21, .bool (!(x49 == x28)))] (by kernel_rfl) ?_
    refine WL.nil ?_
    refine WQ.then_normal (hK58 _ _ _ ?_)
    refine WP.cond (!(x49 == x28)) rfl rfl (fun hc59 => ?_) (fun hc59 => ?_)
    · have hm := iteT hm hc59
      refine WP.seq (fun K60 hK60 => ?_)
      refine WP.region ?_
      refine WL.runk 1 [2] [(2, .bool false)] (by kernel_rfl) ?_
      refine WL.nil ?_
      refine WQ.then_normal (hK60 _ _ _ ?_)
      refine WP.ret ?_
      refine WQ.then_ret ?_
      obtain rfl := Option.some.inj hm
      exact WQ.ret1 _ rfl rfl ⟨rfl, hb54⟩
    · have hm := iteF hm hc59
      refine WP.skip ?_
      refine WQ.then_normal (hK57 _ _ _ ?_)
      refine WP.seq (fun K61 hK61 => ?_)
      refine WP.seq (fun K62 hK62 => ?_)
      refine WP.region ?_
      refine WL.runk 2 [22, 23] [(22, .slice a39 x37.length c40), (23, .slice a0' aRows_0.length c0')] (by kernel_rfl) ?_
      obtain ⟨x63, hx64, hm⟩ := bindE hm
      refine WL.call 17 #[.slice a0' aRows_0.length c0'] rfl rfl (by kernel_rfl) (c_17 n aRows_0 a0' c0' w51 hx64 (Rd.below h0 hb54) hle0) ?_
      rintro _ w68 ⟨a65, c66, rfl, hE69, hR70⟩
      refine ⟨_, rfl, ?_⟩
      have hb71 : Ext w w68 := Ext.trans hb54 hE69
      have hL72 : w.heap.size ≤ w68.heap.size := Nat.le_trans hL55 hE69.size
      have hS73 : SH w68 w.heap.size [aOwn fStr 9 a65 c66 x63, aOwn fStr 9 a39 c40 x37, aOwn fStr 9 a19 c20 x17] := SH.add hS56 hE69 hL55 hR70
      obtain ⟨x74, hx75, hm⟩ := bindE hm
      refine WL.call 19 #[.slice a39 x37.length c40, .slice a65 x63.length c66] rfl rfl (by kernel_rfl) (c_19 n x37 a39 c40 x63 a65 c66 w68 hx75 (SH.rd (SH.front 1 hS73)) (SH.le (SH.front 1 hS73)).1 (SH.rd (SH.front 0 hS73)) (SH.le (SH.front 0 hS73)).1) ?_
      rintro _ w76 ⟨rfl, hE77⟩
      refine ⟨_, rfl, ?_⟩
      have hb79 : Ext w w76 := Ext.trans hb71 hE77
      have hL80 : w.heap.size ≤ w76.heap.size := Nat.le_trans hL72 hE77.size
      have hS81 : SH w76 w.heap.size [aOwn fStr 9 a65 c66 x63, aOwn fStr 9 a39 c40 x37, aOwn fStr 9 a19 c20 x17] := SH.ext hS73 hE77
      refine WL.runk 1 [26] [(26, .bool (!x74))] (by kernel_rfl) ?_
      refine WL.nil ?_
      refine WQ.then_normal (hK62 _ _ _ ?_)
      refine WP.cond (!x74) rfl rfl (fun hc82 => ?_) (fun hc82 => ?_)
      · have hm := iteT hm hc82
        refine WP.seq (fun K83 hK83 => ?_)
        refine WP.region ?_
        refine WL.runk 1 [2] [(2, .bool false)] (by kernel_rfl) ?_
        refine WL.nil ?_
        refine WQ.then_normal (hK83 _ _ _ ?_)
        refine WP.ret ?_
        refine WQ.then_ret ?_
        obtain rfl := Option.some.inj hm
        exact WQ.ret1 _ rfl rfl ⟨rfl, hb79⟩
      · have hm := iteF hm hc82
        refine WP.skip ?_
        refine WQ.then_normal (hK61 _ _ _ ?_)
        refine WP.seq (fun K84 hK84 => ?_)
        refine WP.region ?_
        refine WL.runk 1 [2] [(2, .bool true)] (by kernel_rfl) ?_
        refine WL.nil ?_
        refine WQ.then_normal (hK84 _ _ _ ?_)
        refine WP.ret ?_
        obtain rfl := Option.some.inj hm
        exact WQ.ret1 _ rfl rfl ⟨rfl, hb79⟩

theorem c_51 (n : Nat) (rows_0 : List (List UInt8)) (a0' : Option Addr) (c0' : Nat) (least_1 : Int) (w : World) {r : Int} (hm : m_spec_l20Code n rows_0 least_1 = some r) (h0 : Rd fStr.ty w a0' rows_0) (hle0 : rows_0.length ≤ c0') :
    CallV Try.prog 51 #[.slice a0' rows_0.length c0', .int .i64 least_1] w (fun v w' => v = .int .i64 r ∧ Ext w w') := by
  unfold m_spec_l20Code at hm
  refine CallV.enter Try.func51 rfl (by kernel_rfl) Try.ntmps51 (env := [(0, .slice a0' rows_0.length c0'), (1, .int .i64 least_1)]) ⟨rfl, rfl, trivial⟩ ?_
  refine WP.seq (fun K1 hK1 => ?_)
  refine WP.region ?_
  refine WL.runk 1 [0, 1] [(0, .slice a0' rows_0.length c0'), (1, .int .i64 least_1)] (by kernel_rfl) ?_
  refine WL.nil ?_
  refine WQ.then_normal (hK1 _ _ _ ?_)
  refine WP.seq (fun K2 hK2 => ?_)
  refine WP.seq (fun K3 hK3 => ?_)
  refine WP.region ?_
  refine WL.runk 1 [1, 5] [(1, .int .i64 least_1), (5, .slice a0' rows_0.length c0')] (by kernel_rfl) ?_
  obtain ⟨x4, hx5, hm⟩ := bindE hm
  refine WL.call 49 #[.slice a0' rows_0.length c0'] rfl rfl (by kernel_rfl) (c_49 n rows_0 a0' c0' w hx5 (Rd.below h0 (Ext.refl w)) hle0) ?_
  rintro _ w6 ⟨rfl, hE7⟩
  refine ⟨_, rfl, ?_⟩
  have hb9 : Ext w w6 := Ext.trans (Ext.refl w) hE7
  have hL10 : w.heap.size ≤ w6.heap.size := Nat.le_trans (Nat.le_refl _) hE7.size
  have hS11 : SH w6 w.heap.size [] := SH.ext (SH.nil _ _) hE7
  refine WL.runk 1 [1, 7] [(1, .int .i64 least_1), (7, .bool (!x4))] (by kernel_rfl) ?_
  refine WL.nil ?_
  refine WQ.then_normal (hK3 _ _ _ ?_)
  refine WP.cond (!x4) rfl rfl (fun hc12 => ?_) (fun hc12 => ?_)
  · have hm := iteT hm hc12
    refine WP.seq (fun K13 hK13 => ?_)
    refine WP.region ?_
    refine WL.runk 1 [4] [(4, .int .i64 1)] (by kernel_rfl) ?_
    refine WL.nil ?_
    refine WQ.then_normal (hK13 _ _ _ ?_)
    refine WP.ret ?_
    refine WQ.then_ret ?_
    obtain rfl := Option.some.inj hm
    exact WQ.ret1 _ rfl rfl ⟨rfl, hb9⟩
  · have hm := iteF hm hc12
    refine WP.skip ?_
    refine WQ.then_normal (hK2 _ _ _ ?_)
    refine WP.seq (fun K14 hK14 => ?_)
    refine WP.seq (fun K15 hK15 => ?_)
    refine WP.region ?_
    refine WL.runk 1 [8] [(8, .int .i64 least_1)] (by kernel_rfl) ?_
    obtain ⟨x16, hx17, hm⟩ := bindE hm
    refine WL.call 71 #[.int .i64 least_1, .int .i64 1, .int .i64 9] rfl rfl (by kernel_rfl) (c_71 n least_1 1 9 w6 hx17 ) ?_
    rintro _ w18 ⟨rfl, hE19⟩
    refine ⟨_, rfl, ?_⟩
    have hb21 : Ext w w18 := Ext.trans hb9 hE19
    have hL22 : w.heap.size ≤ w18.heap.size := Nat.le_trans hL10 hE19.size
    have hS23 : SH w18 w.heap.size [] := SH.ext hS11 hE19
    refine WL.runk 1 [10] [(10, .bool (!x16))] (by kernel_rfl) ?_
    refine WL.nil ?_
    refine WQ.then_normal (hK15 _ _ _ ?_)
    refine WP.cond (!x16) rfl rfl (fun hc24 => ?_) (fun hc24 => ?_)
    · have hm := iteT hm hc24
      refine WP.seq (fun K25 hK25 => ?_)
      refine WP.region ?_
      refine WL.runk 1 [4] [(4, .int .i64 2)] (by kernel_rfl) ?_
      refine WL.nil ?_
      refine WQ.then_normal (hK25 _ _ _ ?_)
      refine WP.ret ?_
      refine WQ.then_ret ?_
      obtain rfl := Option.some.inj hm
      exact WQ.ret1 _ rfl rfl ⟨rfl, hb21⟩
    · have hm := iteF hm hc24
      refine WP.skip ?_
      refine WQ.then_normal (hK14 _ _ _ ?_)
      refine WP.seq (fun K26 hK26 => ?_)
      refine WP.region ?_
      refine WL.runk 1 [4] [(4, .int .i64 0)] (by kernel_rfl) ?_
      refine WL.nil ?_
      refine WQ.then_normal (hK26 _ _ _ ?_)
      refine WP.ret ?_
      obtain rfl := Option.some.inj hm
      exact WQ.ret1 _ rfl rfl ⟨rfl, hb21⟩

theorem c_52 (n : Nat) (rows_0 : List (List UInt8)) (a0' : Option Addr) (c0' : Nat) (y_1 : Int) (x_2 : Int) (w : World) {r : Int} (hm : m_spec_l20At n rows_0 y_1 x_2 = some r) (h0 : Rd fStr.ty w a0' rows_0) (hle0 : rows_0.length ≤ c0') :
    CallV Try.prog 52 #[.slice a0' rows_0.length c0', .int .i64 y_1, .int .i64 x_2] w (fun v w' => v = .int .i64 r ∧ Ext w w') := by
  unfold m_spec_l20At at hm
  refine CallV.enter Try.func52 rfl (by kernel_rfl) Try.ntmps52 (env := [(0, .slice a0' rows_0.length c0'), (1, .int .i64 y_1), (2, .int .i64 x_2)]) ⟨rfl, rfl, rfl, trivial⟩ ?_
  refine WP.seq (fun K1 hK1 => ?_)
  refine WP.region ?_
  refine WL.runk 1 [0, 1, 2] [(0, .slice a0' rows_0.length c0'), (1, .int .i64 y_1), (2, .int .i64 x_2)] (by kernel_rfl) ?_
  refine WL.nil ?_
  refine WQ.then_normal (hK1 _ _ _ ?_)
  refine WP.seq (fun K2 hK2 => ?_)
  refine WP.region ?_
  refine WL.runk 2 [2, 7, 8] [(2, .int .i64 x_2), (7, .slice a0' rows_0.length c0'), (8, .int .i64 y_1)] (by kernel_rfl) ?_
  obtain ⟨x3, hx4, hm⟩ := bindE hm
  refine WL.st (.pointer (some (at_ a0' (Int.toNat y_1 * 1)))) (ST.index (T := fStr.ty) (xs := rows_0) (Rd.below h0 (Ext.refl w)) hx4 rfl rfl rfl Try.underlying22 (info9).1 (info9).2.1) rfl rfl rfl ?_
  refine WL.st (.string (bs x3)) (ST.load (cell_ext (Rd.flat (F := fStr) (Rd.below h0 (Ext.refl w)) hx4 0 rfl)) rfl rfl Try.underlying9 rfl) rfl rfl rfl ?_
  refine WL.runk 1 [10, 11] [(10, .string (bs x3)), (11, .int .i64 x_2)] (by kernel_rfl) ?_
  obtain ⟨x5, hx6, hm⟩ := bindE hm
  refine WL.st (.int .u8 (x5.toNat : Int)) (ST.sindex hx6 rfl rfl rfl Try.underlying9) rfl rfl rfl ?_
  refine WL.runk 3 [6] [(6, .int .i64 (wI64 (IntKind.u8.wrap ((x5.toNat : Int) - 48))))] (by kernel_rfl) ?_
  refine WL.nil ?_
  refine WQ.then_normal (hK2 _ _ _ ?_)
  refine WP.ret ?_
  obtain rfl := Option.some.inj hm
  exact WQ.ret1 _ rfl rfl ⟨rfl, (Ext.refl w)⟩

theorem c_20 (n : Nat) (rows_0 : List (List UInt8)) (a0' : Option Addr) (c0' : Nat) (least_1 : Int) (w : World) {r : Int × Int} (hm : m_spec_WornFields n rows_0 least_1 = some r) (h0 : Rd fStr.ty w a0' rows_0) (hle0 : rows_0.length ≤ c0') :
    CallV Try.prog 20 #[.slice a0' rows_0.length c0', .int .i64 least_1] w (fun v w' => v = .tuple #[.int .i64 r.1, .int .i64 r.2] ∧ Ext w w') := by
  unfold m_spec_WornFields at hm
  refine CallV.enter Try.func20 rfl (by kernel_rfl) Try.ntmps20 (env := [(0, .slice a0' rows_0.length c0'), (1, .int .i64 least_1)]) ⟨rfl, rfl, trivial⟩ ?_
  refine WP.seq (fun K1 hK1 => ?_)
  refine WP.region ?_
  refine WL.runk 2 [0, 1] [(0, .slice a0' rows_0.length c0'), (1, .int .i64 least_1)] (by kernel_rfl) ?_
  refine WL.nil ?_
  refine WQ.then_normal (hK1 _ _ _ ?_)
  refine WP.seq (fun K2 hK2 => ?_)
  refine WP.region ?_
  refine WL.runk 2 [0, 1, 10, 11] [(0, .slice a0' rows_0.length c0'), (1, .int .i64 least_1), (10, .slice a0' rows_0.length c0'), (11, .int .i64 least_1)] (by kernel_rfl) ?_
  obtain ⟨x3, hx4, hm⟩ := bindE hm
  refine WL.call 51 #[.slice a0' rows_0.length c0', .int .i64 least_1] rfl rfl (by kernel_rfl) (c_51 n rows_0 a0' c0' least_1 w hx4 (Rd.below h0 (Ext.refl w)) hle0) ?_
  rintro _ w5 ⟨rfl, hE6⟩
  refine ⟨_, rfl, ?_⟩
  have hb8 : Ext w w5 := Ext.trans (Ext.refl w) hE6
  have hL9 : w.heap.size ≤ w5.heap.size := Nat.le_trans (Nat.le_refl _) hE6.size
  have hS10 : SH w5 w.heap.size [] := SH.ext (SH.nil _ _) hE6
  refine WL.runk 1 [0, 1, 6] [(0, .slice a0' rows_0.length c0'), (1, .int .i64 least_1), (6, .int .i64 x3)] (by kernel_rfl) ?_
  refine WL.nil ?_
  refine WQ.then_normal (hK2 _ _ _ ?_)
  refine WP.seq (fun K11 hK11 => ?_)
  refine WP.seq (fun K12 hK12 => ?_)
  refine WP.region ?_
  refine WL.runk 2 [0, 1, 6, 14] [(0, .slice a0' rows_0.length c0'), (1, .int .i64 least_1), (6, .int .i64 x3), (14, .bool (x3 != 0))] (by kernel_rfl) ?_
  refine WL.nil ?_
  refine WQ.then_normal (hK12 _ _ _ ?_)
  refine WP.cond (x3 != 0) rfl rfl (fun hc13 => ?_) (fun hc13 => ?_)
  · have hm := iteT hm hc13
    refine WP.seq (fun K14 hK14 => ?_)
    refine WP.region ?_
    refine WL.runk 3 [4, 5] [(4, .int .i64 0), (5, .int .i64 x3)] (by kernel_rfl) ?_
    refine WL.nil ?_
    refine WQ.then_normal (hK14 _ _ _ ?_)
    refine WP.ret ?_
    refine WQ.then_ret ?_
    obtain rfl := Option.some.inj hm
    exact WQ.ret2 _ _ rfl rfl rfl ⟨rfl, hb8⟩
  · have hm := iteF hm hc13
    refine WP.skip ?_
    refine WQ.then_normal (hK11 _ _ _ ?_)
    refine WP.seq (fun K15 hK15 => ?_)
    refine WP.region ?_
    refine WL.runk 1 [0, 1, 7] [(0, .slice a0' rows_0.length c0'), (1, .int .i64 least_1), (7, .int .i64 0)] (by kernel_rfl) ?_
    refine WL.nil ?_
    refine WQ.then_normal (hK15 _ _ _ ?_)
    refine WP.seq (fun K16 hK16 => ?_)
    refine WP.seq (fun K17 hK17 => ?_)
    refine WP.region ?_
    refine WL.runk 1 [0, 1, 7, 8] [(0, .slice a0' rows_0.length c0'), (1, .int .i64 least_1), (7, .int .i64 0), (8, .int .i64 0)] (by kernel_rfl) ?_
    refine WL.nil ?_
    refine WQ.then_normal (hK17 _ _ _ ?_)
    refine WP.block ?_
    obtain ⟨t29, ht30, hm⟩ := bindE hm
    have hmo24 := hm; clear hm
    refine WP.sub [(0, .slice a0' rows_0.length c0'), (1, .int .i64 least_1), (7, .int .i64 0), (8, .int .i64 0)] ⟨rfl, rfl, rfl, rfl, trivial⟩ ?_
    refine WP.loop (fun n' env' w' => ∃ (st18 : Int × Int) , env' = [(0, .slice a0' rows_0.length c0'), (1, .int .i64 least_1), (7, .int .i64 st18.1), (8, .int .i64 st18.2)] ∧ Ext w w' ∧ w.heap.size ≤ w'.heap.size ∧ SH w' w.heap.size [] ∧ loopN (m_spec_WornFields_l1 n rows_0 least_1) n' st18 = some t29) n ⟨(0, 0), rfl, hb8, hL9, hS10, ht30⟩ ?_
    rintro n26 _ w19 ⟨st18, rfl, hb20, hL21, hS22, hl23⟩ K25 hK25
    obtain ⟨n27, s28, rfl, hm, hl23⟩ := loopN_some hl23
    unfold m_spec_WornFields_l1 at hm
    refine WP.seq (fun K31 hK31 => ?_)
    refine WP.seq (fun K32 hK32 => ?_)
    refine WP.region ?_
    refine WL.runk 4 [0, 1, 7, 8, 19] [(0, .slice a0' rows_0.length c0'), (1, .int .i64 least_1), (7, .int .i64 st18.1), (8, .int .i64 st18.2), (19, .bool (decide (st18.2 < (rows_0.length : Int))))] (by kernel_rfl) ?_
    refine WL.nil ?_
    refine WQ.then_normal (hK32 _ _ _ ?_)
    refine WP.cond (decide (st18.2 < (rows_0.length : Int))) rfl rfl (fun hc33 => ?_) (fun hc33 => ?_)
    · have hm := iteT hm hc33
      refine WP.skip ?_
      refine WQ.then_normal (hK31 _ _ _ ?_)
      refine WP.seq (fun K34 hK34 => ?_)
      refine WP.block ?_
      refine WP.seq (fun K35 hK35 => ?_)
      refine WP.region ?_
      refine WL.runk 1 [0, 1, 7, 8, 9] [(0, .slice a0' rows_0.length c0'), (1, .int .i64 least_1), (7, .int .i64 st18.1), (8, .int .i64 st18.2), (9, .int .i64 0)] (by kernel_rfl) ?_
      refine WL.nil ?_
      refine WQ.then_normal (hK35 _ _ _ ?_)
      refine WP.block ?_
      obtain ⟨t47, ht48, hm⟩ := bindE hm
      have hmo42 := hm; clear hm
      refine WP.sub [(0, .slice a0' rows_0.length c0'), (1, .int .i64 least_1), (7, .int .i64 st18.1), (8, .int .i64 st18.2), (9, .int .i64 0)] ⟨rfl, rfl, rfl, rfl, rfl, trivial⟩ ?_
      refine WP.loop (fun n' env' w' => ∃ (st36 : Int × Int) , env' = [(0, .slice a0' rows_0.length c0'), (1, .int .i64 least_1), (7, .int .i64 st36.1), (8, .int .i64 st18.2), (9, .int .i64 st36.2)] ∧ Ext w w' ∧ w.heap.size ≤ w'.heap.size ∧ SH w' w.heap.size [] ∧ loopN (m_spec_WornFields_l2 n rows_0 least_1 st18) n' st36 = some t47) n ⟨(st18.1, 0), rfl, hb20, hL21, hS22, ht48⟩ ?_
      rintro n44 _ w37 ⟨st36, rfl, hb38, hL39, hS40, hl41⟩ K43 hK43
      obtain ⟨n45, s46, rfl, hm, hl41⟩ := loopN_some hl41
      unfold m_spec_WornFields_l2 at hm
      refine WP.seq (fun K49 hK49 => ?_)
      refine WP.seq (fun K50 hK50 => ?_)
      refine WP.region ?_
      refine WL.runk 3 [0, 1, 7, 8, 9, 22, 23, 24] [(0, .slice a0' rows_0.length c0'), (1, .int .i64 least_1), (7, .int .i64 st36.1), (8, .int .i64 st18.2), (9, .int .i64 st36.2), (22, .int .i64 st36.2), (23, .slice a0' rows_0.length c0'), (24, .int .i64 st18.2)] (by kernel_rfl) ?_
      obtain ⟨x51, hx52, hm⟩ := bindE hm
      refine WL.st (.pointer (some (at_ a0' (Int.toNat st18.2 * 1)))) (ST.index (T := fStr.ty) (xs := rows_0) (Rd.below h0 hb38) hx52 rfl rfl rfl Try.underlying22 (info9).1 (info9).2.1) rfl rfl rfl ?_
      refine WL.st (.string (bs x51)) (ST.load (cell_ext (Rd.flat (F := fStr) (Rd.below h0 hb38) hx52 0 rfl)) rfl rfl Try.underlying9 rfl) rfl rfl rfl ?_
      refine WL.runk 2 [0, 1, 7, 8, 9, 28] [(0, .slice a0' rows_0.length c0'), (1, .int .i64 least_1), (7, .int .i64 st36.1), (8, .int .i64 st18.2), (9, .int .i64 st36.2), (28, .bool (decide (st36.2 < (x51.length : Int))))] (by kernel_rfl) ?_
      refine WL.nil ?_
      refine WQ.then_normal (hK50 _ _ _ ?_)
      refine WP.cond (decide (st36.2 < (x51.length : Int))) rfl rfl (fun hc53 => ?_) (fun hc53 => ?_)
      · have hm := iteT hm hc53
        refine WP.skip ?_
        refine WQ.then_normal (hK49 _ _ _ ?_)
        refine WP.seq (fun K54 hK54 => ?_)
        refine WP.block ?_
        refine WP.seq (fun K55 hK55 => ?_)
        refine WP.region ?_
        refine WL.runk 3 [0, 1, 7, 8, 9, 31, 32, 33] [(0, .slice a0' rows_0.length c0'), (1, .int .i64 least_1), (7, .int .i64 st36.1), (8, .int .i64 st18.2), (9, .int .i64 st36.2), (31, .slice a0' rows_0.length c0'), (32, .int .i64 st18.2), (33, .int .i64 st36.2)] (by kernel_rfl) ?_
        obtain ⟨x56, hx57, hm⟩ := bindE hm
        refine WL.call 52 #[.slice a0' rows_0.length c0', .int .i64 st18.2, .int .i64 st36.2] rfl rfl (by kernel_rfl) (c_52 n rows_0 a0' c0' st18.2 st36.2 w37 hx57 (Rd.below h0 hb38) hle0) ?_
        rintro _ w58 ⟨rfl, hE59⟩
        refine ⟨_, rfl, ?_⟩
        have hb61 : Ext w w58 := Ext.trans hb38 hE59
        have hL62 : w.heap.size ≤ w58.heap.size := Nat.le_trans hL39 hE59.size
        have hS63 : SH w58 w.heap.size [] := SH.ext hS40 hE59
        refine WL.runk 2 [0, 1, 7, 8, 9, 36] [(0, .slice a0' rows_0.length c0'), (1, .int .i64 least_1), (7, .int .i64 st36.1), (8, .int .i64 st18.2), (9, .int .i64 st36.2), (36, .bool (decide (x56 ≥ least_1)))] (by kernel_rfl) ?_
        refine WL.nil ?_
        refine WQ.then_normal (hK55 _ _ _ ?_)
        obtain ⟨x65, hx66, hm⟩ := bindE hm
        refine WP.cut (fun env' w' => env' = [(0, .slice a0' rows_0.length c0'), (1, .int .i64 least_1), (7, .int .i64 x65), (8, .int .i64 st18.2), (9, .int .i64 st36.2)] ∧ Ext w w' ∧ w.heap.size ≤ w'.heap.size ∧ SH w' w.heap.size []) ?_ ?_
        · have hm := hx66; clear hx66
          refine WP.cond (decide (x56 ≥ least_1)) rfl rfl (fun hc64 => ?_) (fun hc64 => ?_)
          · have hm := iteT hm hc64
            refine WP.region ?_
            refine WL.runk 3 [0, 1, 7, 8, 9] [(0, .slice a0' rows_0.length c0'), (1, .int .i64 least_1), (7, .int .i64 (wI64 (st36.1 + 1))), (8, .int .i64 st18.2), (9, .int .i64 st36.2)] (by kernel_rfl) ?_
            refine WL.nil ?_
            obtain rfl := Option.some.inj hm
            exact WQ.post' ⟨rfl, hb61, hL62, hS63⟩ ⟨rfl, rfl, rfl, rfl, rfl, trivial⟩
          · have hm := iteF hm hc64
            refine WP.skip ?_
            obtain rfl := Option.some.inj hm
            exact WQ.post' ⟨rfl, hb61, hL62, hS63⟩ ⟨rfl, rfl, rfl, rfl, rfl, trivial⟩
        · clear hx66
          rintro _ w67 ⟨rfl, hb68, hL69, hS70⟩
          refine WQ.block_normal ?_
          refine WQ.then_normal (hK54 _ _ _ ?_)
          refine WP.region ?_
          refine WL.runk 3 [0, 1, 7, 8, 9] [(0, .slice a0' rows_0.length c0'), (1, .int .i64 least_1), (7, .int .i64 x65), (8, .int .i64 st18.2), (9, .int .i64 (wI64 (st36.2 + 1)))] (by kernel_rfl) ?_
          refine WL.nil ?_
          obtain rfl := Option.some.inj hm
          exact WQ.round hK43 ⟨(x65, (wI64 (st36.2 + 1))), rfl, hb68, hL69, hS70, hl41⟩ (Nat.lt_succ_self _) ⟨rfl, rfl, rfl, rfl, rfl, trivial⟩
      · have hm := iteF hm hc53
        refine WP.exit ?_
        refine WQ.then_exit ?_
        refine WQ.then_exit ?_
        refine WQ.block_here ?_
        obtain rfl := Option.some.inj hm
        obtain rfl := afterN_done hl41
        have hm := hmo42
        refine WQ.block_normal ?_
        refine WQ.then_normal (hK34 _ _ _ ?_)
        refine WP.region ?_
        refine WL.runk 3 [0, 1, 7, 8] [(0, .slice a0' rows_0.length c0'), (1, .int .i64 least_1), (7, .int .i64 st36.1), (8, .int .i64 (wI64 (st18.2 + 1)))] (by kernel_rfl) ?_
        refine WL.nil ?_
        obtain rfl := Option.some.inj hm
        exact WQ.round hK25 ⟨(st36.1, (wI64 (st18.2 + 1))), rfl, hb38, hL39, hS40, hl23⟩ (Nat.lt_succ_self _) ⟨rfl, rfl, rfl, rfl, trivial⟩
    · have hm := iteF hm hc33
      refine WP.exit ?_
      refine WQ.then_exit ?_
      refine WQ.then_exit ?_
      refine WQ.block_here ?_
      obtain rfl := Option.some.inj hm
      obtain rfl := afterN_done hl23
      have hm := hmo24
      refine WQ.then_normal (hK16 _ _ _ ?_)
      refine WP.seq (fun K72 hK72 => ?_)
      refine WP.region ?_
      refine WL.runk 3 [4, 5] [(4, .int .i64 st18.1), (5, .int .i64 0)] (by kernel_rfl) ?_
      refine WL.nil ?_
      refine WQ.then_normal (hK72 _ _ _ ?_)
      refine WP.ret ?_
      obtain rfl := Option.some.inj hm
      exact WQ.ret2 _ _ rfl rfl rfl ⟨rfl, hb20⟩

theorem c_53 (n : Nat) (rows_0 : List (List UInt8)) (a0' : Option Addr) (c0' : Nat) (least_1 : Int) (w : World) {r : Int} (hm : m_impl_wearCode n rows_0 least_1 = some r) (h0 : Rd fStr.ty w a0' rows_0) (hle0 : rows_0.length ≤ c0') :
    CallV Try.prog 53 #[.slice a0' rows_0.length c0', .int .i64 least_1] w (fun v w' => v = .int .i64 r ∧ Ext w w') := by
  unfold m_impl_wearCode at hm
  refine CallV.enter Try.func53 rfl (by kernel_rfl) Try.ntmps53 (env := [(0, .slice a0' rows_0.length c0'), (1, .int .i64 least_1)]) ⟨rfl, rfl, trivial⟩ ?_
  refine WP.seq (fun K1 hK1 => ?_)
  refine WP.region ?_
  refine WL.runk 1 [0, 1] [(0, .slice a0' rows_0.length c0'), (1, .int .i64 least_1)] (by kernel_rfl) ?_
  refine WL.nil ?_
  refine WQ.then_normal (hK1 _ _ _ ?_)
  refine WP.seq (fun K2 hK2 => ?_)
  refine WP.block ?_
  refine WP.seq (fun K3 hK3 => ?_)
  refine WP.region ?_
  refine WL.runk 1 [1, 6] [(1, .int .i64 least_1), (6, .slice a0' rows_0.length c0')] (by kernel_rfl) ?_
  obtain ⟨x4, hx5, hm⟩ := bindE hm
  refine WL.call 18 #[.slice a0' rows_0.length c0'] rfl rfl (by kernel_rfl) (c_18 n rows_0 a0' c0' w hx5 (Rd.below h0 (Ext.refl w)) hle0) ?_
  rintro _ w6 ⟨rfl, hE7⟩
  refine ⟨_, rfl, ?_⟩
  have hb9 : Ext w w6 := Ext.trans (Ext.refl w) hE7
  have hL10 : w.heap.size ≤ w6.heap.size := Nat.le_trans (Nat.le_refl _) hE7.size
  have hS11 : SH w6 w.heap.size [] := SH.ext (SH.nil _ _) hE7
  refine WL.runk 2 [1, 5] [(1, .int .i64 least_1), (5, .bool (!x4))] (by kernel_rfl) ?_
  refine WL.nil ?_
  refine WQ.then_normal (hK3 _ _ _ ?_)
  refine WP.cond (!x4) rfl rfl (fun hc12 => ?_) (fun hc12 => ?_)
  · have hm := iteT hm hc12
    refine WP.seq (fun K13 hK13 => ?_)
    refine WP.region ?_
    refine WL.runk 1 [4] [(4, .int .i64 1)] (by kernel_rfl) ?_
    refine WL.nil ?_
    refine WQ.then_normal (hK13 _ _ _ ?_)
    refine WP.ret ?_
    refine WQ.block_ret ?_
    refine WQ.then_ret ?_
    obtain rfl := Option.some.inj hm
    exact WQ.ret1 _ rfl rfl ⟨rfl, hb9⟩
  · have hm := iteF hm hc12
    refine WP.seq (fun K14 hK14 => ?_)
    refine WP.region ?_
    refine WL.runk 1 [10] [(10, .int .i64 least_1)] (by kernel_rfl) ?_
    obtain ⟨x15, hx16, hm⟩ := bindE hm
    refine WL.call 50 #[.int .i64 least_1, .int .i64 1, .int .i64 9] rfl rfl (by kernel_rfl) (c_50 n least_1 1 9 w6 hx16 ) ?_
    rintro _ w17 ⟨rfl, hE18⟩
    refine ⟨_, rfl, ?_⟩
    have hb20 : Ext w w17 := Ext.trans hb9 hE18
    have hL21 : w.heap.size ≤ w17.heap.size := Nat.le_trans hL10 hE18.size
    have hS22 : SH w17 w.heap.size [] := SH.ext hS11 hE18
    refine WL.runk 2 [9] [(9, .bool (!x15))] (by kernel_rfl) ?_
    refine WL.nil ?_
    refine WQ.then_normal (hK14 _ _ _ ?_)
    refine WP.cond (!x15) rfl rfl (fun hc23 => ?_) (fun hc23 => ?_)
    · have hm := iteT hm hc23
      refine WP.seq (fun K24 hK24 => ?_)
      refine WP.region ?_
      refine WL.runk 1 [4] [(4, .int .i64 2)] (by kernel_rfl) ?_
      refine WL.nil ?_
      refine WQ.then_normal (hK24 _ _ _ ?_)
      refine WP.ret ?_
      refine WQ.block_ret ?_
      refine WQ.then_ret ?_
      obtain rfl := Option.some.inj hm
      exact WQ.ret1 _ rfl rfl ⟨rfl, hb20⟩
    · have hm := iteF hm hc23
      refine WP.skip ?_
      refine WQ.block_normal ?_
      refine WQ.then_normal (hK2 _ _ _ ?_)
      refine WP.seq (fun K25 hK25 => ?_)
      refine WP.region ?_
      refine WL.runk 1 [4] [(4, .int .i64 0)] (by kernel_rfl) ?_
      refine WL.nil ?_
      refine WQ.then_normal (hK25 _ _ _ ?_)
      refine WP.ret ?_
      obtain rfl := Option.some.inj hm
      exact WQ.ret1 _ rfl rfl ⟨rfl, hb20⟩

theorem c_54 (n : Nat) (rows_0 : List (List UInt8)) (a0' : Option Addr) (c0' : Nat) (w : World) {r : List Int} (hm : m_impl_digits n rows_0 = some r) (h0 : Rd fStr.ty w a0' rows_0) (hle0 : rows_0.length ≤ c0') :
    CallV Try.prog 54 #[.slice a0' rows_0.length c0'] w (fun v w' => ∃ (ra0 : Option Addr) (rc0 : Nat), v = .slice ra0 r.length rc0 ∧ Ext w w' ∧ SH w' w.heap.size [aOwn fInt 2 ra0 rc0 r]) := by
  unfold m_impl_digits at hm
  refine CallV.enter Try.func54 rfl (by kernel_rfl) Try.ntmps54 (env := [(0, .slice a0' rows_0.length c0')]) ⟨rfl, trivial⟩ ?_
  refine WP.seq (fun K1 hK1 => ?_)
  refine WP.region ?_
  refine WL.runk 1 [0] [(0, .slice a0' rows_0.length c0')] (by kernel_rfl) ?_
  refine WL.nil ?_
  refine WQ.then_normal (hK1 _ _ _ ?_)
  refine WP.seq (fun K2 hK2 => ?_)
  refine WP.region ?_
  refine WL.row fInt 2 ([] : List Int) 0 #[] 7 (by kernel_rfl) rfl rfl rfl rfl rfl rfl rfl ?_
  intro a3 c4 w5 hE6 hR7
  have hb9 : Ext w w5 := Ext.trans (Ext.refl w) hE6
  have hL10 : w.heap.size ≤ w5.heap.size := Nat.le_trans (Nat.le_refl _) hE6.size
  have hS11 : SH w5 w.heap.size [aOwn fInt 2 a3 c4 ([] : List Int)] := SH.add (SH.nil _ _) hE6 (Nat.le_refl _) hR7
  refine WL.runk 1 [0, 3] [(0, .slice a0' rows_0.length c0'), (3, .slice a3 (([] : List Int).length) c4)] (by kernel_rfl) ?_
  refine WL.nil ?_
  refine WQ.then_normal (hK2 _ _ _ ?_)
  refine WP.seq (fun K12 hK12 => ?_)
  refine WP.seq (fun K13 hK13 => ?_)
  refine WP.region ?_
  refine WL.runk 3 [3, 8, 9, 10] [(3, .slice a3 (([] : List Int).length) c4), (8, .slice a0' rows_0.length c0'), (9, .int .i64 (rows_0.length : Int)), (10, .int .i64 0)] (by kernel_rfl) ?_
  refine WL.nil ?_
  refine WQ.then_normal (hK13 _ _ _ ?_)
  refine WP.block ?_
  obtain ⟨t28, ht29, hm⟩ := bindE hm
  have hmo23 := hm; clear hm
  refine WP.sub [(3, .slice a3 (([] : List Int).length) c4), (8, .slice a0' rows_0.length c0'), (9, .int .i64 (rows_0.length : Int)), (10, .int .i64 0)] ⟨rfl, rfl, rfl, rfl, trivial⟩ ?_
  refine WP.loop (fun n' env' w' => ∃ (st14 : List Int × Int) (a15 : Option Addr) (c16 : Nat), env' = [(3, .slice a15 st14.1.length c16), (8, .slice a0' rows_0.length c0'), (9, .int .i64 (rows_0.length : Int)), (10, .int .i64 st14.2)] ∧ Ext w w' ∧ w.heap.size ≤ w'.heap.size ∧ SH w' w.heap.size [aOwn fInt 2 a15 c16 st14.1] ∧ loopN (m_impl_digits_l1 n rows_0) n' st14 = some t28) n ⟨(([] : List Int), 0), _, _, rfl, hb9, hL10, hS11, ht29⟩ ?_
  rintro n25 _ w18 ⟨st14, a15, c16, rfl, hb19, hL20, hS21, hl22⟩ K24 hK24
  obtain ⟨n26, s27, rfl, hm, hl22⟩ := loopN_some hl22
  unfold m_impl_digits_l1 at hm
  refine WP.seq (fun K30 hK30 => ?_)
  refine WP.region ?_
  refine WL.runk 1 [3, 8, 9, 10, 11] [(3, .slice a15 st14.1.length c16), (8, .slice a0' rows_0.length c0'), (9, .int .i64 (rows_0.length : Int)), (10, .int .i64 st14.2), (11, .bool (decide (st14.2 < (rows_0.length : Int))))] (by kernel_rfl) ?_
  refine WL.nil ?_
  refine WQ.then_normal (hK30 _ _ _ ?_)
  refine WP.seq (fun K31 hK31 => ?_)
  refine WP.cond (decide (st14.2 < (rows_0.length : Int))) rfl rfl (fun hc32 => ?_) (fun hc32 => ?_)
  · have hm := iteT hm hc32
    refine WP.skip ?_
    refine WQ.then_normal (hK31 _ _ _ ?_)
    refine WP.seq (fun K33 hK33 => ?_)
    refine WP.block ?_
    refine WP.seq (fun K34 hK34 => ?_)
    refine WP.region ?_
    obtain ⟨x35, hx36, hm⟩ := bindE hm
    refine WL.st (.pointer (some (at_ a0' (Int.toNat st14.2 * 1)))) (ST.index (T := fStr.ty) (xs := rows_0) (Rd.below h0 hb19) hx36 rfl rfl rfl Try.underlying22 (info9).1 (info9).2.1) rfl rfl rfl ?_
    refine WL.st (.string (bs x35)) (ST.load (cell_ext (Rd.flat (F := fStr) (Rd.below h0 hb19) hx36 0 rfl)) rfl rfl Try.underlying9 rfl) rfl rfl rfl ?_
    refine WL.runk 1 [3, 5, 8, 9, 10] [(3, .slice a15 st14.1.length c16), (8, .slice a0' rows_0.length c0'), (9, .int .i64 (rows_0.length : Int)), (10, .int .i64 st14.2), (5, .string (bs x35))] (by kernel_rfl) ?_
    refine WL.nil ?_
    refine WQ.then_normal (hK34 _ _ _ ?_)
    refine WP.seq (fun K37 hK37 => ?_)
    refine WP.region ?_
    refine WL.runk 3 [3, 5, 8, 9, 10, 15, 16] [(3, .slice a15 st14.1.length c16), (8, .slice a0' rows_0.length c0'), (9, .int .i64 (rows_0.length : Int)), (10, .int .i64 st14.2), (5, .string (bs x35)), (15, .int .i64 (x35.length : Int)), (16, .int .i64 0)] (by kernel_rfl) ?_
    refine WL.nil ?_
    refine WQ.then_normal (hK37 _ _ _ ?_)
    refine WP.block ?_
    obtain ⟨t52, ht53, hm⟩ := bindE hm
    have hmo47 := hm; clear hm
    refine WP.sub [(3, .slice a15 st14.1.length c16), (8, .slice a0' rows_0.length c0'), (9, .int .i64 (rows_0.length : Int)), (10, .int .i64 st14.2), (5, .string (bs x35)), (15, .int .i64 (x35.length : Int)), (16, .int .i64 0)] ⟨rfl, rfl, rfl, rfl, rfl, rfl, rfl, trivial⟩ ?_
    refine WP.loop (fun n' env' w' => ∃ (st38 : List Int × Int) (a39 : Option Addr) (c40 : Nat), env' = [(3, .slice a39 st38.1.length c40), (8, .slice a0' rows_0.length c0'), (9, .int .i64 (rows_0.length : Int)), (10, .int .i64 st14.2), (5, .string (bs x35)), (15, .int .i64 (x35.length : Int)), (16, .int .i64 st38.2)] ∧ Ext w w' ∧ w.heap.size ≤ w'.heap.size ∧ SH w' w.heap.size [aOwn fInt 2 a39 c40 st38.1] ∧ loopN (m_impl_digits_l2 n x35) n' st38 = some t52) n ⟨(st14.1, 0), _, _, rfl, hb19, hL20, hS21, ht53⟩ ?_
    rintro n49 _ w42 ⟨st38, a39, c40, rfl, hb43, hL44, hS45, hl46⟩ K48 hK48
    obtain ⟨n50, s51, rfl, hm, hl46⟩ := loopN_some hl46
    unfold m_impl_digits_l2 at hm
    refine WP.seq (fun K54 hK54 => ?_)
    refine WP.region ?_
    refine WL.runk 1 [3, 5, 8, 9, 10, 15, 16, 17] [(3, .slice a39 st38.1.length c40), (8, .slice a0' rows_0.length c0'), (9, .int .i64 (rows_0.length : Int)), (10, .int .i64 st14.2), (5, .string (bs x35)), (15, .int .i64 (x35.length : Int)), (16, .int .i64 st38.2), (17, .bool (decide (st38.2 < (x35.length : Int))))] (by kernel_rfl) ?_
    refine WL.nil ?_
    refine WQ.then_normal (hK54 _ _ _ ?_)
    refine WP.seq (fun K55 hK55 => ?_)
    refine WP.cond (decide (st38.2 < (x35.length : Int))) rfl rfl (fun hc56 => ?_) (fun hc56 => ?_)
    · have hm := iteT hm hc56
      refine WP.skip ?_
      refine WQ.then_normal (hK55 _ _ _ ?_)
      refine WP.seq (fun K57 hK57 => ?_)
      refine WP.block ?_
      refine WP.seq (fun K58 hK58 => ?_)
      refine WP.region ?_
      refine WL.runk 2 [3, 5, 6, 8, 9, 10, 15, 16] [(3, .slice a39 st38.1.length c40), (8, .slice a0' rows_0.length c0'), (9, .int .i64 (rows_0.length : Int)), (10, .int .i64 st14.2), (5, .string (bs x35)), (15, .int .i64 (x35.length : Int)), (16, .int .i64 st38.2), (6, .int .i64 st38.2)] (by kernel_rfl) ?_
      refine WL.nil ?_
      refine WQ.then_normal (hK58 _ _ _ ?_)
      refine WP.region ?_
      refine WL.runk 3 [5, 8, 9, 10, 15, 16, 19, 20, 21] [(8, .slice a0' rows_0.length c0'), (9, .int .i64 (rows_0.length : Int)), (10, .int .i64 st14.2), (5, .string (bs x35)), (15, .int .i64 (x35.length : Int)), (16, .int .i64 st38.2), (19, .slice a39 st38.1.length c40), (20, .string (bs x35)), (21, .int .i64 st38.2)] (by kernel_rfl) ?_
      obtain ⟨x59, hx60, hm⟩ := bindE hm
      refine WL.st (.int .u8 (x59.toNat : Int)) (ST.sindex hx60 rfl rfl rfl Try.underlying9) rfl rfl rfl ?_
      refine WL.runk 2 [5, 8, 9, 10, 15, 16, 19, 24] [(8, .slice a0' rows_0.length c0'), (9, .int .i64 (rows_0.length : Int)), (10, .int .i64 st14.2), (5, .string (bs x35)), (15, .int .i64 (x35.length : Int)), (16, .int .i64 st38.2), (19, .slice a39 st38.1.length c40), (24, .int .i64 (wI64 (IntKind.u8.wrap ((x59.toNat : Int) - 48))))] (by kernel_rfl) ?_
      refine WL.row fInt 2 ([(wI64 (IntKind.u8.wrap ((x59.toNat : Int) - 48)))] : List Int) 1 #[.int .i64 (wI64 (IntKind.u8.wrap ((x59.toNat : Int) - 48)))] 25 (by kernel_rfl) rfl rfl rfl rfl rfl rfl rfl ?_
      intro a61 c62 w63 hE64 hR65
      have hb67 : Ext w w63 := Ext.trans hb43 hE64
      have hL68 : w.heap.size ≤ w63.heap.size := Nat.le_trans hL44 hE64.size
      have hS69 : SH w63 w.heap.size [aOwn fInt 2 a61 c62 ([(wI64 (IntKind.u8.wrap ((x59.toNat : Int) - 48)))] : List Int), aOwn fInt 2 a39 c40 st38.1] := SH.add hS45 hE64 hL44 hR65
      obtain ⟨x70, hx71, hm⟩ := bindE hm
      refine WL.append (F := fInt) (xs := st38.1) (ys := ([(wI64 (IntKind.u8.wrap ((x59.toNat : Int) - 48)))] : List Int)) 26 (SH.front 1 hS69) hL68 (SH.rd (SH.front 0 hS69)) hx71 rfl rfl rfl Try.underlying40 (info2).1 (info2).2.2.1 (info2).2.1 (info2).2.2.2 rfl rfl rfl rfl rfl ?_
      intro a72 c73 w74 hB75 hS76
      have hb77 : Ext w w74 := Below.trans hb67 hB75
      have hL78 : w.heap.size ≤ w74.heap.size := Nat.le_trans hL68 hB75.size
      refine WL.runk 1 [3, 5, 8, 9, 10, 15, 16] [(8, .slice a0' rows_0.length c0'), (9, .int .i64 (rows_0.length : Int)), (10, .int .i64 st14.2), (5, .string (bs x35)), (15, .int .i64 (x35.length : Int)), (16, .int .i64 st38.2), (3, .slice a72 x70.length c73)] (by kernel_rfl) ?_
      refine WL.nil ?_
      refine WQ.block_normal ?_
      refine WQ.then_normal (hK57 _ _ _ ?_)
      refine WP.region ?_
      refine WL.runk 2 [3, 5, 8, 9, 10, 15, 16] [(8, .slice a0' rows_0.length c0'), (9, .int .i64 (rows_0.length : Int)), (10, .int .i64 st14.2), (5, .string (bs x35)), (15, .int .i64 (x35.length : Int)), (16, .int .i64 (wI64 (st38.2 + 1))), (3, .slice a72 x70.length c73)] (by kernel_rfl) ?_
      refine WL.nil ?_
      obtain rfl := Option.some.inj hm
      exact WQ.round hK48 ⟨(x70, (wI64 (st38.2 + 1))), _, _, rfl, hb77, hL78, (SH.take 1 hS76), hl46⟩ (Nat.lt_succ_self _) ⟨rfl, rfl, rfl, rfl, rfl, rfl, rfl, trivial⟩
    · have hm := iteF hm hc56
      refine WP.exit ?_
      refine WQ.then_exit ?_
      refine WQ.then_exit ?_
      refine WQ.block_here ?_
      obtain rfl := Option.some.inj hm
      obtain rfl := afterN_done hl46
      have hm := hmo47
      refine WQ.block_normal ?_
      refine WQ.then_normal (hK33 _ _ _ ?_)
      refine WP.region ?_
      refine WL.runk 2 [3, 8, 9, 10] [(3, .slice a39 st38.1.length c40), (8, .slice a0' rows_0.length c0'), (9, .int .i64 (rows_0.length : Int)), (10, .int .i64 (wI64 (st14.2 + 1)))] (by kernel_rfl) ?_
      refine WL.nil ?_
      obtain rfl := Option.some.inj hm
      exact WQ.round hK24 ⟨(st38.1, (wI64 (st14.2 + 1))), _, _, rfl, hb43, hL44, hS45, hl22⟩ (Nat.lt_succ_self _) ⟨rfl, rfl, rfl, rfl, trivial⟩
  · have hm := iteF hm hc32
    refine WP.exit ?_
    refine WQ.then_exit ?_
    refine WQ.then_exit ?_
    refine WQ.block_here ?_
    obtain rfl := Option.some.inj hm
    obtain rfl := afterN_done hl22
    have hm := hmo23
    refine WQ.then_normal (hK12 _ _ _ ?_)
    refine WP.seq (fun K83 hK83 => ?_)
    refine WP.region ?_
    refine WL.runk 2 [2] [(2, .slice a15 st14.1.length c16)] (by kernel_rfl) ?_
    refine WL.nil ?_
    refine WQ.then_normal (hK83 _ _ _ ?_)
    refine WP.ret ?_
    obtain rfl := Option.some.inj hm
    exact WQ.ret1 _ rfl rfl ⟨_, _, rfl, hb19, hS21⟩

theorem c_21 (n : Nat) (rows_0 : List (List UInt8)) (a0' : Option Addr) (c0' : Nat) (least_1 : Int) (w : World) {r : Int × Int} (hm : m_impl_WornFields n rows_0 least_1 = some r) (h0 : Rd fStr.ty w a0' rows_0) (hle0 : rows_0.length ≤ c0') :
    CallV Try.prog 21 #[.slice a0' rows_0.length c0', .int .i64 least_1] w (fun v w' => v = .tuple #[.int .i64 r.1, .int .i64 r.2] ∧ Ext w w') := by
  unfold m_impl_WornFields at hm
  refine CallV.enter Try.func21 rfl (by kernel_rfl) Try.ntmps21 (env := [(0, .slice a0' rows_0.length c0'), (1, .int .i64 least_1)]) ⟨rfl, rfl, trivial⟩ ?_
  refine WP.seq (fun K1 hK1 => ?_)
  refine WP.region ?_
  refine WL.runk 2 [0, 1] [(0, .slice a0' rows_0.length c0'), (1, .int .i64 least_1)] (by kernel_rfl) ?_
  refine WL.nil ?_
  refine WQ.then_normal (hK1 _ _ _ ?_)
  refine WP.seq (fun K2 hK2 => ?_)
  refine WP.seq (fun K3 hK3 => ?_)
  refine WP.region ?_
  refine WL.runk 2 [0, 1, 10, 11] [(0, .slice a0' rows_0.length c0'), (1, .int .i64 least_1), (10, .slice a0' rows_0.length c0'), (11, .int .i64 least_1)] (by kernel_rfl) ?_
  obtain ⟨x4, hx5, hm⟩ := bindE hm
  refine WL.call 53 #[.slice a0' rows_0.length c0', .int .i64 least_1] rfl rfl (by kernel_rfl) (c_53 n rows_0 a0' c0' least_1 w hx5 (Rd.below h0 (Ext.refl w)) hle0) ?_
  rintro _ w6 ⟨rfl, hE7⟩
  refine ⟨_, rfl, ?_⟩
  have hb9 : Ext w w6 := Ext.trans (Ext.refl w) hE7
  have hL10 : w.heap.size ≤ w6.heap.size := Nat.le_trans (Nat.le_refl _) hE7.size
  have hS11 : SH w6 w.heap.size [] := SH.ext (SH.nil _ _) hE7
  refine WL.runk 1 [0, 1, 6] [(0, .slice a0' rows_0.length c0'), (1, .int .i64 least_1), (6, .int .i64 x4)] (by kernel_rfl) ?_
  refine WL.nil ?_
  refine WQ.then_normal (hK3 _ _ _ ?_)
  refine WP.seq (fun K12 hK12 => ?_)
  refine WP.region ?_
  refine WL.runk 2 [0, 1, 6, 14] [(0, .slice a0' rows_0.length c0'), (1, .int .i64 least_1), (6, .int .i64 x4), (14, .bool (x4 != 0))] (by kernel_rfl) ?_
  refine WL.nil ?_
  refine WQ.then_normal (hK12 _ _ _ ?_)
  refine WP.cond (x4 != 0) rfl rfl (fun hc13 => ?_) (fun hc13 => ?_)
  · have hm := iteT hm hc13
    refine WP.seq (fun K14 hK14 => ?_)
    refine WP.region ?_
    refine WL.runk 3 [4, 5] [(4, .int .i64 0), (5, .int .i64 x4)] (by kernel_rfl) ?_
    refine WL.nil ?_
    refine WQ.then_normal (hK14 _ _ _ ?_)
    refine WP.ret ?_
    refine WQ.then_ret ?_
    obtain rfl := Option.some.inj hm
    exact WQ.ret2 _ _ rfl rfl rfl ⟨rfl, hb9⟩
  · have hm := iteF hm hc13
    refine WP.skip ?_
    refine WQ.then_normal (hK2 _ _ _ ?_)
    refine WP.seq (fun K15 hK15 => ?_)
    refine WP.region ?_
    refine WL.runk 1 [0, 1, 7] [(0, .slice a0' rows_0.length c0'), (1, .int .i64 least_1), (7, .int .i64 0)] (by kernel_rfl) ?_
    refine WL.nil ?_
    refine WQ.then_normal (hK15 _ _ _ ?_)
    refine WP.seq (fun K16 hK16 => ?_)
    refine WP.seq (fun K17 hK17 => ?_)
    refine WP.region ?_
    refine WL.runk 1 [1, 7, 16] [(1, .int .i64 least_1), (7, .int .i64 0), (16, .slice a0' rows_0.length c0')] (by kernel_rfl) ?_
    obtain ⟨x18, hx19, hm⟩ := bindE hm
    refine WL.call 54 #[.slice a0' rows_0.length c0'] rfl rfl (by kernel_rfl) (c_54 n rows_0 a0' c0' w6 hx19 (Rd.below h0 hb9) hle0) ?_
    rintro _ w23 ⟨a20, c21, rfl, hE24, hR25⟩
    refine ⟨_, rfl, ?_⟩
    have hb26 : Ext w w23 := Ext.trans hb9 hE24
    have hL27 : w.heap.size ≤ w23.heap.size := Nat.le_trans hL10 hE24.size
    have hS28 : SH w23 w.heap.size [aOwn fInt 2 a20 c21 x18] := SH.add hS11 hE24 hL10 hR25
    refine WL.runk 2 [1, 7, 17, 18, 19] [(1, .int .i64 least_1), (7, .int .i64 0), (17, .slice a20 x18.length c21), (18, .int .i64 (x18.length : Int)), (19, .int .i64 0)] (by kernel_rfl) ?_
    refine WL.nil ?_
    refine WQ.then_normal (hK17 _ _ _ ?_)
    refine WP.block ?_
    obtain ⟨t40, ht41, hm⟩ := bindE hm
    have hmo35 := hm; clear hm
    refine WP.sub [(1, .int .i64 least_1), (7, .int .i64 0), (17, .slice a20 x18.length c21), (18, .int .i64 (x18.length : Int)), (19, .int .i64 0)] ⟨rfl, rfl, rfl, rfl, rfl, trivial⟩ ?_
    refine WP.loop (fun n' env' w' => ∃ (st29 : Int × Int) , env' = [(1, .int .i64 least_1), (7, .int .i64 st29.1), (17, .slice a20 x18.length c21), (18, .int .i64 (x18.length : Int)), (19, .int .i64 st29.2)] ∧ Ext w w' ∧ w.heap.size ≤ w'.heap.size ∧ SH w' w.heap.size [aOwn fInt 2 a20 c21 x18] ∧ loopN (m_impl_WornFields_l1 n least_1 x18) n' st29 = some t40) n ⟨(0, 0), rfl, hb26, hL27, hS28, ht41⟩ ?_
    rintro n37 _ w30 ⟨st29, rfl, hb31, hL32, hS33, hl34⟩ K36 hK36
    obtain ⟨n38, s39, rfl, hm, hl34⟩ := loopN_some hl34
    unfold m_impl_WornFields_l1 at hm
    refine WP.seq (fun K42 hK42 => ?_)
    refine WP.region ?_
    refine WL.runk 1 [1, 7, 17, 18, 19, 20] [(1, .int .i64 least_1), (7, .int .i64 st29.1), (17, .slice a20 x18.length c21), (18, .int .i64 (x18.length : Int)), (19, .int .i64 st29.2), (20, .bool (decide (st29.2 < (x18.length : Int))))] (by kernel_rfl) ?_
    refine WL.nil ?_
    refine WQ.then_normal (hK42 _ _ _ ?_)
    refine WP.seq (fun K43 hK43 => ?_)
    refine WP.cond (decide (st29.2 < (x18.length : Int))) rfl rfl (fun hc44 => ?_) (fun hc44 => ?_)
    · have hm := iteT hm hc44
      refine WP.skip ?_
      refine WQ.then_normal (hK43 _ _ _ ?_)
      refine WP.seq (fun K45 hK45 => ?_)
      refine WP.block ?_
      refine WP.seq (fun K46 hK46 => ?_)
      refine WP.region ?_
      obtain ⟨x47, hx48, hm⟩ := bindE hm
      refine WL.st (.pointer (some (at_ a20 (Int.toNat st29.2 * 1)))) (ST.index (T := fInt.ty) (xs := x18) (SH.rd (SH.front 0 hS33)) hx48 rfl rfl rfl Try.underlying40 (info2).1 (info2).2.1) rfl rfl rfl ?_
      refine WL.st (.int .i64 x47) (ST.load (cell_ext (Rd.flat (F := fInt) (SH.rd (SH.front 0 hS33)) hx48 0 rfl)) rfl rfl Try.underlying2 rfl) rfl rfl rfl ?_
      refine WL.runk 1 [1, 7, 9, 17, 18, 19] [(1, .int .i64 least_1), (7, .int .i64 st29.1), (17, .slice a20 x18.length c21), (18, .int .i64 (x18.length : Int)), (19, .int .i64 st29.2), (9, .int .i64 x47)] (by kernel_rfl) ?_
      refine WL.nil ?_
      refine WQ.then_normal (hK46 _ _ _ ?_)
      refine WP.seq (fun K49 hK49 => ?_)
      refine WP.region ?_
      refine WL.runk 3 [1, 7, 17, 18, 19, 25] [(1, .int .i64 least_1), (7, .int .i64 st29.1), (17, .slice a20 x18.length c21), (18, .int .i64 (x18.length : Int)), (19, .int .i64 st29.2), (25, .bool (decide (x47 ≥ least_1)))] (by kernel_rfl) ?_
      refine WL.nil ?_
      refine WQ.then_normal (hK49 _ _ _ ?_)
      obtain ⟨x51, hx52, hm⟩ := bindE hm
      refine WP.cut (fun env' w' => env' = [(1, .int .i64 least_1), (7, .int .i64 x51), (17, .slice a20 x18.length c21), (18, .int .i64 (x18.length : Int)), (19, .int .i64 st29.2)] ∧ Ext w w' ∧ w.heap.size ≤ w'.heap.size ∧ SH w' w.heap.size [aOwn fInt 2 a20 c21 x18]) ?_ ?_
      · have hm := hx52; clear hx52
        refine WP.cond (decide (x47 ≥ least_1)) rfl rfl (fun hc50 => ?_) (fun hc50 => ?_)
        · have hm := iteT hm hc50
          refine WP.region ?_
          refine WL.runk 3 [1, 7, 17, 18, 19] [(1, .int .i64 least_1), (7, .int .i64 (wI64 (st29.1 + 1))), (17, .slice a20 x18.length c21), (18, .int .i64 (x18.length : Int)), (19, .int .i64 st29.2)] (by kernel_rfl) ?_
          refine WL.nil ?_
          obtain rfl := Option.some.inj hm
          exact WQ.post' ⟨rfl, hb31, hL32, hS33⟩ ⟨rfl, rfl, rfl, rfl, rfl, trivial⟩
        · have hm := iteF hm hc50
          refine WP.skip ?_
          obtain rfl := Option.some.inj hm
          exact WQ.post' ⟨rfl, hb31, hL32, hS33⟩ ⟨rfl, rfl, rfl, rfl, rfl, trivial⟩
      · clear hx52
        rintro _ w53 ⟨rfl, hb54, hL55, hS56⟩
        refine WQ.block_normal ?_
        refine WQ.then_normal (hK45 _ _ _ ?_)
        refine WP.region ?_
        refine WL.runk 2 [1, 7, 17, 18, 19] [(1, .int .i64 least_1), (7, .int .i64 x51), (17, .slice a20 x18.length c21), (18, .int .i64 (x18.length : Int)), (19, .int .i64 (wI64 (st29.2 + 1)))] (by kernel_rfl) ?_
        refine WL.nil ?_
        obtain rfl := Option.some.inj hm
        exact WQ.round hK36 ⟨(x51, (wI64 (st29.2 + 1))), rfl, hb54, hL55, hS56, hl34⟩ (Nat.lt_succ_self _) ⟨rfl, rfl, rfl, rfl, rfl, trivial⟩
    · have hm := iteF hm hc44
      refine WP.exit ?_
      refine WQ.then_exit ?_
      refine WQ.then_exit ?_
      refine WQ.block_here ?_
      obtain rfl := Option.some.inj hm
      obtain rfl := afterN_done hl34
      have hm := hmo35
      refine WQ.then_normal (hK16 _ _ _ ?_)
      refine WP.seq (fun K57 hK57 => ?_)
      refine WP.region ?_
      refine WL.runk 3 [4, 5] [(4, .int .i64 st29.1), (5, .int .i64 0)] (by kernel_rfl) ?_
      refine WL.nil ?_
      refine WQ.then_normal (hK57 _ _ _ ?_)
      refine WP.ret ?_
      obtain rfl := Option.some.inj hm
      exact WQ.ret2 _ _ rfl rfl rfl ⟨rfl, hb31⟩

end Go.Proofs.Ytoljnpoiclklpaa
