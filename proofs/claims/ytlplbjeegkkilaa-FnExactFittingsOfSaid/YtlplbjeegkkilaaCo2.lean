/- Each call does what its Lean function says. -/
import Derived.Test.YtlplbjeegkkilaaCo1
set_option maxRecDepth 20000
namespace Go.Proofs.Ytlplbjeegkkilaa
open Go Go.Gv Go.RowKit

theorem c_18 (n : Nat) (a_0 : List SChange) (a0' : Option Addr) (c0' : Nat) (w : World) {r : List SChange} (hm : m_laws_toChangeS n a_0 = some r) (h0 : Rd fChange.ty w a0' a_0) (hle0 : a_0.length ≤ c0') :
    CallV Try.prog 18 #[.slice a0' a_0.length c0'] w (fun v w' => ∃ (ra0 : Option Addr) (rc0 : Nat), v = .slice ra0 r.length rc0 ∧ Ext w w' ∧ SH w' w.heap.size [aOwn fChange 42 ra0 rc0 r]) := by
  unfold m_laws_toChangeS at hm
  refine CallV.enter Try.func18 rfl (by kernel_rfl) Try.ntmps18 (env := [(0, .slice a0' a_0.length c0')]) ⟨rfl, trivial⟩ ?_
  refine WP.seq (fun K1 hK1 => ?_)
  refine WP.region ?_
  refine WL.runk 1 [0] [(0, .slice a0' a_0.length c0')] (by kernel_rfl) ?_
  refine WL.nil ?_
  refine WQ.then_normal (hK1 _ _ _ ?_)
  refine WP.seq (fun K2 hK2 => ?_)
  refine WP.region ?_
  refine WL.runk 2 [0, 6] [(0, .slice a0' a_0.length c0'), (6, .int .i64 (a_0.length : Int))] (by kernel_rfl) ?_
  obtain ⟨x3, hx4, hm⟩ := bindE hm
  refine WL.make fChange 7 hx4 rfl rfl rfl Try.underlying28 (info42).1 (info42).2.2.1 (info42).2.1 (info42).2.2.2 rfl rfl rfl rfl rfl ?_
  intro a5 c6 w7 hE8 hR9
  have hb11 : Ext w w7 := Ext.trans (Ext.refl w) hE8
  have hL12 : w.heap.size ≤ w7.heap.size := Nat.le_trans (Nat.le_refl _) hE8.size
  have hS13 : SH w7 w.heap.size [aOwn fChange 42 a5 c6 x3] := SH.add (SH.nil _ _) hE8 (Nat.le_refl _) hR9
  refine WL.runk 1 [0, 3] [(0, .slice a0' a_0.length c0'), (3, .slice a5 x3.length c6)] (by kernel_rfl) ?_
  refine WL.nil ?_
  refine WQ.then_normal (hK2 _ _ _ ?_)
  refine WP.seq (fun K14 hK14 => ?_)
  refine WP.seq (fun K15 hK15 => ?_)
  refine WP.region ?_
  refine WL.runk 1 [0, 3, 4] [(0, .slice a0' a_0.length c0'), (3, .slice a5 x3.length c6), (4, .int .i64 0)] (by kernel_rfl) ?_
  refine WL.nil ?_
  refine WQ.then_normal (hK15 _ _ _ ?_)
  refine WP.block ?_
  obtain ⟨t62, ht63, hm⟩ := bindE hm
  have hmo57 := hm; clear hm
  refine WP.sub [(0, .slice a0' a_0.length c0'), (3, .slice a5 x3.length c6), (4, .int .i64 0)] ⟨rfl, rfl, rfl, trivial⟩ ?_
  refine WP.loop (fun n' env' w' => ∃ (st51 : Int × List SChange) , env' = [(0, .slice a0' a_0.length c0'), (3, .slice a5 st51.2.length c6), (4, .int .i64 st51.1)] ∧ Ext w w' ∧ w.heap.size ≤ w'.heap.size ∧ SH w' w.heap.size [aOwn fChange 42 a5 c6 st51.2] ∧ loopN (m_laws_toChangeS_l1 n a_0) n' st51 = some t62) n ⟨(0, x3), rfl, hb11, hL12, hS13, ht63⟩ ?_
  rintro n59 _ w52 ⟨st51, rfl, hb53, hL54, hS55, hl56⟩ K58 hK58
  obtain ⟨n60, s61, rfl, hm, hl56⟩ := loopN_some hl56
  unfold m_laws_toChangeS_l1 at hm
  refine WP.seq (fun K64 hK64 => ?_)
  refine WP.seq (fun K65 hK65 => ?_)
  refine WP.region ?_
  refine WL.runk 4 [0, 3, 4, 11] [(0, .slice a0' a_0.length c0'), (3, .slice a5 st51.2.length c6), (4, .int .i64 st51.1), (11, .bool (decide (st51.1 < (a_0.length : Int))))] (by kernel_rfl) ?_
  refine WL.nil ?_
  refine WQ.then_normal (hK65 _ _ _ ?_)
  refine WP.cond (decide (st51.1 < (a_0.length : Int))) rfl rfl (fun hc66 => ?_) (fun hc66 => ?_)
  · have hm := iteT hm hc66
    refine WP.skip ?_
    refine WQ.then_normal (hK64 _ _ _ ?_)
    refine WP.seq (fun K67 hK67 => ?_)
    refine WP.block ?_
    refine WP.region ?_
    refine WL.runk 4 [0, 3, 4, 14, 15, 16, 17] [(0, .slice a0' a_0.length c0'), (3, .slice a5 st51.2.length c6), (4, .int .i64 st51.1), (14, .slice a5 st51.2.length c6), (15, .int .i64 st51.1), (16, .slice a0' a_0.length c0'), (17, .int .i64 st51.1)] (by kernel_rfl) ?_
    obtain ⟨x68, hx69, hm⟩ := bindE hm
    refine WL.st (.pointer (some (at_ a0' (Int.toNat st51.1 * 2)))) (ST.index (T := fChange.ty) (xs := a_0) (Rd.below h0 hb53) hx69 rfl rfl rfl Try.underlying25 (info40).1 (info40).2.1) rfl rfl rfl ?_
    refine WL.st (.agg #[.int .i64 x68.Kind, .int .i64 x68.Amount]) (ST.loadAgg (vs := fChange.leaf x68) (fun j v hv => Rd.flatA (F := fChange) (Rd.below h0 hb53) hx69 j hv) rfl rfl rfl Try.underlying40 rfl (info40).1 (info40).2.1) rfl rfl rfl ?_
    obtain ⟨x70, hx71, hm⟩ := bindE hm
    refine WL.call 29 #[.agg #[.int .i64 x68.Kind, .int .i64 x68.Amount]] rfl rfl (by kernel_rfl) (c_29 n x68 w52 hx71 ) ?_
    rintro _ w72 ⟨rfl, hE73⟩
    refine ⟨_, rfl, ?_⟩
    have hb75 : Ext w w72 := Ext.trans hb53 hE73
    have hL76 : w.heap.size ≤ w72.heap.size := Nat.le_trans hL54 hE73.size
    have hS77 : SH w72 w.heap.size [aOwn fChange 42 a5 c6 st51.2] := SH.ext hS55 hE73
    obtain ⟨x78, hx79, hm⟩ := bindE hm
    refine WL.st (.pointer (some (at_ a5 (Int.toNat st51.1 * 2)))) (ST.index (T := fChange.ty) (xs := st51.2) (SH.rd (SH.front 0 hS77)) hx79 rfl rfl rfl Try.underlying28 (info42).1 (info42).2.1) rfl rfl rfl ?_
    refine WL.store (F := fChange) x70 0 [.int .i64 x70.Kind, .int .i64 x70.Amount] (SH.front 0 hS77) hL76 hx79 rfl rfl rfl rfl rfl rfl rfl (info42).1 (info42).2.1 rfl rfl rfl ?_
    intro w80 hB81 hS82
    have hb83 : Ext w w80 := Below.trans hb75 hB81
    have hL84 : w.heap.size ≤ w80.heap.size := Nat.le_trans hL76 hB81.size
    refine WL.sub [(0, .slice a0' a_0.length c0'), (3, .slice a5 ((st51.2.set (Int.toNat st51.1) x70).length) c6), (4, .int .i64 st51.1), (14, .slice a5 ((st51.2.set (Int.toNat st51.1) x70).length) c6), (15, .int .i64 st51.1), (16, .slice a0' a_0.length c0'), (17, .int .i64 st51.1), (18, .pointer (some (at_ a0' (Int.toNat st51.1 * 2)))), (19, .agg #[.int .i64 x68.Kind, .int .i64 x68.Amount]), (20, .agg #[.int .i64 x70.Kind, .int .i64 x70.Amount])] ⟨rfl, by first | (simp only [List.length_set]; done) | (simp only [List.length_set]; rfl), rfl, by first | (simp only [List.length_set]; done) | (simp only [List.length_set]; rfl), rfl, rfl, rfl, rfl, rfl, rfl, trivial⟩ ?_
    refine WL.sub [(0, .slice a0' a_0.length c0'), (3, .slice a5 ((st51.2.set (Int.toNat st51.1) x70).length) c6), (4, .int .i64 st51.1)] ⟨rfl, rfl, rfl, trivial⟩ ?_
    refine WL.nil ?_
    refine WQ.block_normal ?_
    refine WQ.then_normal (hK67 _ _ _ ?_)
    refine WP.region ?_
    refine WL.runk 3 [0, 3, 4] [(0, .slice a0' a_0.length c0'), (3, .slice a5 ((st51.2.set (Int.toNat st51.1) x70).length) c6), (4, .int .i64 (wI64 (st51.1 + 1)))] (by kernel_rfl) ?_
    refine WL.nil ?_
    obtain rfl := Option.some.inj hm
    exact WQ.round hK58 ⟨((wI64 (st51.1 + 1)), (st51.2.set (Int.toNat st51.1) x70)), rfl, hb83, hL84, hS82, hl56⟩ (Nat.lt_succ_self _) ⟨rfl, rfl, rfl, trivial⟩
  · have hm := iteF hm hc66
    refine WP.exit ?_
    refine WQ.then_exit ?_
    refine WQ.then_exit ?_
    refine WQ.block_here ?_
    obtain rfl := Option.some.inj hm
    obtain rfl := afterN_done hl56
    have hm := hmo57
    refine WQ.then_normal (hK14 _ _ _ ?_)
    refine WP.seq (fun K85 hK85 => ?_)
    refine WP.region ?_
    refine WL.runk 2 [2] [(2, .slice a5 st51.2.length c6)] (by kernel_rfl) ?_
    refine WL.nil ?_
    refine WQ.then_normal (hK85 _ _ _ ?_)
    refine WP.ret ?_
    obtain rfl := Option.some.inj hm
    exact WQ.ret1 _ rfl rfl ⟨_, _, rfl, hb53, hS55⟩

theorem c_54 (n : Nat) (s1_0 : List SChange) (a0' : Option Addr) (c0' : Nat) (s2_1 : List SChange) (a1' : Option Addr) (c1' : Nat) (w : World) {r : Bool} (hm : m_slices_Equal_impl_Change_impl_Change n s1_0 s2_1 = some r) (h0 : Rd fChange.ty w a0' s1_0) (hle0 : s1_0.length ≤ c0') (h1 : Rd fChange.ty w a1' s2_1) (hle1 : s2_1.length ≤ c1') :
    CallV Try.prog 54 #[.slice a0' s1_0.length c0', .slice a1' s2_1.length c1'] w (fun v w' => v = .bool r ∧ Ext w w') := by
  unfold m_slices_Equal_impl_Change_impl_Change at hm
  refine CallV.enter Try.func54 rfl (by kernel_rfl) Try.ntmps54 (env := [(0, .slice a0' s1_0.length c0'), (1, .slice a1' s2_1.length c1')]) ⟨rfl, rfl, trivial⟩ ?_
  refine WP.seq (fun K1 hK1 => ?_)
  refine WP.region ?_
  refine WL.runk 1 [0, 1] [(0, .slice a0' s1_0.length c0'), (1, .slice a1' s2_1.length c1')] (by kernel_rfl) ?_
  refine WL.nil ?_
  refine WQ.then_normal (hK1 _ _ _ ?_)
  refine WP.seq (fun K2 hK2 => ?_)
  refine WP.seq (fun K3 hK3 => ?_)
  refine WP.region ?_
  refine WL.runk 5 [0, 1, 10] [(0, .slice a0' s1_0.length c0'), (1, .slice a1' s2_1.length c1'), (10, .bool ((s1_0.length : Int) != (s2_1.length : Int)))] (by kernel_rfl) ?_
  refine WL.nil ?_
  refine WQ.then_normal (hK3 _ _ _ ?_)
  refine WP.cond ((s1_0.length : Int) != (s2_1.length : Int)) rfl rfl (fun hc4 => ?_) (fun hc4 => ?_)
  · have hm := iteT hm hc4
    refine WP.seq (fun K5 hK5 => ?_)
    refine WP.region ?_
    refine WL.runk 1 [4] [(4, .bool false)] (by kernel_rfl) ?_
    refine WL.nil ?_
    refine WQ.then_normal (hK5 _ _ _ ?_)
    refine WP.ret ?_
    refine WQ.then_ret ?_
    obtain rfl := Option.some.inj hm
    exact WQ.ret1 _ rfl rfl ⟨rfl, (Ext.refl w)⟩
  · have hm := iteF hm hc4
    refine WP.skip ?_
    refine WQ.then_normal (hK2 _ _ _ ?_)
    refine WP.seq (fun K6 hK6 => ?_)
    refine WP.seq (fun K7 hK7 => ?_)
    refine WP.region ?_
    refine WL.runk 3 [0, 1, 12, 13] [(0, .slice a0' s1_0.length c0'), (1, .slice a1' s2_1.length c1'), (12, .int .i64 (s1_0.length : Int)), (13, .int .i64 0)] (by kernel_rfl) ?_
    refine WL.nil ?_
    refine WQ.then_normal (hK7 _ _ _ ?_)
    refine WP.block ?_
    obtain ⟨t19, ht20, hm⟩ := bindE hm
    have hmo14 := hm; clear hm
    refine WP.sub [(0, .slice a0' s1_0.length c0'), (1, .slice a1' s2_1.length c1'), (12, .int .i64 (s1_0.length : Int)), (13, .int .i64 0)] ⟨rfl, rfl, rfl, rfl, trivial⟩ ?_
    refine WP.loop (fun n' env' w' => ∃ (st8 : Int) , env' = [(0, .slice a0' s1_0.length c0'), (1, .slice a1' s2_1.length c1'), (12, .int .i64 (s1_0.length : Int)), (13, .int .i64 st8)] ∧ Ext w w' ∧ w.heap.size ≤ w'.heap.size ∧ SH w' w.heap.size [] ∧ loopN (m_slices_Equal_impl_Change_impl_Change_l1 n s1_0 s2_1) n' st8 = some t19) n ⟨0, rfl, (Ext.refl w), (Nat.le_refl _), (SH.nil _ _), ht20⟩ ?_
    rintro n16 _ w9 ⟨st8, rfl, hb10, hL11, hS12, hl13⟩ K15 hK15
    obtain ⟨n17, s18, rfl, hm, hl13⟩ := loopN_some hl13
    unfold m_slices_Equal_impl_Change_impl_Change_l1 at hm
    refine WP.seq (fun K21 hK21 => ?_)
    refine WP.region ?_
    refine WL.runk 1 [0, 1, 12, 13, 14] [(0, .slice a0' s1_0.length c0'), (1, .slice a1' s2_1.length c1'), (12, .int .i64 (s1_0.length : Int)), (13, .int .i64 st8), (14, .bool (decide (st8 < (s1_0.length : Int))))] (by kernel_rfl) ?_
    refine WL.nil ?_
    refine WQ.then_normal (hK21 _ _ _ ?_)
    refine WP.seq (fun K22 hK22 => ?_)
    refine WP.cond (decide (st8 < (s1_0.length : Int))) rfl rfl (fun hc23 => ?_) (fun hc23 => ?_)
    · have hm := iteT hm hc23
      refine WP.skip ?_
      refine WQ.then_normal (hK22 _ _ _ ?_)
      refine WP.seq (fun K24 hK24 => ?_)
      refine WP.block ?_
      refine WP.seq (fun K25 hK25 => ?_)
      refine WP.region ?_
      refine WL.runk 2 [0, 1, 5, 12, 13] [(0, .slice a0' s1_0.length c0'), (1, .slice a1' s2_1.length c1'), (12, .int .i64 (s1_0.length : Int)), (13, .int .i64 st8), (5, .int .i64 st8)] (by kernel_rfl) ?_
      refine WL.nil ?_
      refine WQ.then_normal (hK25 _ _ _ ?_)
      refine WP.seq (fun K26 hK26 => ?_)
      refine WP.quiet (by kernel_rfl) (by kernel_rfl) ?_
      refine QL.step1 rfl (env' := [(0, .slice a0' s1_0.length c0'), (1, .slice a1' s2_1.length c1'), (12, .int .i64 (s1_0.length : Int)), (13, .int .i64 st8), (5, .int .i64 st8), (16, .slice a0' s1_0.length c0')]) (fun _ => by kernel_rfl) ?_
      refine QL.step1 rfl (env' := [(0, .slice a0' s1_0.length c0'), (1, .slice a1' s2_1.length c1'), (12, .int .i64 (s1_0.length : Int)), (13, .int .i64 st8), (5, .int .i64 st8), (16, .slice a0' s1_0.length c0'), (17, .int .i64 st8)]) (fun _ => by kernel_rfl) ?_
      obtain ⟨x27, hx28, hm⟩ := bindE hm
      refine QL.st (.pointer (some (at_ a0' (Int.toNat st8 * 2)))) (ST.index (T := fChange.ty) (xs := s1_0) (Rd.below h0 hb10) hx28 rfl rfl rfl Try.underlying28 (info42).1 (info42).2.1) rfl rfl rfl ?_
      refine QL.st (.agg #[.int .i64 x27.Kind, .int .i64 x27.Amount]) (ST.loadAgg (vs := fChange.leaf x27) (fun j v hv => Rd.flatA (F := fChange) (Rd.below h0 hb10) hx28 j hv) rfl rfl rfl Try.underlying42 rfl (info42).1 (info42).2.1) rfl rfl rfl ?_
      refine QL.step1 rfl (env' := [(0, .slice a0' s1_0.length c0'), (1, .slice a1' s2_1.length c1'), (12, .int .i64 (s1_0.length : Int)), (13, .int .i64 st8), (5, .int .i64 st8), (16, .slice a0' s1_0.length c0'), (17, .int .i64 st8), (18, .pointer (some (at_ a0' (Int.toNat st8 * 2)))), (19, .agg #[.int .i64 x27.Kind, .int .i64 x27.Amount]), (20, .slice a1' s2_1.length c1')]) (fun _ => by kernel_rfl) ?_
      refine QL.sub [(0, .slice a0' s1_0.length c0'), (1, .slice a1' s2_1.length c1'), (12, .int .i64 (s1_0.length : Int)), (13, .int .i64 st8), (5, .int .i64 st8), (19, .agg #[.int .i64 x27.Kind, .int .i64 x27.Amount]), (20, .slice a1' s2_1.length c1')] ⟨rfl, rfl, rfl, rfl, rfl, rfl, rfl, trivial⟩ ?_
      refine QL.step1 rfl (env' := [(0, .slice a0' s1_0.length c0'), (1, .slice a1' s2_1.length c1'), (12, .int .i64 (s1_0.length : Int)), (13, .int .i64 st8), (5, .int .i64 st8), (19, .agg #[.int .i64 x27.Kind, .int .i64 x27.Amount]), (20, .slice a1' s2_1.length c1'), (21, .int .i64 st8)]) (fun _ => by kernel_rfl) ?_
      refine QL.sub [(0, .slice a0' s1_0.length c0'), (1, .slice a1' s2_1.length c1'), (12, .int .i64 (s1_0.length : Int)), (13, .int .i64 st8), (19, .agg #[.int .i64 x27.Kind, .int .i64 x27.Amount]), (20, .slice a1' s2_1.length c1'), (21, .int .i64 st8)] ⟨rfl, rfl, rfl, rfl, rfl, rfl, rfl, trivial⟩ ?_
      obtain ⟨x29, hx30, hm⟩ := bindE hm
      refine QL.st (.pointer (some (at_ a1' (Int.toNat st8 * 2)))) (ST.index (T := fChange.ty) (xs := s2_1) (Rd.below h1 hb10) hx30 rfl rfl rfl Try.underlying28 (info42).1 (info42).2.1) rfl rfl rfl ?_
      refine QL.st (.agg #[.int .i64 x29.Kind, .int .i64 x29.Amount]) (ST.loadAgg (vs := fChange.leaf x29) (fun j v hv => Rd.flatA (F := fChange) (Rd.below h1 hb10) hx30 j hv) rfl rfl rfl Try.underlying42 rfl (info42).1 (info42).2.1) rfl rfl rfl ?_
      refine QL.st (.bool (!(decide (x27 = x29)))) (ST.aggne (F := fChange) (x := x27) (y := x29) (eqs_42 x27 x29) (by kernel_rfl) rfl rfl rfl) rfl rfl rfl ?_
      refine QL.sub [(0, .slice a0' s1_0.length c0'), (1, .slice a1' s2_1.length c1'), (12, .int .i64 (s1_0.length : Int)), (13, .int .i64 st8), (24, .bool (!(decide (x27 = x29))))] ⟨rfl, rfl, rfl, rfl, rfl, trivial⟩ ?_
      refine QL.nil ?_
      intro w31 hE32
      have hb33 : Ext w w31 := Ext.trans hb10 hE32
      have hL34 : w.heap.size ≤ w31.heap.size := Nat.le_trans hL11 hE32.size
      have hS35 : SH w31 w.heap.size [] := SH.ext hS12 hE32
      refine WQ.then_normal (hK26 _ _ _ ?_)
      refine WP.cond (!(decide (x27 = x29))) rfl rfl (fun hc36 => ?_) (fun hc36 => ?_)
      · have hm := iteT hm hc36
        refine WP.seq (fun K37 hK37 => ?_)
        refine WP.region ?_
        refine WL.runk 1 [4] [(4, .bool false)] (by kernel_rfl) ?_
        refine WL.nil ?_
        refine WQ.then_normal (hK37 _ _ _ ?_)
        refine WP.ret ?_
        refine WQ.block_ret ?_
        refine WQ.then_ret ?_
        refine WQ.then_ret ?_
        refine WQ.block_ret ?_
        refine WQ.then_ret ?_
        obtain rfl := Option.some.inj hm
        obtain rfl := afterN_done hl13
        have hm := hmo14
        obtain rfl := Option.some.inj hm
        exact WQ.ret1 _ rfl rfl ⟨rfl, hb33⟩
      · have hm := iteF hm hc36
        refine WP.skip ?_
        refine WQ.block_normal ?_
        refine WQ.then_normal (hK24 _ _ _ ?_)
        refine WP.region ?_
        refine WL.runk 2 [0, 1, 12, 13] [(0, .slice a0' s1_0.length c0'), (1, .slice a1' s2_1.length c1'), (12, .int .i64 (s1_0.length : Int)), (13, .int .i64 (wI64 (st8 + 1)))] (by kernel_rfl) ?_
        refine WL.nil ?_
        obtain rfl := Option.some.inj hm
        exact WQ.round hK15 ⟨(wI64 (st8 + 1)), rfl, hb33, hL34, hS35, hl13⟩ (Nat.lt_succ_self _) ⟨rfl, rfl, rfl, rfl, trivial⟩
    · have hm := iteF hm hc23
      refine WP.exit ?_
      refine WQ.then_exit ?_
      refine WQ.then_exit ?_
      refine WQ.block_here ?_
      obtain rfl := Option.some.inj hm
      obtain rfl := afterN_done hl13
      have hm := hmo14
      refine WQ.then_normal (hK6 _ _ _ ?_)
      refine WP.seq (fun K38 hK38 => ?_)
      refine WP.region ?_
      refine WL.runk 1 [4] [(4, .bool true)] (by kernel_rfl) ?_
      refine WL.nil ?_
      refine WQ.then_normal (hK38 _ _ _ ?_)
      refine WP.ret ?_
      obtain rfl := Option.some.inj hm
      exact WQ.ret1 _ rfl rfl ⟨rfl, hb10⟩

theorem c_19 (n : Nat) (a_0 : List SChange) (a0' : Option Addr) (c0' : Nat) (b_1 : List SChange) (a1' : Option Addr) (c1' : Nat) (w : World) {r : Bool} (hm : m_impl_SameChanges n a_0 b_1 = some r) (h0 : Rd fChange.ty w a0' a_0) (hle0 : a_0.length ≤ c0') (h1 : Rd fChange.ty w a1' b_1) (hle1 : b_1.length ≤ c1') :
    CallV Try.prog 19 #[.slice a0' a_0.length c0', .slice a1' b_1.length c1'] w (fun v w' => v = .bool r ∧ Ext w w') := by
  unfold m_impl_SameChanges at hm
  refine CallV.enter Try.func19 rfl (by kernel_rfl) Try.ntmps19 (env := [(0, .slice a0' a_0.length c0'), (1, .slice a1' b_1.length c1')]) ⟨rfl, rfl, trivial⟩ ?_
  refine WP.seq (fun K1 hK1 => ?_)
  refine WP.region ?_
  refine WL.runk 1 [0, 1] [(0, .slice a0' a_0.length c0'), (1, .slice a1' b_1.length c1')] (by kernel_rfl) ?_
  refine WL.nil ?_
  refine WQ.then_normal (hK1 _ _ _ ?_)
  refine WP.seq (fun K2 hK2 => ?_)
  refine WP.region ?_
  refine WL.runk 2 [5, 6] [(5, .slice a0' a_0.length c0'), (6, .slice a1' b_1.length c1')] (by kernel_rfl) ?_
  obtain ⟨x3, hx4, hm⟩ := bindE hm
  refine WL.call 54 #[.slice a0' a_0.length c0', .slice a1' b_1.length c1'] rfl rfl (by kernel_rfl) (c_54 n a_0 a0' c0' b_1 a1' c1' w hx4 (Rd.below h0 (Ext.refl w)) hle0 (Rd.below h1 (Ext.refl w)) hle1) ?_
  rintro _ w5 ⟨rfl, hE6⟩
  refine ⟨_, rfl, ?_⟩
  have hb8 : Ext w w5 := Ext.trans (Ext.refl w) hE6
  have hL9 : w.heap.size ≤ w5.heap.size := Nat.le_trans (Nat.le_refl _) hE6.size
  have hS10 : SH w5 w.heap.size [] := SH.ext (SH.nil _ _) hE6
  refine WL.runk 1 [4] [(4, .bool x3)] (by kernel_rfl) ?_
  refine WL.nil ?_
  refine WQ.then_normal (hK2 _ _ _ ?_)
  refine WP.ret ?_
  obtain rfl := Option.some.inj hm
  exact WQ.ret1 _ rfl rfl ⟨rfl, hb8⟩

theorem c_55 (n : Nat) (a_0 : SChange) (b_1 : SChange) (w : World) {r : Bool} (hm : m_laws_eqChange n a_0 b_1 = some r)  :
    CallV Try.prog 55 #[.agg #[.int .i64 a_0.Kind, .int .i64 a_0.Amount], .agg #[.int .i64 b_1.Kind, .int .i64 b_1.Amount]] w (fun v w' => v = .bool r ∧ Ext w w') := by
  unfold m_laws_eqChange at hm
  refine CallV.enter Try.func55 rfl (by kernel_rfl) Try.ntmps55 (env := [(0, .agg #[.int .i64 a_0.Kind, .int .i64 a_0.Amount]), (1, .agg #[.int .i64 b_1.Kind, .int .i64 b_1.Amount])]) ⟨rfl, rfl, trivial⟩ ?_
  refine WP.seq (fun K1 hK1 => ?_)
  refine WP.region ?_
  refine WL.box 42 [.int .i64 a_0.Kind, .int .i64 a_0.Amount] 2 (by kernel_rfl) rfl rfl rfl rfl ?_
  intro b2 w3 hE4 hR5
  have hb7 : Ext w w3 := Ext.trans (Ext.refl w) hE4
  have hL8 : w.heap.size ≤ w3.heap.size := Nat.le_trans (Nat.le_refl _) hE4.size
  have hS9 : SH w3 w.heap.size [aBox 42 b2 [.int .i64 a_0.Kind, .int .i64 a_0.Amount]] := SH.add (SH.nil _ _) hE4 (Nat.le_refl _) hR5
  refine WL.box 42 [.int .i64 b_1.Kind, .int .i64 b_1.Amount] 3 (by kernel_rfl) rfl rfl rfl rfl ?_
  intro b10 w11 hE12 hR13
  have hb15 : Ext w w11 := Ext.trans hb7 hE12
  have hL16 : w.heap.size ≤ w11.heap.size := Nat.le_trans hL8 hE12.size
  have hS17 : SH w11 w.heap.size [aBox 42 b10 [.int .i64 b_1.Kind, .int .i64 b_1.Amount], aBox 42 b2 [.int .i64 a_0.Kind, .int .i64 a_0.Amount]] := SH.add hS9 hE12 hL8 hR13
  refine WL.runk 1 [2, 3] [(2, .pointer (some ⟨b2, 0, none⟩)), (3, .pointer (some ⟨b10, 0, none⟩))] (by kernel_rfl) ?_
  refine WL.nil ?_
  refine WQ.then_normal (hK1 _ _ _ ?_)
  refine WP.seq (fun K18 hK18 => ?_)
  refine WP.seq (fun K19 hK19 => ?_)
  refine WP.region ?_
  refine WL.runk 1 [2, 3, 5] [(2, .pointer (some ⟨b2, 0, none⟩)), (3, .pointer (some ⟨b10, 0, none⟩)), (5, .pointer (some ⟨b2, 0, none⟩))] (by kernel_rfl) ?_
  refine WL.st (.int .i64 a_0.Kind) (ST.load (cell_ext (SH.boxAt (SH.front 1 hS17) 0 _ rfl)) rfl rfl Try.underlying2 rfl) rfl rfl rfl ?_
  refine WL.runk 1 [2, 3, 6, 7] [(2, .pointer (some ⟨b2, 0, none⟩)), (3, .pointer (some ⟨b10, 0, none⟩)), (6, .int .i64 a_0.Kind), (7, .pointer (some ⟨b10, 0, none⟩))] (by kernel_rfl) ?_
  refine WL.st (.int .i64 b_1.Kind) (ST.load (cell_ext (SH.boxAt (SH.front 0 hS17) 0 _ rfl)) rfl rfl Try.underlying2 rfl) rfl rfl rfl ?_
  refine WL.runk 1 [2, 3, 9] [(2, .pointer (some ⟨b2, 0, none⟩)), (3, .pointer (some ⟨b10, 0, none⟩)), (9, .bool (a_0.Kind != b_1.Kind))] (by kernel_rfl) ?_
  refine WL.nil ?_
  refine WQ.then_normal (hK19 _ _ _ ?_)
  refine WP.cond (a_0.Kind != b_1.Kind) rfl rfl (fun hc20 => ?_) (fun hc20 => ?_)
  · have hm := iteT hm hc20
    refine WP.seq (fun K21 hK21 => ?_)
    refine WP.region ?_
    refine WL.runk 1 [4] [(4, .bool false)] (by kernel_rfl) ?_
    refine WL.nil ?_
    refine WQ.then_normal (hK21 _ _ _ ?_)
    refine WP.ret ?_
    refine WQ.then_ret ?_
    obtain rfl := Option.some.inj hm
    exact WQ.ret1 _ rfl rfl ⟨rfl, hb15⟩
  · have hm := iteF hm hc20
    refine WP.skip ?_
    refine WQ.then_normal (hK18 _ _ _ ?_)
    refine WP.seq (fun K22 hK22 => ?_)
    refine WP.seq (fun K23 hK23 => ?_)
    refine WP.region ?_
    refine WL.runk 1 [3, 10] [(3, .pointer (some ⟨b10, 0, none⟩)), (10, .pointer (some ⟨b2, 1, none⟩))] (by kernel_rfl) ?_
    refine WL.st (.int .i64 a_0.Amount) (ST.load (cell_ext (SH.boxAt (SH.front 1 hS17) 1 _ rfl)) rfl rfl Try.underlying2 rfl) rfl rfl rfl ?_
    refine WL.runk 1 [11, 12] [(11, .int .i64 a_0.Amount), (12, .pointer (some ⟨b10, 1, none⟩))] (by kernel_rfl) ?_
    refine WL.st (.int .i64 b_1.Amount) (ST.load (cell_ext (SH.boxAt (SH.front 0 hS17) 1 _ rfl)) rfl rfl Try.underlying2 rfl) rfl rfl rfl ?_
    refine WL.runk 1 [14] [(14, .bool (a_0.Amount != b_1.Amount))] (by kernel_rfl) ?_
    refine WL.nil ?_
    refine WQ.then_normal (hK23 _ _ _ ?_)
    refine WP.cond (a_0.Amount != b_1.Amount) rfl rfl (fun hc24 => ?_) (fun hc24 => ?_)
    · have hm := iteT hm hc24
      refine WP.seq (fun K25 hK25 => ?_)
      refine WP.region ?_
      refine WL.runk 1 [4] [(4, .bool false)] (by kernel_rfl) ?_
      refine WL.nil ?_
      refine WQ.then_normal (hK25 _ _ _ ?_)
      refine WP.ret ?_
      refine WQ.then_ret ?_
      obtain rfl := Option.some.inj hm
      exact WQ.ret1 _ rfl rfl ⟨rfl, hb15⟩
    · have hm := iteF hm hc24
      refine WP.skip ?_
      refine WQ.then_normal (hK22 _ _ _ ?_)
      refine WP.seq (fun K26 hK26 => ?_)
      refine WP.region ?_
      refine WL.runk 1 [4] [(4, .bool true)] (by kernel_rfl) ?_
      refine WL.nil ?_
      refine WQ.then_normal (hK26 _ _ _ ?_)
      refine WP.ret ?_
      obtain rfl := Option.some.inj hm
      exact WQ.ret1 _ rfl rfl ⟨rfl, hb15⟩

theorem c_20 (n : Nat) (a_0 : List SChange) (a0' : Option Addr) (c0' : Nat) (b_1 : List SChange) (a1' : Option Addr) (c1' : Nat) (w : World) {r : Bool} (hm : m_laws_eqChangeS n a_0 b_1 = some r) (h0 : Rd fChange.ty w a0' a_0) (hle0 : a_0.length ≤ c0') (h1 : Rd fChange.ty w a1' b_1) (hle1 : b_1.length ≤ c1') :
    CallV Try.prog 20 #[.slice a0' a_0.length c0', .slice a1' b_1.length c1'] w (fun v w' => v = .bool r ∧ Ext w w') := by
  unfold m_laws_eqChangeS at hm
  refine CallV.enter Try.func20 rfl (by kernel_rfl) Try.ntmps20 (env := [(0, .slice a0' a_0.length c0'), (1, .slice a1' b_1.length c1')]) ⟨rfl, rfl, trivial⟩ ?_
  refine WP.seq (fun K1 hK1 => ?_)
  refine WP.region ?_
  refine WL.runk 1 [0, 1] [(0, .slice a0' a_0.length c0'), (1, .slice a1' b_1.length c1')] (by kernel_rfl) ?_
  refine WL.nil ?_
  refine WQ.then_normal (hK1 _ _ _ ?_)
  refine WP.seq (fun K2 hK2 => ?_)
  refine WP.seq (fun K3 hK3 => ?_)
  refine WP.region ?_
  refine WL.runk 5 [0, 1, 10] [(0, .slice a0' a_0.length c0'), (1, .slice a1' b_1.length c1'), (10, .bool ((a_0.length : Int) != (b_1.length : Int)))] (by kernel_rfl) ?_
  refine WL.nil ?_
  refine WQ.then_normal (hK3 _ _ _ ?_)
  refine WP.cond ((a_0.length : Int) != (b_1.length : Int)) rfl rfl (fun hc4 => ?_) (fun hc4 => ?_)
  · have hm := iteT hm hc4
    refine WP.seq (fun K5 hK5 => ?_)
    refine WP.region ?_
    refine WL.runk 1 [4] [(4, .bool false)] (by kernel_rfl) ?_
    refine WL.nil ?_
    refine WQ.then_normal (hK5 _ _ _ ?_)
    refine WP.ret ?_
    refine WQ.then_ret ?_
    obtain rfl := Option.some.inj hm
    exact WQ.ret1 _ rfl rfl ⟨rfl, (Ext.refl w)⟩
  · have hm := iteF hm hc4
    refine WP.skip ?_
    refine WQ.then_normal (hK2 _ _ _ ?_)
    refine WP.seq (fun K6 hK6 => ?_)
    refine WP.seq (fun K7 hK7 => ?_)
    refine WP.region ?_
    refine WL.runk 1 [0, 1, 5] [(0, .slice a0' a_0.length c0'), (1, .slice a1' b_1.length c1'), (5, .int .i64 0)] (by kernel_rfl) ?_
    refine WL.nil ?_
    refine WQ.then_normal (hK7 _ _ _ ?_)
    refine WP.block ?_
    obtain ⟨t19, ht20, hm⟩ := bindE hm
    have hmo14 := hm; clear hm
    refine WP.sub [(0, .slice a0' a_0.length c0'), (1, .slice a1' b_1.length c1'), (5, .int .i64 0)] ⟨rfl, rfl, rfl, trivial⟩ ?_
    refine WP.loop (fun n' env' w' => ∃ (st8 : Int) , env' = [(0, .slice a0' a_0.length c0'), (1, .slice a1' b_1.length c1'), (5, .int .i64 st8)] ∧ Ext w w' ∧ w.heap.size ≤ w'.heap.size ∧ SH w' w.heap.size [] ∧ loopN (m_laws_eqChangeS_l1 n a_0 b_1) n' st8 = some t19) n ⟨0, rfl, (Ext.refl w), (Nat.le_refl _), (SH.nil _ _), ht20⟩ ?_
    rintro n16 _ w9 ⟨st8, rfl, hb10, hL11, hS12, hl13⟩ K15 hK15
    obtain ⟨n17, s18, rfl, hm, hl13⟩ := loopN_some hl13
    unfold m_laws_eqChangeS_l1 at hm
    refine WP.seq (fun K21 hK21 => ?_)
    refine WP.seq (fun K22 hK22 => ?_)
    refine WP.region ?_
    refine WL.runk 4 [0, 1, 5, 14] [(0, .slice a0' a_0.length c0'), (1, .slice a1' b_1.length c1'), (5, .int .i64 st8), (14, .bool (decide (st8 < (a_0.length : Int))))] (by kernel_rfl) ?_
    refine WL.nil ?_
    refine WQ.then_normal (hK22 _ _ _ ?_)
    refine WP.cond (decide (st8 < (a_0.length : Int))) rfl rfl (fun hc23 => ?_) (fun hc23 => ?_)
    · have hm := iteT hm hc23
      refine WP.skip ?_
      refine WQ.then_normal (hK21 _ _ _ ?_)
      refine WP.seq (fun K24 hK24 => ?_)
      refine WP.block ?_
      refine WP.seq (fun K25 hK25 => ?_)
      refine WP.quiet (by kernel_rfl) (by kernel_rfl) ?_
      refine QL.step1 rfl (env' := [(0, .slice a0' a_0.length c0'), (1, .slice a1' b_1.length c1'), (5, .int .i64 st8), (14, .bool (decide (st8 < (a_0.length : Int)))), (17, .slice a0' a_0.length c0')]) (fun _ => by kernel_rfl) ?_
      refine QL.sub [(0, .slice a0' a_0.length c0'), (1, .slice a1' b_1.length c1'), (5, .int .i64 st8), (17, .slice a0' a_0.length c0')] ⟨rfl, rfl, rfl, rfl, trivial⟩ ?_
      refine QL.step1 rfl (env' := [(0, .slice a0' a_0.length c0'), (1, .slice a1' b_1.length c1'), (5, .int .i64 st8), (17, .slice a0' a_0.length c0'), (18, .int .i64 st8)]) (fun _ => by kernel_rfl) ?_
      obtain ⟨x26, hx27, hm⟩ := bindE hm
      refine QL.st (.pointer (some (at_ a0' (Int.toNat st8 * 2)))) (ST.index (T := fChange.ty) (xs := a_0) (Rd.below h0 hb10) hx27 rfl rfl rfl Try.underlying28 (info42).1 (info42).2.1) rfl rfl rfl ?_
      refine QL.st (.agg #[.int .i64 x26.Kind, .int .i64 x26.Amount]) (ST.loadAgg (vs := fChange.leaf x26) (fun j v hv => Rd.flatA (F := fChange) (Rd.below h0 hb10) hx27 j hv) rfl rfl rfl Try.underlying42 rfl (info42).1 (info42).2.1) rfl rfl rfl ?_
      refine QL.step1 rfl (env' := [(0, .slice a0' a_0.length c0'), (1, .slice a1' b_1.length c1'), (5, .int .i64 st8), (17, .slice a0' a_0.length c0'), (18, .int .i64 st8), (19, .pointer (some (at_ a0' (Int.toNat st8 * 2)))), (20, .agg #[.int .i64 x26.Kind, .int .i64 x26.Amount]), (21, .slice a1' b_1.length c1')]) (fun _ => by kernel_rfl) ?_
      refine QL.sub [(0, .slice a0' a_0.length c0'), (1, .slice a1' b_1.length c1'), (5, .int .i64 st8), (20, .agg #[.int .i64 x26.Kind, .int .i64 x26.Amount]), (21, .slice a1' b_1.length c1')] ⟨rfl, rfl, rfl, rfl, rfl, trivial⟩ ?_
      refine QL.step1 rfl (env' := [(0, .slice a0' a_0.length c0'), (1, .slice a1' b_1.length c1'), (5, .int .i64 st8), (20, .agg #[.int .i64 x26.Kind, .int .i64 x26.Amount]), (21, .slice a1' b_1.length c1'), (22, .int .i64 st8)]) (fun _ => by kernel_rfl) ?_
      obtain ⟨x28, hx29, hm⟩ := bindE hm
      refine QL.st (.pointer (some (at_ a1' (Int.toNat st8 * 2)))) (ST.index (T := fChange.ty) (xs := b_1) (Rd.below h1 hb10) hx29 rfl rfl rfl Try.underlying28 (info42).1 (info42).2.1) rfl rfl rfl ?_
      refine QL.st (.agg #[.int .i64 x28.Kind, .int .i64 x28.Amount]) (ST.loadAgg (vs := fChange.leaf x28) (fun j v hv => Rd.flatA (F := fChange) (Rd.below h1 hb10) hx29 j hv) rfl rfl rfl Try.underlying42 rfl (info42).1 (info42).2.1) rfl rfl rfl ?_
      obtain ⟨x30, hx31, hm⟩ := bindE hm
      refine QL.call 55 #[.agg #[.int .i64 x26.Kind, .int .i64 x26.Amount], .agg #[.int .i64 x28.Kind, .int .i64 x28.Amount]] (.bool x30) (fun _ => by kernel_rfl) (fun w32 hE33 => c_55 n x26 x28 w32 hx31 ) rfl rfl rfl ?_
      refine QL.step1 rfl (env' := [(0, .slice a0' a_0.length c0'), (1, .slice a1' b_1.length c1'), (5, .int .i64 st8), (20, .agg #[.int .i64 x26.Kind, .int .i64 x26.Amount]), (21, .slice a1' b_1.length c1'), (22, .int .i64 st8), (23, .pointer (some (at_ a1' (Int.toNat st8 * 2)))), (24, .agg #[.int .i64 x28.Kind, .int .i64 x28.Amount]), (25, .bool x30), (26, .bool (!x30))]) (fun _ => by kernel_rfl) ?_
      refine QL.sub [(0, .slice a0' a_0.length c0'), (1, .slice a1' b_1.length c1'), (5, .int .i64 st8), (26, .bool (!x30))] ⟨rfl, rfl, rfl, rfl, trivial⟩ ?_
      refine QL.sub [(0, .slice a0' a_0.length c0'), (1, .slice a1' b_1.length c1'), (5, .int .i64 st8), (26, .bool (!x30))] ⟨rfl, rfl, rfl, rfl, trivial⟩ ?_
      refine QL.nil ?_
      intro w34 hE35
      have hb36 : Ext w w34 := Ext.trans hb10 hE35
      have hL37 : w.heap.size ≤ w34.heap.size := Nat.le_trans hL11 hE35.size
      have hS38 : SH w34 w.heap.size [] := SH.ext hS12 hE35
      refine WQ.then_normal (hK25 _ _ _ ?_)
      refine WP.cond (!x30) rfl rfl (fun hc39 => ?_) (fun hc39 => ?_)
      · have hm := iteT hm hc39
        refine WP.seq (fun K40 hK40 => ?_)
        refine WP.region ?_
        refine WL.runk 1 [4] [(4, .bool false)] (by kernel_rfl) ?_
        refine WL.nil ?_
        refine WQ.then_normal (hK40 _ _ _ ?_)
        refine WP.ret ?_
        refine WQ.block_ret ?_
        refine WQ.then_ret ?_
        refine WQ.then_ret ?_
        refine WQ.block_ret ?_
        refine WQ.then_ret ?_
        obtain rfl := Option.some.inj hm
        obtain rfl := afterN_done hl13
        have hm := hmo14
        obtain rfl := Option.some.inj hm
        exact WQ.ret1 _ rfl rfl ⟨rfl, hb36⟩
      · have hm := iteF hm hc39
        refine WP.skip ?_
        refine WQ.block_normal ?_
        refine WQ.then_normal (hK24 _ _ _ ?_)
        refine WP.region ?_
        refine WL.runk 3 [0, 1, 5] [(0, .slice a0' a_0.length c0'), (1, .slice a1' b_1.length c1'), (5, .int .i64 (wI64 (st8 + 1)))] (by kernel_rfl) ?_
        refine WL.nil ?_
        obtain rfl := Option.some.inj hm
        exact WQ.round hK15 ⟨(wI64 (st8 + 1)), rfl, hb36, hL37, hS38, hl13⟩ (Nat.lt_succ_self _) ⟨rfl, rfl, rfl, trivial⟩
    · have hm := iteF hm hc23
      refine WP.exit ?_
      refine WQ.then_exit ?_
      refine WQ.then_exit ?_
      refine WQ.block_here ?_
      obtain rfl := Option.some.inj hm
      obtain rfl := afterN_done hl13
      have hm := hmo14
      refine WQ.then_normal (hK6 _ _ _ ?_)
      refine WP.seq (fun K41 hK41 => ?_)
      refine WP.region ?_
      refine WL.runk 1 [4] [(4, .bool true)] (by kernel_rfl) ?_
      refine WL.nil ?_
      refine WQ.then_normal (hK41 _ _ _ ?_)
      refine WP.ret ?_
      obtain rfl := Option.some.inj hm
      exact WQ.ret1 _ rfl rfl ⟨rfl, hb10⟩

theorem c_4 (n : Nat) (aA_0 : List SChange) (a0' : Option Addr) (c0' : Nat) (aB_1 : List SChange) (a1' : Option Addr) (c1' : Nat) (w : World) {r : Bool} (hm : m_laws_FnExactSameChanges n aA_0 aB_1 = some r) (h0 : Rd fChange.ty w a0' aA_0) (hle0 : aA_0.length ≤ c0') (h1 : Rd fChange.ty w a1' aB_1) (hle1 : aB_1.length ≤ c1') :
    CallV Try.prog 4 #[.slice a0' aA_0.length c0', .slice a1' aB_1.length c1'] w (fun v w' => v = .bool r ∧ Ext w w') := by
  unfold m_laws_FnExactSameChanges at hm
  refine CallV.enter Try.func4 rfl (by kernel_rfl) Try.ntmps4 (env := [(0, .slice a0' aA_0.length c0'), (1, .slice a1' aB_1.length c1')]) ⟨rfl, rfl, trivial⟩ ?_
  refine WP.seq (fun K1 hK1 => ?_)
  refine WP.region ?_
  refine WL.runk 1 [0, 1] [(0, .slice a0' aA_0.length c0'), (1, .slice a1' aB_1.length c1')] (by kernel_rfl) ?_
  refine WL.nil ?_
  refine WQ.then_normal (hK1 _ _ _ ?_)
  refine WP.seq (fun K2 hK2 => ?_)
  refine WP.region ?_
  refine WL.runk 1 [0, 1, 5] [(0, .slice a0' aA_0.length c0'), (1, .slice a1' aB_1.length c1'), (5, .int .i64 1048576)] (by kernel_rfl) ?_
  refine WL.nil ?_
  refine WQ.then_normal (hK2 _ _ _ ?_)
  refine WP.seq (fun K3 hK3 => ?_)
  refine WP.region ?_
  refine WL.runk 2 [0, 1, 10, 11] [(0, .slice a0' aA_0.length c0'), (1, .slice a1' aB_1.length c1'), (10, .slice a0' aA_0.length c0'), (11, .int .i64 1048576)] (by kernel_rfl) ?_
  obtain ⟨x4, hx5, hm⟩ := bindE hm
  refine WL.call 16 #[.slice a0' aA_0.length c0', .int .i64 1048576] rfl rfl (by kernel_rfl) (c_16 n aA_0 a0' c0' 1048576 w hx5 (Rd.below h0 (Ext.refl w)) hle0) ?_
  rintro _ w6 ⟨rfl, hE7⟩
  refine ⟨_, rfl, ?_⟩
  have hb9 : Ext w w6 := Ext.trans (Ext.refl w) hE7
  have hL10 : w.heap.size ≤ w6.heap.size := Nat.le_trans (Nat.le_refl _) hE7.size
  have hS11 : SH w6 w.heap.size [] := SH.ext (SH.nil _ _) hE7
  refine WL.runk 1 [0, 1, 5] [(0, .slice a0' aA_0.length c0'), (1, .slice a1' aB_1.length c1'), (5, .int .i64 x4)] (by kernel_rfl) ?_
  refine WL.nil ?_
  refine WQ.then_normal (hK3 _ _ _ ?_)
  refine WP.seq (fun K12 hK12 => ?_)
  refine WP.seq (fun K13 hK13 => ?_)
  refine WP.region ?_
  refine WL.runk 2 [0, 1, 5, 14] [(0, .slice a0' aA_0.length c0'), (1, .slice a1' aB_1.length c1'), (5, .int .i64 x4), (14, .bool (decide (x4 < 0)))] (by kernel_rfl) ?_
  refine WL.nil ?_
  refine WQ.then_normal (hK13 _ _ _ ?_)
  refine WP.cond (decide (x4 < 0)) rfl rfl (fun hc14 => ?_) (fun hc14 => ?_)
  · have hm := iteT hm hc14
    refine WP.seq (fun K15 hK15 => ?_)
    refine WP.region ?_
    refine WL.runk 1 [4] [(4, .bool true)] (by kernel_rfl) ?_
    refine WL.nil ?_
    refine WQ.then_normal (hK15 _ _ _ ?_)
    refine WP.ret ?_
    refine WQ.then_ret ?_
    obtain rfl := Option.some.inj hm
    exact WQ.ret1 _ rfl rfl ⟨rfl, hb9⟩
  · have hm := iteF hm hc14
    refine WP.skip ?_
    refine WQ.then_normal (hK12 _ _ _ ?_)
    refine WP.seq (fun K16 hK16 => ?_)
    refine WP.region ?_
    refine WL.runk 2 [0, 1, 15, 16] [(0, .slice a0' aA_0.length c0'), (1, .slice a1' aB_1.length c1'), (15, .slice a1' aB_1.length c1'), (16, .int .i64 x4)] (by kernel_rfl) ?_
    obtain ⟨x17, hx18, hm⟩ := bindE hm
    refine WL.call 16 #[.slice a1' aB_1.length c1', .int .i64 x4] rfl rfl (by kernel_rfl) (c_16 n aB_1 a1' c1' x4 w6 hx18 (Rd.below h1 hb9) hle1) ?_
    rintro _ w19 ⟨rfl, hE20⟩
    refine ⟨_, rfl, ?_⟩
    have hb22 : Ext w w19 := Ext.trans hb9 hE20
    have hL23 : w.heap.size ≤ w19.heap.size := Nat.le_trans hL10 hE20.size
    have hS24 : SH w19 w.heap.size [] := SH.ext hS11 hE20
    refine WL.runk 1 [0, 1, 5] [(0, .slice a0' aA_0.length c0'), (1, .slice a1' aB_1.length c1'), (5, .int .i64 x17)] (by kernel_rfl) ?_
    refine WL.nil ?_
    refine WQ.then_normal (hK16 _ _ _ ?_)
    refine WP.seq (fun K25 hK25 => ?_)
    refine WP.seq (fun K26 hK26 => ?_)
    refine WP.region ?_
    refine WL.runk 2 [0, 1, 19] [(0, .slice a0' aA_0.length c0'), (1, .slice a1' aB_1.length c1'), (19, .bool (decide (x17 < 0)))] (by kernel_rfl) ?_
    refine WL.nil ?_
    refine WQ.then_normal (hK26 _ _ _ ?_)
    refine WP.cond (decide (x17 < 0)) rfl rfl (fun hc27 => ?_) (fun hc27 => ?_)
    · have hm := iteT hm hc27
      refine WP.seq (fun K28 hK28 => ?_)
      refine WP.region ?_
      refine WL.runk 1 [4] [(4, .bool true)] (by kernel_rfl) ?_
      refine WL.nil ?_
      refine WQ.then_normal (hK28 _ _ _ ?_)
      refine WP.ret ?_
      refine WQ.then_ret ?_
      obtain rfl := Option.some.inj hm
      exact WQ.ret1 _ rfl rfl ⟨rfl, hb22⟩
    · have hm := iteF hm hc27
      refine WP.skip ?_
      refine WQ.then_normal (hK25 _ _ _ ?_)
      refine WP.seq (fun K29 hK29 => ?_)
      refine WP.region ?_
      refine WL.runk 1 [0, 1, 20] [(0, .slice a0' aA_0.length c0'), (1, .slice a1' aB_1.length c1'), (20, .slice a0' aA_0.length c0')] (by kernel_rfl) ?_
      obtain ⟨x30, hx31, hm⟩ := bindE hm
      refine WL.call 18 #[.slice a0' aA_0.length c0'] rfl rfl (by kernel_rfl) (c_18 n aA_0 a0' c0' w19 hx31 (Rd.below h0 hb22) hle0) ?_
      rintro _ w35 ⟨a32, c33, rfl, hE36, hR37⟩
      refine ⟨_, rfl, ?_⟩
      have hb38 : Ext w w35 := Ext.trans hb22 hE36
      have hL39 : w.heap.size ≤ w35.heap.size := Nat.le_trans hL23 hE36.size
      have hS40 : SH w35 w.heap.size [aOwn fChange 42 a32 c33 x30] := SH.add hS24 hE36 hL23 hR37
      refine WL.runk 1 [0, 1, 21, 22] [(0, .slice a0' aA_0.length c0'), (1, .slice a1' aB_1.length c1'), (21, .slice a32 x30.length c33), (22, .slice a1' aB_1.length c1')] (by kernel_rfl) ?_
      obtain ⟨x41, hx42, hm⟩ := bindE hm
      refine WL.call 18 #[.slice a1' aB_1.length c1'] rfl rfl (by kernel_rfl) (c_18 n aB_1 a1' c1' w35 hx42 (Rd.below h1 hb38) hle1) ?_
      rintro _ w46 ⟨a43, c44, rfl, hE47, hR48⟩
      refine ⟨_, rfl, ?_⟩
      have hb49 : Ext w w46 := Ext.trans hb38 hE47
      have hL50 : w.heap.size ≤ w46.heap.size := Nat.le_trans hL39 hE47.size
      have hS51 : SH w46 w.heap.size [aOwn fChange 42 a43 c44 x41, aOwn fChange 42 a32 c33 x30] := SH.add hS40 hE47 hL39 hR48
      obtain ⟨x52, hx53, hm⟩ := bindE hm
      refine WL.call 17 #[.slice a32 x30.length c33, .slice a43 x41.length c44] rfl rfl (by kernel_rfl) (c_17 n x30 a32 c33 x41 a43 c44 w46 hx53 (SH.rd (SH.front 1 hS51)) (SH.le (SH.front 1 hS51)).1 (SH.rd (SH.front 0 hS51)) (SH.le (SH.front 0 hS51)).1) ?_
      rintro _ w54 ⟨rfl, hE55⟩
      refine ⟨_, rfl, ?_⟩
      have hb57 : Ext w w54 := Ext.trans hb49 hE55
      have hL58 : w.heap.size ≤ w54.heap.size := Nat.le_trans hL50 hE55.size
      have hS59 : SH w54 w.heap.size [aOwn fChange 42 a43 c44 x41, aOwn fChange 42 a32 c33 x30] := SH.ext hS51 hE55
      refine WL.runk 1 [0, 1, 6] [(0, .slice a0' aA_0.length c0'), (1, .slice a1' aB_1.length c1'), (6, .bool x52)] (by kernel_rfl) ?_
      refine WL.nil ?_
      refine WQ.then_normal (hK29 _ _ _ ?_)
      refine WP.seq (fun K60 hK60 => ?_)
      refine WP.region ?_
      refine WL.runk 1 [0, 1, 6, 25] [(0, .slice a0' aA_0.length c0'), (1, .slice a1' aB_1.length c1'), (6, .bool x52), (25, .slice a0' aA_0.length c0')] (by kernel_rfl) ?_
      obtain ⟨x61, hx62, hm⟩ := bindE hm
      refine WL.call 18 #[.slice a0' aA_0.length c0'] rfl rfl (by kernel_rfl) (c_18 n aA_0 a0' c0' w54 hx62 (Rd.below h0 hb57) hle0) ?_
      rintro _ w66 ⟨a63, c64, rfl, hE67, hR68⟩
      refine ⟨_, rfl, ?_⟩
      have hb69 : Ext w w66 := Ext.trans hb57 hE67
      have hL70 : w.heap.size ≤ w66.heap.size := Nat.le_trans hL58 hE67.size
      have hS71 : SH w66 w.heap.size [aOwn fChange 42 a63 c64 x61, aOwn fChange 42 a43 c44 x41, aOwn fChange 42 a32 c33 x30] := SH.add hS59 hE67 hL58 hR68
      refine WL.runk 1 [0, 1, 6, 7] [(0, .slice a0' aA_0.length c0'), (1, .slice a1' aB_1.length c1'), (6, .bool x52), (7, .slice a63 x61.length c64)] (by kernel_rfl) ?_
      refine WL.nil ?_
      refine WQ.then_normal (hK60 _ _ _ ?_)
      refine WP.seq (fun K72 hK72 => ?_)
      refine WP.region ?_
      refine WL.runk 1 [0, 1, 6, 7, 27] [(0, .slice a0' aA_0.length c0'), (1, .slice a1' aB_1.length c1'), (6, .bool x52), (7, .slice a63 x61.length c64), (27, .slice a1' aB_1.length c1')] (by kernel_rfl) ?_
      obtain ⟨x73, hx74, hm⟩ := bindE hm
      refine WL.call 18 #[.slice a1' aB_1.length c1'] rfl rfl (by kernel_rfl) (c_18 n aB_1 a1' c1' w66 hx74 (Rd.below h1 hb69) hle1) ?_
      rintro _ w78 ⟨a75, c76, rfl, hE79, hR80⟩
      refine ⟨_, rfl, ?_⟩
      have hb81 : Ext w w78 := Ext.trans hb69 hE79
      have hL82 : w.heap.size ≤ w78.heap.size := Nat.le_trans hL70 hE79.size
      have hS83 : SH w78 w.heap.size [aOwn fChange 42 a75 c76 x73, aOwn fChange 42 a63 c64 x61, aOwn fChange 42 a43 c44 x41, aOwn fChange 42 a32 c33 x30] := SH.add hS71 hE79 hL70 hR80
      refine WL.runk 1 [0, 1, 6, 7, 8] [(0, .slice a0' aA_0.length c0'), (1, .slice a1' aB_1.length c1'), (6, .bool x52), (7, .slice a63 x61.length c64), (8, .slice a75 x73.length c76)] (by kernel_rfl) ?_
      refine WL.nil ?_
      refine WQ.then_normal (hK72 _ _ _ ?_)
      refine WP.seq (fun K84 hK84 => ?_)
      refine WP.region ?_
      refine WL.runk 2 [0, 1, 6, 7, 8, 29, 30] [(0, .slice a0' aA_0.length c0'), (1, .slice a1' aB_1.length c1'), (6, .bool x52), (7, .slice a63 x61.length c64), (8, .slice a75 x73.length c76), (29, .slice a63 x61.length c64), (30, .slice a75 x73.length c76)] (by kernel_rfl) ?_
      obtain ⟨x85, hx86, hm⟩ := bindE hm
      refine WL.call 19 #[.slice a63 x61.length c64, .slice a75 x73.length c76] rfl rfl (by kernel_rfl) (c_19 n x61 a63 c64 x73 a75 c76 w78 hx86 (SH.rd (SH.front 1 hS83)) (SH.le (SH.front 1 hS83)).1 (SH.rd (SH.front 0 hS83)) (SH.le (SH.front 0 hS83)).1) ?_
      rintro _ w87 ⟨rfl, hE88⟩
      refine ⟨_, rfl, ?_⟩
      have hb90 : Ext w w87 := Ext.trans hb81 hE88
      have hL91 : w.heap.size ≤ w87.heap.size := Nat.le_trans hL82 hE88.size
      have hS92 : SH w87 w.heap.size [aOwn fChange 42 a75 c76 x73, aOwn fChange 42 a63 c64 x61, aOwn fChange 42 a43 c44 x41, aOwn fChange 42 a32 c33 x30] := SH.ext hS83 hE88
      refine WL.runk 1 [0, 1, 6, 7, 8, 9] [(0, .slice a0' aA_0.length c0'), (1, .slice a1' aB_1.length c1'), (6, .bool x52), (7, .slice a63 x61.length c64), (8, .slice a75 x73.length c76), (9, .bool x85)] (by kernel_rfl) ?_
      refine WL.nil ?_
      refine WQ.then_normal (hK84 _ _ _ ?_)
      refine WP.seq (fun K93 hK93 => ?_)
      refine WP.seq (fun K94 hK94 => ?_)
      refine WP.region ?_
      refine WL.runk 3 [0, 1, 7, 8, 34] [(0, .slice a0' aA_0.length c0'), (1, .slice a1' aB_1.length c1'), (7, .slice a63 x61.length c64), (8, .slice a75 x73.length c76), (34, .bool (!(x85 == x52)))] (by kernel_rfl) ?_
      refine WL.nil ?_
      refine WQ.then_normal (hK94 _ _ _ ?_)
      refine WP.cond (!(x85 == x52)) rfl rfl (fun hc95 => ?_) (fun hc95 => ?_)
      · have hm := iteT hm hc95
        refine WP.seq (fun K96 hK96 => ?_)
        refine WP.region ?_
        refine WL.runk 1 [4] [(4, .bool false)] (by kernel_rfl) ?_
        refine WL.nil ?_
        refine WQ.then_normal (hK96 _ _ _ ?_)
        refine WP.ret ?_
        refine WQ.then_ret ?_
        obtain rfl := Option.some.inj hm
        exact WQ.ret1 _ rfl rfl ⟨rfl, hb90⟩
      · have hm := iteF hm hc95
        refine WP.skip ?_
        refine WQ.then_normal (hK93 _ _ _ ?_)
        refine WP.seq (fun K97 hK97 => ?_)
        refine WP.seq (fun K98 hK98 => ?_)
        refine WP.region ?_
        refine WL.runk 2 [1, 8, 35, 36] [(1, .slice a1' aB_1.length c1'), (8, .slice a75 x73.length c76), (35, .slice a63 x61.length c64), (36, .slice a0' aA_0.length c0')] (by kernel_rfl) ?_
        obtain ⟨x99, hx100, hm⟩ := bindE hm
        refine WL.call 18 #[.slice a0' aA_0.length c0'] rfl rfl (by kernel_rfl) (c_18 n aA_0 a0' c0' w87 hx100 (Rd.below h0 hb90) hle0) ?_
        rintro _ w104 ⟨a101, c102, rfl, hE105, hR106⟩
        refine ⟨_, rfl, ?_⟩
        have hb107 : Ext w w104 := Ext.trans hb90 hE105
        have hL108 : w.heap.size ≤ w104.heap.size := Nat.le_trans hL91 hE105.size
        have hS109 : SH w104 w.heap.size [aOwn fChange 42 a101 c102 x99, aOwn fChange 42 a75 c76 x73, aOwn fChange 42 a63 c64 x61, aOwn fChange 42 a43 c44 x41, aOwn fChange 42 a32 c33 x30] := SH.add hS92 hE105 hL91 hR106
        obtain ⟨x110, hx111, hm⟩ := bindE hm
        refine WL.call 20 #[.slice a63 x61.length c64, .slice a101 x99.length c102] rfl rfl (by kernel_rfl) (c_20 n x61 a63 c64 x99 a101 c102 w104 hx111 (SH.rd (SH.front 2 hS109)) (SH.le (SH.front 2 hS109)).1 (SH.rd (SH.front 0 hS109)) (SH.le (SH.front 0 hS109)).1) ?_
        rintro _ w112 ⟨rfl, hE113⟩
        refine ⟨_, rfl, ?_⟩
        have hb115 : Ext w w112 := Ext.trans hb107 hE113
        have hL116 : w.heap.size ≤ w112.heap.size := Nat.le_trans hL108 hE113.size
        have hS117 : SH w112 w.heap.size [aOwn fChange 42 a101 c102 x99, aOwn fChange 42 a75 c76 x73, aOwn fChange 42 a63 c64 x61, aOwn fChange 42 a43 c44 x41, aOwn fChange 42 a32 c33 x30] := SH.ext hS109 hE113
        refine WL.runk 1 [1, 8, 39] [(1, .slice a1' aB_1.length c1'), (8, .slice a75 x73.length c76), (39, .bool (!x110))] (by kernel_rfl) ?_
        refine WL.nil ?_
        refine WQ.then_normal (hK98 _ _ _ ?_)
        refine WP.cond (!x110) rfl rfl (fun hc118 => ?_) (fun hc118 => ?_)
        · have hm := iteT hm hc118
          refine WP.seq (fun K119 hK119 => ?_)
          refine WP.region ?_
          refine WL.runk 1 [4] [(4, .bool false)] (by kernel_rfl) ?_
          refine WL.nil ?_
          refine WQ.then_normal (hK119 _ _ _ ?_)
          refine WP.ret ?_
          refine WQ.then_ret ?_
          obtain rfl := Option.some.inj hm
          exact WQ.ret1 _ rfl rfl ⟨rfl, hb115⟩
        · have hm := iteF hm hc118
          refine WP.skip ?_
          refine WQ.then_normal (hK97 _ _ _ ?_)
          refine WP.seq (fun K120 hK120 => ?_)
          refine WP.seq (fun K121 hK121 => ?_)
          refine WP.region ?_
          refine WL.runk 2 [40, 41] [(40, .slice a75 x73.length c76), (41, .slice a1' aB_1.length c1')] (by kernel_rfl) ?_
          obtain ⟨x122, hx123, hm⟩ := bindE hm
          refine WL.call 18 #[.slice a1' aB_1.length c1'] rfl rfl (by kernel_rfl) (c_18 n aB_1 a1' c1' w112 hx123 (Rd.below h1 hb115) hle1) ?_
          rintro _ w127 ⟨a124, c125, rfl, hE128, hR129⟩
          refine ⟨_, rfl, ?_⟩
          have hb130 : Ext w w127 := Ext.trans hb115 hE128
          have hL131 : w.heap.size ≤ w127.heap.size := Nat.le_trans hL116 hE128.size
          have hS132 : SH w127 w.heap.size [aOwn fChange 42 a124 c125 x122, aOwn fChange 42 a101 c102 x99, aOwn fChange 42 a75 c76 x73, aOwn fChange 42 a63 c64 x61, aOwn fChange 42 a43 c44 x41, aOwn fChange 42 a32 c33 x30] := SH.add hS117 hE128 hL116 hR129
          obtain ⟨x133, hx134, hm⟩ := bindE hm
          refine WL.call 20 #[.slice a75 x73.length c76, .slice a124 x122.length c125] rfl rfl (by kernel_rfl) (c_20 n x73 a75 c76 x122 a124 c125 w127 hx134 (SH.rd (SH.front 2 hS132)) (SH.le (SH.front 2 hS132)).1 (SH.rd (SH.front 0 hS132)) (SH.le (SH.front 0 hS132)).1) ?_
          rintro _ w135 ⟨rfl, hE136⟩
          refine ⟨_, rfl, ?_⟩
          have hb138 : Ext w w135 := Ext.trans hb130 hE136
          have hL139 : w.heap.size ≤ w135.heap.size := Nat.le_trans hL131 hE136.size
          have hS140 : SH w135 w.heap.size [aOwn fChange 42 a124 c125 x122, aOwn fChange 42 a101 c102 x99, aOwn fChange 42 a75 c76 x73, aOwn fChange 42 a63 c64 x61, aOwn fChange 42 a43 c44 x41, aOwn fChange 42 a32 c33 x30] := SH.ext hS132 hE136
          refine WL.runk 1 [44] [(44, .bool (!x133))] (by kernel_rfl) ?_
          refine WL.nil ?_
          refine WQ.then_normal (hK121 _ _ _ ?_)
          refine WP.cond (!x133) rfl rfl (fun hc141 => ?_) (fun hc141 => ?_)
          · have hm := iteT hm hc141
            refine WP.seq (fun K142 hK142 => ?_)
            refine WP.region ?_
            refine WL.runk 1 [4] [(4, .bool false)] (by kernel_rfl) ?_
            refine WL.nil ?_
            refine WQ.then_normal (hK142 _ _ _ ?_)
            refine WP.ret ?_
            refine WQ.then_ret ?_
            obtain rfl := Option.some.inj hm
            exact WQ.ret1 _ rfl rfl ⟨rfl, hb138⟩
          · have hm := iteF hm hc141
            refine WP.skip ?_
            refine WQ.then_normal (hK120 _ _ _ ?_)
            refine WP.seq (fun K143 hK143 => ?_)
            refine WP.region ?_
            refine WL.runk 1 [4] [(4, .bool true)] (by kernel_rfl) ?_
            refine WL.nil ?_
            refine WQ.then_normal (hK143 _ _ _ ?_)
            refine WP.ret ?_
            obtain rfl := Option.some.inj hm
            exact WQ.ret1 _ rfl rfl ⟨rfl, hb138⟩

theorem c_64 (n : Nat) (n_0 : Int) (low_1 : Int) (high_2 : Int) (w : World) {r : Bool} (hm : m_spec_l00In n n_0 low_1 high_2 = some r)  :
    CallV Try.prog 64 #[.int .i64 n_0, .int .i64 low_1, .int .i64 high_2] w (fun v w' => v = .bool r ∧ Ext w w') := by
  unfold m_spec_l00In at hm
  refine CallV.enter Try.func64 rfl (by kernel_rfl) Try.ntmps64 (env := [(0, .int .i64 n_0), (1, .int .i64 low_1), (2, .int .i64 high_2)]) ⟨rfl, rfl, rfl, trivial⟩ ?_
  refine WP.seq (fun K1 hK1 => ?_)
  refine WP.region ?_
  refine WL.runk 1 [0, 1, 2] [(0, .int .i64 n_0), (1, .int .i64 low_1), (2, .int .i64 high_2)] (by kernel_rfl) ?_
  refine WL.nil ?_
  refine WQ.then_normal (hK1 _ _ _ ?_)
  refine WP.seq (fun K2 hK2 => ?_)
  obtain ⟨x4, hx5, hm⟩ := bindE hm
  refine WP.cut (fun env' w' => env' = [(6, .bool x4)] ∧ Ext w w' ∧ w.heap.size ≤ w'.heap.size ∧ SH w' w.heap.size []) ?_ ?_
  · have hm := hx5; clear hx5
    refine WP.region ?_
    refine WL.runk 4 [0, 2, 10] [(0, .int .i64 n_0), (2, .int .i64 high_2), (10, .bool (decide (n_0 ≥ low_1)))] (by kernel_rfl) ?_
    refine WL.case (decide (n_0 ≥ low_1)) [10] ⟨rfl, trivial⟩ (fun hc6 => ?_) (fun hc6 => ?_)
    · have hm := iteT hm hc6
      refine WL.runk 5 [6] [(6, .bool (decide (n_0 ≤ high_2)))] (by kernel_rfl) ?_
      refine WL.nil ?_
      obtain rfl := Option.some.inj hm
      exact WQ.post' ⟨rfl, (Ext.refl w), (Nat.le_refl _), (SH.nil _ _)⟩ ⟨rfl, trivial⟩
    · have hm := iteF hm hc6
      refine WL.runk 5 [6] [(6, .bool false)] (by kernel_rfl) ?_
      refine WL.nil ?_
      obtain rfl := Option.some.inj hm
      exact WQ.post' ⟨rfl, (Ext.refl w), (Nat.le_refl _), (SH.nil _ _)⟩ ⟨rfl, trivial⟩
  · clear hx5
    rintro _ w7 ⟨rfl, hb8, hL9, hS10⟩
    refine WQ.then_normal (hK2 _ _ _ ?_)
    refine WP.ret ?_
    obtain rfl := Option.some.inj hm
    exact WQ.ret1 _ rfl rfl ⟨rfl, hb8⟩

theorem c_56 (n : Nat) (n_0 : Int) (w : World) {r : Bool} (hm : m_spec_l22Short n n_0 = some r)  :
    CallV Try.prog 56 #[.int .i64 n_0] w (fun v w' => v = .bool r ∧ Ext w w') := by
  unfold m_spec_l22Short at hm
  refine CallV.enter Try.func56 rfl (by kernel_rfl) Try.ntmps56 (env := [(0, .int .i64 n_0)]) ⟨rfl, trivial⟩ ?_
  refine WP.seq (fun K1 hK1 => ?_)
  refine WP.region ?_
  refine WL.runk 1 [0] [(0, .int .i64 n_0)] (by kernel_rfl) ?_
  refine WL.nil ?_
  refine WQ.then_normal (hK1 _ _ _ ?_)
  refine WP.seq (fun K2 hK2 => ?_)
  refine WP.region ?_
  refine WL.runk 1 [3] [(3, .int .i64 n_0)] (by kernel_rfl) ?_
  obtain ⟨x3, hx4, hm⟩ := bindE hm
  refine WL.call 64 #[.int .i64 n_0, .int .i64 0, .int .i64 400] rfl rfl (by kernel_rfl) (c_64 n n_0 0 400 w hx4 ) ?_
  rintro _ w5 ⟨rfl, hE6⟩
  refine ⟨_, rfl, ?_⟩
  have hb8 : Ext w w5 := Ext.trans (Ext.refl w) hE6
  have hL9 : w.heap.size ≤ w5.heap.size := Nat.le_trans (Nat.le_refl _) hE6.size
  have hS10 : SH w5 w.heap.size [] := SH.ext (SH.nil _ _) hE6
  refine WL.runk 1 [2] [(2, .bool x3)] (by kernel_rfl) ?_
  refine WL.nil ?_
  refine WQ.then_normal (hK2 _ _ _ ?_)
  refine WP.ret ?_
  obtain rfl := Option.some.inj hm
  exact WQ.ret1 _ rfl rfl ⟨rfl, hb8⟩

end Go.Proofs.Ytlplbjeegkkilaa
