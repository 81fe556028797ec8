/- Each call does what its Lean function says. -/
import Derived.Test.YtlplbjeegkkilaaCo3
set_option maxRecDepth 20000
namespace Go.Proofs.Ytlplbjeegkkilaa
open Go Go.Gv Go.RowKit

theorem c_23 (n : Nat) (a_0 : List Int) (a0' : Option Addr) (c0' : Nat) (b_1 : List Int) (a1' : Option Addr) (c1' : Nat) (w : World) {r : Bool} (hm : m_laws_eqInt64S n a_0 b_1 = some r) (h0 : Rd fInt.ty w a0' a_0) (hle0 : a_0.length ≤ c0') (h1 : Rd fInt.ty w a1' b_1) (hle1 : b_1.length ≤ c1') :
    CallV Try.prog 23 #[.slice a0' a_0.length c0', .slice a1' b_1.length c1'] w (fun v w' => v = .bool r ∧ Ext w w') := by
  unfold m_laws_eqInt64S at hm
  refine CallV.enter Try.func23 rfl (by kernel_rfl) Try.ntmps23 (env := [(0, .slice a0' a_0.length c0'), (1, .slice a1' b_1.length c1')]) ⟨rfl, rfl, trivial⟩ ?_
  refine WP.seq (fun K1 hK1 => ?_)
  refine WP.region ?_
  refine WL.runk 1 [0, 1] [(0, .slice a0' a_0.length c0'), (1, .slice a1' b_1.length c1')] (by kernel_rfl) ?_
  refine WL.nil ?_
  refine WQ.then_normal (hK1 _ _ _ ?_)
  refine WP.seq (fun K2 hK2 => ?_)
  refine WP.seq (fun K3 hK3 => ?_)
  refine WP.region ?_
  refine WL.runk 5 [0, 1, 10] [(0, .slice a0' a_0.length c0'), (1, .slice a1' b_1.length c1'), (10, .bool ((a_0.length : Int) != (b_1.length : Int)))] (by kernel_rfl) ?_
  refine WL.nil ?_
  refine WQ.then_normal (hK3 _ _ _ ?_)
  refine WP.cond ((a_0.length : Int) != (b_1.length : Int)) rfl rfl (fun hc4 => ?_) (fun hc4 => ?_)
  · have hm := iteT hm hc4
    refine WP.seq (fun K5 hK5 => ?_)
    refine WP.region ?_
    refine WL.runk 1 [4] [(4, .bool false)] (by kernel_rfl) ?_
    refine WL.nil ?_
    refine WQ.then_normal (hK5 _ _ _ ?_)
    refine WP.ret ?_
    refine WQ.then_ret ?_
    obtain rfl := Option.some.inj hm
    exact WQ.ret1 _ rfl rfl ⟨rfl, (Ext.refl w)⟩
  · have hm := iteF hm hc4
    refine WP.skip ?_
    refine WQ.then_normal (hK2 _ _ _ ?_)
    refine WP.seq (fun K6 hK6 => ?_)
    refine WP.seq (fun K7 hK7 => ?_)
    refine WP.region ?_
    refine WL.runk 1 [0, 1, 5] [(0, .slice a0' a_0.length c0'), (1, .slice a1' b_1.length c1'), (5, .int .i64 0)] (by kernel_rfl) ?_
    refine WL.nil ?_
    refine WQ.then_normal (hK7 _ _ _ ?_)
    refine WP.block ?_
    obtain ⟨t19, ht20, hm⟩ := bindE hm
    have hmo14 := hm; clear hm
    refine WP.sub [(0, .slice a0' a_0.length c0'), (1, .slice a1' b_1.length c1'), (5, .int .i64 0)] ⟨rfl, rfl, rfl, trivial⟩ ?_
    refine WP.loop (fun n' env' w' => ∃ (st8 : Int) , env' = [(0, .slice a0' a_0.length c0'), (1, .slice a1' b_1.length c1'), (5, .int .i64 st8)] ∧ Ext w w' ∧ w.heap.size ≤ w'.heap.size ∧ SH w' w.heap.size [] ∧ loopN (m_laws_eqInt64S_l1 n a_0 b_1) n' st8 = some t19) n ⟨0, rfl, (Ext.refl w), (Nat.le_refl _), (SH.nil _ _), ht20⟩ ?_
    rintro n16 _ w9 ⟨st8, rfl, hb10, hL11, hS12, hl13⟩ K15 hK15
    obtain ⟨n17, s18, rfl, hm, hl13⟩ := loopN_some hl13
    unfold m_laws_eqInt64S_l1 at hm
    refine WP.seq (fun K21 hK21 => ?_)
    refine WP.seq (fun K22 hK22 => ?_)
    refine WP.region ?_
    refine WL.runk 4 [0, 1, 5, 14] [(0, .slice a0' a_0.length c0'), (1, .slice a1' b_1.length c1'), (5, .int .i64 st8), (14, .bool (decide (st8 < (a_0.length : Int))))] (by kernel_rfl) ?_
    refine WL.nil ?_
    refine WQ.then_normal (hK22 _ _ _ ?_)
    refine WP.cond (decide (st8 < (a_0.length : Int))) rfl rfl (fun hc23 => ?_) (fun hc23 => ?_)
    · have hm := iteT hm hc23
      refine WP.skip ?_
      refine WQ.then_normal (hK21 _ _ _ ?_)
      refine WP.seq (fun K24 hK24 => ?_)
      refine WP.block ?_
      refine WP.seq (fun K25 hK25 => ?_)
      refine WP.quiet (by kernel_rfl) (by kernel_rfl) ?_
      refine QL.step1 rfl (env' := [(0, .slice a0' a_0.length c0'), (1, .slice a1' b_1.length c1'), (5, .int .i64 st8), (14, .bool (decide (st8 < (a_0.length : Int)))), (17, .slice a0' a_0.length c0')]) (fun _ => by kernel_rfl) ?_
      refine QL.sub [(0, .slice a0' a_0.length c0'), (1, .slice a1' b_1.length c1'), (5, .int .i64 st8), (17, .slice a0' a_0.length c0')] ⟨rfl, rfl, rfl, rfl, trivial⟩ ?_
      refine QL.step1 rfl (env' := [(0, .slice a0' a_0.length c0'), (1, .slice a1' b_1.length c1'), (5, .int .i64 st8), (17, .slice a0' a_0.length c0'), (18, .int .i64 st8)]) (fun _ => by kernel_rfl) ?_
      obtain ⟨x26, hx27, hm⟩ := bindE hm
      refine QL.st (.pointer (some (at_ a0' (Int.toNat st8 * 1)))) (ST.index (T := fInt.ty) (xs := a_0) (Rd.below h0 hb10) hx27 rfl rfl rfl Try.underlying31 (info2).1 (info2).2.1) rfl rfl rfl ?_
      refine QL.st (.int .i64 x26) (ST.load (cell_ext (Rd.flat (F := fInt) (Rd.below h0 hb10) hx27 0 rfl)) rfl rfl Try.underlying2 rfl) rfl rfl rfl ?_
      refine QL.step1 rfl (env' := [(0, .slice a0' a_0.length c0'), (1, .slice a1' b_1.length c1'), (5, .int .i64 st8), (17, .slice a0' a_0.length c0'), (18, .int .i64 st8), (19, .pointer (some (at_ a0' (Int.toNat st8 * 1)))), (20, .int .i64 x26), (21, .slice a1' b_1.length c1')]) (fun _ => by kernel_rfl) ?_
      refine QL.sub [(0, .slice a0' a_0.length c0'), (1, .slice a1' b_1.length c1'), (5, .int .i64 st8), (20, .int .i64 x26), (21, .slice a1' b_1.length c1')] ⟨rfl, rfl, rfl, rfl, rfl, trivial⟩ ?_
      refine QL.step1 rfl (env' := [(0, .slice a0' a_0.length c0'), (1, .slice a1' b_1.length c1'), (5, .int .i64 st8), (20, .int .i64 x26), (21, .slice a1' b_1.length c1'), (22, .int .i64 st8)]) (fun _ => by kernel_rfl) ?_
      obtain ⟨x28, hx29, hm⟩ := bindE hm
      refine QL.st (.pointer (some (at_ a1' (Int.toNat st8 * 1)))) (ST.index (T := fInt.ty) (xs := b_1) (Rd.below h1 hb10) hx29 rfl rfl rfl Try.underlying31 (info2).1 (info2).2.1) rfl rfl rfl ?_
      refine QL.st (.int .i64 x28) (ST.load (cell_ext (Rd.flat (F := fInt) (Rd.below h1 hb10) hx29 0 rfl)) rfl rfl Try.underlying2 rfl) rfl rfl rfl ?_
      refine QL.step1 rfl (env' := [(0, .slice a0' a_0.length c0'), (1, .slice a1' b_1.length c1'), (5, .int .i64 st8), (20, .int .i64 x26), (21, .slice a1' b_1.length c1'), (22, .int .i64 st8), (23, .pointer (some (at_ a1' (Int.toNat st8 * 1)))), (24, .int .i64 x28), (25, .bool (x26 != x28))]) (fun _ => by kernel_rfl) ?_
      refine QL.sub [(0, .slice a0' a_0.length c0'), (1, .slice a1' b_1.length c1'), (5, .int .i64 st8), (25, .bool (x26 != x28))] ⟨rfl, rfl, rfl, rfl, trivial⟩ ?_
      refine QL.sub [(0, .slice a0' a_0.length c0'), (1, .slice a1' b_1.length c1'), (5, .int .i64 st8), (25, .bool (x26 != x28))] ⟨rfl, rfl, rfl, rfl, trivial⟩ ?_
      refine QL.nil ?_
      intro w30 hE31
      have hb32 : Ext w w30 := Ext.trans hb10 hE31
      have hL33 : w.heap.size ≤ w30.heap.size := Nat.le_trans hL11 hE31.size
      have hS34 : SH w30 w.heap.size [] := SH.ext hS12 hE31
      refine WQ.then_normal (hK25 _ _ _ ?_)
      refine WP.cond (x26 != x28) rfl rfl (fun hc35 => ?_) (fun hc35 => ?_)
      · have hm := iteT hm hc35
        refine WP.seq (fun K36 hK36 => ?_)
        refine WP.region ?_
        refine WL.runk 1 [4] [(4, .bool false)] (by kernel_rfl) ?_
        refine WL.nil ?_
        refine WQ.then_normal (hK36 _ _ _ ?_)
        refine WP.ret ?_
        refine WQ.block_ret ?_
        refine WQ.then_ret ?_
        refine WQ.then_ret ?_
        refine WQ.block_ret ?_
        refine WQ.then_ret ?_
        obtain rfl := Option.some.inj hm
        obtain rfl := afterN_done hl13
        have hm := hmo14
        obtain rfl := Option.some.inj hm
        exact WQ.ret1 _ rfl rfl ⟨rfl, hb32⟩
      · have hm := iteF hm hc35
        refine WP.skip ?_
        refine WQ.block_normal ?_
        refine WQ.then_normal (hK24 _ _ _ ?_)
        refine WP.region ?_
        refine WL.runk 3 [0, 1, 5] [(0, .slice a0' a_0.length c0'), (1, .slice a1' b_1.length c1'), (5, .int .i64 (wI64 (st8 + 1)))] (by kernel_rfl) ?_
        refine WL.nil ?_
        obtain rfl := Option.some.inj hm
        exact WQ.round hK15 ⟨(wI64 (st8 + 1)), rfl, hb32, hL33, hS34, hl13⟩ (Nat.lt_succ_self _) ⟨rfl, rfl, rfl, trivial⟩
    · have hm := iteF hm hc23
      refine WP.exit ?_
      refine WQ.then_exit ?_
      refine WQ.then_exit ?_
      refine WQ.block_here ?_
      obtain rfl := Option.some.inj hm
      obtain rfl := afterN_done hl13
      have hm := hmo14
      refine WQ.then_normal (hK6 _ _ _ ?_)
      refine WP.seq (fun K37 hK37 => ?_)
      refine WP.region ?_
      refine WL.runk 1 [4] [(4, .bool true)] (by kernel_rfl) ?_
      refine WL.nil ?_
      refine WQ.then_normal (hK37 _ _ _ ?_)
      refine WP.ret ?_
      obtain rfl := Option.some.inj hm
      exact WQ.ret1 _ rfl rfl ⟨rfl, hb10⟩

theorem c_24 (n : Nat) (a_0 : List Int) (a0' : Option Addr) (c0' : Nat) (k_1 : Int) (w : World) (w0 : World) (B : Nat) (L : List Asrt) {r : Int × List Int} (hm : m_laws_markInt64S n a_0 k_1 = some r) (hE0 : Ext w0 w) (hW : w0.heap.size ≤ B) (hL : B ≤ w.heap.size) (hS : SH w B (aOwn fInt 2 a0' c0' a_0 :: L)) :
    CallV Try.prog 24 #[.slice a0' a_0.length c0', .int .i64 k_1] w (fun v w' => v = .int .i64 r.1 ∧ Below B w w' ∧ SH w' B (aOwn fInt 2 a0' c0' r.2 :: L) ∧ r.2.length = a_0.length) := by
  unfold m_laws_markInt64S at hm
  refine CallV.enter Try.func24 rfl (by kernel_rfl) Try.ntmps24 (env := [(0, .slice a0' a_0.length c0'), (1, .int .i64 k_1)]) ⟨rfl, rfl, trivial⟩ ?_
  refine WP.seq (fun K1 hK1 => ?_)
  refine WP.region ?_
  refine WL.runk 1 [0, 1] [(0, .slice a0' a_0.length c0'), (1, .int .i64 k_1)] (by kernel_rfl) ?_
  refine WL.nil ?_
  refine WQ.then_normal (hK1 _ _ _ ?_)
  refine WP.seq (fun K2 hK2 => ?_)
  refine WP.seq (fun K3 hK3 => ?_)
  refine WP.region ?_
  refine WL.runk 1 [0, 1, 5] [(0, .slice a0' a_0.length c0'), (1, .int .i64 k_1), (5, .int .i64 0)] (by kernel_rfl) ?_
  refine WL.nil ?_
  refine WQ.then_normal (hK3 _ _ _ ?_)
  refine WP.block ?_
  obtain ⟨t42, ht43, hm⟩ := bindE hm
  have hmo37 := hm; clear hm
  refine WP.sub [(0, .slice a0' a_0.length c0'), (1, .int .i64 k_1), (5, .int .i64 0)] ⟨rfl, rfl, rfl, trivial⟩ ?_
  refine WP.loop (fun n' env' w' => ∃ (st31 : Int × Int × List Int) , env' = [(0, .slice a0' st31.2.2.length c0'), (1, .int .i64 st31.1), (5, .int .i64 st31.2.1)] ∧ Below B w w' ∧ B ≤ w'.heap.size ∧ SH w' B (aOwn fInt 2 a0' c0' st31.2.2 :: L) ∧ st31.2.2.length = a_0.length ∧ loopN (m_laws_markInt64S_l1 n) n' st31 = some t42) n ⟨(k_1, 0, a_0), rfl, (Below.refl _ _), hL, hS, rfl, ht43⟩ ?_
  rintro n39 _ w32 ⟨st31, rfl, hb33, hL34, hS35, hn44, hl36⟩ K38 hK38
  obtain ⟨n40, s41, rfl, hm, hl36⟩ := loopN_some hl36
  unfold m_laws_markInt64S_l1 at hm
  refine WP.seq (fun K45 hK45 => ?_)
  refine WP.seq (fun K46 hK46 => ?_)
  refine WP.region ?_
  refine WL.runk 4 [0, 1, 5, 9] [(0, .slice a0' st31.2.2.length c0'), (1, .int .i64 st31.1), (5, .int .i64 st31.2.1), (9, .bool (decide (st31.2.1 < (st31.2.2.length : Int))))] (by kernel_rfl) ?_
  refine WL.nil ?_
  refine WQ.then_normal (hK46 _ _ _ ?_)
  refine WP.cond (decide (st31.2.1 < (st31.2.2.length : Int))) rfl rfl (fun hc47 => ?_) (fun hc47 => ?_)
  · have hm := iteT hm hc47
    refine WP.skip ?_
    refine WQ.then_normal (hK45 _ _ _ ?_)
    refine WP.seq (fun K48 hK48 => ?_)
    refine WP.block ?_
    refine WP.seq (fun K49 hK49 => ?_)
    refine WP.region ?_
    refine WL.runk 3 [0, 1, 5, 12, 13, 14] [(0, .slice a0' st31.2.2.length c0'), (1, .int .i64 st31.1), (5, .int .i64 st31.2.1), (12, .slice a0' st31.2.2.length c0'), (13, .int .i64 st31.2.1), (14, .int .i64 st31.1)] (by kernel_rfl) ?_
    obtain ⟨x50, hx51, hm⟩ := bindE hm
    refine WL.st (.pointer (some (at_ a0' (Int.toNat st31.2.1 * 1)))) (ST.index (T := fInt.ty) (xs := st31.2.2) (SH.rd (SH.front 0 hS35)) hx51 rfl rfl rfl Try.underlying31 (info2).1 (info2).2.1) rfl rfl rfl ?_
    refine WL.store (F := fInt) st31.1 0 [.int .i64 st31.1] (SH.front 0 hS35) hL34 hx51 rfl rfl rfl rfl rfl rfl rfl (info2).1 (info2).2.1 rfl rfl rfl ?_
    intro w52 hB53 hS54
    have hb55 : Below B w w52 := Below.trans hb33 hB53
    have hL56 : B ≤ w52.heap.size := Nat.le_trans hL34 hB53.size
    refine WL.sub [(0, .slice a0' ((st31.2.2.set (Int.toNat st31.2.1) st31.1).length) c0'), (1, .int .i64 st31.1), (5, .int .i64 st31.2.1), (12, .slice a0' ((st31.2.2.set (Int.toNat st31.2.1) st31.1).length) c0'), (13, .int .i64 st31.2.1), (14, .int .i64 st31.1)] ⟨by first | (simp only [List.length_set]; done) | (simp only [List.length_set]; rfl), rfl, rfl, by first | (simp only [List.length_set]; done) | (simp only [List.length_set]; rfl), rfl, rfl, trivial⟩ ?_
    have hn57 : (st31.2.2.set (Int.toNat st31.2.1) st31.1).length = a_0.length := List.length_set.trans hn44
    refine WL.sub [(0, .slice a0' ((st31.2.2.set (Int.toNat st31.2.1) st31.1).length) c0'), (1, .int .i64 st31.1), (5, .int .i64 st31.2.1)] ⟨rfl, rfl, rfl, trivial⟩ ?_
    refine WL.nil ?_
    refine WQ.then_normal (hK49 _ _ _ ?_)
    refine WP.region ?_
    refine WL.runk 3 [0, 1, 5] [(0, .slice a0' ((st31.2.2.set (Int.toNat st31.2.1) st31.1).length) c0'), (1, .int .i64 (wI64 (st31.1 + 1))), (5, .int .i64 st31.2.1)] (by kernel_rfl) ?_
    refine WL.nil ?_
    refine WQ.block_normal ?_
    refine WQ.then_normal (hK48 _ _ _ ?_)
    refine WP.region ?_
    refine WL.runk 3 [0, 1, 5] [(0, .slice a0' ((st31.2.2.set (Int.toNat st31.2.1) st31.1).length) c0'), (1, .int .i64 (wI64 (st31.1 + 1))), (5, .int .i64 (wI64 (st31.2.1 + 1)))] (by kernel_rfl) ?_
    refine WL.nil ?_
    obtain rfl := Option.some.inj hm
    exact WQ.round hK38 ⟨((wI64 (st31.1 + 1)), (wI64 (st31.2.1 + 1)), (st31.2.2.set (Int.toNat st31.2.1) st31.1)), rfl, hb55, hL56, hS54, hn57, hl36⟩ (Nat.lt_succ_self _) ⟨rfl, rfl, rfl, trivial⟩
  · have hm := iteF hm hc47
    refine WP.exit ?_
    refine WQ.then_exit ?_
    refine WQ.then_exit ?_
    refine WQ.block_here ?_
    obtain rfl := Option.some.inj hm
    obtain rfl := afterN_done hl36
    have hm := hmo37
    refine WQ.then_normal (hK2 _ _ _ ?_)
    refine WP.seq (fun K58 hK58 => ?_)
    refine WP.region ?_
    refine WL.runk 2 [4] [(4, .int .i64 st31.1)] (by kernel_rfl) ?_
    refine WL.nil ?_
    refine WQ.then_normal (hK58 _ _ _ ?_)
    refine WP.ret ?_
    obtain rfl := Option.some.inj hm
    exact WQ.ret1 _ rfl rfl ⟨rfl, hb33, hS35, hn44⟩

theorem c_25 (n : Nat) (a_0 : List Int) (a0' : Option Addr) (c0' : Nat) (k_1 : Int) (w : World) {r : Int} (hm : m_laws_heldInt64S n a_0 k_1 = some r) (h0 : Rd fInt.ty w a0' a_0) (hle0 : a_0.length ≤ c0') :
    CallV Try.prog 25 #[.slice a0' a_0.length c0', .int .i64 k_1] w (fun v w' => v = .int .i64 r ∧ Ext w w') := by
  unfold m_laws_heldInt64S at hm
  refine CallV.enter Try.func25 rfl (by kernel_rfl) Try.ntmps25 (env := [(0, .slice a0' a_0.length c0'), (1, .int .i64 k_1)]) ⟨rfl, rfl, trivial⟩ ?_
  refine WP.seq (fun K1 hK1 => ?_)
  refine WP.region ?_
  refine WL.runk 1 [0, 1] [(0, .slice a0' a_0.length c0'), (1, .int .i64 k_1)] (by kernel_rfl) ?_
  refine WL.nil ?_
  refine WQ.then_normal (hK1 _ _ _ ?_)
  refine WP.seq (fun K2 hK2 => ?_)
  refine WP.seq (fun K3 hK3 => ?_)
  refine WP.region ?_
  refine WL.runk 1 [0, 1, 5] [(0, .slice a0' a_0.length c0'), (1, .int .i64 k_1), (5, .int .i64 0)] (by kernel_rfl) ?_
  refine WL.nil ?_
  refine WQ.then_normal (hK3 _ _ _ ?_)
  refine WP.block ?_
  obtain ⟨t15, ht16, hm⟩ := bindE hm
  have hmo10 := hm; clear hm
  refine WP.sub [(0, .slice a0' a_0.length c0'), (1, .int .i64 k_1), (5, .int .i64 0)] ⟨rfl, rfl, rfl, trivial⟩ ?_
  refine WP.loop (fun n' env' w' => ∃ (st4 : Int × Int) , env' = [(0, .slice a0' a_0.length c0'), (1, .int .i64 st4.1), (5, .int .i64 st4.2)] ∧ Ext w w' ∧ w.heap.size ≤ w'.heap.size ∧ SH w' w.heap.size [] ∧ loopN (m_laws_heldInt64S_l1 n a_0) n' st4 = some t15) n ⟨(k_1, 0), rfl, (Ext.refl w), (Nat.le_refl _), (SH.nil _ _), ht16⟩ ?_
  rintro n12 _ w5 ⟨st4, rfl, hb6, hL7, hS8, hl9⟩ K11 hK11
  obtain ⟨n13, s14, rfl, hm, hl9⟩ := loopN_some hl9
  unfold m_laws_heldInt64S_l1 at hm
  refine WP.seq (fun K17 hK17 => ?_)
  refine WP.seq (fun K18 hK18 => ?_)
  refine WP.region ?_
  refine WL.runk 4 [0, 1, 5, 9] [(0, .slice a0' a_0.length c0'), (1, .int .i64 st4.1), (5, .int .i64 st4.2), (9, .bool (decide (st4.2 < (a_0.length : Int))))] (by kernel_rfl) ?_
  refine WL.nil ?_
  refine WQ.then_normal (hK18 _ _ _ ?_)
  refine WP.cond (decide (st4.2 < (a_0.length : Int))) rfl rfl (fun hc19 => ?_) (fun hc19 => ?_)
  · have hm := iteT hm hc19
    refine WP.skip ?_
    refine WQ.then_normal (hK17 _ _ _ ?_)
    refine WP.seq (fun K20 hK20 => ?_)
    refine WP.block ?_
    refine WP.seq (fun K21 hK21 => ?_)
    refine WP.seq (fun K22 hK22 => ?_)
    refine WP.region ?_
    refine WL.runk 2 [0, 1, 5, 12, 13] [(0, .slice a0' a_0.length c0'), (1, .int .i64 st4.1), (5, .int .i64 st4.2), (12, .slice a0' a_0.length c0'), (13, .int .i64 st4.2)] (by kernel_rfl) ?_
    obtain ⟨x23, hx24, hm⟩ := bindE hm
    refine WL.st (.pointer (some (at_ a0' (Int.toNat st4.2 * 1)))) (ST.index (T := fInt.ty) (xs := a_0) (Rd.below h0 hb6) hx24 rfl rfl rfl Try.underlying31 (info2).1 (info2).2.1) rfl rfl rfl ?_
    refine WL.st (.int .i64 x23) (ST.load (cell_ext (Rd.flat (F := fInt) (Rd.below h0 hb6) hx24 0 rfl)) rfl rfl Try.underlying2 rfl) rfl rfl rfl ?_
    refine WL.runk 2 [0, 1, 5, 17] [(0, .slice a0' a_0.length c0'), (1, .int .i64 st4.1), (5, .int .i64 st4.2), (17, .bool (x23 != st4.1))] (by kernel_rfl) ?_
    refine WL.nil ?_
    refine WQ.then_normal (hK22 _ _ _ ?_)
    refine WP.cond (x23 != st4.1) rfl rfl (fun hc25 => ?_) (fun hc25 => ?_)
    · have hm := iteT hm hc25
      refine WP.seq (fun K26 hK26 => ?_)
      refine WP.region ?_
      refine WL.runk 1 [4] [(4, .int .i64 (-1))] (by kernel_rfl) ?_
      refine WL.nil ?_
      refine WQ.then_normal (hK26 _ _ _ ?_)
      refine WP.ret ?_
      refine WQ.then_ret ?_
      refine WQ.block_ret ?_
      refine WQ.then_ret ?_
      refine WQ.then_ret ?_
      refine WQ.block_ret ?_
      refine WQ.then_ret ?_
      obtain rfl := Option.some.inj hm
      obtain rfl := afterN_done hl9
      have hm := hmo10
      obtain rfl := Option.some.inj hm
      exact WQ.ret1 _ rfl rfl ⟨rfl, hb6⟩
    · have hm := iteF hm hc25
      refine WP.skip ?_
      refine WQ.then_normal (hK21 _ _ _ ?_)
      refine WP.region ?_
      refine WL.runk 3 [0, 1, 5] [(0, .slice a0' a_0.length c0'), (1, .int .i64 (wI64 (st4.1 + 1))), (5, .int .i64 st4.2)] (by kernel_rfl) ?_
      refine WL.nil ?_
      refine WQ.block_normal ?_
      refine WQ.then_normal (hK20 _ _ _ ?_)
      refine WP.region ?_
      refine WL.runk 3 [0, 1, 5] [(0, .slice a0' a_0.length c0'), (1, .int .i64 (wI64 (st4.1 + 1))), (5, .int .i64 (wI64 (st4.2 + 1)))] (by kernel_rfl) ?_
      refine WL.nil ?_
      obtain rfl := Option.some.inj hm
      exact WQ.round hK11 ⟨((wI64 (st4.1 + 1)), (wI64 (st4.2 + 1))), rfl, hb6, hL7, hS8, hl9⟩ (Nat.lt_succ_self _) ⟨rfl, rfl, rfl, trivial⟩
  · have hm := iteF hm hc19
    refine WP.exit ?_
    refine WQ.then_exit ?_
    refine WQ.then_exit ?_
    refine WQ.block_here ?_
    obtain rfl := Option.some.inj hm
    obtain rfl := afterN_done hl9
    have hm := hmo10
    refine WQ.then_normal (hK2 _ _ _ ?_)
    refine WP.seq (fun K27 hK27 => ?_)
    refine WP.region ?_
    refine WL.runk 2 [4] [(4, .int .i64 st4.1)] (by kernel_rfl) ?_
    refine WL.nil ?_
    refine WQ.then_normal (hK27 _ _ _ ?_)
    refine WP.ret ?_
    obtain rfl := Option.some.inj hm
    exact WQ.ret1 _ rfl rfl ⟨rfl, hb6⟩

theorem c_5 (n : Nat) (aShort_0 : Int) (aInside_1 : Int) (aHeel_2 : Int) (aSole_3 : Int) (w : World) {r : Bool} (hm : m_laws_FnExactRaiseFor n aShort_0 aInside_1 aHeel_2 aSole_3 = some r)  :
    CallV Try.prog 5 #[.int .i64 aShort_0, .int .i64 aInside_1, .int .i64 aHeel_2, .int .i64 aSole_3] w (fun v w' => v = .bool r ∧ Ext w w') := by
  unfold m_laws_FnExactRaiseFor at hm
  refine CallV.enter Try.func5 rfl (by kernel_rfl) Try.ntmps5 (env := [(0, .int .i64 aShort_0), (1, .int .i64 aInside_1), (2, .int .i64 aHeel_2), (3, .int .i64 aSole_3)]) ⟨rfl, rfl, rfl, rfl, trivial⟩ ?_
  refine WP.seq (fun K1 hK1 => ?_)
  refine WP.region ?_
  refine WL.runk 1 [0, 1, 2, 3] [(0, .int .i64 aShort_0), (1, .int .i64 aInside_1), (2, .int .i64 aHeel_2), (3, .int .i64 aSole_3)] (by kernel_rfl) ?_
  refine WL.nil ?_
  refine WQ.then_normal (hK1 _ _ _ ?_)
  refine WP.seq (fun K2 hK2 => ?_)
  refine WP.region ?_
  refine WL.runk 4 [0, 1, 2, 3, 18, 19, 20, 21] [(0, .int .i64 aShort_0), (1, .int .i64 aInside_1), (2, .int .i64 aHeel_2), (3, .int .i64 aSole_3), (18, .int .i64 aShort_0), (19, .int .i64 aInside_1), (20, .int .i64 aHeel_2), (21, .int .i64 aSole_3)] (by kernel_rfl) ?_
  obtain ⟨x3, hx4, hm⟩ := bindE hm
  refine WL.call 21 #[.int .i64 aShort_0, .int .i64 aInside_1, .int .i64 aHeel_2, .int .i64 aSole_3] rfl rfl (by kernel_rfl) (c_21 n aShort_0 aInside_1 aHeel_2 aSole_3 w hx4 ) ?_
  rintro _ w8 ⟨a5, c6, rfl, hE9, hR10⟩
  refine ⟨_, rfl, ?_⟩
  have hb11 : Ext w w8 := Ext.trans (Ext.refl w) hE9
  have hL12 : w.heap.size ≤ w8.heap.size := Nat.le_trans (Nat.le_refl _) hE9.size
  have hS13 : SH w8 w.heap.size [aOwn fInt 2 a5 c6 x3.1] := SH.add (SH.nil _ _) hE9 (Nat.le_refl _) hR10
  refine WL.runk 5 [0, 1, 2, 3, 9, 10] [(0, .int .i64 aShort_0), (1, .int .i64 aInside_1), (2, .int .i64 aHeel_2), (3, .int .i64 aSole_3), (9, .slice a5 x3.1.length c6), (10, .int .i64 x3.2)] (by kernel_rfl) ?_
  refine WL.nil ?_
  refine WQ.then_normal (hK2 _ _ _ ?_)
  refine WP.seq (fun K14 hK14 => ?_)
  refine WP.region ?_
  refine WL.runk 4 [0, 1, 2, 3, 9, 10, 26, 27, 28, 29] [(0, .int .i64 aShort_0), (1, .int .i64 aInside_1), (2, .int .i64 aHeel_2), (3, .int .i64 aSole_3), (9, .slice a5 x3.1.length c6), (10, .int .i64 x3.2), (26, .int .i64 aShort_0), (27, .int .i64 aInside_1), (28, .int .i64 aHeel_2), (29, .int .i64 aSole_3)] (by kernel_rfl) ?_
  obtain ⟨x15, hx16, hm⟩ := bindE hm
  refine WL.call 22 #[.int .i64 aShort_0, .int .i64 aInside_1, .int .i64 aHeel_2, .int .i64 aSole_3] rfl rfl (by kernel_rfl) (c_22 n aShort_0 aInside_1 aHeel_2 aSole_3 w8 hx16 ) ?_
  rintro _ w20 ⟨a17, c18, rfl, hE21, hR22⟩
  refine ⟨_, rfl, ?_⟩
  have hb23 : Ext w w20 := Ext.trans hb11 hE21
  have hL24 : w.heap.size ≤ w20.heap.size := Nat.le_trans hL12 hE21.size
  have hS25 : SH w20 w.heap.size [aOwn fInt 2 a17 c18 x15.1, aOwn fInt 2 a5 c6 x3.1] := SH.add hS13 hE21 hL12 hR22
  refine WL.runk 5 [0, 1, 2, 3, 9, 10, 11, 12] [(0, .int .i64 aShort_0), (1, .int .i64 aInside_1), (2, .int .i64 aHeel_2), (3, .int .i64 aSole_3), (9, .slice a5 x3.1.length c6), (10, .int .i64 x3.2), (11, .slice a17 x15.1.length c18), (12, .int .i64 x15.2)] (by kernel_rfl) ?_
  refine WL.nil ?_
  refine WQ.then_normal (hK14 _ _ _ ?_)
  refine WP.seq (fun K26 hK26 => ?_)
  refine WP.seq (fun K27 hK27 => ?_)
  obtain ⟨x37, hx38, hm⟩ := bindE hm
  refine WP.cut (fun env' w' => env' = [(0, .int .i64 aShort_0), (1, .int .i64 aInside_1), (2, .int .i64 aHeel_2), (3, .int .i64 aSole_3), (9, .slice a5 x3.1.length c6), (10, .int .i64 x3.2), (11, .slice a17 x15.1.length c18), (41, .bool x37)] ∧ Ext w w' ∧ w.heap.size ≤ w'.heap.size ∧ SH w' w.heap.size [aOwn fInt 2 a17 c18 x15.1, aOwn fInt 2 a5 c6 x3.1]) ?_ ?_
  · have hm := hx38; clear hx38
    refine WP.region ?_
    refine WL.runk 2 [0, 1, 2, 3, 9, 10, 11, 12, 33, 34] [(0, .int .i64 aShort_0), (1, .int .i64 aInside_1), (2, .int .i64 aHeel_2), (3, .int .i64 aSole_3), (9, .slice a5 x3.1.length c6), (10, .int .i64 x3.2), (11, .slice a17 x15.1.length c18), (12, .int .i64 x15.2), (33, .slice a17 x15.1.length c18), (34, .slice a5 x3.1.length c6)] (by kernel_rfl) ?_
    obtain ⟨x39, hx40, hm⟩ := bindE hm
    refine WL.call 23 #[.slice a17 x15.1.length c18, .slice a5 x3.1.length c6] rfl rfl (by kernel_rfl) (c_23 n x15.1 a17 c18 x3.1 a5 c6 w20 hx40 (SH.rd (SH.front 0 hS25)) (SH.le (SH.front 0 hS25)).1 (SH.rd (SH.front 1 hS25)) (SH.le (SH.front 1 hS25)).1) ?_
    rintro _ w41 ⟨rfl, hE42⟩
    refine ⟨_, rfl, ?_⟩
    have hb44 : Ext w w41 := Ext.trans hb23 hE42
    have hL45 : w.heap.size ≤ w41.heap.size := Nat.le_trans hL24 hE42.size
    have hS46 : SH w41 w.heap.size [aOwn fInt 2 a17 c18 x15.1, aOwn fInt 2 a5 c6 x3.1] := SH.ext hS25 hE42
    refine WL.runk 2 [0, 1, 2, 3, 9, 10, 11, 12, 37] [(0, .int .i64 aShort_0), (1, .int .i64 aInside_1), (2, .int .i64 aHeel_2), (3, .int .i64 aSole_3), (9, .slice a5 x3.1.length c6), (10, .int .i64 x3.2), (11, .slice a17 x15.1.length c18), (12, .int .i64 x15.2), (37, .bool (!x39))] (by kernel_rfl) ?_
    refine WL.case (!x39) [37] ⟨rfl, trivial⟩ (fun hc47 => ?_) (fun hc47 => ?_)
    · have hm := iteT hm hc47
      refine WL.runk 4 [0, 1, 2, 3, 9, 10, 11, 41] [(0, .int .i64 aShort_0), (1, .int .i64 aInside_1), (2, .int .i64 aHeel_2), (3, .int .i64 aSole_3), (9, .slice a5 x3.1.length c6), (10, .int .i64 x3.2), (11, .slice a17 x15.1.length c18), (41, .bool true)] (by kernel_rfl) ?_
      refine WL.nil ?_
      obtain rfl := Option.some.inj hm
      exact WQ.post' ⟨rfl, hb44, hL45, hS46⟩ ⟨rfl, rfl, rfl, rfl, rfl, rfl, rfl, rfl, trivial⟩
    · have hm := iteF hm hc47
      refine WL.runk 4 [0, 1, 2, 3, 9, 10, 11, 41] [(0, .int .i64 aShort_0), (1, .int .i64 aInside_1), (2, .int .i64 aHeel_2), (3, .int .i64 aSole_3), (9, .slice a5 x3.1.length c6), (10, .int .i64 x3.2), (11, .slice a17 x15.1.length c18), (41, .bool (x15.2 != x3.2))] (by kernel_rfl) ?_
      refine WL.nil ?_
      obtain rfl := Option.some.inj hm
      exact WQ.post' ⟨rfl, hb44, hL45, hS46⟩ ⟨rfl, rfl, rfl, rfl, rfl, rfl, rfl, rfl, trivial⟩
  · clear hx38
    rintro _ w48 ⟨rfl, hb49, hL50, hS51⟩
    refine WQ.then_normal (hK27 _ _ _ ?_)
    refine WP.cond x37 rfl rfl (fun hc52 => ?_) (fun hc52 => ?_)
    · have hm := iteT hm hc52
      refine WP.seq (fun K53 hK53 => ?_)
      refine WP.region ?_
      refine WL.runk 1 [8] [(8, .bool false)] (by kernel_rfl) ?_
      refine WL.nil ?_
      refine WQ.then_normal (hK53 _ _ _ ?_)
      refine WP.ret ?_
      refine WQ.then_ret ?_
      obtain rfl := Option.some.inj hm
      exact WQ.ret1 _ rfl rfl ⟨rfl, hb49⟩
    · have hm := iteF hm hc52
      refine WP.skip ?_
      refine WQ.then_normal (hK26 _ _ _ ?_)
      refine WP.seq (fun K54 hK54 => ?_)
      refine WP.region ?_
      refine WL.runk 1 [0, 1, 2, 3, 9, 10, 11, 13] [(0, .int .i64 aShort_0), (1, .int .i64 aInside_1), (2, .int .i64 aHeel_2), (3, .int .i64 aSole_3), (9, .slice a5 x3.1.length c6), (10, .int .i64 x3.2), (11, .slice a17 x15.1.length c18), (13, .int .i64 1)] (by kernel_rfl) ?_
      refine WL.nil ?_
      refine WQ.then_normal (hK54 _ _ _ ?_)
      refine WP.seq (fun K55 hK55 => ?_)
      refine WP.region ?_
      refine WL.runk 2 [0, 1, 2, 3, 9, 10, 11, 42, 43] [(0, .int .i64 aShort_0), (1, .int .i64 aInside_1), (2, .int .i64 aHeel_2), (3, .int .i64 aSole_3), (9, .slice a5 x3.1.length c6), (10, .int .i64 x3.2), (11, .slice a17 x15.1.length c18), (42, .slice a17 x15.1.length c18), (43, .int .i64 1)] (by kernel_rfl) ?_
      obtain ⟨x56, hx57, hm⟩ := bindE hm
      refine WL.call 24 #[.slice a17 x15.1.length c18, .int .i64 1] rfl rfl (by kernel_rfl) (c_24 n x15.1 a17 c18 1 w48 w w.heap.size [aOwn fInt 2 a5 c6 x3.1] hx57 hb49 (Nat.le_refl _) hL50  hS51) ?_
      rintro _ w58 ⟨rfl, hB62, hS61, hlen63⟩
      refine ⟨_, rfl, ?_⟩
      have hb64 : Ext w w58 := Below.trans hb49 hB62
      have hL65 : w.heap.size ≤ w58.heap.size := Nat.le_trans hL50 hB62.size
      refine WL.sub [(0, .int .i64 aShort_0), (1, .int .i64 aInside_1), (2, .int .i64 aHeel_2), (3, .int .i64 aSole_3), (9, .slice a5 x3.1.length c6), (10, .int .i64 x3.2), (11, .slice a17 x56.2.length c18), (42, .slice a17 x56.2.length c18), (43, .int .i64 1), (44, .int .i64 x56.1)] ⟨rfl, rfl, rfl, rfl, rfl, rfl, by rw [hlen63]; rfl, by rw [hlen63]; rfl, rfl, rfl, trivial⟩ ?_
      refine WL.runk 1 [0, 1, 2, 3, 9, 10, 11, 13] [(0, .int .i64 aShort_0), (1, .int .i64 aInside_1), (2, .int .i64 aHeel_2), (3, .int .i64 aSole_3), (9, .slice a5 x3.1.length c6), (10, .int .i64 x3.2), (11, .slice a17 x56.2.length c18), (13, .int .i64 x56.1)] (by kernel_rfl) ?_
      refine WL.nil ?_
      refine WQ.then_normal (hK55 _ _ _ ?_)
      refine WP.seq (fun K66 hK66 => ?_)
      refine WP.region ?_
      refine WL.runk 1 [0, 1, 2, 3, 9, 10, 11, 13, 14] [(0, .int .i64 aShort_0), (1, .int .i64 aInside_1), (2, .int .i64 aHeel_2), (3, .int .i64 aSole_3), (9, .slice a5 x3.1.length c6), (10, .int .i64 x3.2), (11, .slice a17 x56.2.length c18), (13, .int .i64 x56.1), (14, .int .i64 1)] (by kernel_rfl) ?_
      refine WL.nil ?_
      refine WQ.then_normal (hK66 _ _ _ ?_)
      refine WP.seq (fun K67 hK67 => ?_)
      refine WP.region ?_
      refine WL.runk 2 [0, 1, 2, 3, 9, 10, 11, 13, 45, 46] [(0, .int .i64 aShort_0), (1, .int .i64 aInside_1), (2, .int .i64 aHeel_2), (3, .int .i64 aSole_3), (9, .slice a5 x3.1.length c6), (10, .int .i64 x3.2), (11, .slice a17 x56.2.length c18), (13, .int .i64 x56.1), (45, .slice a17 x56.2.length c18), (46, .int .i64 1)] (by kernel_rfl) ?_
      obtain ⟨x68, hx69, hm⟩ := bindE hm
      refine WL.call 25 #[.slice a17 x56.2.length c18, .int .i64 1] rfl rfl (by kernel_rfl) (c_25 n x56.2 a17 c18 1 w58 hx69 (SH.rd (SH.front 0 hS61)) (SH.le (SH.front 0 hS61)).1) ?_
      rintro _ w70 ⟨rfl, hE71⟩
      refine ⟨_, rfl, ?_⟩
      have hb73 : Ext w w70 := Ext.trans hb64 hE71
      have hL74 : w.heap.size ≤ w70.heap.size := Nat.le_trans hL65 hE71.size
      have hS75 : SH w70 w.heap.size [aOwn fInt 2 a17 c18 x56.2, aOwn fInt 2 a5 c6 x3.1] := SH.ext hS61 hE71
      refine WL.runk 1 [0, 1, 2, 3, 9, 10, 11, 13, 14] [(0, .int .i64 aShort_0), (1, .int .i64 aInside_1), (2, .int .i64 aHeel_2), (3, .int .i64 aSole_3), (9, .slice a5 x3.1.length c6), (10, .int .i64 x3.2), (11, .slice a17 x56.2.length c18), (13, .int .i64 x56.1), (14, .int .i64 x68)] (by kernel_rfl) ?_
      refine WL.nil ?_
      refine WQ.then_normal (hK67 _ _ _ ?_)
      refine WP.seq (fun K76 hK76 => ?_)
      refine WP.seq (fun K77 hK77 => ?_)
      refine WP.region ?_
      refine WL.runk 2 [0, 1, 2, 3, 9, 10, 11, 13, 14, 49] [(0, .int .i64 aShort_0), (1, .int .i64 aInside_1), (2, .int .i64 aHeel_2), (3, .int .i64 aSole_3), (9, .slice a5 x3.1.length c6), (10, .int .i64 x3.2), (11, .slice a17 x56.2.length c18), (13, .int .i64 x56.1), (14, .int .i64 x68), (49, .bool (decide (x68 < 0)))] (by kernel_rfl) ?_
      refine WL.nil ?_
      refine WQ.then_normal (hK77 _ _ _ ?_)
      refine WP.cond (decide (x68 < 0)) rfl rfl (fun hc78 => ?_) (fun hc78 => ?_)
      · have hm := iteT hm hc78
        refine WP.seq (fun K79 hK79 => ?_)
        refine WP.region ?_
        refine WL.runk 1 [8] [(8, .bool false)] (by kernel_rfl) ?_
        refine WL.nil ?_
        refine WQ.then_normal (hK79 _ _ _ ?_)
        refine WP.ret ?_
        refine WQ.then_ret ?_
        obtain rfl := Option.some.inj hm
        exact WQ.ret1 _ rfl rfl ⟨rfl, hb73⟩
      · have hm := iteF hm hc78
        refine WP.skip ?_
        refine WQ.then_normal (hK76 _ _ _ ?_)
        refine WP.seq (fun K80 hK80 => ?_)
        refine WP.seq (fun K81 hK81 => ?_)
        refine WP.region ?_
        refine WL.runk 3 [0, 1, 2, 3, 9, 10, 11, 13, 52] [(0, .int .i64 aShort_0), (1, .int .i64 aInside_1), (2, .int .i64 aHeel_2), (3, .int .i64 aSole_3), (9, .slice a5 x3.1.length c6), (10, .int .i64 x3.2), (11, .slice a17 x56.2.length c18), (13, .int .i64 x56.1), (52, .bool (x68 != x56.1))] (by kernel_rfl) ?_
        refine WL.nil ?_
        refine WQ.then_normal (hK81 _ _ _ ?_)
        refine WP.cond (x68 != x56.1) rfl rfl (fun hc82 => ?_) (fun hc82 => ?_)
        · have hm := iteT hm hc82
          refine WP.seq (fun K83 hK83 => ?_)
          refine WP.region ?_
          refine WL.runk 1 [8] [(8, .bool false)] (by kernel_rfl) ?_
          refine WL.nil ?_
          refine WQ.then_normal (hK83 _ _ _ ?_)
          refine WP.ret ?_
          refine WQ.then_ret ?_
          obtain rfl := Option.some.inj hm
          exact WQ.ret1 _ rfl rfl ⟨rfl, hb73⟩
        · have hm := iteF hm hc82
          refine WP.skip ?_
          refine WQ.then_normal (hK80 _ _ _ ?_)
          refine WP.seq (fun K84 hK84 => ?_)
          refine WP.region ?_
          refine WL.runk 4 [9, 10, 11, 13, 54, 55, 56, 57] [(9, .slice a5 x3.1.length c6), (10, .int .i64 x3.2), (11, .slice a17 x56.2.length c18), (13, .int .i64 x56.1), (54, .int .i64 aShort_0), (55, .int .i64 aInside_1), (56, .int .i64 aHeel_2), (57, .int .i64 aSole_3)] (by kernel_rfl) ?_
          obtain ⟨x85, hx86, hm⟩ := bindE hm
          refine WL.call 22 #[.int .i64 aShort_0, .int .i64 aInside_1, .int .i64 aHeel_2, .int .i64 aSole_3] rfl rfl (by kernel_rfl) (c_22 n aShort_0 aInside_1 aHeel_2 aSole_3 w70 hx86 ) ?_
          rintro _ w90 ⟨a87, c88, rfl, hE91, hR92⟩
          refine ⟨_, rfl, ?_⟩
          have hb93 : Ext w w90 := Ext.trans hb73 hE91
          have hL94 : w.heap.size ≤ w90.heap.size := Nat.le_trans hL74 hE91.size
          have hS95 : SH w90 w.heap.size [aOwn fInt 2 a87 c88 x85.1, aOwn fInt 2 a17 c18 x56.2, aOwn fInt 2 a5 c6 x3.1] := SH.add hS75 hE91 hL74 hR92
          refine WL.runk 5 [9, 10, 11, 13, 15, 16] [(9, .slice a5 x3.1.length c6), (10, .int .i64 x3.2), (11, .slice a17 x56.2.length c18), (13, .int .i64 x56.1), (15, .slice a87 x85.1.length c88), (16, .int .i64 x85.2)] (by kernel_rfl) ?_
          refine WL.nil ?_
          refine WQ.then_normal (hK84 _ _ _ ?_)
          refine WP.seq (fun K96 hK96 => ?_)
          refine WP.seq (fun K97 hK97 => ?_)
          obtain ⟨x107, hx108, hm⟩ := bindE hm
          refine WP.cut (fun env' w' => env' = [(11, .slice a17 x56.2.length c18), (13, .int .i64 x56.1), (69, .bool x107)] ∧ Ext w w' ∧ w.heap.size ≤ w'.heap.size ∧ SH w' w.heap.size [aOwn fInt 2 a87 c88 x85.1, aOwn fInt 2 a17 c18 x56.2, aOwn fInt 2 a5 c6 x3.1]) ?_ ?_
          · have hm := hx108; clear hx108
            refine WP.region ?_
            refine WL.runk 2 [10, 11, 13, 16, 61, 62] [(10, .int .i64 x3.2), (11, .slice a17 x56.2.length c18), (13, .int .i64 x56.1), (16, .int .i64 x85.2), (61, .slice a87 x85.1.length c88), (62, .slice a5 x3.1.length c6)] (by kernel_rfl) ?_
            obtain ⟨x109, hx110, hm⟩ := bindE hm
            refine WL.call 23 #[.slice a87 x85.1.length c88, .slice a5 x3.1.length c6] rfl rfl (by kernel_rfl) (c_23 n x85.1 a87 c88 x3.1 a5 c6 w90 hx110 (SH.rd (SH.front 0 hS95)) (SH.le (SH.front 0 hS95)).1 (SH.rd (SH.front 2 hS95)) (SH.le (SH.front 2 hS95)).1) ?_
            rintro _ w111 ⟨rfl, hE112⟩
            refine ⟨_, rfl, ?_⟩
            have hb114 : Ext w w111 := Ext.trans hb93 hE112
            have hL115 : w.heap.size ≤ w111.heap.size := Nat.le_trans hL94 hE112.size
            have hS116 : SH w111 w.heap.size [aOwn fInt 2 a87 c88 x85.1, aOwn fInt 2 a17 c18 x56.2, aOwn fInt 2 a5 c6 x3.1] := SH.ext hS95 hE112
            refine WL.runk 2 [10, 11, 13, 16, 65] [(10, .int .i64 x3.2), (11, .slice a17 x56.2.length c18), (13, .int .i64 x56.1), (16, .int .i64 x85.2), (65, .bool (!x109))] (by kernel_rfl) ?_
            refine WL.case (!x109) [65] ⟨rfl, trivial⟩ (fun hc117 => ?_) (fun hc117 => ?_)
            · have hm := iteT hm hc117
              refine WL.runk 4 [11, 13, 69] [(11, .slice a17 x56.2.length c18), (13, .int .i64 x56.1), (69, .bool true)] (by kernel_rfl) ?_
              refine WL.nil ?_
              obtain rfl := Option.some.inj hm
              exact WQ.post' ⟨rfl, hb114, hL115, hS116⟩ ⟨rfl, rfl, rfl, trivial⟩
            · have hm := iteF hm hc117
              refine WL.runk 4 [11, 13, 69] [(11, .slice a17 x56.2.length c18), (13, .int .i64 x56.1), (69, .bool (x85.2 != x3.2))] (by kernel_rfl) ?_
              refine WL.nil ?_
              obtain rfl := Option.some.inj hm
              exact WQ.post' ⟨rfl, hb114, hL115, hS116⟩ ⟨rfl, rfl, rfl, trivial⟩
          · clear hx108
            rintro _ w118 ⟨rfl, hb119, hL120, hS121⟩
            refine WQ.then_normal (hK97 _ _ _ ?_)
            refine WP.cond x107 rfl rfl (fun hc122 => ?_) (fun hc122 => ?_)
            · have hm := iteT hm hc122
              refine WP.seq (fun K123 hK123 => ?_)
              refine WP.region ?_
              refine WL.runk 1 [8] [(8, .bool false)] (by kernel_rfl) ?_
              refine WL.nil ?_
              refine WQ.then_normal (hK123 _ _ _ ?_)
              refine WP.ret ?_
              refine WQ.then_ret ?_
              obtain rfl := Option.some.inj hm
              exact WQ.ret1 _ rfl rfl ⟨rfl, hb119⟩
            · have hm := iteF hm hc122
              refine WP.skip ?_
              refine WQ.then_normal (hK96 _ _ _ ?_)
              refine WP.seq (fun K124 hK124 => ?_)
              refine WP.region ?_
              refine WL.runk 1 [11, 13, 14] [(11, .slice a17 x56.2.length c18), (13, .int .i64 x56.1), (14, .int .i64 1)] (by kernel_rfl) ?_
              refine WL.nil ?_
              refine WQ.then_normal (hK124 _ _ _ ?_)
              refine WP.seq (fun K125 hK125 => ?_)
              refine WP.region ?_
              refine WL.runk 2 [13, 70, 71] [(13, .int .i64 x56.1), (70, .slice a17 x56.2.length c18), (71, .int .i64 1)] (by kernel_rfl) ?_
              obtain ⟨x126, hx127, hm⟩ := bindE hm
              refine WL.call 25 #[.slice a17 x56.2.length c18, .int .i64 1] rfl rfl (by kernel_rfl) (c_25 n x56.2 a17 c18 1 w118 hx127 (SH.rd (SH.front 1 hS121)) (SH.le (SH.front 1 hS121)).1) ?_
              rintro _ w128 ⟨rfl, hE129⟩
              refine ⟨_, rfl, ?_⟩
              have hb131 : Ext w w128 := Ext.trans hb119 hE129
              have hL132 : w.heap.size ≤ w128.heap.size := Nat.le_trans hL120 hE129.size
              have hS133 : SH w128 w.heap.size [aOwn fInt 2 a87 c88 x85.1, aOwn fInt 2 a17 c18 x56.2, aOwn fInt 2 a5 c6 x3.1] := SH.ext hS121 hE129
              refine WL.runk 1 [13, 14] [(13, .int .i64 x56.1), (14, .int .i64 x126)] (by kernel_rfl) ?_
              refine WL.nil ?_
              refine WQ.then_normal (hK125 _ _ _ ?_)
              refine WP.seq (fun K134 hK134 => ?_)
              refine WP.seq (fun K135 hK135 => ?_)
              refine WP.region ?_
              refine WL.runk 2 [13, 14, 74] [(13, .int .i64 x56.1), (14, .int .i64 x126), (74, .bool (decide (x126 < 0)))] (by kernel_rfl) ?_
              refine WL.nil ?_
              refine WQ.then_normal (hK135 _ _ _ ?_)
              refine WP.cond (decide (x126 < 0)) rfl rfl (fun hc136 => ?_) (fun hc136 => ?_)
              · have hm := iteT hm hc136
                refine WP.seq (fun K137 hK137 => ?_)
                refine WP.region ?_
                refine WL.runk 1 [8] [(8, .bool false)] (by kernel_rfl) ?_
                refine WL.nil ?_
                refine WQ.then_normal (hK137 _ _ _ ?_)
                refine WP.ret ?_
                refine WQ.then_ret ?_
                obtain rfl := Option.some.inj hm
                exact WQ.ret1 _ rfl rfl ⟨rfl, hb131⟩
              · have hm := iteF hm hc136
                refine WP.skip ?_
                refine WQ.then_normal (hK134 _ _ _ ?_)
                refine WP.seq (fun K138 hK138 => ?_)
                refine WP.seq (fun K139 hK139 => ?_)
                refine WP.region ?_
                refine WL.runk 3 [77] [(77, .bool (x126 != x56.1))] (by kernel_rfl) ?_
                refine WL.nil ?_
                refine WQ.then_normal (hK139 _ _ _ ?_)
                refine WP.cond (x126 != x56.1) rfl rfl (fun hc140 => ?_) (fun hc140 => ?_)
                · have hm := iteT hm hc140
                  refine WP.seq (fun K141 hK141 => ?_)
                  refine WP.region ?_
                  refine WL.runk 1 [8] [(8, .bool false)] (by kernel_rfl) ?_
                  refine WL.nil ?_
                  refine WQ.then_normal (hK141 _ _ _ ?_)
                  refine WP.ret ?_
                  refine WQ.then_ret ?_
                  obtain rfl := Option.some.inj hm
                  exact WQ.ret1 _ rfl rfl ⟨rfl, hb131⟩
                · have hm := iteF hm hc140
                  refine WP.skip ?_
                  refine WQ.then_normal (hK138 _ _ _ ?_)
                  refine WP.seq (fun K142 hK142 => ?_)
                  refine WP.region ?_
                  refine WL.runk 1 [8] [(8, .bool true)] (by kernel_rfl) ?_
                  refine WL.nil ?_
                  refine WQ.then_normal (hK142 _ _ _ ?_)
                  refine WP.ret ?_
                  obtain rfl := Option.some.inj hm
                  exact WQ.ret1 _ rfl rfl ⟨rfl, hb131⟩

theorem c_63 (n : Nat) (c_0 : SChange) (w : World) {r : Bool} (hm : m_spec_l22One n c_0 = some r)  :
    CallV Try.prog 63 #[.agg #[.int .i64 c_0.Kind, .int .i64 c_0.Amount]] w (fun v w' => v = .bool r ∧ Ext w w') := by
  unfold m_spec_l22One at hm
  refine CallV.enter Try.func63 rfl (by kernel_rfl) Try.ntmps63 (env := [(0, .agg #[.int .i64 c_0.Kind, .int .i64 c_0.Amount])]) ⟨rfl, trivial⟩ ?_
  refine WP.seq (fun K1 hK1 => ?_)
  refine WP.region ?_
  refine WL.box 42 [.int .i64 c_0.Kind, .int .i64 c_0.Amount] 1 (by kernel_rfl) rfl rfl rfl rfl ?_
  intro b2 w3 hE4 hR5
  have hb7 : Ext w w3 := Ext.trans (Ext.refl w) hE4
  have hL8 : w.heap.size ≤ w3.heap.size := Nat.le_trans (Nat.le_refl _) hE4.size
  have hS9 : SH w3 w.heap.size [aBox 42 b2 [.int .i64 c_0.Kind, .int .i64 c_0.Amount]] := SH.add (SH.nil _ _) hE4 (Nat.le_refl _) hR5
  refine WL.runk 1 [1] [(1, .pointer (some ⟨b2, 0, none⟩))] (by kernel_rfl) ?_
  refine WL.nil ?_
  refine WQ.then_normal (hK1 _ _ _ ?_)
  refine WP.seq (fun K10 hK10 => ?_)
  refine WP.region ?_
  refine WL.runk 1 [1, 4] [(1, .pointer (some ⟨b2, 0, none⟩)), (4, .pointer (some ⟨b2, 0, none⟩))] (by kernel_rfl) ?_
  refine WL.st (.int .i64 c_0.Kind) (ST.load (cell_ext (SH.boxAt (SH.front 0 hS9) 0 _ rfl)) rfl rfl Try.underlying2 rfl) rfl rfl rfl ?_
  obtain ⟨x11, hx12, hm⟩ := bindE hm
  refine WL.call 52 #[.int .i64 c_0.Kind] rfl rfl (by kernel_rfl) (c_52 n c_0.Kind w3 hx12 ) ?_
  rintro _ w13 ⟨rfl, hE14⟩
  refine ⟨_, rfl, ?_⟩
  have hb16 : Ext w w13 := Ext.trans hb7 hE14
  have hL17 : w.heap.size ≤ w13.heap.size := Nat.le_trans hL8 hE14.size
  have hS18 : SH w13 w.heap.size [aBox 42 b2 [.int .i64 c_0.Kind, .int .i64 c_0.Amount]] := SH.ext hS9 hE14
  refine WL.runk 1 [1, 3] [(1, .pointer (some ⟨b2, 0, none⟩)), (3, .int .i64 x11)] (by kernel_rfl) ?_
  refine WL.nil ?_
  refine WQ.then_normal (hK10 _ _ _ ?_)
  refine WP.seq (fun K19 hK19 => ?_)
  obtain ⟨x29, hx30, hm⟩ := bindE hm
  refine WP.cut (fun env' w' => env' = [(2, .bool x29)] ∧ Ext w w' ∧ w.heap.size ≤ w'.heap.size ∧ SH w' w.heap.size [aBox 42 b2 [.int .i64 c_0.Kind, .int .i64 c_0.Amount]]) ?_ ?_
  · have hm := hx30; clear hx30
    refine WP.region ?_
    refine WL.runk 1 [1, 3, 7] [(1, .pointer (some ⟨b2, 0, none⟩)), (3, .int .i64 x11), (7, .pointer (some ⟨b2, 1, none⟩))] (by kernel_rfl) ?_
    refine WL.st (.int .i64 c_0.Amount) (ST.load (cell_ext (SH.boxAt (SH.front 0 hS18) 1 _ rfl)) rfl rfl Try.underlying2 rfl) rfl rfl rfl ?_
    refine WL.runk 2 [1, 3, 10] [(1, .pointer (some ⟨b2, 0, none⟩)), (3, .int .i64 x11), (10, .bool (c_0.Amount != 0))] (by kernel_rfl) ?_
    refine WL.case (c_0.Amount != 0) [10] ⟨rfl, trivial⟩ (fun hc31 => ?_) (fun hc31 => ?_)
    · have hm := iteT hm hc31
      refine WL.runk 1 [3, 10, 11] [(3, .int .i64 x11), (10, .bool true), (11, .pointer (some ⟨b2, 1, none⟩))] (by kernel_rfl) ?_
      refine WL.st (.int .i64 c_0.Amount) (ST.load (cell_ext (SH.boxAt (SH.front 0 hS18) 1 _ rfl)) rfl rfl Try.underlying2 rfl) rfl rfl rfl ?_
      refine WL.runk 3 [10, 12, 14, 15] [(10, .bool true), (12, .int .i64 c_0.Amount), (14, .int .i64 (wI64 (0 - x11))), (15, .int .i64 x11)] (by kernel_rfl) ?_
      obtain ⟨x32, hx33, hm⟩ := bindE hm
      refine WL.call 64 #[.int .i64 c_0.Amount, .int .i64 (wI64 (0 - x11)), .int .i64 x11] rfl rfl (by kernel_rfl) (c_64 n c_0.Amount (wI64 (0 - x11)) x11 w13 hx33 ) ?_
      rintro _ w34 ⟨rfl, hE35⟩
      refine ⟨_, rfl, ?_⟩
      have hb37 : Ext w w34 := Ext.trans hb16 hE35
      have hL38 : w.heap.size ≤ w34.heap.size := Nat.le_trans hL17 hE35.size
      have hS39 : SH w34 w.heap.size [aBox 42 b2 [.int .i64 c_0.Kind, .int .i64 c_0.Amount]] := SH.ext hS18 hE35
      refine WL.runk 2 [2] [(2, .bool x32)] (by kernel_rfl) ?_
      refine WL.nil ?_
      obtain rfl := Option.some.inj hm
      exact WQ.post' ⟨rfl, hb37, hL38, hS39⟩ ⟨rfl, trivial⟩
    · have hm := iteF hm hc31
      refine WL.runk 8 [2] [(2, .bool false)] (by kernel_rfl) ?_
      refine WL.nil ?_
      obtain rfl := Option.some.inj hm
      exact WQ.post' ⟨rfl, hb16, hL17, hS18⟩ ⟨rfl, trivial⟩
  · clear hx30
    rintro _ w40 ⟨rfl, hb41, hL42, hS43⟩
    refine WQ.then_normal (hK19 _ _ _ ?_)
    refine WP.ret ?_
    obtain rfl := Option.some.inj hm
    exact WQ.ret1 _ rfl rfl ⟨rfl, hb41⟩

theorem c_59 (n : Nat) (list_0 : List SChange) (a0' : Option Addr) (c0' : Nat) (w : World) {r : Bool} (hm : m_spec_l22Ok n list_0 = some r) (h0 : Rd fChange.ty w a0' list_0) (hle0 : list_0.length ≤ c0') :
    CallV Try.prog 59 #[.slice a0' list_0.length c0'] w (fun v w' => v = .bool r ∧ Ext w w') := by
  unfold m_spec_l22Ok at hm
  refine CallV.enter Try.func59 rfl (by kernel_rfl) Try.ntmps59 (env := [(0, .slice a0' list_0.length c0')]) ⟨rfl, trivial⟩ ?_
  refine WP.seq (fun K1 hK1 => ?_)
  refine WP.region ?_
  refine WL.runk 1 [0] [(0, .slice a0' list_0.length c0')] (by kernel_rfl) ?_
  refine WL.nil ?_
  refine WQ.then_normal (hK1 _ _ _ ?_)
  refine WP.seq (fun K2 hK2 => ?_)
  refine WP.seq (fun K3 hK3 => ?_)
  refine WP.region ?_
  refine WL.runk 1 [0, 3] [(0, .slice a0' list_0.length c0'), (3, .int .i64 0)] (by kernel_rfl) ?_
  refine WL.nil ?_
  refine WQ.then_normal (hK3 _ _ _ ?_)
  refine WP.block ?_
  obtain ⟨t15, ht16, hm⟩ := bindE hm
  have hmo10 := hm; clear hm
  refine WP.sub [(0, .slice a0' list_0.length c0'), (3, .int .i64 0)] ⟨rfl, rfl, trivial⟩ ?_
  refine WP.loop (fun n' env' w' => ∃ (st4 : Int) , env' = [(0, .slice a0' list_0.length c0'), (3, .int .i64 st4)] ∧ Ext w w' ∧ w.heap.size ≤ w'.heap.size ∧ SH w' w.heap.size [] ∧ loopN (m_spec_l22Ok_l1 n list_0) n' st4 = some t15) n ⟨0, rfl, (Ext.refl w), (Nat.le_refl _), (SH.nil _ _), ht16⟩ ?_
  rintro n12 _ w5 ⟨st4, rfl, hb6, hL7, hS8, hl9⟩ K11 hK11
  obtain ⟨n13, s14, rfl, hm, hl9⟩ := loopN_some hl9
  unfold m_spec_l22Ok_l1 at hm
  refine WP.seq (fun K17 hK17 => ?_)
  refine WP.seq (fun K18 hK18 => ?_)
  refine WP.region ?_
  refine WL.runk 4 [0, 3, 7] [(0, .slice a0' list_0.length c0'), (3, .int .i64 st4), (7, .bool (decide (st4 < (list_0.length : Int))))] (by kernel_rfl) ?_
  refine WL.nil ?_
  refine WQ.then_normal (hK18 _ _ _ ?_)
  refine WP.cond (decide (st4 < (list_0.length : Int))) rfl rfl (fun hc19 => ?_) (fun hc19 => ?_)
  · have hm := iteT hm hc19
    refine WP.skip ?_
    refine WQ.then_normal (hK17 _ _ _ ?_)
    refine WP.seq (fun K20 hK20 => ?_)
    refine WP.block ?_
    refine WP.seq (fun K21 hK21 => ?_)
    refine WP.region ?_
    refine WL.runk 2 [0, 3, 10, 11] [(0, .slice a0' list_0.length c0'), (3, .int .i64 st4), (10, .slice a0' list_0.length c0'), (11, .int .i64 st4)] (by kernel_rfl) ?_
    obtain ⟨x22, hx23, hm⟩ := bindE hm
    refine WL.st (.pointer (some (at_ a0' (Int.toNat st4 * 2)))) (ST.index (T := fChange.ty) (xs := list_0) (Rd.below h0 hb6) hx23 rfl rfl rfl Try.underlying28 (info42).1 (info42).2.1) rfl rfl rfl ?_
    refine WL.st (.agg #[.int .i64 x22.Kind, .int .i64 x22.Amount]) (ST.loadAgg (vs := fChange.leaf x22) (fun j v hv => Rd.flatA (F := fChange) (Rd.below h0 hb6) hx23 j hv) rfl rfl rfl Try.underlying42 rfl (info42).1 (info42).2.1) rfl rfl rfl ?_
    obtain ⟨x24, hx25, hm⟩ := bindE hm
    refine WL.call 63 #[.agg #[.int .i64 x22.Kind, .int .i64 x22.Amount]] rfl rfl (by kernel_rfl) (c_63 n x22 w5 hx25 ) ?_
    rintro _ w26 ⟨rfl, hE27⟩
    refine ⟨_, rfl, ?_⟩
    have hb29 : Ext w w26 := Ext.trans hb6 hE27
    have hL30 : w.heap.size ≤ w26.heap.size := Nat.le_trans hL7 hE27.size
    have hS31 : SH w26 w.heap.size [] := SH.ext hS8 hE27
    refine WL.runk 1 [0, 3, 15] [(0, .slice a0' list_0.length c0'), (3, .int .i64 st4), (15, .bool (!x24))] (by kernel_rfl) ?_
    refine WL.nil ?_
    refine WQ.then_normal (hK21 _ _ _ ?_)
    refine WP.cond (!x24) rfl rfl (fun hc32 => ?_) (fun hc32 => ?_)
    · have hm := iteT hm hc32
      refine WP.seq (fun K33 hK33 => ?_)
      refine WP.region ?_
      refine WL.runk 1 [2] [(2, .bool false)] (by kernel_rfl) ?_
      refine WL.nil ?_
      refine WQ.then_normal (hK33 _ _ _ ?_)
      refine WP.ret ?_
      refine WQ.block_ret ?_
      refine WQ.then_ret ?_
      refine WQ.then_ret ?_
      refine WQ.block_ret ?_
      refine WQ.then_ret ?_
      obtain rfl := Option.some.inj hm
      obtain rfl := afterN_done hl9
      have hm := hmo10
      obtain rfl := Option.some.inj hm
      exact WQ.ret1 _ rfl rfl ⟨rfl, hb29⟩
    · have hm := iteF hm hc32
      refine WP.skip ?_
      refine WQ.block_normal ?_
      refine WQ.then_normal (hK20 _ _ _ ?_)
      refine WP.region ?_
      refine WL.runk 3 [0, 3] [(0, .slice a0' list_0.length c0'), (3, .int .i64 (wI64 (st4 + 1)))] (by kernel_rfl) ?_
      refine WL.nil ?_
      obtain rfl := Option.some.inj hm
      exact WQ.round hK11 ⟨(wI64 (st4 + 1)), rfl, hb29, hL30, hS31, hl9⟩ (Nat.lt_succ_self _) ⟨rfl, rfl, trivial⟩
  · have hm := iteF hm hc19
    refine WP.exit ?_
    refine WQ.then_exit ?_
    refine WQ.then_exit ?_
    refine WQ.block_here ?_
    obtain rfl := Option.some.inj hm
    obtain rfl := afterN_done hl9
    have hm := hmo10
    refine WQ.then_normal (hK2 _ _ _ ?_)
    refine WP.seq (fun K34 hK34 => ?_)
    refine WP.region ?_
    refine WL.runk 4 [2] [(2, .bool (decide ((list_0.length : Int) ≤ 20)))] (by kernel_rfl) ?_
    refine WL.nil ?_
    refine WQ.then_normal (hK34 _ _ _ ?_)
    refine WP.ret ?_
    obtain rfl := Option.some.inj hm
    exact WQ.ret1 _ rfl rfl ⟨rfl, hb6⟩

theorem c_26 (n : Nat) (list_0 : List SChange) (a0' : Option Addr) (c0' : Nat) (w : World) {r : Bool} (hm : m_spec_ValidChanges n list_0 = some r) (h0 : Rd fChange.ty w a0' list_0) (hle0 : list_0.length ≤ c0') :
    CallV Try.prog 26 #[.slice a0' list_0.length c0'] w (fun v w' => v = .bool r ∧ Ext w w') := by
  unfold m_spec_ValidChanges at hm
  refine CallV.enter Try.func26 rfl (by kernel_rfl) Try.ntmps26 (env := [(0, .slice a0' list_0.length c0')]) ⟨rfl, trivial⟩ ?_
  refine WP.seq (fun K1 hK1 => ?_)
  refine WP.region ?_
  refine WL.runk 1 [0] [(0, .slice a0' list_0.length c0')] (by kernel_rfl) ?_
  refine WL.nil ?_
  refine WQ.then_normal (hK1 _ _ _ ?_)
  refine WP.seq (fun K2 hK2 => ?_)
  refine WP.region ?_
  refine WL.runk 1 [3] [(3, .slice a0' list_0.length c0')] (by kernel_rfl) ?_
  obtain ⟨x3, hx4, hm⟩ := bindE hm
  refine WL.call 59 #[.slice a0' list_0.length c0'] rfl rfl (by kernel_rfl) (c_59 n list_0 a0' c0' w hx4 (Rd.below h0 (Ext.refl w)) hle0) ?_
  rintro _ w5 ⟨rfl, hE6⟩
  refine ⟨_, rfl, ?_⟩
  have hb8 : Ext w w5 := Ext.trans (Ext.refl w) hE6
  have hL9 : w.heap.size ≤ w5.heap.size := Nat.le_trans (Nat.le_refl _) hE6.size
  have hS10 : SH w5 w.heap.size [] := SH.ext (SH.nil _ _) hE6
  refine WL.runk 1 [2] [(2, .bool x3)] (by kernel_rfl) ?_
  refine WL.nil ?_
  refine WQ.then_normal (hK2 _ _ _ ?_)
  refine WP.ret ?_
  obtain rfl := Option.some.inj hm
  exact WQ.ret1 _ rfl rfl ⟨rfl, hb8⟩

theorem c_62 (n : Nat) (c_0 : SChange) (w : World) {r : Bool} (hm : m_impl_validChange n c_0 = some r)  :
    CallV Try.prog 62 #[.agg #[.int .i64 c_0.Kind, .int .i64 c_0.Amount]] w (fun v w' => v = .bool r ∧ Ext w w') := by
  unfold m_impl_validChange at hm
  refine CallV.enter Try.func62 rfl (by kernel_rfl) Try.ntmps62 (env := [(0, .agg #[.int .i64 c_0.Kind, .int .i64 c_0.Amount])]) ⟨rfl, trivial⟩ ?_
  refine WP.seq (fun K1 hK1 => ?_)
  refine WP.region ?_
  refine WL.box 42 [.int .i64 c_0.Kind, .int .i64 c_0.Amount] 1 (by kernel_rfl) rfl rfl rfl rfl ?_
  intro b2 w3 hE4 hR5
  have hb7 : Ext w w3 := Ext.trans (Ext.refl w) hE4
  have hL8 : w.heap.size ≤ w3.heap.size := Nat.le_trans (Nat.le_refl _) hE4.size
  have hS9 : SH w3 w.heap.size [aBox 42 b2 [.int .i64 c_0.Kind, .int .i64 c_0.Amount]] := SH.add (SH.nil _ _) hE4 (Nat.le_refl _) hR5
  refine WL.runk 1 [1] [(1, .pointer (some ⟨b2, 0, none⟩))] (by kernel_rfl) ?_
  refine WL.nil ?_
  refine WQ.then_normal (hK1 _ _ _ ?_)
  refine WP.seq (fun K10 hK10 => ?_)
  refine WP.region ?_
  refine WL.runk 1 [1, 4] [(1, .pointer (some ⟨b2, 0, none⟩)), (4, .pointer (some ⟨b2, 0, none⟩))] (by kernel_rfl) ?_
  refine WL.st (.int .i64 c_0.Kind) (ST.load (cell_ext (SH.boxAt (SH.front 0 hS9) 0 _ rfl)) rfl rfl Try.underlying2 rfl) rfl rfl rfl ?_
  obtain ⟨x11, hx12, hm⟩ := bindE hm
  refine WL.call 53 #[.int .i64 c_0.Kind] rfl rfl (by kernel_rfl) (c_53 n c_0.Kind w3 hx12 ) ?_
  rintro _ w13 ⟨rfl, hE14⟩
  refine ⟨_, rfl, ?_⟩
  have hb16 : Ext w w13 := Ext.trans hb7 hE14
  have hL17 : w.heap.size ≤ w13.heap.size := Nat.le_trans hL8 hE14.size
  have hS18 : SH w13 w.heap.size [aBox 42 b2 [.int .i64 c_0.Kind, .int .i64 c_0.Amount]] := SH.ext hS9 hE14
  refine WL.runk 1 [1, 3] [(1, .pointer (some ⟨b2, 0, none⟩)), (3, .int .i64 x11)] (by kernel_rfl) ?_
  refine WL.nil ?_
  refine WQ.then_normal (hK10 _ _ _ ?_)
  refine WP.seq (fun K19 hK19 => ?_)
  obtain ⟨x30, hx31, hm⟩ := bindE hm
  refine WP.cut (fun env' w' => env' = [(2, .bool x30)] ∧ Ext w w' ∧ w.heap.size ≤ w'.heap.size ∧ SH w' w.heap.size [aBox 42 b2 [.int .i64 c_0.Kind, .int .i64 c_0.Amount]]) ?_ ?_
  · have hm := hx31; clear hx31
    refine WP.region ?_
    refine WL.runk 3 [1, 3, 9] [(1, .pointer (some ⟨b2, 0, none⟩)), (3, .int .i64 x11), (9, .bool (decide (x11 > 0)))] (by kernel_rfl) ?_
    refine WL.case (decide (x11 > 0)) [9] ⟨rfl, trivial⟩ (fun hc32 => ?_) (fun hc32 => ?_)
    · have hm := iteT hm hc32
      refine WL.runk 1 [1, 3, 9, 10] [(1, .pointer (some ⟨b2, 0, none⟩)), (3, .int .i64 x11), (9, .bool true), (10, .pointer (some ⟨b2, 1, none⟩))] (by kernel_rfl) ?_
      refine WL.st (.int .i64 c_0.Amount) (ST.load (cell_ext (SH.boxAt (SH.front 0 hS18) 1 _ rfl)) rfl rfl Try.underlying2 rfl) rfl rfl rfl ?_
      refine WL.runk 3 [1, 3, 14] [(1, .pointer (some ⟨b2, 0, none⟩)), (3, .int .i64 x11), (14, .bool (c_0.Amount != 0))] (by kernel_rfl) ?_
      refine WL.case (c_0.Amount != 0) [14] ⟨rfl, trivial⟩ (fun hc33 => ?_) (fun hc33 => ?_)
      · have hm := iteT hm hc33
        refine WL.runk 1 [3, 14, 15] [(3, .int .i64 x11), (14, .bool true), (15, .pointer (some ⟨b2, 1, none⟩))] (by kernel_rfl) ?_
        refine WL.st (.int .i64 c_0.Amount) (ST.load (cell_ext (SH.boxAt (SH.front 0 hS18) 1 _ rfl)) rfl rfl Try.underlying2 rfl) rfl rfl rfl ?_
        refine WL.runk 3 [14, 16, 18, 19] [(14, .bool true), (16, .int .i64 c_0.Amount), (18, .int .i64 (wI64 (0 - x11))), (19, .int .i64 x11)] (by kernel_rfl) ?_
        obtain ⟨x34, hx35, hm⟩ := bindE hm
        refine WL.call 66 #[.int .i64 c_0.Amount, .int .i64 (wI64 (0 - x11)), .int .i64 x11] rfl rfl (by kernel_rfl) (c_66 n c_0.Amount (wI64 (0 - x11)) x11 w13 hx35 ) ?_
        rintro _ w36 ⟨rfl, hE37⟩
        refine ⟨_, rfl, ?_⟩
        have hb39 : Ext w w36 := Ext.trans hb16 hE37
        have hL40 : w.heap.size ≤ w36.heap.size := Nat.le_trans hL17 hE37.size
        have hS41 : SH w36 w.heap.size [aBox 42 b2 [.int .i64 c_0.Kind, .int .i64 c_0.Amount]] := SH.ext hS18 hE37
        refine WL.runk 2 [2] [(2, .bool x34)] (by kernel_rfl) ?_
        refine WL.nil ?_
        obtain rfl := Option.some.inj hm
        exact WQ.post' ⟨rfl, hb39, hL40, hS41⟩ ⟨rfl, trivial⟩
      · have hm := iteF hm hc33
        refine WL.runk 8 [2] [(2, .bool false)] (by kernel_rfl) ?_
        refine WL.nil ?_
        obtain rfl := Option.some.inj hm
        exact WQ.post' ⟨rfl, hb16, hL17, hS18⟩ ⟨rfl, trivial⟩
    · have hm := iteF hm hc32
      refine WL.runk 13 [2] [(2, .bool false)] (by kernel_rfl) ?_
      refine WL.nil ?_
      obtain rfl := Option.some.inj hm
      exact WQ.post' ⟨rfl, hb16, hL17, hS18⟩ ⟨rfl, trivial⟩
  · clear hx31
    rintro _ w42 ⟨rfl, hb43, hL44, hS45⟩
    refine WQ.then_normal (hK19 _ _ _ ?_)
    refine WP.ret ?_
    obtain rfl := Option.some.inj hm
    exact WQ.ret1 _ rfl rfl ⟨rfl, hb43⟩

end Go.Proofs.Ytlplbjeegkkilaa
