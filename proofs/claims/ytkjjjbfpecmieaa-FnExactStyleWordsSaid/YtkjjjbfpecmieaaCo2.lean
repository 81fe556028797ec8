/- Each call does what its Lean function says. -/
import Derived.Test.YtkjjjbfpecmieaaCo1
set_option maxRecDepth 20000
namespace Go.Proofs.Ytkjjjbfpecmieaa
open Go Go.Gv Go.RowKit

theorem c_19 (n : Nat) (k_0 : Int) (w : World) {r : List UInt8} (hm : m_laws_markText n k_0 = some r)  :
    CallV Try.prog 19 #[.int .i64 k_0] w (fun v w' => v = .string (bs r) ∧ Ext w w') := by
  unfold m_laws_markText at hm
  refine CallV.enter Try.func19 rfl (by kernel_rfl) Try.ntmps19 (env := [(0, .int .i64 k_0)]) ⟨rfl, trivial⟩ ?_
  refine WP.seq (fun K1 hK1 => ?_)
  refine WP.region ?_
  refine WL.runk 1 [0] [(0, .int .i64 k_0)] (by kernel_rfl) ?_
  refine WL.nil ?_
  refine WQ.then_normal (hK1 _ _ _ ?_)
  refine WP.seq (fun K2 hK2 => ?_)
  refine WP.seq (fun K3 hK3 => ?_)
  refine WP.region ?_
  refine WL.runk 2 [0, 5] [(0, .int .i64 k_0), (5, .bool (decide (k_0 ≤ 0)))] (by kernel_rfl) ?_
  refine WL.nil ?_
  refine WQ.then_normal (hK3 _ _ _ ?_)
  refine WP.cond (decide (k_0 ≤ 0)) rfl rfl (fun hc4 => ?_) (fun hc4 => ?_)
  · have hm := iteT hm hc4
    refine WP.seq (fun K5 hK5 => ?_)
    refine WP.region ?_
    refine WL.runk 1 [2] [(2, .string (bs [109, 48]))] (by kernel_rfl) ?_
    refine WL.nil ?_
    refine WQ.then_normal (hK5 _ _ _ ?_)
    refine WP.ret ?_
    refine WQ.then_ret ?_
    obtain rfl := Option.some.inj hm
    exact WQ.ret1 _ rfl rfl ⟨rfl, (Ext.refl w)⟩
  · have hm := iteF hm hc4
    refine WP.skip ?_
    refine WQ.then_normal (hK2 _ _ _ ?_)
    refine WP.seq (fun K6 hK6 => ?_)
    refine WP.region ?_
    refine WL.runk 1 [0, 3] [(0, .int .i64 k_0), (3, .string (bs []))] (by kernel_rfl) ?_
    refine WL.nil ?_
    refine WQ.then_normal (hK6 _ _ _ ?_)
    refine WP.seq (fun K7 hK7 => ?_)
    refine WP.block ?_
    obtain ⟨t19, ht20, hm⟩ := bindE hm
    have hmo14 := hm; clear hm
    refine WP.sub [(0, .int .i64 k_0), (3, .string (bs []))] ⟨rfl, rfl, trivial⟩ ?_
    refine WP.loop (fun n' env' w' => ∃ (st8 : Int × List UInt8) , env' = [(0, .int .i64 st8.1), (3, .string (bs st8.2))] ∧ Ext w w' ∧ w.heap.size ≤ w'.heap.size ∧ SH w' w.heap.size [] ∧ loopN (m_laws_markText_l1 n) n' st8 = some t19) n ⟨(k_0, []), rfl, (Ext.refl w), (Nat.le_refl _), (SH.nil _ _), ht20⟩ ?_
    rintro n16 _ w9 ⟨st8, rfl, hb10, hL11, hS12, hl13⟩ K15 hK15
    obtain ⟨n17, s18, rfl, hm, hl13⟩ := loopN_some hl13
    unfold m_laws_markText_l1 at hm
    refine WP.seq (fun K21 hK21 => ?_)
    refine WP.seq (fun K22 hK22 => ?_)
    refine WP.region ?_
    refine WL.runk 2 [0, 3, 7] [(0, .int .i64 st8.1), (3, .string (bs st8.2)), (7, .bool (decide (st8.1 > 0)))] (by kernel_rfl) ?_
    refine WL.nil ?_
    refine WQ.then_normal (hK22 _ _ _ ?_)
    refine WP.cond (decide (st8.1 > 0)) rfl rfl (fun hc23 => ?_) (fun hc23 => ?_)
    · have hm := iteT hm hc23
      refine WP.skip ?_
      refine WQ.then_normal (hK21 _ _ _ ?_)
      refine WP.block ?_
      refine WP.seq (fun K24 hK24 => ?_)
      refine WP.region ?_
      refine WL.runk 4 [0, 3, 11] [(0, .int .i64 st8.1), (3, .string (bs st8.2)), (11, .int .u8 (IntKind.u8.wrap (wI64 (48 + (Int.tmod st8.1 10)))))] (by kernel_rfl) ?_
      refine WL.row fU8 5 ([(IntKind.u8.wrap (wI64 (48 + (Int.tmod st8.1 10))))] : List Int) 1 #[.int .u8 (IntKind.u8.wrap (wI64 (48 + (Int.tmod st8.1 10))))] 12 (by kernel_rfl) rfl rfl rfl rfl rfl rfl rfl ?_
      intro a25 c26 w27 hE28 hR29
      have hb31 : Ext w w27 := Ext.trans hb10 hE28
      have hL32 : w.heap.size ≤ w27.heap.size := Nat.le_trans hL11 hE28.size
      have hS33 : SH w27 w.heap.size [aOwn fU8 5 a25 c26 ([(IntKind.u8.wrap (wI64 (48 + (Int.tmod st8.1 10))))] : List Int)] := SH.add hS12 hE28 hL11 hR29
      refine WL.st (.string (bs (ofBytes ([(IntKind.u8.wrap (wI64 (48 + (Int.tmod st8.1 10))))] : List Int)))) (ST.b2s (SH.rd (SH.front 0 hS33)) (SH.le (SH.front 0 hS33)).2 rfl rfl Try.underlying42 Try.underlying9 Try.underlying5) rfl rfl rfl ?_
      refine WL.runk 1 [0, 13, 14] [(0, .int .i64 st8.1), (13, .string (bs (ofBytes ([(IntKind.u8.wrap (wI64 (48 + (Int.tmod st8.1 10))))] : List Int)))), (14, .string (bs st8.2))] (by kernel_rfl) ?_
      obtain ⟨x34, hx35, hm⟩ := bindE hm
      refine WL.st (.string (bs x34)) (ST.cat hx35 rfl rfl rfl) rfl rfl rfl ?_
      refine WL.runk 1 [0, 3] [(0, .int .i64 st8.1), (3, .string (bs x34))] (by kernel_rfl) ?_
      refine WL.nil ?_
      refine WQ.then_normal (hK24 _ _ _ ?_)
      refine WP.region ?_
      refine WL.runk 3 [0, 3] [(0, .int .i64 (wI64 (Int.tdiv st8.1 10))), (3, .string (bs x34))] (by kernel_rfl) ?_
      refine WL.nil ?_
      refine WQ.block_normal ?_
      obtain rfl := Option.some.inj hm
      exact WQ.round hK15 ⟨((wI64 (Int.tdiv st8.1 10)), x34), rfl, hb31, hL32, (SH.take 0 hS33), hl13⟩ (Nat.lt_succ_self _) ⟨rfl, rfl, trivial⟩
    · have hm := iteF hm hc23
      refine WP.exit ?_
      refine WQ.then_exit ?_
      refine WQ.then_exit ?_
      refine WQ.block_here ?_
      obtain rfl := Option.some.inj hm
      obtain rfl := afterN_done hl13
      have hm := hmo14
      refine WQ.then_normal (hK7 _ _ _ ?_)
      refine WP.seq (fun K36 hK36 => ?_)
      refine WP.region ?_
      refine WL.runk 1 [18] [(18, .string (bs st8.2))] (by kernel_rfl) ?_
      obtain ⟨x37, hx38, hm⟩ := bindE hm
      refine WL.st (.string (bs x37)) (ST.cat hx38 rfl rfl rfl) rfl rfl rfl ?_
      refine WL.runk 1 [2] [(2, .string (bs x37))] (by kernel_rfl) ?_
      refine WL.nil ?_
      refine WQ.then_normal (hK36 _ _ _ ?_)
      refine WP.ret ?_
      obtain rfl := Option.some.inj hm
      exact WQ.ret1 _ rfl rfl ⟨rfl, hb10⟩

theorem c_11 (n : Nat) (a_0 : List (List UInt8)) (a0' : Option Addr) (c0' : Nat) (k_1 : Int) (w : World) (w0 : World) (B : Nat) (L : List Asrt) {r : Int × List (List UInt8)} (hm : m_laws_markStringS n a_0 k_1 = some r) (hE0 : Ext w0 w) (hW : w0.heap.size ≤ B) (hL : B ≤ w.heap.size) (hS : SH w B (aOwn fStr 9 a0' c0' a_0 :: L)) :
    CallV Try.prog 11 #[.slice a0' a_0.length c0', .int .i64 k_1] w (fun v w' => v = .int .i64 r.1 ∧ Below B w w' ∧ SH w' B (aOwn fStr 9 a0' c0' r.2 :: L) ∧ r.2.length = a_0.length) := by
  unfold m_laws_markStringS at hm
  refine CallV.enter Try.func11 rfl (by kernel_rfl) Try.ntmps11 (env := [(0, .slice a0' a_0.length c0'), (1, .int .i64 k_1)]) ⟨rfl, rfl, trivial⟩ ?_
  refine WP.seq (fun K1 hK1 => ?_)
  refine WP.region ?_
  refine WL.runk 1 [0, 1] [(0, .slice a0' a_0.length c0'), (1, .int .i64 k_1)] (by kernel_rfl) ?_
  refine WL.nil ?_
  refine WQ.then_normal (hK1 _ _ _ ?_)
  refine WP.seq (fun K2 hK2 => ?_)
  refine WP.seq (fun K3 hK3 => ?_)
  refine WP.region ?_
  refine WL.runk 1 [0, 1, 5] [(0, .slice a0' a_0.length c0'), (1, .int .i64 k_1), (5, .int .i64 0)] (by kernel_rfl) ?_
  refine WL.nil ?_
  refine WQ.then_normal (hK3 _ _ _ ?_)
  refine WP.block ?_
  obtain ⟨t50, ht51, hm⟩ := bindE hm
  have hmo45 := hm; clear hm
  refine WP.sub [(0, .slice a0' a_0.length c0'), (1, .int .i64 k_1), (5, .int .i64 0)] ⟨rfl, rfl, rfl, trivial⟩ ?_
  refine WP.loop (fun n' env' w' => ∃ (st39 : Int × Int × List (List UInt8)) , env' = [(0, .slice a0' st39.2.2.length c0'), (1, .int .i64 st39.1), (5, .int .i64 st39.2.1)] ∧ Below B w w' ∧ B ≤ w'.heap.size ∧ SH w' B (aOwn fStr 9 a0' c0' st39.2.2 :: L) ∧ st39.2.2.length = a_0.length ∧ loopN (m_laws_markStringS_l1 n) n' st39 = some t50) n ⟨(k_1, 0, a_0), rfl, (Below.refl _ _), hL, hS, rfl, ht51⟩ ?_
  rintro n47 _ w40 ⟨st39, rfl, hb41, hL42, hS43, hn52, hl44⟩ K46 hK46
  obtain ⟨n48, s49, rfl, hm, hl44⟩ := loopN_some hl44
  unfold m_laws_markStringS_l1 at hm
  refine WP.seq (fun K53 hK53 => ?_)
  refine WP.seq (fun K54 hK54 => ?_)
  refine WP.region ?_
  refine WL.runk 4 [0, 1, 5, 9] [(0, .slice a0' st39.2.2.length c0'), (1, .int .i64 st39.1), (5, .int .i64 st39.2.1), (9, .bool (decide (st39.2.1 < (st39.2.2.length : Int))))] (by kernel_rfl) ?_
  refine WL.nil ?_
  refine WQ.then_normal (hK54 _ _ _ ?_)
  refine WP.cond (decide (st39.2.1 < (st39.2.2.length : Int))) rfl rfl (fun hc55 => ?_) (fun hc55 => ?_)
  · have hm := iteT hm hc55
    refine WP.skip ?_
    refine WQ.then_normal (hK53 _ _ _ ?_)
    refine WP.seq (fun K56 hK56 => ?_)
    refine WP.block ?_
    refine WP.seq (fun K57 hK57 => ?_)
    refine WP.region ?_
    refine WL.runk 3 [0, 1, 5, 12, 13, 14] [(0, .slice a0' st39.2.2.length c0'), (1, .int .i64 st39.1), (5, .int .i64 st39.2.1), (12, .slice a0' st39.2.2.length c0'), (13, .int .i64 st39.2.1), (14, .int .i64 st39.1)] (by kernel_rfl) ?_
    obtain ⟨x58, hx59, hm⟩ := bindE hm
    refine WL.call 19 #[.int .i64 st39.1] rfl rfl (by kernel_rfl) (c_19 n st39.1 w40 hx59 ) ?_
    rintro _ w60 ⟨rfl, hE61⟩
    refine ⟨_, rfl, ?_⟩
    have hb63 : Below B w w60 := Below.trans hb41 (Below.mono hE61 hL42)
    have hL64 : B ≤ w60.heap.size := Nat.le_trans hL42 hE61.size
    have hS65 : SH w60 B (aOwn fStr 9 a0' c0' st39.2.2 :: L) := SH.ext hS43 hE61
    obtain ⟨x66, hx67, hm⟩ := bindE hm
    refine WL.st (.pointer (some (at_ a0' (Int.toNat st39.2.1 * 1)))) (ST.index (T := fStr.ty) (xs := st39.2.2) (SH.rd (SH.front 0 hS65)) hx67 rfl rfl rfl Try.underlying24 (info9).1 (info9).2.1) rfl rfl rfl ?_
    refine WL.store (F := fStr) x58 0 [.string (bs x58)] (SH.front 0 hS65) hL64 hx67 rfl rfl rfl rfl rfl rfl rfl (info9).1 (info9).2.1 rfl rfl rfl ?_
    intro w68 hB69 hS70
    have hb71 : Below B w w68 := Below.trans hb63 hB69
    have hL72 : B ≤ w68.heap.size := Nat.le_trans hL64 hB69.size
    refine WL.sub [(0, .slice a0' ((st39.2.2.set (Int.toNat st39.2.1) x58).length) c0'), (1, .int .i64 st39.1), (5, .int .i64 st39.2.1), (12, .slice a0' ((st39.2.2.set (Int.toNat st39.2.1) x58).length) c0'), (13, .int .i64 st39.2.1), (14, .int .i64 st39.1), (15, .string (bs x58))] ⟨by rw [List.length_set]; rfl, rfl, rfl, by rw [List.length_set]; rfl, rfl, rfl, rfl, trivial⟩ ?_
    have hn73 : (st39.2.2.set (Int.toNat st39.2.1) x58).length = a_0.length := by rw [List.length_set]; exact hn52
    refine WL.sub [(0, .slice a0' ((st39.2.2.set (Int.toNat st39.2.1) x58).length) c0'), (1, .int .i64 st39.1), (5, .int .i64 st39.2.1)] ⟨rfl, rfl, rfl, trivial⟩ ?_
    refine WL.nil ?_
    refine WQ.then_normal (hK57 _ _ _ ?_)
    refine WP.region ?_
    refine WL.runk 3 [0, 1, 5] [(0, .slice a0' ((st39.2.2.set (Int.toNat st39.2.1) x58).length) c0'), (1, .int .i64 (wI64 (st39.1 + 1))), (5, .int .i64 st39.2.1)] (by kernel_rfl) ?_
    refine WL.nil ?_
    refine WQ.block_normal ?_
    refine WQ.then_normal (hK56 _ _ _ ?_)
    refine WP.region ?_
    refine WL.runk 3 [0, 1, 5] [(0, .slice a0' ((st39.2.2.set (Int.toNat st39.2.1) x58).length) c0'), (1, .int .i64 (wI64 (st39.1 + 1))), (5, .int .i64 (wI64 (st39.2.1 + 1)))] (by kernel_rfl) ?_
    refine WL.nil ?_
    obtain rfl := Option.some.inj hm
    exact WQ.round hK46 ⟨((wI64 (st39.1 + 1)), (wI64 (st39.2.1 + 1)), (st39.2.2.set (Int.toNat st39.2.1) x58)), rfl, hb71, hL72, hS70, hn73, hl44⟩ (Nat.lt_succ_self _) ⟨rfl, rfl, rfl, trivial⟩
  · have hm := iteF hm hc55
    refine WP.exit ?_
    refine WQ.then_exit ?_
    refine WQ.then_exit ?_
    refine WQ.block_here ?_
    obtain rfl := Option.some.inj hm
    obtain rfl := afterN_done hl44
    have hm := hmo45
    refine WQ.then_normal (hK2 _ _ _ ?_)
    refine WP.seq (fun K74 hK74 => ?_)
    refine WP.region ?_
    refine WL.runk 2 [4] [(4, .int .i64 st39.1)] (by kernel_rfl) ?_
    refine WL.nil ?_
    refine WQ.then_normal (hK74 _ _ _ ?_)
    refine WP.ret ?_
    obtain rfl := Option.some.inj hm
    exact WQ.ret1 _ rfl rfl ⟨rfl, hb41, hS43, hn52⟩

theorem c_12 (n : Nat) (a_0 : List (List UInt8)) (a0' : Option Addr) (c0' : Nat) (k_1 : Int) (w : World) {r : Int} (hm : m_laws_heldStringS n a_0 k_1 = some r) (h0 : Rd fStr.ty w a0' a_0) (hle0 : a_0.length ≤ c0') :
    CallV Try.prog 12 #[.slice a0' a_0.length c0', .int .i64 k_1] w (fun v w' => v = .int .i64 r ∧ Ext w w') := by
  unfold m_laws_heldStringS at hm
  refine CallV.enter Try.func12 rfl (by kernel_rfl) Try.ntmps12 (env := [(0, .slice a0' a_0.length c0'), (1, .int .i64 k_1)]) ⟨rfl, rfl, trivial⟩ ?_
  refine WP.seq (fun K1 hK1 => ?_)
  refine WP.region ?_
  refine WL.runk 1 [0, 1] [(0, .slice a0' a_0.length c0'), (1, .int .i64 k_1)] (by kernel_rfl) ?_
  refine WL.nil ?_
  refine WQ.then_normal (hK1 _ _ _ ?_)
  refine WP.seq (fun K2 hK2 => ?_)
  refine WP.seq (fun K3 hK3 => ?_)
  refine WP.region ?_
  refine WL.runk 1 [0, 1, 5] [(0, .slice a0' a_0.length c0'), (1, .int .i64 k_1), (5, .int .i64 0)] (by kernel_rfl) ?_
  refine WL.nil ?_
  refine WQ.then_normal (hK3 _ _ _ ?_)
  refine WP.block ?_
  obtain ⟨t15, ht16, hm⟩ := bindE hm
  have hmo10 := hm; clear hm
  refine WP.sub [(0, .slice a0' a_0.length c0'), (1, .int .i64 k_1), (5, .int .i64 0)] ⟨rfl, rfl, rfl, trivial⟩ ?_
  refine WP.loop (fun n' env' w' => ∃ (st4 : Int × Int) , env' = [(0, .slice a0' a_0.length c0'), (1, .int .i64 st4.1), (5, .int .i64 st4.2)] ∧ Ext w w' ∧ w.heap.size ≤ w'.heap.size ∧ SH w' w.heap.size [] ∧ loopN (m_laws_heldStringS_l1 n a_0) n' st4 = some t15) n ⟨(k_1, 0), rfl, (Ext.refl w), (Nat.le_refl _), (SH.nil _ _), ht16⟩ ?_
  rintro n12 _ w5 ⟨st4, rfl, hb6, hL7, hS8, hl9⟩ K11 hK11
  obtain ⟨n13, s14, rfl, hm, hl9⟩ := loopN_some hl9
  unfold m_laws_heldStringS_l1 at hm
  refine WP.seq (fun K17 hK17 => ?_)
  refine WP.seq (fun K18 hK18 => ?_)
  refine WP.region ?_
  refine WL.runk 4 [0, 1, 5, 9] [(0, .slice a0' a_0.length c0'), (1, .int .i64 st4.1), (5, .int .i64 st4.2), (9, .bool (decide (st4.2 < (a_0.length : Int))))] (by kernel_rfl) ?_
  refine WL.nil ?_
  refine WQ.then_normal (hK18 _ _ _ ?_)
  refine WP.cond (decide (st4.2 < (a_0.length : Int))) rfl rfl (fun hc19 => ?_) (fun hc19 => ?_)
  · have hm := iteT hm hc19
    refine WP.skip ?_
    refine WQ.then_normal (hK17 _ _ _ ?_)
    refine WP.seq (fun K20 hK20 => ?_)
    refine WP.block ?_
    refine WP.seq (fun K21 hK21 => ?_)
    refine WP.seq (fun K22 hK22 => ?_)
    refine WP.quiet (by kernel_rfl) (by kernel_rfl) ?_
    refine QL.step1 rfl (env' := [(0, .slice a0' a_0.length c0'), (1, .int .i64 st4.1), (5, .int .i64 st4.2), (9, .bool (decide (st4.2 < (a_0.length : Int)))), (12, .slice a0' a_0.length c0')]) (fun _ => by kernel_rfl) ?_
    refine QL.sub [(0, .slice a0' a_0.length c0'), (1, .int .i64 st4.1), (5, .int .i64 st4.2), (12, .slice a0' a_0.length c0')] ⟨rfl, rfl, rfl, rfl, trivial⟩ ?_
    refine QL.step1 rfl (env' := [(0, .slice a0' a_0.length c0'), (1, .int .i64 st4.1), (5, .int .i64 st4.2), (12, .slice a0' a_0.length c0'), (13, .int .i64 st4.2)]) (fun _ => by kernel_rfl) ?_
    obtain ⟨x23, hx24, hm⟩ := bindE hm
    refine QL.st (.pointer (some (at_ a0' (Int.toNat st4.2 * 1)))) (ST.index (T := fStr.ty) (xs := a_0) (Rd.below h0 hb6) hx24 rfl rfl rfl Try.underlying24 (info9).1 (info9).2.1) rfl rfl rfl ?_
    refine QL.st (.string (bs x23)) (ST.load (cell_ext (Rd.flat (F := fStr) (Rd.below h0 hb6) hx24 0 rfl)) rfl rfl Try.underlying9 rfl) rfl rfl rfl ?_
    refine QL.step1 rfl (env' := [(0, .slice a0' a_0.length c0'), (1, .int .i64 st4.1), (5, .int .i64 st4.2), (12, .slice a0' a_0.length c0'), (13, .int .i64 st4.2), (14, .pointer (some (at_ a0' (Int.toNat st4.2 * 1)))), (15, .string (bs x23)), (16, .int .i64 st4.1)]) (fun _ => by kernel_rfl) ?_
    refine QL.sub [(0, .slice a0' a_0.length c0'), (1, .int .i64 st4.1), (5, .int .i64 st4.2), (15, .string (bs x23)), (16, .int .i64 st4.1)] ⟨rfl, rfl, rfl, rfl, rfl, trivial⟩ ?_
    obtain ⟨x25, hx26, hm⟩ := bindE hm
    refine QL.call 19 #[.int .i64 st4.1] (.string (bs x25)) (fun _ => by kernel_rfl) (fun w27 hE28 => c_19 n st4.1 w27 hx26 ) rfl rfl rfl ?_
    refine QL.st (.bool (!(x23 == x25))) (ST.strne (x := x23) (y := x25) rfl rfl rfl) rfl rfl rfl ?_
    refine QL.sub [(0, .slice a0' a_0.length c0'), (1, .int .i64 st4.1), (5, .int .i64 st4.2), (18, .bool (!(x23 == x25)))] ⟨rfl, rfl, rfl, rfl, trivial⟩ ?_
    refine QL.nil ?_
    intro w29 hE30
    have hb31 : Ext w w29 := Ext.trans hb6 hE30
    have hL32 : w.heap.size ≤ w29.heap.size := Nat.le_trans hL7 hE30.size
    have hS33 : SH w29 w.heap.size [] := SH.ext hS8 hE30
    refine WQ.then_normal (hK22 _ _ _ ?_)
    refine WP.cond (!(x23 == x25)) rfl rfl (fun hc34 => ?_) (fun hc34 => ?_)
    · have hm := iteT hm hc34
      refine WP.seq (fun K35 hK35 => ?_)
      refine WP.region ?_
      refine WL.runk 1 [4] [(4, .int .i64 (-1))] (by kernel_rfl) ?_
      refine WL.nil ?_
      refine WQ.then_normal (hK35 _ _ _ ?_)
      refine WP.ret ?_
      refine WQ.then_ret ?_
      refine WQ.block_ret ?_
      refine WQ.then_ret ?_
      refine WQ.then_ret ?_
      refine WQ.block_ret ?_
      refine WQ.then_ret ?_
      obtain rfl := Option.some.inj hm
      obtain rfl := afterN_done hl9
      have hm := hmo10
      obtain rfl := Option.some.inj hm
      exact WQ.ret1 _ rfl rfl ⟨rfl, hb31⟩
    · have hm := iteF hm hc34
      refine WP.skip ?_
      refine WQ.then_normal (hK21 _ _ _ ?_)
      refine WP.region ?_
      refine WL.runk 3 [0, 1, 5] [(0, .slice a0' a_0.length c0'), (1, .int .i64 (wI64 (st4.1 + 1))), (5, .int .i64 st4.2)] (by kernel_rfl) ?_
      refine WL.nil ?_
      refine WQ.block_normal ?_
      refine WQ.then_normal (hK20 _ _ _ ?_)
      refine WP.region ?_
      refine WL.runk 3 [0, 1, 5] [(0, .slice a0' a_0.length c0'), (1, .int .i64 (wI64 (st4.1 + 1))), (5, .int .i64 (wI64 (st4.2 + 1)))] (by kernel_rfl) ?_
      refine WL.nil ?_
      obtain rfl := Option.some.inj hm
      exact WQ.round hK11 ⟨((wI64 (st4.1 + 1)), (wI64 (st4.2 + 1))), rfl, hb31, hL32, hS33, hl9⟩ (Nat.lt_succ_self _) ⟨rfl, rfl, rfl, trivial⟩
  · have hm := iteF hm hc19
    refine WP.exit ?_
    refine WQ.then_exit ?_
    refine WQ.then_exit ?_
    refine WQ.block_here ?_
    obtain rfl := Option.some.inj hm
    obtain rfl := afterN_done hl9
    have hm := hmo10
    refine WQ.then_normal (hK2 _ _ _ ?_)
    refine WP.seq (fun K36 hK36 => ?_)
    refine WP.region ?_
    refine WL.runk 2 [4] [(4, .int .i64 st4.1)] (by kernel_rfl) ?_
    refine WL.nil ?_
    refine WQ.then_normal (hK36 _ _ _ ?_)
    refine WP.ret ?_
    obtain rfl := Option.some.inj hm
    exact WQ.ret1 _ rfl rfl ⟨rfl, hb6⟩

theorem c_4 (n : Nat)  (w : World) {r : Bool} (hm : m_laws_FnExactStyleWords n  = some r)  :
    CallV Try.prog 4 #[] w (fun v w' => v = .bool r ∧ Ext w w') := by
  unfold m_laws_FnExactStyleWords at hm
  refine CallV.enter Try.func4 rfl (by kernel_rfl) Try.ntmps4 (env := []) trivial ?_
  refine WP.seq (fun K1 hK1 => ?_)
  refine WP.region ?_
  refine WL.runk 1 [] [] (by kernel_rfl) ?_
  refine WL.nil ?_
  refine WQ.then_normal (hK1 _ _ _ ?_)
  refine WP.seq (fun K2 hK2 => ?_)
  refine WP.region ?_
  obtain ⟨x3, hx4, hm⟩ := bindE hm
  refine WL.call 8 #[] rfl rfl (by kernel_rfl) (c_8 n  w hx4 ) ?_
  rintro _ w8 ⟨a5, c6, rfl, hE9, hR10⟩
  refine ⟨_, rfl, ?_⟩
  have hb11 : Ext w w8 := Ext.trans (Ext.refl w) hE9
  have hL12 : w.heap.size ≤ w8.heap.size := Nat.le_trans (Nat.le_refl _) hE9.size
  have hS13 : SH w8 w.heap.size [aOwn fStr 9 a5 c6 x3] := SH.add (SH.nil _ _) hE9 (Nat.le_refl _) hR10
  refine WL.runk 1 [1] [(1, .slice a5 x3.length c6)] (by kernel_rfl) ?_
  refine WL.nil ?_
  refine WQ.then_normal (hK2 _ _ _ ?_)
  refine WP.seq (fun K14 hK14 => ?_)
  refine WP.region ?_
  obtain ⟨x15, hx16, hm⟩ := bindE hm
  refine WL.call 9 #[] rfl rfl (by kernel_rfl) (c_9 n  w8 hx16 ) ?_
  rintro _ w20 ⟨a17, c18, rfl, hE21, hR22⟩
  refine ⟨_, rfl, ?_⟩
  have hb23 : Ext w w20 := Ext.trans hb11 hE21
  have hL24 : w.heap.size ≤ w20.heap.size := Nat.le_trans hL12 hE21.size
  have hS25 : SH w20 w.heap.size [aOwn fStr 9 a17 c18 x15, aOwn fStr 9 a5 c6 x3] := SH.add hS13 hE21 hL12 hR22
  refine WL.runk 1 [1, 2] [(1, .slice a5 x3.length c6), (2, .slice a17 x15.length c18)] (by kernel_rfl) ?_
  refine WL.nil ?_
  refine WQ.then_normal (hK14 _ _ _ ?_)
  refine WP.seq (fun K26 hK26 => ?_)
  refine WP.seq (fun K27 hK27 => ?_)
  refine WP.region ?_
  refine WL.runk 2 [1, 2, 8, 9] [(1, .slice a5 x3.length c6), (2, .slice a17 x15.length c18), (8, .slice a17 x15.length c18), (9, .slice a5 x3.length c6)] (by kernel_rfl) ?_
  obtain ⟨x28, hx29, hm⟩ := bindE hm
  refine WL.call 10 #[.slice a17 x15.length c18, .slice a5 x3.length c6] rfl rfl (by kernel_rfl) (c_10 n x15 a17 c18 x3 a5 c6 w20 hx29 (SH.rd (SH.front 0 hS25)) (SH.le (SH.front 0 hS25)).1 (SH.rd (SH.front 1 hS25)) (SH.le (SH.front 1 hS25)).1) ?_
  rintro _ w30 ⟨rfl, hE31⟩
  refine ⟨_, rfl, ?_⟩
  have hb33 : Ext w w30 := Ext.trans hb23 hE31
  have hL34 : w.heap.size ≤ w30.heap.size := Nat.le_trans hL24 hE31.size
  have hS35 : SH w30 w.heap.size [aOwn fStr 9 a17 c18 x15, aOwn fStr 9 a5 c6 x3] := SH.ext hS25 hE31
  refine WL.runk 1 [1, 2, 11] [(1, .slice a5 x3.length c6), (2, .slice a17 x15.length c18), (11, .bool (!x28))] (by kernel_rfl) ?_
  refine WL.nil ?_
  refine WQ.then_normal (hK27 _ _ _ ?_)
  refine WP.cond (!x28) rfl rfl (fun hc36 => ?_) (fun hc36 => ?_)
  · have hm := iteT hm hc36
    refine WP.seq (fun K37 hK37 => ?_)
    refine WP.region ?_
    refine WL.runk 1 [0] [(0, .bool false)] (by kernel_rfl) ?_
    refine WL.nil ?_
    refine WQ.then_normal (hK37 _ _ _ ?_)
    refine WP.ret ?_
    refine WQ.then_ret ?_
    obtain rfl := Option.some.inj hm
    exact WQ.ret1 _ rfl rfl ⟨rfl, hb33⟩
  · have hm := iteF hm hc36
    refine WP.skip ?_
    refine WQ.then_normal (hK26 _ _ _ ?_)
    refine WP.seq (fun K38 hK38 => ?_)
    refine WP.region ?_
    refine WL.runk 1 [1, 2, 3] [(1, .slice a5 x3.length c6), (2, .slice a17 x15.length c18), (3, .int .i64 1)] (by kernel_rfl) ?_
    refine WL.nil ?_
    refine WQ.then_normal (hK38 _ _ _ ?_)
    refine WP.seq (fun K39 hK39 => ?_)
    refine WP.region ?_
    refine WL.runk 2 [1, 2, 12, 13] [(1, .slice a5 x3.length c6), (2, .slice a17 x15.length c18), (12, .slice a17 x15.length c18), (13, .int .i64 1)] (by kernel_rfl) ?_
    obtain ⟨x40, hx41, hm⟩ := bindE hm
    refine WL.call 11 #[.slice a17 x15.length c18, .int .i64 1] rfl rfl (by kernel_rfl) (c_11 n x15 a17 c18 1 w30 w w.heap.size [aOwn fStr 9 a5 c6 x3] hx41 hb33 (Nat.le_refl _) hL34  hS35) ?_
    rintro _ w42 ⟨rfl, hB46, hS45, hlen47⟩
    refine ⟨_, rfl, ?_⟩
    have hb48 : Ext w w42 := Below.trans hb33 hB46
    have hL49 : w.heap.size ≤ w42.heap.size := Nat.le_trans hL34 hB46.size
    refine WL.sub [(1, .slice a5 x3.length c6), (2, .slice a17 x40.2.length c18), (12, .slice a17 x40.2.length c18), (13, .int .i64 1), (14, .int .i64 x40.1)] ⟨rfl, by rw [hlen47]; rfl, by rw [hlen47]; rfl, rfl, rfl, trivial⟩ ?_
    refine WL.runk 1 [1, 2, 3] [(1, .slice a5 x3.length c6), (2, .slice a17 x40.2.length c18), (3, .int .i64 x40.1)] (by kernel_rfl) ?_
    refine WL.nil ?_
    refine WQ.then_normal (hK39 _ _ _ ?_)
    refine WP.seq (fun K50 hK50 => ?_)
    refine WP.region ?_
    refine WL.runk 1 [1, 2, 3, 4] [(1, .slice a5 x3.length c6), (2, .slice a17 x40.2.length c18), (3, .int .i64 x40.1), (4, .int .i64 1)] (by kernel_rfl) ?_
    refine WL.nil ?_
    refine WQ.then_normal (hK50 _ _ _ ?_)
    refine WP.seq (fun K51 hK51 => ?_)
    refine WP.region ?_
    refine WL.runk 2 [1, 2, 3, 15, 16] [(1, .slice a5 x3.length c6), (2, .slice a17 x40.2.length c18), (3, .int .i64 x40.1), (15, .slice a17 x40.2.length c18), (16, .int .i64 1)] (by kernel_rfl) ?_
    obtain ⟨x52, hx53, hm⟩ := bindE hm
    refine WL.call 12 #[.slice a17 x40.2.length c18, .int .i64 1] rfl rfl (by kernel_rfl) (c_12 n x40.2 a17 c18 1 w42 hx53 (SH.rd (SH.front 0 hS45)) (SH.le (SH.front 0 hS45)).1) ?_
    rintro _ w54 ⟨rfl, hE55⟩
    refine ⟨_, rfl, ?_⟩
    have hb57 : Ext w w54 := Ext.trans hb48 hE55
    have hL58 : w.heap.size ≤ w54.heap.size := Nat.le_trans hL49 hE55.size
    have hS59 : SH w54 w.heap.size [aOwn fStr 9 a17 c18 x40.2, aOwn fStr 9 a5 c6 x3] := SH.ext hS45 hE55
    refine WL.runk 1 [1, 2, 3, 4] [(1, .slice a5 x3.length c6), (2, .slice a17 x40.2.length c18), (3, .int .i64 x40.1), (4, .int .i64 x52)] (by kernel_rfl) ?_
    refine WL.nil ?_
    refine WQ.then_normal (hK51 _ _ _ ?_)
    refine WP.seq (fun K60 hK60 => ?_)
    refine WP.seq (fun K61 hK61 => ?_)
    refine WP.region ?_
    refine WL.runk 2 [1, 2, 3, 4, 19] [(1, .slice a5 x3.length c6), (2, .slice a17 x40.2.length c18), (3, .int .i64 x40.1), (4, .int .i64 x52), (19, .bool (decide (x52 < 0)))] (by kernel_rfl) ?_
    refine WL.nil ?_
    refine WQ.then_normal (hK61 _ _ _ ?_)
    refine WP.cond (decide (x52 < 0)) rfl rfl (fun hc62 => ?_) (fun hc62 => ?_)
    · have hm := iteT hm hc62
      refine WP.seq (fun K63 hK63 => ?_)
      refine WP.region ?_
      refine WL.runk 1 [0] [(0, .bool false)] (by kernel_rfl) ?_
      refine WL.nil ?_
      refine WQ.then_normal (hK63 _ _ _ ?_)
      refine WP.ret ?_
      refine WQ.then_ret ?_
      obtain rfl := Option.some.inj hm
      exact WQ.ret1 _ rfl rfl ⟨rfl, hb57⟩
    · have hm := iteF hm hc62
      refine WP.skip ?_
      refine WQ.then_normal (hK60 _ _ _ ?_)
      refine WP.seq (fun K64 hK64 => ?_)
      refine WP.seq (fun K65 hK65 => ?_)
      refine WP.region ?_
      refine WL.runk 3 [1, 2, 3, 22] [(1, .slice a5 x3.length c6), (2, .slice a17 x40.2.length c18), (3, .int .i64 x40.1), (22, .bool (x52 != x40.1))] (by kernel_rfl) ?_
      refine WL.nil ?_
      refine WQ.then_normal (hK65 _ _ _ ?_)
      refine WP.cond (x52 != x40.1) rfl rfl (fun hc66 => ?_) (fun hc66 => ?_)
      · have hm := iteT hm hc66
        refine WP.seq (fun K67 hK67 => ?_)
        refine WP.region ?_
        refine WL.runk 1 [0] [(0, .bool false)] (by kernel_rfl) ?_
        refine WL.nil ?_
        refine WQ.then_normal (hK67 _ _ _ ?_)
        refine WP.ret ?_
        refine WQ.then_ret ?_
        obtain rfl := Option.some.inj hm
        exact WQ.ret1 _ rfl rfl ⟨rfl, hb57⟩
      · have hm := iteF hm hc66
        refine WP.skip ?_
        refine WQ.then_normal (hK64 _ _ _ ?_)
        refine WP.seq (fun K68 hK68 => ?_)
        refine WP.region ?_
        obtain ⟨x69, hx70, hm⟩ := bindE hm
        refine WL.call 9 #[] rfl rfl (by kernel_rfl) (c_9 n  w54 hx70 ) ?_
        rintro _ w74 ⟨a71, c72, rfl, hE75, hR76⟩
        refine ⟨_, rfl, ?_⟩
        have hb77 : Ext w w74 := Ext.trans hb57 hE75
        have hL78 : w.heap.size ≤ w74.heap.size := Nat.le_trans hL58 hE75.size
        have hS79 : SH w74 w.heap.size [aOwn fStr 9 a71 c72 x69, aOwn fStr 9 a17 c18 x40.2, aOwn fStr 9 a5 c6 x3] := SH.add hS59 hE75 hL58 hR76
        refine WL.runk 1 [1, 2, 3, 5] [(1, .slice a5 x3.length c6), (2, .slice a17 x40.2.length c18), (3, .int .i64 x40.1), (5, .slice a71 x69.length c72)] (by kernel_rfl) ?_
        refine WL.nil ?_
        refine WQ.then_normal (hK68 _ _ _ ?_)
        refine WP.seq (fun K80 hK80 => ?_)
        refine WP.seq (fun K81 hK81 => ?_)
        refine WP.region ?_
        refine WL.runk 2 [2, 3, 24, 25] [(2, .slice a17 x40.2.length c18), (3, .int .i64 x40.1), (24, .slice a71 x69.length c72), (25, .slice a5 x3.length c6)] (by kernel_rfl) ?_
        obtain ⟨x82, hx83, hm⟩ := bindE hm
        refine WL.call 10 #[.slice a71 x69.length c72, .slice a5 x3.length c6] rfl rfl (by kernel_rfl) (c_10 n x69 a71 c72 x3 a5 c6 w74 hx83 (SH.rd (SH.front 0 hS79)) (SH.le (SH.front 0 hS79)).1 (SH.rd (SH.front 2 hS79)) (SH.le (SH.front 2 hS79)).1) ?_
        rintro _ w84 ⟨rfl, hE85⟩
        refine ⟨_, rfl, ?_⟩
        have hb87 : Ext w w84 := Ext.trans hb77 hE85
        have hL88 : w.heap.size ≤ w84.heap.size := Nat.le_trans hL78 hE85.size
        have hS89 : SH w84 w.heap.size [aOwn fStr 9 a71 c72 x69, aOwn fStr 9 a17 c18 x40.2, aOwn fStr 9 a5 c6 x3] := SH.ext hS79 hE85
        refine WL.runk 1 [2, 3, 27] [(2, .slice a17 x40.2.length c18), (3, .int .i64 x40.1), (27, .bool (!x82))] (by kernel_rfl) ?_
        refine WL.nil ?_
        refine WQ.then_normal (hK81 _ _ _ ?_)
        refine WP.cond (!x82) rfl rfl (fun hc90 => ?_) (fun hc90 => ?_)
        · have hm := iteT hm hc90
          refine WP.seq (fun K91 hK91 => ?_)
          refine WP.region ?_
          refine WL.runk 1 [0] [(0, .bool false)] (by kernel_rfl) ?_
          refine WL.nil ?_
          refine WQ.then_normal (hK91 _ _ _ ?_)
          refine WP.ret ?_
          refine WQ.then_ret ?_
          obtain rfl := Option.some.inj hm
          exact WQ.ret1 _ rfl rfl ⟨rfl, hb87⟩
        · have hm := iteF hm hc90
          refine WP.skip ?_
          refine WQ.then_normal (hK80 _ _ _ ?_)
          refine WP.seq (fun K92 hK92 => ?_)
          refine WP.region ?_
          refine WL.runk 1 [2, 3, 4] [(2, .slice a17 x40.2.length c18), (3, .int .i64 x40.1), (4, .int .i64 1)] (by kernel_rfl) ?_
          refine WL.nil ?_
          refine WQ.then_normal (hK92 _ _ _ ?_)
          refine WP.seq (fun K93 hK93 => ?_)
          refine WP.region ?_
          refine WL.runk 2 [3, 28, 29] [(3, .int .i64 x40.1), (28, .slice a17 x40.2.length c18), (29, .int .i64 1)] (by kernel_rfl) ?_
          obtain ⟨x94, hx95, hm⟩ := bindE hm
          refine WL.call 12 #[.slice a17 x40.2.length c18, .int .i64 1] rfl rfl (by kernel_rfl) (c_12 n x40.2 a17 c18 1 w84 hx95 (SH.rd (SH.front 1 hS89)) (SH.le (SH.front 1 hS89)).1) ?_
          rintro _ w96 ⟨rfl, hE97⟩
          refine ⟨_, rfl, ?_⟩
          have hb99 : Ext w w96 := Ext.trans hb87 hE97
          have hL100 : w.heap.size ≤ w96.heap.size := Nat.le_trans hL88 hE97.size
          have hS101 : SH w96 w.heap.size [aOwn fStr 9 a71 c72 x69, aOwn fStr 9 a17 c18 x40.2, aOwn fStr 9 a5 c6 x3] := SH.ext hS89 hE97
          refine WL.runk 1 [3, 4] [(3, .int .i64 x40.1), (4, .int .i64 x94)] (by kernel_rfl) ?_
          refine WL.nil ?_
          refine WQ.then_normal (hK93 _ _ _ ?_)
          refine WP.seq (fun K102 hK102 => ?_)
          refine WP.seq (fun K103 hK103 => ?_)
          refine WP.region ?_
          refine WL.runk 2 [3, 4, 32] [(3, .int .i64 x40.1), (4, .int .i64 x94), (32, .bool (decide (x94 < 0)))] (by kernel_rfl) ?_
          refine WL.nil ?_
          refine WQ.then_normal (hK103 _ _ _ ?_)
          refine WP.cond (decide (x94 < 0)) rfl rfl (fun hc104 => ?_) (fun hc104 => ?_)
          · have hm := iteT hm hc104
            refine WP.seq (fun K105 hK105 => ?_)
            refine WP.region ?_
            refine WL.runk 1 [0] [(0, .bool false)] (by kernel_rfl) ?_
            refine WL.nil ?_
            refine WQ.then_normal (hK105 _ _ _ ?_)
            refine WP.ret ?_
            refine WQ.then_ret ?_
            obtain rfl := Option.some.inj hm
            exact WQ.ret1 _ rfl rfl ⟨rfl, hb99⟩
          · have hm := iteF hm hc104
            refine WP.skip ?_
            refine WQ.then_normal (hK102 _ _ _ ?_)
            refine WP.seq (fun K106 hK106 => ?_)
            refine WP.seq (fun K107 hK107 => ?_)
            refine WP.region ?_
            refine WL.runk 3 [35] [(35, .bool (x94 != x40.1))] (by kernel_rfl) ?_
            refine WL.nil ?_
            refine WQ.then_normal (hK107 _ _ _ ?_)
            refine WP.cond (x94 != x40.1) rfl rfl (fun hc108 => ?_) (fun hc108 => ?_)
            · have hm := iteT hm hc108
              refine WP.seq (fun K109 hK109 => ?_)
              refine WP.region ?_
              refine WL.runk 1 [0] [(0, .bool false)] (by kernel_rfl) ?_
              refine WL.nil ?_
              refine WQ.then_normal (hK109 _ _ _ ?_)
              refine WP.ret ?_
              refine WQ.then_ret ?_
              obtain rfl := Option.some.inj hm
              exact WQ.ret1 _ rfl rfl ⟨rfl, hb99⟩
            · have hm := iteF hm hc108
              refine WP.skip ?_
              refine WQ.then_normal (hK106 _ _ _ ?_)
              refine WP.seq (fun K110 hK110 => ?_)
              refine WP.region ?_
              refine WL.runk 1 [0] [(0, .bool true)] (by kernel_rfl) ?_
              refine WL.nil ?_
              refine WQ.then_normal (hK110 _ _ _ ?_)
              refine WP.ret ?_
              obtain rfl := Option.some.inj hm
              exact WQ.ret1 _ rfl rfl ⟨rfl, hb99⟩

theorem c_13 (n : Nat) (a_0 : SStyle) (left_1 : Int) (w : World) {r : Int} (hm : m_laws_szStyle n a_0 left_1 = some r)  :
    CallV Try.prog 13 #[.agg #[.string (bs a_0.Upper), .string (bs a_0.Color), .string (bs a_0.Lining), .string (bs a_0.Sole), .int .i64 a_0.Thick, .int .i64 a_0.Heel, .int .i64 a_0.Eyelets, .int .i64 a_0.Density, .bool a_0.Double], .int .i64 left_1] w (fun v w' => v = .int .i64 r ∧ Ext w w') := by
  unfold m_laws_szStyle at hm
  refine CallV.enter Try.func13 rfl (by kernel_rfl) Try.ntmps13 (env := [(0, .agg #[.string (bs a_0.Upper), .string (bs a_0.Color), .string (bs a_0.Lining), .string (bs a_0.Sole), .int .i64 a_0.Thick, .int .i64 a_0.Heel, .int .i64 a_0.Eyelets, .int .i64 a_0.Density, .bool a_0.Double]), (1, .int .i64 left_1)]) ⟨rfl, rfl, trivial⟩ ?_
  refine WP.seq (fun K1 hK1 => ?_)
  refine WP.region ?_
  refine WL.box 30 [.string (bs a_0.Upper), .string (bs a_0.Color), .string (bs a_0.Lining), .string (bs a_0.Sole), .int .i64 a_0.Thick, .int .i64 a_0.Heel, .int .i64 a_0.Eyelets, .int .i64 a_0.Density, .bool a_0.Double] 2 (by kernel_rfl) rfl rfl rfl rfl ?_
  intro b2 w3 hE4 hR5
  have hb7 : Ext w w3 := Ext.trans (Ext.refl w) hE4
  have hL8 : w.heap.size ≤ w3.heap.size := Nat.le_trans (Nat.le_refl _) hE4.size
  have hS9 : SH w3 w.heap.size [aBox 30 b2 [.string (bs a_0.Upper), .string (bs a_0.Color), .string (bs a_0.Lining), .string (bs a_0.Sole), .int .i64 a_0.Thick, .int .i64 a_0.Heel, .int .i64 a_0.Eyelets, .int .i64 a_0.Density, .bool a_0.Double]] := SH.add (SH.nil _ _) hE4 (Nat.le_refl _) hR5
  refine WL.runk 1 [1, 2] [(1, .int .i64 left_1), (2, .pointer (some ⟨b2, 0, none⟩))] (by kernel_rfl) ?_
  refine WL.nil ?_
  refine WQ.then_normal (hK1 _ _ _ ?_)
  refine WP.seq (fun K10 hK10 => ?_)
  refine WP.region ?_
  refine WL.runk 2 [2, 5, 6] [(2, .pointer (some ⟨b2, 0, none⟩)), (5, .int .i64 left_1), (6, .pointer (some ⟨b2, 0, none⟩))] (by kernel_rfl) ?_
  refine WL.st (.string (bs a_0.Upper)) (ST.load (cell_ext (SH.boxAt (SH.front 0 hS9) 0 _ rfl)) rfl rfl Try.underlying9 rfl) rfl rfl rfl ?_
  refine WL.runk 3 [1, 2] [(2, .pointer (some ⟨b2, 0, none⟩)), (1, .int .i64 (wI64 (left_1 - (a_0.Upper.length : Int))))] (by kernel_rfl) ?_
  refine WL.nil ?_
  refine WQ.then_normal (hK10 _ _ _ ?_)
  refine WP.seq (fun K11 hK11 => ?_)
  refine WP.seq (fun K12 hK12 => ?_)
  refine WP.region ?_
  refine WL.runk 2 [1, 2, 11] [(2, .pointer (some ⟨b2, 0, none⟩)), (1, .int .i64 (wI64 (left_1 - (a_0.Upper.length : Int)))), (11, .bool (decide ((wI64 (left_1 - (a_0.Upper.length : Int))) < 0)))] (by kernel_rfl) ?_
  refine WL.nil ?_
  refine WQ.then_normal (hK12 _ _ _ ?_)
  refine WP.cond (decide ((wI64 (left_1 - (a_0.Upper.length : Int))) < 0)) rfl rfl (fun hc13 => ?_) (fun hc13 => ?_)
  · have hm := iteT hm hc13
    refine WP.seq (fun K14 hK14 => ?_)
    refine WP.region ?_
    refine WL.runk 1 [4] [(4, .int .i64 (-1))] (by kernel_rfl) ?_
    refine WL.nil ?_
    refine WQ.then_normal (hK14 _ _ _ ?_)
    refine WP.ret ?_
    refine WQ.then_ret ?_
    obtain rfl := Option.some.inj hm
    exact WQ.ret1 _ rfl rfl ⟨rfl, hb7⟩
  · have hm := iteF hm hc13
    refine WP.skip ?_
    refine WQ.then_normal (hK11 _ _ _ ?_)
    refine WP.seq (fun K15 hK15 => ?_)
    refine WP.region ?_
    refine WL.runk 2 [2, 12, 13] [(2, .pointer (some ⟨b2, 0, none⟩)), (12, .int .i64 (wI64 (left_1 - (a_0.Upper.length : Int)))), (13, .pointer (some ⟨b2, 1, none⟩))] (by kernel_rfl) ?_
    refine WL.st (.string (bs a_0.Color)) (ST.load (cell_ext (SH.boxAt (SH.front 0 hS9) 1 _ rfl)) rfl rfl Try.underlying9 rfl) rfl rfl rfl ?_
    refine WL.runk 3 [1, 2] [(2, .pointer (some ⟨b2, 0, none⟩)), (1, .int .i64 (wI64 ((wI64 (left_1 - (a_0.Upper.length : Int))) - (a_0.Color.length : Int))))] (by kernel_rfl) ?_
    refine WL.nil ?_
    refine WQ.then_normal (hK15 _ _ _ ?_)
    refine WP.seq (fun K16 hK16 => ?_)
    refine WP.seq (fun K17 hK17 => ?_)
    refine WP.region ?_
    refine WL.runk 2 [1, 2, 18] [(2, .pointer (some ⟨b2, 0, none⟩)), (1, .int .i64 (wI64 ((wI64 (left_1 - (a_0.Upper.length : Int))) - (a_0.Color.length : Int)))), (18, .bool (decide ((wI64 ((wI64 (left_1 - (a_0.Upper.length : Int))) - (a_0.Color.length : Int))) < 0)))] (by kernel_rfl) ?_
    refine WL.nil ?_
    refine WQ.then_normal (hK17 _ _ _ ?_)
    refine WP.cond (decide ((wI64 ((wI64 (left_1 - (a_0.Upper.length : Int))) - (a_0.Color.length : Int))) < 0)) rfl rfl (fun hc18 => ?_) (fun hc18 => ?_)
    · have hm := iteT hm hc18
      refine WP.seq (fun K19 hK19 => ?_)
      refine WP.region ?_
      refine WL.runk 1 [4] [(4, .int .i64 (-1))] (by kernel_rfl) ?_
      refine WL.nil ?_
      refine WQ.then_normal (hK19 _ _ _ ?_)
      refine WP.ret ?_
      refine WQ.then_ret ?_
      obtain rfl := Option.some.inj hm
      exact WQ.ret1 _ rfl rfl ⟨rfl, hb7⟩
    · have hm := iteF hm hc18
      refine WP.skip ?_
      refine WQ.then_normal (hK16 _ _ _ ?_)
      refine WP.seq (fun K20 hK20 => ?_)
      refine WP.region ?_
      refine WL.runk 2 [2, 19, 20] [(2, .pointer (some ⟨b2, 0, none⟩)), (19, .int .i64 (wI64 ((wI64 (left_1 - (a_0.Upper.length : Int))) - (a_0.Color.length : Int)))), (20, .pointer (some ⟨b2, 2, none⟩))] (by kernel_rfl) ?_
      refine WL.st (.string (bs a_0.Lining)) (ST.load (cell_ext (SH.boxAt (SH.front 0 hS9) 2 _ rfl)) rfl rfl Try.underlying9 rfl) rfl rfl rfl ?_
      refine WL.runk 3 [1, 2] [(2, .pointer (some ⟨b2, 0, none⟩)), (1, .int .i64 (wI64 ((wI64 ((wI64 (left_1 - (a_0.Upper.length : Int))) - (a_0.Color.length : Int))) - (a_0.Lining.length : Int))))] (by kernel_rfl) ?_
      refine WL.nil ?_
      refine WQ.then_normal (hK20 _ _ _ ?_)
      refine WP.seq (fun K21 hK21 => ?_)
      refine WP.seq (fun K22 hK22 => ?_)
      refine WP.region ?_
      refine WL.runk 2 [1, 2, 25] [(2, .pointer (some ⟨b2, 0, none⟩)), (1, .int .i64 (wI64 ((wI64 ((wI64 (left_1 - (a_0.Upper.length : Int))) - (a_0.Color.length : Int))) - (a_0.Lining.length : Int)))), (25, .bool (decide ((wI64 ((wI64 ((wI64 (left_1 - (a_0.Upper.length : Int))) - (a_0.Color.length : Int))) - (a_0.Lining.length : Int))) < 0)))] (by kernel_rfl) ?_
      refine WL.nil ?_
      refine WQ.then_normal (hK22 _ _ _ ?_)
      refine WP.cond (decide ((wI64 ((wI64 ((wI64 (left_1 - (a_0.Upper.length : Int))) - (a_0.Color.length : Int))) - (a_0.Lining.length : Int))) < 0)) rfl rfl (fun hc23 => ?_) (fun hc23 => ?_)
      · have hm := iteT hm hc23
        refine WP.seq (fun K24 hK24 => ?_)
        refine WP.region ?_
        refine WL.runk 1 [4] [(4, .int .i64 (-1))] (by kernel_rfl) ?_
        refine WL.nil ?_
        refine WQ.then_normal (hK24 _ _ _ ?_)
        refine WP.ret ?_
        refine WQ.then_ret ?_
        obtain rfl := Option.some.inj hm
        exact WQ.ret1 _ rfl rfl ⟨rfl, hb7⟩
      · have hm := iteF hm hc23
        refine WP.skip ?_
        refine WQ.then_normal (hK21 _ _ _ ?_)
        refine WP.seq (fun K25 hK25 => ?_)
        refine WP.region ?_
        refine WL.runk 2 [26, 27] [(26, .int .i64 (wI64 ((wI64 ((wI64 (left_1 - (a_0.Upper.length : Int))) - (a_0.Color.length : Int))) - (a_0.Lining.length : Int)))), (27, .pointer (some ⟨b2, 3, none⟩))] (by kernel_rfl) ?_
        refine WL.st (.string (bs a_0.Sole)) (ST.load (cell_ext (SH.boxAt (SH.front 0 hS9) 3 _ rfl)) rfl rfl Try.underlying9 rfl) rfl rfl rfl ?_
        refine WL.runk 3 [1] [(1, .int .i64 (wI64 ((wI64 ((wI64 ((wI64 (left_1 - (a_0.Upper.length : Int))) - (a_0.Color.length : Int))) - (a_0.Lining.length : Int))) - (a_0.Sole.length : Int))))] (by kernel_rfl) ?_
        refine WL.nil ?_
        refine WQ.then_normal (hK25 _ _ _ ?_)
        refine WP.seq (fun K26 hK26 => ?_)
        refine WP.seq (fun K27 hK27 => ?_)
        refine WP.region ?_
        refine WL.runk 2 [1, 32] [(1, .int .i64 (wI64 ((wI64 ((wI64 ((wI64 (left_1 - (a_0.Upper.length : Int))) - (a_0.Color.length : Int))) - (a_0.Lining.length : Int))) - (a_0.Sole.length : Int)))), (32, .bool (decide ((wI64 ((wI64 ((wI64 ((wI64 (left_1 - (a_0.Upper.length : Int))) - (a_0.Color.length : Int))) - (a_0.Lining.length : Int))) - (a_0.Sole.length : Int))) < 0)))] (by kernel_rfl) ?_
        refine WL.nil ?_
        refine WQ.then_normal (hK27 _ _ _ ?_)
        refine WP.cond (decide ((wI64 ((wI64 ((wI64 ((wI64 (left_1 - (a_0.Upper.length : Int))) - (a_0.Color.length : Int))) - (a_0.Lining.length : Int))) - (a_0.Sole.length : Int))) < 0)) rfl rfl (fun hc28 => ?_) (fun hc28 => ?_)
        · have hm := iteT hm hc28
          refine WP.seq (fun K29 hK29 => ?_)
          refine WP.region ?_
          refine WL.runk 1 [4] [(4, .int .i64 (-1))] (by kernel_rfl) ?_
          refine WL.nil ?_
          refine WQ.then_normal (hK29 _ _ _ ?_)
          refine WP.ret ?_
          refine WQ.then_ret ?_
          obtain rfl := Option.some.inj hm
          exact WQ.ret1 _ rfl rfl ⟨rfl, hb7⟩
        · have hm := iteF hm hc28
          refine WP.skip ?_
          refine WQ.then_normal (hK26 _ _ _ ?_)
          refine WP.seq (fun K30 hK30 => ?_)
          refine WP.region ?_
          refine WL.runk 2 [4] [(4, .int .i64 (wI64 ((wI64 ((wI64 ((wI64 (left_1 - (a_0.Upper.length : Int))) - (a_0.Color.length : Int))) - (a_0.Lining.length : Int))) - (a_0.Sole.length : Int))))] (by kernel_rfl) ?_
          refine WL.nil ?_
          refine WQ.then_normal (hK30 _ _ _ ?_)
          refine WP.ret ?_
          obtain rfl := Option.some.inj hm
          exact WQ.ret1 _ rfl rfl ⟨rfl, hb7⟩

theorem c_26 (n : Nat) (n_0 : Int) (w : World) {r : List UInt8} (hm : m_spec_l01Dec n n_0 = some r)  :
    CallV Try.prog 26 #[.int .i64 n_0] w (fun v w' => v = .string (bs r) ∧ Ext w w') := by
  unfold m_spec_l01Dec at hm
  refine CallV.enter Try.func26 rfl (by kernel_rfl) Try.ntmps26 (env := [(0, .int .i64 n_0)]) ⟨rfl, trivial⟩ ?_
  refine WP.seq (fun K1 hK1 => ?_)
  refine WP.region ?_
  refine WL.runk 1 [0] [(0, .int .i64 n_0)] (by kernel_rfl) ?_
  refine WL.nil ?_
  refine WQ.then_normal (hK1 _ _ _ ?_)
  refine WP.seq (fun K2 hK2 => ?_)
  refine WP.region ?_
  refine WL.row fU8 5 ([] : List Int) 0 #[] 6 (by kernel_rfl) rfl rfl rfl rfl rfl rfl rfl ?_
  intro a3 c4 w5 hE6 hR7
  have hb9 : Ext w w5 := Ext.trans (Ext.refl w) hE6
  have hL10 : w.heap.size ≤ w5.heap.size := Nat.le_trans (Nat.le_refl _) hE6.size
  have hS11 : SH w5 w.heap.size [aOwn fU8 5 a3 c4 ([] : List Int)] := SH.add (SH.nil _ _) hE6 (Nat.le_refl _) hR7
  refine WL.runk 1 [0, 3] [(0, .int .i64 n_0), (3, .slice a3 (([] : List Int).length) c4)] (by kernel_rfl) ?_
  refine WL.nil ?_
  refine WQ.then_normal (hK2 _ _ _ ?_)
  refine WP.seq (fun K12 hK12 => ?_)
  refine WP.seq (fun K13 hK13 => ?_)
  refine WP.region ?_
  refine WL.runk 2 [0, 3, 4] [(0, .int .i64 n_0), (3, .slice a3 (([] : List Int).length) c4), (4, .int .i64 n_0)] (by kernel_rfl) ?_
  refine WL.nil ?_
  refine WQ.then_normal (hK13 _ _ _ ?_)
  refine WP.block ?_
  obtain ⟨t28, ht29, hm⟩ := bindE hm
  have hmo23 := hm; clear hm
  refine WP.sub [(0, .int .i64 n_0), (3, .slice a3 (([] : List Int).length) c4), (4, .int .i64 n_0)] ⟨rfl, rfl, rfl, trivial⟩ ?_
  refine WP.loop (fun n' env' w' => ∃ (st14 : List Int × Int) (a15 : Option Addr) (c16 : Nat), env' = [(0, .int .i64 n_0), (3, .slice a15 st14.1.length c16), (4, .int .i64 st14.2)] ∧ Ext w w' ∧ w.heap.size ≤ w'.heap.size ∧ SH w' w.heap.size [aOwn fU8 5 a15 c16 st14.1] ∧ loopN (m_spec_l01Dec_l1 n) n' st14 = some t28) n ⟨(([] : List Int), n_0), _, _, rfl, hb9, hL10, hS11, ht29⟩ ?_
  rintro n25 _ w18 ⟨st14, a15, c16, rfl, hb19, hL20, hS21, hl22⟩ K24 hK24
  obtain ⟨n26, s27, rfl, hm, hl22⟩ := loopN_some hl22
  unfold m_spec_l01Dec_l1 at hm
  refine WP.seq (fun K30 hK30 => ?_)
  refine WP.seq (fun K31 hK31 => ?_)
  refine WP.region ?_
  refine WL.runk 2 [0, 3, 4, 9] [(0, .int .i64 n_0), (3, .slice a15 st14.1.length c16), (4, .int .i64 st14.2), (9, .bool (st14.2 != 0))] (by kernel_rfl) ?_
  refine WL.nil ?_
  refine WQ.then_normal (hK31 _ _ _ ?_)
  refine WP.cond (st14.2 != 0) rfl rfl (fun hc32 => ?_) (fun hc32 => ?_)
  · have hm := iteT hm hc32
    refine WP.skip ?_
    refine WQ.then_normal (hK30 _ _ _ ?_)
    refine WP.seq (fun K33 hK33 => ?_)
    refine WP.block ?_
    refine WP.seq (fun K34 hK34 => ?_)
    refine WP.region ?_
    refine WL.runk 3 [0, 3, 4, 5] [(0, .int .i64 n_0), (3, .slice a15 st14.1.length c16), (4, .int .i64 st14.2), (5, .int .i64 (Int.tmod st14.2 10))] (by kernel_rfl) ?_
    refine WL.nil ?_
    refine WQ.then_normal (hK34 _ _ _ ?_)
    refine WP.seq (fun K35 hK35 => ?_)
    refine WP.seq (fun K36 hK36 => ?_)
    refine WP.region ?_
    refine WL.runk 2 [0, 3, 4, 5, 15] [(0, .int .i64 n_0), (3, .slice a15 st14.1.length c16), (4, .int .i64 st14.2), (5, .int .i64 (Int.tmod st14.2 10)), (15, .bool (decide ((Int.tmod st14.2 10) < 0)))] (by kernel_rfl) ?_
    refine WL.nil ?_
    refine WQ.then_normal (hK36 _ _ _ ?_)
    obtain ⟨x38, hx39, hm⟩ := bindE hm
    refine WP.cut (fun env' w' => env' = [(0, .int .i64 n_0), (3, .slice a15 st14.1.length c16), (4, .int .i64 st14.2), (5, .int .i64 x38)] ∧ Ext w w' ∧ w.heap.size ≤ w'.heap.size ∧ SH w' w.heap.size [aOwn fU8 5 a15 c16 st14.1]) ?_ ?_
    · have hm := hx39; clear hx39
      refine WP.cond (decide ((Int.tmod st14.2 10) < 0)) rfl rfl (fun hc37 => ?_) (fun hc37 => ?_)
      · have hm := iteT hm hc37
        refine WP.region ?_
        refine WL.runk 3 [0, 3, 4, 5] [(0, .int .i64 n_0), (3, .slice a15 st14.1.length c16), (4, .int .i64 st14.2), (5, .int .i64 (wI64 (0 - (Int.tmod st14.2 10))))] (by kernel_rfl) ?_
        refine WL.nil ?_
        obtain rfl := Option.some.inj hm
        exact WQ.post' ⟨rfl, hb19, hL20, hS21⟩ ⟨rfl, rfl, rfl, rfl, trivial⟩
      · have hm := iteF hm hc37
        refine WP.skip ?_
        obtain rfl := Option.some.inj hm
        exact WQ.post' ⟨rfl, hb19, hL20, hS21⟩ ⟨rfl, rfl, rfl, rfl, trivial⟩
    · clear hx39
      rintro _ w40 ⟨rfl, hb41, hL42, hS43⟩
      refine WQ.then_normal (hK35 _ _ _ ?_)
      refine WP.region ?_
      refine WL.runk 3 [0, 3, 4, 20] [(0, .int .i64 n_0), (3, .slice a15 st14.1.length c16), (4, .int .i64 st14.2), (20, .int .u8 (IntKind.u8.wrap (wI64 (48 + x38))))] (by kernel_rfl) ?_
      refine WL.row fU8 5 ([(IntKind.u8.wrap (wI64 (48 + x38)))] : List Int) 1 #[.int .u8 (IntKind.u8.wrap (wI64 (48 + x38)))] 21 (by kernel_rfl) rfl rfl rfl rfl rfl rfl rfl ?_
      intro a44 c45 w46 hE47 hR48
      have hb50 : Ext w w46 := Ext.trans hb41 hE47
      have hL51 : w.heap.size ≤ w46.heap.size := Nat.le_trans hL42 hE47.size
      have hS52 : SH w46 w.heap.size [aOwn fU8 5 a44 c45 ([(IntKind.u8.wrap (wI64 (48 + x38)))] : List Int), aOwn fU8 5 a15 c16 st14.1] := SH.add hS43 hE47 hL42 hR48
      refine WL.runk 1 [0, 4, 21, 22] [(0, .int .i64 n_0), (4, .int .i64 st14.2), (21, .slice a44 (([(IntKind.u8.wrap (wI64 (48 + x38)))] : List Int).length) c45), (22, .slice a15 st14.1.length c16)] (by kernel_rfl) ?_
      obtain ⟨x53, hx54, hm⟩ := bindE hm
      refine WL.append (F := fU8) (xs := ([(IntKind.u8.wrap (wI64 (48 + x38)))] : List Int)) (ys := st14.1) 23 (SH.front 0 hS52) hL51 (SH.rd (SH.front 1 hS52)) hx54 rfl rfl rfl Try.underlying42 (info5).1 (info5).2.2.1 (info5).2.1 (info5).2.2.2 rfl rfl rfl rfl rfl ?_
      intro a55 c56 w57 hB58 hS59
      have hb60 : Ext w w57 := Below.trans hb50 hB58
      have hL61 : w.heap.size ≤ w57.heap.size := Nat.le_trans hL51 hB58.size
      refine WL.runk 1 [0, 3, 4] [(0, .int .i64 n_0), (4, .int .i64 st14.2), (3, .slice a55 x53.length c56)] (by kernel_rfl) ?_
      refine WL.nil ?_
      refine WQ.block_normal ?_
      refine WQ.then_normal (hK33 _ _ _ ?_)
      refine WP.region ?_
      refine WL.runk 3 [0, 3, 4] [(0, .int .i64 n_0), (4, .int .i64 (wI64 (Int.tdiv st14.2 10))), (3, .slice a55 x53.length c56)] (by kernel_rfl) ?_
      refine WL.nil ?_
      obtain rfl := Option.some.inj hm
      exact WQ.round hK24 ⟨(x53, (wI64 (Int.tdiv st14.2 10))), _, _, rfl, hb60, hL61, (SH.take 1 hS59), hl22⟩ (Nat.lt_succ_self _) ⟨rfl, rfl, rfl, trivial⟩
  · have hm := iteF hm hc32
    refine WP.exit ?_
    refine WQ.then_exit ?_
    refine WQ.then_exit ?_
    refine WQ.block_here ?_
    obtain rfl := Option.some.inj hm
    obtain rfl := afterN_done hl22
    have hm := hmo23
    refine WQ.then_normal (hK12 _ _ _ ?_)
    refine WP.seq (fun K62 hK62 => ?_)
    refine WP.seq (fun K63 hK63 => ?_)
    refine WP.region ?_
    refine WL.runk 3 [0, 3, 26] [(0, .int .i64 n_0), (3, .slice a15 st14.1.length c16), (26, .bool ((st14.1.length : Int) == 0))] (by kernel_rfl) ?_
    refine WL.nil ?_
    refine WQ.then_normal (hK63 _ _ _ ?_)
    refine WP.cond ((st14.1.length : Int) == 0) rfl rfl (fun hc64 => ?_) (fun hc64 => ?_)
    · have hm := iteT hm hc64
      refine WP.seq (fun K65 hK65 => ?_)
      refine WP.region ?_
      refine WL.runk 1 [2] [(2, .string (bs [48]))] (by kernel_rfl) ?_
      refine WL.nil ?_
      refine WQ.then_normal (hK65 _ _ _ ?_)
      refine WP.ret ?_
      refine WQ.then_ret ?_
      obtain rfl := Option.some.inj hm
      exact WQ.ret1 _ rfl rfl ⟨rfl, hb19⟩
    · have hm := iteF hm hc64
      refine WP.skip ?_
      refine WQ.then_normal (hK62 _ _ _ ?_)
      refine WP.seq (fun K66 hK66 => ?_)
      refine WP.seq (fun K67 hK67 => ?_)
      refine WP.region ?_
      refine WL.runk 2 [3, 28] [(3, .slice a15 st14.1.length c16), (28, .bool (decide (n_0 < 0)))] (by kernel_rfl) ?_
      refine WL.nil ?_
      refine WQ.then_normal (hK67 _ _ _ ?_)
      refine WP.cond (decide (n_0 < 0)) rfl rfl (fun hc68 => ?_) (fun hc68 => ?_)
      · have hm := iteT hm hc68
        refine WP.seq (fun K69 hK69 => ?_)
        refine WP.region ?_
        refine WL.runk 1 [29] [(29, .slice a15 st14.1.length c16)] (by kernel_rfl) ?_
        refine WL.st (.string (bs (ofBytes st14.1))) (ST.b2s (SH.rd (SH.front 0 hS21)) (SH.le (SH.front 0 hS21)).2 rfl rfl Try.underlying42 Try.underlying9 Try.underlying5) rfl rfl rfl ?_
        obtain ⟨x70, hx71, hm⟩ := bindE hm
        refine WL.st (.string (bs x70)) (ST.cat hx71 rfl rfl rfl) rfl rfl rfl ?_
        refine WL.runk 1 [2] [(2, .string (bs x70))] (by kernel_rfl) ?_
        refine WL.nil ?_
        refine WQ.then_normal (hK69 _ _ _ ?_)
        refine WP.ret ?_
        refine WQ.then_ret ?_
        obtain rfl := Option.some.inj hm
        exact WQ.ret1 _ rfl rfl ⟨rfl, hb19⟩
      · have hm := iteF hm hc68
        refine WP.skip ?_
        refine WQ.then_normal (hK66 _ _ _ ?_)
        refine WP.seq (fun K72 hK72 => ?_)
        refine WP.region ?_
        refine WL.runk 1 [32] [(32, .slice a15 st14.1.length c16)] (by kernel_rfl) ?_
        refine WL.st (.string (bs (ofBytes st14.1))) (ST.b2s (SH.rd (SH.front 0 hS21)) (SH.le (SH.front 0 hS21)).2 rfl rfl Try.underlying42 Try.underlying9 Try.underlying5) rfl rfl rfl ?_
        refine WL.runk 1 [2] [(2, .string (bs (ofBytes st14.1)))] (by kernel_rfl) ?_
        refine WL.nil ?_
        refine WQ.then_normal (hK72 _ _ _ ?_)
        refine WP.ret ?_
        obtain rfl := Option.some.inj hm
        exact WQ.ret1 _ rfl rfl ⟨rfl, hb19⟩

theorem c_31 (n : Nat) (c_0 : Int) (w : World) {r : Bool} (hm : m_spec_l01Small n c_0 = some r)  :
    CallV Try.prog 31 #[.int .u8 c_0] w (fun v w' => v = .bool r ∧ Ext w w') := by
  unfold m_spec_l01Small at hm
  refine CallV.enter Try.func31 rfl (by kernel_rfl) Try.ntmps31 (env := [(0, .int .u8 c_0)]) ⟨rfl, trivial⟩ ?_
  refine WP.seq (fun K1 hK1 => ?_)
  refine WP.region ?_
  refine WL.runk 1 [0] [(0, .int .u8 c_0)] (by kernel_rfl) ?_
  refine WL.nil ?_
  refine WQ.then_normal (hK1 _ _ _ ?_)
  refine WP.seq (fun K2 hK2 => ?_)
  obtain ⟨x4, hx5, hm⟩ := bindE hm
  refine WP.cut (fun env' w' => env' = [(2, .bool x4)] ∧ Ext w w' ∧ w.heap.size ≤ w'.heap.size ∧ SH w' w.heap.size []) ?_ ?_
  · have hm := hx5; clear hx5
    refine WP.region ?_
    refine WL.runk 3 [0, 5] [(0, .int .u8 c_0), (5, .bool (decide (c_0 ≥ 97)))] (by kernel_rfl) ?_
    refine WL.case (decide (c_0 ≥ 97)) [5] ⟨rfl, trivial⟩ (fun hc3 => ?_) (fun hc3 => ?_)
    · have hm := iteT hm hc3
      refine WL.runk 4 [2] [(2, .bool (decide (c_0 ≤ 122)))] (by kernel_rfl) ?_
      refine WL.nil ?_
      obtain rfl := Option.some.inj hm
      exact WQ.post' ⟨rfl, (Ext.refl w), (Nat.le_refl _), (SH.nil _ _)⟩ ⟨rfl, trivial⟩
    · have hm := iteF hm hc3
      refine WL.runk 4 [2] [(2, .bool false)] (by kernel_rfl) ?_
      refine WL.nil ?_
      obtain rfl := Option.some.inj hm
      exact WQ.post' ⟨rfl, (Ext.refl w), (Nat.le_refl _), (SH.nil _ _)⟩ ⟨rfl, trivial⟩
  · clear hx5
    rintro _ w6 ⟨rfl, hb7, hL8, hS9⟩
    refine WQ.then_normal (hK2 _ _ _ ?_)
    refine WP.ret ?_
    obtain rfl := Option.some.inj hm
    exact WQ.ret1 _ rfl rfl ⟨rfl, hb7⟩

theorem c_32 (n : Nat) (c_0 : Int) (w : World) {r : Bool} (hm : m_spec_l01Digit n c_0 = some r)  :
    CallV Try.prog 32 #[.int .u8 c_0] w (fun v w' => v = .bool r ∧ Ext w w') := by
  unfold m_spec_l01Digit at hm
  refine CallV.enter Try.func32 rfl (by kernel_rfl) Try.ntmps32 (env := [(0, .int .u8 c_0)]) ⟨rfl, trivial⟩ ?_
  refine WP.seq (fun K1 hK1 => ?_)
  refine WP.region ?_
  refine WL.runk 1 [0] [(0, .int .u8 c_0)] (by kernel_rfl) ?_
  refine WL.nil ?_
  refine WQ.then_normal (hK1 _ _ _ ?_)
  refine WP.seq (fun K2 hK2 => ?_)
  obtain ⟨x4, hx5, hm⟩ := bindE hm
  refine WP.cut (fun env' w' => env' = [(2, .bool x4)] ∧ Ext w w' ∧ w.heap.size ≤ w'.heap.size ∧ SH w' w.heap.size []) ?_ ?_
  · have hm := hx5; clear hx5
    refine WP.region ?_
    refine WL.runk 3 [0, 5] [(0, .int .u8 c_0), (5, .bool (decide (c_0 ≥ 48)))] (by kernel_rfl) ?_
    refine WL.case (decide (c_0 ≥ 48)) [5] ⟨rfl, trivial⟩ (fun hc3 => ?_) (fun hc3 => ?_)
    · have hm := iteT hm hc3
      refine WL.runk 4 [2] [(2, .bool (decide (c_0 ≤ 57)))] (by kernel_rfl) ?_
      refine WL.nil ?_
      obtain rfl := Option.some.inj hm
      exact WQ.post' ⟨rfl, (Ext.refl w), (Nat.le_refl _), (SH.nil _ _)⟩ ⟨rfl, trivial⟩
    · have hm := iteF hm hc3
      refine WL.runk 4 [2] [(2, .bool false)] (by kernel_rfl) ?_
      refine WL.nil ?_
      obtain rfl := Option.some.inj hm
      exact WQ.post' ⟨rfl, (Ext.refl w), (Nat.le_refl _), (SH.nil _ _)⟩ ⟨rfl, trivial⟩
  · clear hx5
    rintro _ w6 ⟨rfl, hb7, hL8, hS9⟩
    refine WQ.then_normal (hK2 _ _ _ ?_)
    refine WP.ret ?_
    obtain rfl := Option.some.inj hm
    exact WQ.ret1 _ rfl rfl ⟨rfl, hb7⟩

end Go.Proofs.Ytkjjjbfpecmieaa
