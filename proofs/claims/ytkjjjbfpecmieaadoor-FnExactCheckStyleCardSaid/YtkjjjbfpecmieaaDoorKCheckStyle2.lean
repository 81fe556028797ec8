/- Each call does what its Lean function says. -/
import Derived.Test.YtkjjjbfpecmieaaDoorKCheckStyle1
set_option maxRecDepth 20000
set_option maxHeartbeats 40000000
namespace Go.Proofs.YtkjjjbfpecmieaaDoor
open Go Go.Gv Go.RowKit

theorem c_41 (n : Nat) (clauses_0 : List (List UInt8)) (a0' : Option Addr) (c0' : Nat) (w : World) {r : List STrouble} (hm : m_impl_troubles n clauses_0 = some r) (hG : GL 3 w) (h0 : Rd fStr.ty w a0' clauses_0) (_hle0 : clauses_0.length ≤ c0') :
    CallV Tryd.prog 41 #[.slice a0' clauses_0.length c0'] w (fun v w' => ∃ (ra0 : Option Addr) (rc0 : Nat), v = .slice ra0 r.length rc0 ∧ Ext w w' ∧ SH w' w.heap.size [aOwn fTrouble 62 ra0 rc0 r]) := by
  unfold m_impl_troubles at hm
  refine CallV.enter Tryd.func41 rfl (by kernel_rfl) Tryd.ntmps41 (env := [(0, .slice a0' clauses_0.length c0')]) ⟨rfl, trivial⟩ ?_
  refine WP.seq (fun K1 hK1 => ?_)
  refine WP.region ?_
  refine WL.runk 1 [0] [(0, .slice a0' clauses_0.length c0')] (by kernel_rfl) ?_
  refine WL.nil ?_
  refine WQ.then_normal (hK1 _ _ _ ?_)
  refine WP.seq (fun K2 hK2 => ?_)
  refine WP.region ?_
  refine WL.row fTrouble 62 ([] : List STrouble) 0 #[] 9 (by kernel_rfl) rfl rfl rfl rfl rfl rfl rfl ?_
  intro a3 c4 w5 hE6 hR7
  have hb9 : Ext w w5 := Ext.trans (Ext.refl w) hE6
  have hL10 : w.heap.size ≤ w5.heap.size := Nat.le_trans (Nat.le_refl _) hE6.size
  have hS11 : SH w5 w.heap.size [aOwn fTrouble 62 a3 c4 ([] : List STrouble)] := SH.add (SH.nil _ _) hE6 (Nat.le_refl _) hR7
  refine WL.row fStr 9 ([] : List (List UInt8)) 0 #[] 10 (by kernel_rfl) rfl rfl rfl rfl rfl rfl rfl ?_
  intro a12 c13 w14 hE15 hR16
  have hb18 : Ext w w14 := Ext.trans hb9 hE15
  have hL19 : w.heap.size ≤ w14.heap.size := Nat.le_trans hL10 hE15.size
  have hS20 : SH w14 w.heap.size [aOwn fStr 9 a12 c13 ([] : List (List UInt8)), aOwn fTrouble 62 a3 c4 ([] : List STrouble)] := SH.add hS11 hE15 hL10 hR16
  refine WL.runk 2 [0, 3, 4] [(0, .slice a0' clauses_0.length c0'), (3, .slice a3 (([] : List STrouble).length) c4), (4, .slice a12 (([] : List (List UInt8)).length) c13)] (by kernel_rfl) ?_
  refine WL.nil ?_
  refine WQ.then_normal (hK2 _ _ _ ?_)
  refine WP.seq (fun K21 hK21 => ?_)
  refine WP.seq (fun K22 hK22 => ?_)
  refine WP.region ?_
  refine WL.runk 3 [0, 3, 4, 11, 12, 13] [(0, .slice a0' clauses_0.length c0'), (3, .slice a3 (([] : List STrouble).length) c4), (4, .slice a12 (([] : List (List UInt8)).length) c13), (11, .slice a0' clauses_0.length c0'), (12, .int .i64 (clauses_0.length : Int)), (13, .int .i64 0)] (by kernel_rfl) ?_
  refine WL.nil ?_
  refine WQ.then_normal (hK22 _ _ _ ?_)
  refine WP.block ?_
  obtain ⟨t40, ht41, hm⟩ := bindE hm
  have hmo35 := hm; clear hm
  refine WP.sub [(0, .slice a0' clauses_0.length c0'), (3, .slice a3 (([] : List STrouble).length) c4), (4, .slice a12 (([] : List (List UInt8)).length) c13), (11, .slice a0' clauses_0.length c0'), (12, .int .i64 (clauses_0.length : Int)), (13, .int .i64 0)] ⟨rfl, rfl, rfl, rfl, rfl, rfl, trivial⟩ ?_
  refine WP.loop (fun n' env' w' => ∃ (st23 : List STrouble × List (List UInt8) × Int) (a24 : Option Addr) (c25 : Nat) (a27 : Option Addr) (c28 : Nat), env' = [(0, .slice a0' clauses_0.length c0'), (3, .slice a24 st23.1.length c25), (4, .slice a27 st23.2.1.length c28), (11, .slice a0' clauses_0.length c0'), (12, .int .i64 (clauses_0.length : Int)), (13, .int .i64 st23.2.2)] ∧ Ext w w' ∧ w.heap.size ≤ w'.heap.size ∧ SH w' w.heap.size [aOwn fTrouble 62 a24 c25 st23.1, aOwn fStr 9 a27 c28 st23.2.1] ∧ loopN (m_impl_troubles_l1 n clauses_0) n' st23 = some t40) n ⟨(([] : List STrouble), ([] : List (List UInt8)), 0), _, _, _, _, rfl, hb18, hL19, (SH.front 1 hS20), ht41⟩ ?_
  rintro n37 _ w30 ⟨st23, a24, c25, a27, c28, rfl, hb31, hL32, hS33, hl34⟩ K36 hK36
  obtain ⟨n38, s39, rfl, hm, hl34⟩ := loopN_some hl34
  unfold m_impl_troubles_l1 at hm
  refine WP.seq (fun K42 hK42 => ?_)
  refine WP.region ?_
  refine WL.runk 1 [0, 3, 4, 11, 12, 13, 14] [(0, .slice a0' clauses_0.length c0'), (3, .slice a24 st23.1.length c25), (4, .slice a27 st23.2.1.length c28), (11, .slice a0' clauses_0.length c0'), (12, .int .i64 (clauses_0.length : Int)), (13, .int .i64 st23.2.2), (14, .bool (decide (st23.2.2 < (clauses_0.length : Int))))] (by kernel_rfl) ?_
  refine WL.nil ?_
  refine WQ.then_normal (hK42 _ _ _ ?_)
  refine WP.seq (fun K43 hK43 => ?_)
  refine WP.cond (decide (st23.2.2 < (clauses_0.length : Int))) rfl rfl (fun hc44 => ?_) (fun hc44 => ?_)
  rotate_left
  · have hm := iteF hm hc44
    refine WP.exit ?_
    refine WQ.then_exit ?_
    refine WQ.then_exit ?_
    refine WQ.block_here ?_
    obtain rfl := Option.some.inj hm
    obtain rfl := afterN_done hl34
    have hm := hmo35
    refine WQ.then_normal (hK21 _ _ _ ?_)
    refine WP.seq (fun K165 hK165 => ?_)
    refine WP.seq (fun K166 hK166 => ?_)
    obtain ⟨x184, hx185, hm⟩ := bindE hm
    refine WP.cut (fun env' w' => env' = [(0, .slice a0' clauses_0.length c0'), (3, .slice a24 st23.1.length c25), (49, .bool x184)] ∧ Ext w w' ∧ w.heap.size ≤ w'.heap.size ∧ SH w' w.heap.size [aOwn fTrouble 62 a24 c25 st23.1, aOwn fStr 9 a27 c28 st23.2.1]) ?_ ?_
    · have hm := hx185; clear hx185
      refine WP.region ?_
      refine WL.runk 1 [0, 3, 4, 42] [(0, .slice a0' clauses_0.length c0'), (3, .slice a24 st23.1.length c25), (4, .slice a27 st23.2.1.length c28), (42, .slice a27 st23.2.1.length c28)] (by kernel_rfl) ?_
      obtain ⟨x186, hx187, hm⟩ := bindE hm
      refine WL.call 61 #[.slice a27 st23.2.1.length c28, .string (bs [117, 112, 112, 101, 114])] rfl rfl (by kernel_rfl) (c_61 n st23.2.1 a27 c28 [117, 112, 112, 101, 114] w30 hx187 (SH.rd (SH.front 1 hS33)) (SH.le (SH.front 1 hS33)).1) ?_
      rintro _ w188 ⟨rfl, hE189⟩
      refine ⟨_, rfl, ?_⟩
      have hb191 : Ext w w188 := Ext.trans hb31 hE189
      have hL192 : w.heap.size ≤ w188.heap.size := Nat.le_trans hL32 hE189.size
      have hS193 : SH w188 w.heap.size [aOwn fTrouble 62 a24 c25 st23.1, aOwn fStr 9 a27 c28 st23.2.1] := SH.ext hS33 hE189
      refine WL.runk 2 [0, 3, 4, 45] [(0, .slice a0' clauses_0.length c0'), (3, .slice a24 st23.1.length c25), (4, .slice a27 st23.2.1.length c28), (45, .bool (!x186))] (by kernel_rfl) ?_
      refine WL.case (!x186) [45] ⟨rfl, trivial⟩ (fun hc194 => ?_) (fun hc194 => ?_)
      · have hm := iteT hm hc194
        refine WL.runk 4 [0, 3, 49] [(0, .slice a0' clauses_0.length c0'), (3, .slice a24 st23.1.length c25), (49, .bool true)] (by kernel_rfl) ?_
        refine WL.nil ?_
        obtain rfl := Option.some.inj hm
        exact WQ.post' ⟨rfl, hb191, hL192, hS193⟩ ⟨rfl, rfl, rfl, trivial⟩
      have hm := iteF hm hc194
      refine WL.runk 1 [0, 3, 45, 46] [(0, .slice a0' clauses_0.length c0'), (3, .slice a24 st23.1.length c25), (45, .bool false), (46, .slice a27 st23.2.1.length c28)] (by kernel_rfl) ?_
      obtain ⟨x195, hx196, hm⟩ := bindE hm
      refine WL.call 61 #[.slice a27 st23.2.1.length c28, .string (bs [115, 111, 108, 101])] rfl rfl (by kernel_rfl) (c_61 n st23.2.1 a27 c28 [115, 111, 108, 101] w188 hx196 (SH.rd (SH.front 1 hS193)) (SH.le (SH.front 1 hS193)).1) ?_
      rintro _ w197 ⟨rfl, hE198⟩
      refine ⟨_, rfl, ?_⟩
      have hb200 : Ext w w197 := Ext.trans hb191 hE198
      have hL201 : w.heap.size ≤ w197.heap.size := Nat.le_trans hL192 hE198.size
      have hS202 : SH w197 w.heap.size [aOwn fTrouble 62 a24 c25 st23.1, aOwn fStr 9 a27 c28 st23.2.1] := SH.ext hS193 hE198
      refine WL.runk 2 [0, 3, 49] [(0, .slice a0' clauses_0.length c0'), (3, .slice a24 st23.1.length c25), (49, .bool (!x195))] (by kernel_rfl) ?_
      refine WL.nil ?_
      obtain rfl := Option.some.inj hm
      exact WQ.post' ⟨rfl, hb200, hL201, hS202⟩ ⟨rfl, rfl, rfl, trivial⟩
    clear hx185
    rintro _ w203 ⟨rfl, hb204, hL205, hS206⟩
    refine WQ.then_normal (hK166 _ _ _ ?_)
    obtain ⟨x226, hx227, hm⟩ := bindE hm
    refine WP.cut (fun env' w' => ∃ (a228 : Option Addr) (c229 : Nat), env' = [(3, .slice a228 x226.length c229)] ∧ Ext w w' ∧ w.heap.size ≤ w'.heap.size ∧ SH w' w.heap.size [aOwn fTrouble 62 a228 c229 x226, aOwn fStr 9 a27 c28 st23.2.1]) ?_ ?_
    rotate_left
    · clear hx227
      rintro _ w249 ⟨a228, c229, rfl, hb250, hL251, hS252⟩
      refine WQ.then_normal (hK165 _ _ _ ?_)
      refine WP.seq (fun K253 hK253 => ?_)
      refine WP.region ?_
      refine WL.runk 2 [2] [(2, .slice a228 x226.length c229)] (by kernel_rfl) ?_
      refine WL.nil ?_
      refine WQ.then_normal (hK253 _ _ _ ?_)
      refine WP.ret ?_
      obtain rfl := Option.some.inj hm
      exact WQ.ret1 _ rfl rfl ⟨_, _, rfl, hb250, (SH.take 1 hS252)⟩
    have hm := hx227; clear hx227
    refine WP.cond x184 rfl rfl (fun hc207 => ?_) (fun hc207 => ?_)
    rotate_left
    · have hm := iteF hm hc207
      refine WP.skip ?_
      obtain rfl := Option.some.inj hm
      exact WQ.post' ⟨_, _, rfl, hb204, hL205, hS206⟩ ⟨rfl, trivial⟩
    have hm := iteT hm hc207
    refine WP.region ?_
    refine WL.runk 4 [50, 53] [(50, .slice a24 st23.1.length c25), (53, .agg #[.int .i64 (clauses_0.length : Int), .int .i64 6])] (by kernel_rfl) ?_
    refine WL.row fTrouble 62 ([(STrouble.mk (clauses_0.length : Int) 6)] : List STrouble) 1 #[.int .i64 (clauses_0.length : Int), .int .i64 6] 54 (by kernel_rfl) rfl rfl rfl rfl rfl rfl rfl ?_
    intro a231 c232 w233 hE234 hR235
    have hb237 : Ext w w233 := Ext.trans hb204 hE234
    have hL238 : w.heap.size ≤ w233.heap.size := Nat.le_trans hL205 hE234.size
    have hS239 : SH w233 w.heap.size [aOwn fTrouble 62 a231 c232 ([(STrouble.mk (clauses_0.length : Int) 6)] : List STrouble), aOwn fTrouble 62 a24 c25 st23.1, aOwn fStr 9 a27 c28 st23.2.1] := SH.add hS206 hE234 hL205 hR235
    obtain ⟨x240, hx241, hm⟩ := bindE hm
    refine WL.append (F := fTrouble) (xs := st23.1) (ys := ([(STrouble.mk (clauses_0.length : Int) 6)] : List STrouble)) 55 (SH.front 1 hS239) hL238 (SH.rd (SH.front 0 hS239)) hx241 rfl rfl rfl Tryd.underlying37 (info62).1 (info62).2.2.1 (info62).2.1 (info62).2.2.2 rfl rfl rfl rfl rfl ?_
    intro a242 c243 w244 hB245 hS246
    have hb247 : Ext w w244 := Below.trans hb237 hB245
    have hL248 : w.heap.size ≤ w244.heap.size := Nat.le_trans hL238 hB245.size
    refine WL.runk 1 [3] [(3, .slice a242 x240.length c243)] (by kernel_rfl) ?_
    refine WL.nil ?_
    obtain rfl := Option.some.inj hm
    exact WQ.post' ⟨_, _, rfl, hb247, hL248, (SH.take 2 (SH.front 1 (SH.front 2 hS246)))⟩ ⟨rfl, trivial⟩
  have hm := iteT hm hc44
  refine WP.skip ?_
  refine WQ.then_normal (hK43 _ _ _ ?_)
  refine WP.seq (fun K45 hK45 => ?_)
  refine WP.block ?_
  refine WP.seq (fun K46 hK46 => ?_)
  refine WP.region ?_
  refine WL.runk 1 [0, 3, 4, 11, 12, 13, 15] [(0, .slice a0' clauses_0.length c0'), (3, .slice a24 st23.1.length c25), (4, .slice a27 st23.2.1.length c28), (11, .slice a0' clauses_0.length c0'), (12, .int .i64 (clauses_0.length : Int)), (13, .int .i64 st23.2.2), (15, .int .i64 st23.2.2)] (by kernel_rfl) ?_
  obtain ⟨x47, hx48, hm⟩ := bindE hm
  refine WL.st (.pointer (some (at_ a0' (Int.toNat st23.2.2 * 1)))) (ST.index (T := fStr.ty) (xs := clauses_0) (Rd.below h0 hb31) hx48 rfl rfl rfl Tryd.underlying22 (info9).1 (info9).2.1) rfl rfl rfl ?_
  refine WL.st (.string (bs x47)) (ST.load (cell_ext (Rd.flat (F := fStr) (Rd.below h0 hb31) hx48 0 rfl)) rfl rfl Tryd.underlying9 rfl) rfl rfl rfl ?_
  refine WL.runk 2 [0, 3, 4, 5, 6, 11, 12, 13] [(0, .slice a0' clauses_0.length c0'), (3, .slice a24 st23.1.length c25), (4, .slice a27 st23.2.1.length c28), (11, .slice a0' clauses_0.length c0'), (12, .int .i64 (clauses_0.length : Int)), (13, .int .i64 st23.2.2), (5, .int .i64 st23.2.2), (6, .string (bs x47))] (by kernel_rfl) ?_
  refine WL.nil ?_
  refine WQ.then_normal (hK46 _ _ _ ?_)
  refine WP.seq (fun K49 hK49 => ?_)
  refine WP.region ?_
  refine WL.runk 1 [0, 3, 4, 5, 6, 11, 12, 13, 18] [(0, .slice a0' clauses_0.length c0'), (3, .slice a24 st23.1.length c25), (4, .slice a27 st23.2.1.length c28), (11, .slice a0' clauses_0.length c0'), (12, .int .i64 (clauses_0.length : Int)), (13, .int .i64 st23.2.2), (5, .int .i64 st23.2.2), (6, .string (bs x47)), (18, .string (bs x47))] (by kernel_rfl) ?_
  obtain ⟨x50, hx51, hm⟩ := bindE hm
  refine WL.call 59 #[.string (bs x47)] rfl rfl (by kernel_rfl) (c_59 n x47 w30 hx51 (GL.below hG hb31)) ?_
  rintro _ w52 ⟨rfl, hE53⟩
  refine ⟨_, rfl, ?_⟩
  have hb55 : Ext w w52 := Ext.trans hb31 hE53
  have hL56 : w.heap.size ≤ w52.heap.size := Nat.le_trans hL32 hE53.size
  have hS57 : SH w52 w.heap.size [aOwn fTrouble 62 a24 c25 st23.1, aOwn fStr 9 a27 c28 st23.2.1] := SH.ext hS33 hE53
  refine WL.runk 1 [0, 3, 4, 5, 11, 12, 13, 19, 20] [(0, .slice a0' clauses_0.length c0'), (3, .slice a24 st23.1.length c25), (4, .slice a27 st23.2.1.length c28), (11, .slice a0' clauses_0.length c0'), (12, .int .i64 (clauses_0.length : Int)), (13, .int .i64 st23.2.2), (5, .int .i64 st23.2.2), (19, .int .i64 x50), (20, .string (bs x47))] (by kernel_rfl) ?_
  obtain ⟨x58, hx59, hm⟩ := bindE hm
  refine WL.call 60 #[.string (bs x47)] rfl rfl (by kernel_rfl) (c_60 n x47 w52 hx59 (GL.below (GL.low (j := 1) hG rfl) hb55)) ?_
  rintro _ w60 ⟨rfl, hE61⟩
  refine ⟨_, rfl, ?_⟩
  have hb63 : Ext w w60 := Ext.trans hb55 hE61
  have hL64 : w.heap.size ≤ w60.heap.size := Nat.le_trans hL56 hE61.size
  have hS65 : SH w60 w.heap.size [aOwn fTrouble 62 a24 c25 st23.1, aOwn fStr 9 a27 c28 st23.2.1] := SH.ext hS57 hE61
  refine WL.runk 2 [0, 3, 4, 5, 7, 8, 11, 12, 13] [(0, .slice a0' clauses_0.length c0'), (3, .slice a24 st23.1.length c25), (4, .slice a27 st23.2.1.length c28), (11, .slice a0' clauses_0.length c0'), (12, .int .i64 (clauses_0.length : Int)), (13, .int .i64 st23.2.2), (5, .int .i64 st23.2.2), (7, .int .i64 x50), (8, .string (bs x58))] (by kernel_rfl) ?_
  refine WL.nil ?_
  refine WQ.then_normal (hK49 _ _ _ ?_)
  refine WP.seq (fun K66 hK66 => ?_)
  refine WP.seq (fun K67 hK67 => ?_)
  obtain ⟨x77, hx78, hm⟩ := bindE hm
  refine WP.cut (fun env' w' => env' = [(0, .slice a0' clauses_0.length c0'), (3, .slice a24 st23.1.length c25), (4, .slice a27 st23.2.1.length c28), (11, .slice a0' clauses_0.length c0'), (12, .int .i64 (clauses_0.length : Int)), (13, .int .i64 st23.2.2), (5, .int .i64 st23.2.2), (7, .int .i64 x50), (8, .string (bs x58)), (28, .bool x77)] ∧ Ext w w' ∧ w.heap.size ≤ w'.heap.size ∧ SH w' w.heap.size [aOwn fTrouble 62 a24 c25 st23.1, aOwn fStr 9 a27 c28 st23.2.1]) ?_ ?_
  · have hm := hx78; clear hx78
    refine WP.region ?_
    refine WL.runk 3 [0, 3, 4, 5, 7, 8, 11, 12, 13, 24] [(0, .slice a0' clauses_0.length c0'), (3, .slice a24 st23.1.length c25), (4, .slice a27 st23.2.1.length c28), (11, .slice a0' clauses_0.length c0'), (12, .int .i64 (clauses_0.length : Int)), (13, .int .i64 st23.2.2), (5, .int .i64 st23.2.2), (7, .int .i64 x50), (8, .string (bs x58)), (24, .bool (x50 == 0))] (by kernel_rfl) ?_
    refine WL.case (x50 == 0) [24] ⟨rfl, trivial⟩ (fun hc79 => ?_) (fun hc79 => ?_)
    rotate_left
    · have hm := iteF hm hc79
      refine WL.runk 4 [0, 3, 4, 5, 7, 8, 11, 12, 13, 28] [(0, .slice a0' clauses_0.length c0'), (3, .slice a24 st23.1.length c25), (4, .slice a27 st23.2.1.length c28), (11, .slice a0' clauses_0.length c0'), (12, .int .i64 (clauses_0.length : Int)), (13, .int .i64 st23.2.2), (5, .int .i64 st23.2.2), (7, .int .i64 x50), (8, .string (bs x58)), (28, .bool false)] (by kernel_rfl) ?_
      refine WL.nil ?_
      obtain rfl := Option.some.inj hm
      exact WQ.post' ⟨rfl, hb63, hL64, hS65⟩ ⟨rfl, rfl, rfl, rfl, rfl, rfl, rfl, rfl, rfl, rfl, trivial⟩
    have hm := iteT hm hc79
    refine WL.runk 2 [0, 3, 4, 5, 7, 8, 11, 12, 13, 24, 25, 26] [(0, .slice a0' clauses_0.length c0'), (3, .slice a24 st23.1.length c25), (4, .slice a27 st23.2.1.length c28), (11, .slice a0' clauses_0.length c0'), (12, .int .i64 (clauses_0.length : Int)), (13, .int .i64 st23.2.2), (5, .int .i64 st23.2.2), (7, .int .i64 x50), (8, .string (bs x58)), (24, .bool true), (25, .slice a27 st23.2.1.length c28), (26, .string (bs x58))] (by kernel_rfl) ?_
    obtain ⟨x80, hx81, hm⟩ := bindE hm
    refine WL.call 61 #[.slice a27 st23.2.1.length c28, .string (bs x58)] rfl rfl (by kernel_rfl) (c_61 n st23.2.1 a27 c28 x58 w60 hx81 (SH.rd (SH.front 1 hS65)) (SH.le (SH.front 1 hS65)).1) ?_
    rintro _ w82 ⟨rfl, hE83⟩
    refine ⟨_, rfl, ?_⟩
    have hb85 : Ext w w82 := Ext.trans hb63 hE83
    have hL86 : w.heap.size ≤ w82.heap.size := Nat.le_trans hL64 hE83.size
    have hS87 : SH w82 w.heap.size [aOwn fTrouble 62 a24 c25 st23.1, aOwn fStr 9 a27 c28 st23.2.1] := SH.ext hS65 hE83
    refine WL.runk 1 [0, 3, 4, 5, 7, 8, 11, 12, 13, 28] [(0, .slice a0' clauses_0.length c0'), (3, .slice a24 st23.1.length c25), (4, .slice a27 st23.2.1.length c28), (11, .slice a0' clauses_0.length c0'), (12, .int .i64 (clauses_0.length : Int)), (13, .int .i64 st23.2.2), (5, .int .i64 st23.2.2), (7, .int .i64 x50), (8, .string (bs x58)), (28, .bool x80)] (by kernel_rfl) ?_
    refine WL.nil ?_
    obtain rfl := Option.some.inj hm
    exact WQ.post' ⟨rfl, hb85, hL86, hS87⟩ ⟨rfl, rfl, rfl, rfl, rfl, rfl, rfl, rfl, rfl, rfl, trivial⟩
  clear hx78
  rintro _ w88 ⟨rfl, hb89, hL90, hS91⟩
  refine WQ.then_normal (hK67 _ _ _ ?_)
  obtain ⟨x93, hx94, hm⟩ := bindE hm
  refine WP.cut (fun env' w' => env' = [(0, .slice a0' clauses_0.length c0'), (3, .slice a24 st23.1.length c25), (4, .slice a27 st23.2.1.length c28), (11, .slice a0' clauses_0.length c0'), (12, .int .i64 (clauses_0.length : Int)), (13, .int .i64 st23.2.2), (5, .int .i64 st23.2.2), (7, .int .i64 x93), (8, .string (bs x58))] ∧ Ext w w' ∧ w.heap.size ≤ w'.heap.size ∧ SH w' w.heap.size [aOwn fTrouble 62 a24 c25 st23.1, aOwn fStr 9 a27 c28 st23.2.1]) ?_ ?_
  · have hm := hx94; clear hx94
    refine WP.cond x77 rfl rfl (fun hc92 => ?_) (fun hc92 => ?_)
    rotate_left
    · have hm := iteF hm hc92
      refine WP.skip ?_
      obtain rfl := Option.some.inj hm
      exact WQ.post' ⟨rfl, hb89, hL90, hS91⟩ ⟨rfl, rfl, rfl, rfl, rfl, rfl, rfl, rfl, rfl, trivial⟩
    have hm := iteT hm hc92
    refine WP.region ?_
    refine WL.runk 1 [0, 3, 4, 5, 7, 8, 11, 12, 13] [(0, .slice a0' clauses_0.length c0'), (3, .slice a24 st23.1.length c25), (4, .slice a27 st23.2.1.length c28), (11, .slice a0' clauses_0.length c0'), (12, .int .i64 (clauses_0.length : Int)), (13, .int .i64 st23.2.2), (5, .int .i64 st23.2.2), (7, .int .i64 5), (8, .string (bs x58))] (by kernel_rfl) ?_
    refine WL.nil ?_
    obtain rfl := Option.some.inj hm
    exact WQ.post' ⟨rfl, hb89, hL90, hS91⟩ ⟨rfl, rfl, rfl, rfl, rfl, rfl, rfl, rfl, rfl, trivial⟩
  clear hx94
  rintro _ w95 ⟨rfl, hb96, hL97, hS98⟩
  refine WQ.then_normal (hK66 _ _ _ ?_)
  refine WP.seq (fun K99 hK99 => ?_)
  refine WP.seq (fun K100 hK100 => ?_)
  refine WP.region ?_
  refine WL.runk 2 [0, 3, 4, 5, 7, 8, 11, 12, 13, 30] [(0, .slice a0' clauses_0.length c0'), (3, .slice a24 st23.1.length c25), (4, .slice a27 st23.2.1.length c28), (11, .slice a0' clauses_0.length c0'), (12, .int .i64 (clauses_0.length : Int)), (13, .int .i64 st23.2.2), (5, .int .i64 st23.2.2), (7, .int .i64 x93), (8, .string (bs x58)), (30, .bool (x93 != 0))] (by kernel_rfl) ?_
  refine WL.nil ?_
  refine WQ.then_normal (hK100 _ _ _ ?_)
  obtain ⟨x120, hx121, hm⟩ := bindE hm
  refine WP.cut (fun env' w' => ∃ (a122 : Option Addr) (c123 : Nat), env' = [(0, .slice a0' clauses_0.length c0'), (3, .slice a122 x120.length c123), (4, .slice a27 st23.2.1.length c28), (11, .slice a0' clauses_0.length c0'), (12, .int .i64 (clauses_0.length : Int)), (13, .int .i64 st23.2.2), (8, .string (bs x58))] ∧ Ext w w' ∧ w.heap.size ≤ w'.heap.size ∧ SH w' w.heap.size [aOwn fTrouble 62 a122 c123 x120, aOwn fStr 9 a27 c28 st23.2.1]) ?_ ?_
  · have hm := hx121; clear hx121
    refine WP.cond (x93 != 0) rfl rfl (fun hc101 => ?_) (fun hc101 => ?_)
    rotate_left
    · have hm := iteF hm hc101
      refine WP.skip ?_
      obtain rfl := Option.some.inj hm
      exact WQ.post' ⟨_, _, rfl, hb96, hL97, hS98⟩ ⟨rfl, rfl, rfl, rfl, rfl, rfl, rfl, trivial⟩
    have hm := iteT hm hc101
    refine WP.region ?_
    refine WL.runk 4 [0, 4, 8, 11, 12, 13, 31, 34] [(0, .slice a0' clauses_0.length c0'), (4, .slice a27 st23.2.1.length c28), (11, .slice a0' clauses_0.length c0'), (12, .int .i64 (clauses_0.length : Int)), (13, .int .i64 st23.2.2), (8, .string (bs x58)), (31, .slice a24 st23.1.length c25), (34, .agg #[.int .i64 st23.2.2, .int .i64 x93])] (by kernel_rfl) ?_
    refine WL.row fTrouble 62 ([(STrouble.mk st23.2.2 x93)] : List STrouble) 1 #[.int .i64 st23.2.2, .int .i64 x93] 35 (by kernel_rfl) rfl rfl rfl rfl rfl rfl rfl ?_
    intro a125 c126 w127 hE128 hR129
    have hb131 : Ext w w127 := Ext.trans hb96 hE128
    have hL132 : w.heap.size ≤ w127.heap.size := Nat.le_trans hL97 hE128.size
    have hS133 : SH w127 w.heap.size [aOwn fTrouble 62 a125 c126 ([(STrouble.mk st23.2.2 x93)] : List STrouble), aOwn fTrouble 62 a24 c25 st23.1, aOwn fStr 9 a27 c28 st23.2.1] := SH.add hS98 hE128 hL97 hR129
    obtain ⟨x134, hx135, hm⟩ := bindE hm
    refine WL.append (F := fTrouble) (xs := st23.1) (ys := ([(STrouble.mk st23.2.2 x93)] : List STrouble)) 36 (SH.front 1 hS133) hL132 (SH.rd (SH.front 0 hS133)) hx135 rfl rfl rfl Tryd.underlying37 (info62).1 (info62).2.2.1 (info62).2.1 (info62).2.2.2 rfl rfl rfl rfl rfl ?_
    intro a136 c137 w138 hB139 hS140
    have hb141 : Ext w w138 := Below.trans hb131 hB139
    have hL142 : w.heap.size ≤ w138.heap.size := Nat.le_trans hL132 hB139.size
    refine WL.runk 1 [0, 3, 4, 8, 11, 12, 13] [(0, .slice a0' clauses_0.length c0'), (4, .slice a27 st23.2.1.length c28), (11, .slice a0' clauses_0.length c0'), (12, .int .i64 (clauses_0.length : Int)), (13, .int .i64 st23.2.2), (8, .string (bs x58)), (3, .slice a136 x134.length c137)] (by kernel_rfl) ?_
    refine WL.nil ?_
    obtain rfl := Option.some.inj hm
    exact WQ.post' ⟨_, _, rfl, hb141, hL142, (SH.take 2 (SH.front 1 (SH.front 2 hS140)))⟩ ⟨rfl, rfl, rfl, rfl, rfl, rfl, rfl, trivial⟩
  clear hx121
  rintro _ w143 ⟨a122, c123, rfl, hb144, hL145, hS146⟩
  refine WQ.then_normal (hK99 _ _ _ ?_)
  refine WP.region ?_
  refine WL.runk 2 [0, 3, 11, 12, 13, 37, 38] [(0, .slice a0' clauses_0.length c0'), (3, .slice a122 x120.length c123), (11, .slice a0' clauses_0.length c0'), (12, .int .i64 (clauses_0.length : Int)), (13, .int .i64 st23.2.2), (37, .slice a27 st23.2.1.length c28), (38, .string (bs x58))] (by kernel_rfl) ?_
  refine WL.row fStr 9 ([x58] : List (List UInt8)) 1 #[.string (bs x58)] 39 (by kernel_rfl) rfl rfl rfl rfl rfl rfl rfl ?_
  intro a147 c148 w149 hE150 hR151
  have hb153 : Ext w w149 := Ext.trans hb144 hE150
  have hL154 : w.heap.size ≤ w149.heap.size := Nat.le_trans hL145 hE150.size
  have hS155 : SH w149 w.heap.size [aOwn fStr 9 a147 c148 ([x58] : List (List UInt8)), aOwn fTrouble 62 a122 c123 x120, aOwn fStr 9 a27 c28 st23.2.1] := SH.add hS146 hE150 hL145 hR151
  obtain ⟨x156, hx157, hm⟩ := bindE hm
  refine WL.append (F := fStr) (xs := st23.2.1) (ys := ([x58] : List (List UInt8))) 40 (SH.front 2 hS155) hL154 (SH.rd (SH.front 0 hS155)) hx157 rfl rfl rfl Tryd.underlying22 (info9).1 (info9).2.2.1 (info9).2.1 (info9).2.2.2 rfl rfl rfl rfl rfl ?_
  intro a158 c159 w160 hB161 hS162
  have hb163 : Ext w w160 := Below.trans hb153 hB161
  have hL164 : w.heap.size ≤ w160.heap.size := Nat.le_trans hL154 hB161.size
  refine WL.runk 1 [0, 3, 4, 11, 12, 13] [(0, .slice a0' clauses_0.length c0'), (3, .slice a122 x120.length c123), (11, .slice a0' clauses_0.length c0'), (12, .int .i64 (clauses_0.length : Int)), (13, .int .i64 st23.2.2), (4, .slice a158 x156.length c159)] (by kernel_rfl) ?_
  refine WL.nil ?_
  refine WQ.block_normal ?_
  refine WQ.then_normal (hK45 _ _ _ ?_)
  refine WP.region ?_
  refine WL.runk 2 [0, 3, 4, 11, 12, 13] [(0, .slice a0' clauses_0.length c0'), (3, .slice a122 x120.length c123), (11, .slice a0' clauses_0.length c0'), (12, .int .i64 (clauses_0.length : Int)), (13, .int .i64 (wI64 (st23.2.2 + 1))), (4, .slice a158 x156.length c159)] (by kernel_rfl) ?_
  refine WL.nil ?_
  obtain rfl := Option.some.inj hm
  exact WQ.round hK36 ⟨(x120, x156, (wI64 (st23.2.2 + 1))), _, _, _, _, rfl, hb163, hL164, (SH.take 2 (SH.front 2 hS162)), hl34⟩ (Nat.lt_succ_self _) ⟨rfl, rfl, rfl, rfl, rfl, rfl, trivial⟩

theorem c_20 (n : Nat) (s_0 : List UInt8) (w : World) {r : List STrouble × Int} (hm : m_impl_CheckStyle n s_0 = some r) (hG : GL 3 w) :
    CallV Tryd.prog 20 #[.string (bs s_0)] w (fun v w' => ∃ (ra0 : Option Addr) (rc0 : Nat), v = .tuple #[.slice ra0 r.1.length rc0, .int .i64 r.2] ∧ Ext w w' ∧ SH w' w.heap.size [aOwn fTrouble 62 ra0 rc0 r.1]) := by
  unfold m_impl_CheckStyle at hm
  refine CallV.enter Tryd.func20 rfl (by kernel_rfl) Tryd.ntmps20 (env := [(0, .string (bs s_0))]) ⟨rfl, trivial⟩ ?_
  refine WP.seq (fun K1 hK1 => ?_)
  refine WP.region ?_
  refine WL.runk 2 [0] [(0, .string (bs s_0))] (by kernel_rfl) ?_
  refine WL.nil ?_
  refine WQ.then_normal (hK1 _ _ _ ?_)
  refine WP.seq (fun K2 hK2 => ?_)
  refine WP.region ?_
  refine WL.runk 1 [7] [(7, .string (bs s_0))] (by kernel_rfl) ?_
  obtain ⟨x3, hx4, hm⟩ := bindE hm
  refine WL.call 28 #[.string (bs s_0)] rfl rfl (by kernel_rfl) (c_28 n s_0 w hx4 (GL.below (GL.low (j := 1) hG rfl) (Ext.refl w))) ?_
  rintro _ w8 ⟨a5, c6, rfl, hE9, hR10⟩
  refine ⟨_, rfl, ?_⟩
  have hb11 : Ext w w8 := Ext.trans (Ext.refl w) hE9
  have hL12 : w.heap.size ≤ w8.heap.size := Nat.le_trans (Nat.le_refl _) hE9.size
  have hS13 : SH w8 w.heap.size [aOwn fStr 9 a5 c6 x3.1] := SH.add (SH.nil _ _) hE9 (Nat.le_refl _) hR10
  refine WL.runk 5 [4, 5] [(4, .slice a5 x3.1.length c6), (5, .bool x3.2)] (by kernel_rfl) ?_
  refine WL.nil ?_
  refine WQ.then_normal (hK2 _ _ _ ?_)
  refine WP.seq (fun K14 hK14 => ?_)
  refine WP.seq (fun K15 hK15 => ?_)
  refine WP.region ?_
  refine WL.runk 2 [4, 12] [(4, .slice a5 x3.1.length c6), (12, .bool (!x3.2))] (by kernel_rfl) ?_
  refine WL.nil ?_
  refine WQ.then_normal (hK15 _ _ _ ?_)
  refine WP.cond (!x3.2) rfl rfl (fun hc16 => ?_) (fun hc16 => ?_)
  · have hm := iteT hm hc16
    refine WP.seq (fun K17 hK17 => ?_)
    refine WP.region ?_
    refine WL.runk 2 [2, 3] [(2, .slice none 0 0), (3, .int .i64 5)] (by kernel_rfl) ?_
    refine WL.nil ?_
    refine WQ.then_normal (hK17 _ _ _ ?_)
    refine WP.ret ?_
    refine WQ.then_ret ?_
    obtain rfl := Option.some.inj hm
    have hS19 : SH w8 w.heap.size [aOwn fTrouble 62 none 0 ([] : List STrouble), aOwn fStr 9 a5 c6 x3.1] := SH.nilOwn hS13
    exact WQ.ret2 _ _ rfl rfl rfl ⟨_, _, rfl, hb11, (SH.take 1 hS19)⟩
  have hm := iteF hm hc16
  refine WP.skip ?_
  refine WQ.then_normal (hK14 _ _ _ ?_)
  refine WP.seq (fun K20 hK20 => ?_)
  refine WP.region ?_
  refine WL.runk 1 [13] [(13, .slice a5 x3.1.length c6)] (by kernel_rfl) ?_
  obtain ⟨x21, hx22, hm⟩ := bindE hm
  refine WL.call 41 #[.slice a5 x3.1.length c6] rfl rfl (by kernel_rfl) (c_41 n x3.1 a5 c6 w8 hx22 (GL.below hG hb11) (SH.rd (SH.front 0 hS13)) (SH.le (SH.front 0 hS13)).1) ?_
  rintro _ w26 ⟨a23, c24, rfl, hE27, hR28⟩
  refine ⟨_, rfl, ?_⟩
  have hb29 : Ext w w26 := Ext.trans hb11 hE27
  have hL30 : w.heap.size ≤ w26.heap.size := Nat.le_trans hL12 hE27.size
  have hS31 : SH w26 w.heap.size [aOwn fTrouble 62 a23 c24 x21, aOwn fStr 9 a5 c6 x3.1] := SH.add hS13 hE27 hL12 hR28
  refine WL.runk 2 [2, 3] [(2, .slice a23 x21.length c24), (3, .int .i64 0)] (by kernel_rfl) ?_
  refine WL.nil ?_
  refine WQ.then_normal (hK20 _ _ _ ?_)
  refine WP.ret ?_
  obtain rfl := Option.some.inj hm
  exact WQ.ret2 _ _ rfl rfl rfl ⟨_, _, rfl, hb29, (SH.take 1 hS31)⟩

theorem c_42 (n : Nat) (a_0 : STrouble) (b_1 : STrouble) (w : World) {r : Bool} (hm : m_laws_eqTrouble n a_0 b_1 = some r)  :
    CallV Tryd.prog 42 #[.agg #[.int .i64 a_0.Clause, .int .i64 a_0.Code], .agg #[.int .i64 b_1.Clause, .int .i64 b_1.Code]] w (fun v w' => v = .bool r ∧ Ext w w') := by
  unfold m_laws_eqTrouble at hm
  refine CallV.enter Tryd.func42 rfl (by kernel_rfl) Tryd.ntmps42 (env := [(0, .agg #[.int .i64 a_0.Clause, .int .i64 a_0.Code]), (1, .agg #[.int .i64 b_1.Clause, .int .i64 b_1.Code])]) ⟨rfl, rfl, trivial⟩ ?_
  refine WP.seq (fun K1 hK1 => ?_)
  refine WP.region ?_
  refine WL.box 62 [.int .i64 a_0.Clause, .int .i64 a_0.Code] 2 (by kernel_rfl) rfl rfl rfl rfl ?_
  intro b2 w3 hE4 hR5
  have hb7 : Ext w w3 := Ext.trans (Ext.refl w) hE4
  have hL8 : w.heap.size ≤ w3.heap.size := Nat.le_trans (Nat.le_refl _) hE4.size
  have hS9 : SH w3 w.heap.size [aBox 62 b2 [.int .i64 a_0.Clause, .int .i64 a_0.Code]] := SH.add (SH.nil _ _) hE4 (Nat.le_refl _) hR5
  refine WL.box 62 [.int .i64 b_1.Clause, .int .i64 b_1.Code] 3 (by kernel_rfl) rfl rfl rfl rfl ?_
  intro b10 w11 hE12 hR13
  have hb15 : Ext w w11 := Ext.trans hb7 hE12
  have hL16 : w.heap.size ≤ w11.heap.size := Nat.le_trans hL8 hE12.size
  have hS17 : SH w11 w.heap.size [aBox 62 b10 [.int .i64 b_1.Clause, .int .i64 b_1.Code], aBox 62 b2 [.int .i64 a_0.Clause, .int .i64 a_0.Code]] := SH.add hS9 hE12 hL8 hR13
  refine WL.runk 1 [2, 3] [(2, .pointer (some ⟨b2, 0, none⟩)), (3, .pointer (some ⟨b10, 0, none⟩))] (by kernel_rfl) ?_
  refine WL.nil ?_
  refine WQ.then_normal (hK1 _ _ _ ?_)
  refine WP.seq (fun K18 hK18 => ?_)
  refine WP.seq (fun K19 hK19 => ?_)
  refine WP.region ?_
  refine WL.runk 1 [2, 3, 5] [(2, .pointer (some ⟨b2, 0, none⟩)), (3, .pointer (some ⟨b10, 0, none⟩)), (5, .pointer (some ⟨b2, 0, none⟩))] (by kernel_rfl) ?_
  refine WL.st (.int .i64 a_0.Clause) (ST.load (cell_ext (SH.boxAt (SH.front 1 hS17) 0 _ rfl)) rfl rfl Tryd.underlying2 rfl) rfl rfl rfl ?_
  refine WL.runk 1 [2, 3, 6, 7] [(2, .pointer (some ⟨b2, 0, none⟩)), (3, .pointer (some ⟨b10, 0, none⟩)), (6, .int .i64 a_0.Clause), (7, .pointer (some ⟨b10, 0, none⟩))] (by kernel_rfl) ?_
  refine WL.st (.int .i64 b_1.Clause) (ST.load (cell_ext (SH.boxAt (SH.front 0 hS17) 0 _ rfl)) rfl rfl Tryd.underlying2 rfl) rfl rfl rfl ?_
  refine WL.runk 1 [2, 3, 9] [(2, .pointer (some ⟨b2, 0, none⟩)), (3, .pointer (some ⟨b10, 0, none⟩)), (9, .bool (a_0.Clause != b_1.Clause))] (by kernel_rfl) ?_
  refine WL.nil ?_
  refine WQ.then_normal (hK19 _ _ _ ?_)
  refine WP.cond (a_0.Clause != b_1.Clause) rfl rfl (fun hc20 => ?_) (fun hc20 => ?_)
  · have hm := iteT hm hc20
    refine WP.seq (fun K21 hK21 => ?_)
    refine WP.region ?_
    refine WL.runk 1 [4] [(4, .bool false)] (by kernel_rfl) ?_
    refine WL.nil ?_
    refine WQ.then_normal (hK21 _ _ _ ?_)
    refine WP.ret ?_
    refine WQ.then_ret ?_
    obtain rfl := Option.some.inj hm
    exact WQ.ret1 _ rfl rfl ⟨rfl, hb15⟩
  have hm := iteF hm hc20
  refine WP.skip ?_
  refine WQ.then_normal (hK18 _ _ _ ?_)
  refine WP.seq (fun K22 hK22 => ?_)
  refine WP.seq (fun K23 hK23 => ?_)
  refine WP.region ?_
  refine WL.runk 1 [3, 10] [(3, .pointer (some ⟨b10, 0, none⟩)), (10, .pointer (some ⟨b2, 1, none⟩))] (by kernel_rfl) ?_
  refine WL.st (.int .i64 a_0.Code) (ST.load (cell_ext (SH.boxAt (SH.front 1 hS17) 1 _ rfl)) rfl rfl Tryd.underlying2 rfl) rfl rfl rfl ?_
  refine WL.runk 1 [11, 12] [(11, .int .i64 a_0.Code), (12, .pointer (some ⟨b10, 1, none⟩))] (by kernel_rfl) ?_
  refine WL.st (.int .i64 b_1.Code) (ST.load (cell_ext (SH.boxAt (SH.front 0 hS17) 1 _ rfl)) rfl rfl Tryd.underlying2 rfl) rfl rfl rfl ?_
  refine WL.runk 1 [14] [(14, .bool (a_0.Code != b_1.Code))] (by kernel_rfl) ?_
  refine WL.nil ?_
  refine WQ.then_normal (hK23 _ _ _ ?_)
  refine WP.cond (a_0.Code != b_1.Code) rfl rfl (fun hc24 => ?_) (fun hc24 => ?_)
  · have hm := iteT hm hc24
    refine WP.seq (fun K25 hK25 => ?_)
    refine WP.region ?_
    refine WL.runk 1 [4] [(4, .bool false)] (by kernel_rfl) ?_
    refine WL.nil ?_
    refine WQ.then_normal (hK25 _ _ _ ?_)
    refine WP.ret ?_
    refine WQ.then_ret ?_
    obtain rfl := Option.some.inj hm
    exact WQ.ret1 _ rfl rfl ⟨rfl, hb15⟩
  have hm := iteF hm hc24
  refine WP.skip ?_
  refine WQ.then_normal (hK22 _ _ _ ?_)
  refine WP.seq (fun K26 hK26 => ?_)
  refine WP.region ?_
  refine WL.runk 1 [4] [(4, .bool true)] (by kernel_rfl) ?_
  refine WL.nil ?_
  refine WQ.then_normal (hK26 _ _ _ ?_)
  refine WP.ret ?_
  obtain rfl := Option.some.inj hm
  exact WQ.ret1 _ rfl rfl ⟨rfl, hb15⟩

theorem c_21 (n : Nat) (a_0 : List STrouble) (a0' : Option Addr) (c0' : Nat) (b_1 : List STrouble) (a1' : Option Addr) (c1' : Nat) (w : World) {r : Bool} (hm : m_laws_eqTroubleS n a_0 b_1 = some r) (h0 : Rd fTrouble.ty w a0' a_0) (_hle0 : a_0.length ≤ c0') (h1 : Rd fTrouble.ty w a1' b_1) (_hle1 : b_1.length ≤ c1') :
    CallV Tryd.prog 21 #[.slice a0' a_0.length c0', .slice a1' b_1.length c1'] w (fun v w' => v = .bool r ∧ Ext w w') := by
  unfold m_laws_eqTroubleS at hm
  refine CallV.enter Tryd.func21 rfl (by kernel_rfl) Tryd.ntmps21 (env := [(0, .slice a0' a_0.length c0'), (1, .slice a1' b_1.length c1')]) ⟨rfl, rfl, trivial⟩ ?_
  refine WP.seq (fun K1 hK1 => ?_)
  refine WP.region ?_
  refine WL.runk 1 [0, 1] [(0, .slice a0' a_0.length c0'), (1, .slice a1' b_1.length c1')] (by kernel_rfl) ?_
  refine WL.nil ?_
  refine WQ.then_normal (hK1 _ _ _ ?_)
  refine WP.seq (fun K2 hK2 => ?_)
  refine WP.seq (fun K3 hK3 => ?_)
  refine WP.region ?_
  refine WL.runk 5 [0, 1, 10] [(0, .slice a0' a_0.length c0'), (1, .slice a1' b_1.length c1'), (10, .bool ((a_0.length : Int) != (b_1.length : Int)))] (by kernel_rfl) ?_
  refine WL.nil ?_
  refine WQ.then_normal (hK3 _ _ _ ?_)
  refine WP.cond ((a_0.length : Int) != (b_1.length : Int)) rfl rfl (fun hc4 => ?_) (fun hc4 => ?_)
  · have hm := iteT hm hc4
    refine WP.seq (fun K5 hK5 => ?_)
    refine WP.region ?_
    refine WL.runk 1 [4] [(4, .bool false)] (by kernel_rfl) ?_
    refine WL.nil ?_
    refine WQ.then_normal (hK5 _ _ _ ?_)
    refine WP.ret ?_
    refine WQ.then_ret ?_
    obtain rfl := Option.some.inj hm
    exact WQ.ret1 _ rfl rfl ⟨rfl, (Ext.refl w)⟩
  have hm := iteF hm hc4
  refine WP.skip ?_
  refine WQ.then_normal (hK2 _ _ _ ?_)
  refine WP.seq (fun K6 hK6 => ?_)
  refine WP.seq (fun K7 hK7 => ?_)
  refine WP.region ?_
  refine WL.runk 1 [0, 1, 5] [(0, .slice a0' a_0.length c0'), (1, .slice a1' b_1.length c1'), (5, .int .i64 0)] (by kernel_rfl) ?_
  refine WL.nil ?_
  refine WQ.then_normal (hK7 _ _ _ ?_)
  refine WP.block ?_
  obtain ⟨t19, ht20, hm⟩ := bindE hm
  have hmo14 := hm; clear hm
  refine WP.sub [(0, .slice a0' a_0.length c0'), (1, .slice a1' b_1.length c1'), (5, .int .i64 0)] ⟨rfl, rfl, rfl, trivial⟩ ?_
  refine WP.loop (fun n' env' w' => ∃ (st8 : Int) , env' = [(0, .slice a0' a_0.length c0'), (1, .slice a1' b_1.length c1'), (5, .int .i64 st8)] ∧ Ext w w' ∧ w.heap.size ≤ w'.heap.size ∧ SH w' w.heap.size [] ∧ loopN (m_laws_eqTroubleS_l1 n a_0 b_1) n' st8 = some t19) n ⟨0, rfl, (Ext.refl w), (Nat.le_refl _), (SH.nil _ _), ht20⟩ ?_
  rintro n16 _ w9 ⟨st8, rfl, hb10, hL11, hS12, hl13⟩ K15 hK15
  obtain ⟨n17, s18, rfl, hm, hl13⟩ := loopN_some hl13
  unfold m_laws_eqTroubleS_l1 at hm
  refine WP.seq (fun K21 hK21 => ?_)
  refine WP.seq (fun K22 hK22 => ?_)
  refine WP.region ?_
  refine WL.runk 4 [0, 1, 5, 14] [(0, .slice a0' a_0.length c0'), (1, .slice a1' b_1.length c1'), (5, .int .i64 st8), (14, .bool (decide (st8 < (a_0.length : Int))))] (by kernel_rfl) ?_
  refine WL.nil ?_
  refine WQ.then_normal (hK22 _ _ _ ?_)
  refine WP.cond (decide (st8 < (a_0.length : Int))) rfl rfl (fun hc23 => ?_) (fun hc23 => ?_)
  rotate_left
  · have hm := iteF hm hc23
    refine WP.exit ?_
    refine WQ.then_exit ?_
    refine WQ.then_exit ?_
    refine WQ.block_here ?_
    obtain rfl := Option.some.inj hm
    obtain rfl := afterN_done hl13
    have hm := hmo14
    refine WQ.then_normal (hK6 _ _ _ ?_)
    refine WP.seq (fun K41 hK41 => ?_)
    refine WP.region ?_
    refine WL.runk 1 [4] [(4, .bool true)] (by kernel_rfl) ?_
    refine WL.nil ?_
    refine WQ.then_normal (hK41 _ _ _ ?_)
    refine WP.ret ?_
    obtain rfl := Option.some.inj hm
    exact WQ.ret1 _ rfl rfl ⟨rfl, hb10⟩
  have hm := iteT hm hc23
  refine WP.skip ?_
  refine WQ.then_normal (hK21 _ _ _ ?_)
  refine WP.seq (fun K24 hK24 => ?_)
  refine WP.block ?_
  refine WP.seq (fun K25 hK25 => ?_)
  refine WP.quiet (by kernel_rfl) (by kernel_rfl) ?_
  refine QL.step1v 17 (.slice a0' a_0.length c0') rfl (fun _ => by kernel_rfl) ?_
  refine QL.step1v 18 (.int .i64 st8) rfl (fun _ => by kernel_rfl) ?_
  refine QL.subk [0, 1, 5, 17, 18] [(0, .slice a0' a_0.length c0'), (1, .slice a1' b_1.length c1'), (5, .int .i64 st8), (17, .slice a0' a_0.length c0'), (18, .int .i64 st8)] (by kernel_rfl) ?_
  obtain ⟨x26, hx27, hm⟩ := bindE hm
  refine QL.st (.pointer (some (at_ a0' (Int.toNat st8 * 2)))) (ST.index (T := fTrouble.ty) (xs := a_0) (Rd.below h0 hb10) hx27 rfl rfl rfl Tryd.underlying37 (info62).1 (info62).2.1) rfl rfl rfl ?_
  refine QL.st (.agg #[.int .i64 x26.Clause, .int .i64 x26.Code]) (ST.loadAgg (vs := fTrouble.leaf x26) (fun j v hv => Rd.flatA (F := fTrouble) (Rd.below h0 hb10) hx27 j hv) rfl rfl rfl Tryd.underlying62 rfl (info62).1 (info62).2.1) rfl rfl rfl ?_
  refine QL.step1v 21 (.slice a1' b_1.length c1') rfl (fun _ => by kernel_rfl) ?_
  refine QL.step1v 22 (.int .i64 st8) rfl (fun _ => by kernel_rfl) ?_
  refine QL.subk [0, 1, 5, 20, 21, 22] [(0, .slice a0' a_0.length c0'), (1, .slice a1' b_1.length c1'), (5, .int .i64 st8), (20, .agg #[.int .i64 x26.Clause, .int .i64 x26.Code]), (21, .slice a1' b_1.length c1'), (22, .int .i64 st8)] (by kernel_rfl) ?_
  obtain ⟨x28, hx29, hm⟩ := bindE hm
  refine QL.st (.pointer (some (at_ a1' (Int.toNat st8 * 2)))) (ST.index (T := fTrouble.ty) (xs := b_1) (Rd.below h1 hb10) hx29 rfl rfl rfl Tryd.underlying37 (info62).1 (info62).2.1) rfl rfl rfl ?_
  refine QL.st (.agg #[.int .i64 x28.Clause, .int .i64 x28.Code]) (ST.loadAgg (vs := fTrouble.leaf x28) (fun j v hv => Rd.flatA (F := fTrouble) (Rd.below h1 hb10) hx29 j hv) rfl rfl rfl Tryd.underlying62 rfl (info62).1 (info62).2.1) rfl rfl rfl ?_
  obtain ⟨x30, hx31, hm⟩ := bindE hm
  refine QL.call 42 #[.agg #[.int .i64 x26.Clause, .int .i64 x26.Code], .agg #[.int .i64 x28.Clause, .int .i64 x28.Code]] (.bool x30) (fun _ => by kernel_rfl) (fun w32 hE33 => c_42 n x26 x28 w32 hx31 ) rfl rfl rfl ?_
  refine QL.step1v 26 (.bool (!x30)) rfl (fun _ => by kernel_rfl) ?_
  refine QL.subk [0, 1, 5, 26] [(0, .slice a0' a_0.length c0'), (1, .slice a1' b_1.length c1'), (5, .int .i64 st8), (26, .bool (!x30))] (by kernel_rfl) ?_
  refine QL.nil ?_
  intro w34 hE35
  have hb36 : Ext w w34 := Ext.trans hb10 hE35
  have hL37 : w.heap.size ≤ w34.heap.size := Nat.le_trans hL11 hE35.size
  have hS38 : SH w34 w.heap.size [] := SH.ext hS12 hE35
  refine WQ.then_normal (hK25 _ _ _ ?_)
  refine WP.cond (!x30) rfl rfl (fun hc39 => ?_) (fun hc39 => ?_)
  rotate_left
  · have hm := iteF hm hc39
    refine WP.skip ?_
    refine WQ.block_normal ?_
    refine WQ.then_normal (hK24 _ _ _ ?_)
    refine WP.region ?_
    refine WL.runk 3 [0, 1, 5] [(0, .slice a0' a_0.length c0'), (1, .slice a1' b_1.length c1'), (5, .int .i64 (wI64 (st8 + 1)))] (by kernel_rfl) ?_
    refine WL.nil ?_
    obtain rfl := Option.some.inj hm
    exact WQ.round hK15 ⟨(wI64 (st8 + 1)), rfl, hb36, hL37, hS38, hl13⟩ (Nat.lt_succ_self _) ⟨rfl, rfl, rfl, trivial⟩
  have hm := iteT hm hc39
  refine WP.seq (fun K40 hK40 => ?_)
  refine WP.region ?_
  refine WL.runk 1 [4] [(4, .bool false)] (by kernel_rfl) ?_
  refine WL.nil ?_
  refine WQ.then_normal (hK40 _ _ _ ?_)
  refine WP.ret ?_
  refine WQ.block_ret ?_
  refine WQ.then_ret ?_
  refine WQ.then_ret ?_
  refine WQ.block_ret ?_
  refine WQ.then_ret ?_
  obtain rfl := Option.some.inj hm
  obtain rfl := afterN_done hl13
  have hm := hmo14
  obtain rfl := Option.some.inj hm
  exact WQ.ret1 _ rfl rfl ⟨rfl, hb36⟩

theorem c_22 (n : Nat) (a_0 : List STrouble) (a0' : Option Addr) (c0' : Nat) (k_1 : Int) (w : World) (w0 : World) (B : Nat) (L : List Asrt) {r : Int × List STrouble} (hm : m_laws_markTroubleS n a_0 k_1 = some r) (_hE0 : Ext w0 w) (_hW : w0.heap.size ≤ B) (hL : B ≤ w.heap.size) (hS : SH w B (aOwn fTrouble 62 a0' c0' a_0 :: L)) :
    CallV Tryd.prog 22 #[.slice a0' a_0.length c0', .int .i64 k_1] w (fun v w' => v = .int .i64 r.1 ∧ Below B w w' ∧ SH w' B (aOwn fTrouble 62 a0' c0' r.2 :: L) ∧ r.2.length = a_0.length) := by
  unfold m_laws_markTroubleS at hm
  refine CallV.enter Tryd.func22 rfl (by kernel_rfl) Tryd.ntmps22 (env := [(0, .slice a0' a_0.length c0'), (1, .int .i64 k_1)]) ⟨rfl, rfl, trivial⟩ ?_
  refine WP.seq (fun K1 hK1 => ?_)
  refine WP.region ?_
  refine WL.runk 1 [0, 1] [(0, .slice a0' a_0.length c0'), (1, .int .i64 k_1)] (by kernel_rfl) ?_
  refine WL.nil ?_
  refine WQ.then_normal (hK1 _ _ _ ?_)
  refine WP.seq (fun K2 hK2 => ?_)
  refine WP.seq (fun K3 hK3 => ?_)
  refine WP.region ?_
  refine WL.runk 1 [0, 1, 5] [(0, .slice a0' a_0.length c0'), (1, .int .i64 k_1), (5, .int .i64 0)] (by kernel_rfl) ?_
  refine WL.nil ?_
  refine WQ.then_normal (hK3 _ _ _ ?_)
  refine WP.block ?_
  obtain ⟨t52, ht53, hm⟩ := bindE hm
  have hmo47 := hm; clear hm
  refine WP.sub [(0, .slice a0' a_0.length c0'), (1, .int .i64 k_1), (5, .int .i64 0)] ⟨rfl, rfl, rfl, trivial⟩ ?_
  refine WP.loop (fun n' env' w' => ∃ (st41 : Int × Int × List STrouble) , env' = [(0, .slice a0' st41.2.2.length c0'), (1, .int .i64 st41.1), (5, .int .i64 st41.2.1)] ∧ Below B w w' ∧ B ≤ w'.heap.size ∧ SH w' B (aOwn fTrouble 62 a0' c0' st41.2.2 :: L) ∧ st41.2.2.length = a_0.length ∧ loopN (m_laws_markTroubleS_l1 n) n' st41 = some t52) n ⟨(k_1, 0, a_0), rfl, (Below.refl _ _), hL, hS, rfl, ht53⟩ ?_
  rintro n49 _ w42 ⟨st41, rfl, hb43, hL44, hS45, hn54, hl46⟩ K48 hK48
  obtain ⟨n50, s51, rfl, hm, hl46⟩ := loopN_some hl46
  unfold m_laws_markTroubleS_l1 at hm
  refine WP.seq (fun K55 hK55 => ?_)
  refine WP.seq (fun K56 hK56 => ?_)
  refine WP.region ?_
  refine WL.runk 4 [0, 1, 5, 9] [(0, .slice a0' st41.2.2.length c0'), (1, .int .i64 st41.1), (5, .int .i64 st41.2.1), (9, .bool (decide (st41.2.1 < (st41.2.2.length : Int))))] (by kernel_rfl) ?_
  refine WL.nil ?_
  refine WQ.then_normal (hK56 _ _ _ ?_)
  refine WP.cond (decide (st41.2.1 < (st41.2.2.length : Int))) rfl rfl (fun hc57 => ?_) (fun hc57 => ?_)
  rotate_left
  · have hm := iteF hm hc57
    refine WP.exit ?_
    refine WQ.then_exit ?_
    refine WQ.then_exit ?_
    refine WQ.block_here ?_
    obtain rfl := Option.some.inj hm
    obtain rfl := afterN_done hl46
    have hm := hmo47
    refine WQ.then_normal (hK2 _ _ _ ?_)
    refine WP.seq (fun K78 hK78 => ?_)
    refine WP.region ?_
    refine WL.runk 2 [4] [(4, .int .i64 st41.1)] (by kernel_rfl) ?_
    refine WL.nil ?_
    refine WQ.then_normal (hK78 _ _ _ ?_)
    refine WP.ret ?_
    obtain rfl := Option.some.inj hm
    exact WQ.ret1 _ rfl rfl ⟨rfl, hb43, hS45, hn54⟩
  have hm := iteT hm hc57
  refine WP.skip ?_
  refine WQ.then_normal (hK55 _ _ _ ?_)
  refine WP.seq (fun K58 hK58 => ?_)
  refine WP.block ?_
  refine WP.seq (fun K59 hK59 => ?_)
  refine WP.region ?_
  refine WL.runk 3 [0, 1, 5, 12, 13, 14] [(0, .slice a0' st41.2.2.length c0'), (1, .int .i64 st41.1), (5, .int .i64 st41.2.1), (12, .slice a0' st41.2.2.length c0'), (13, .int .i64 st41.2.1), (14, .int .i64 st41.1)] (by kernel_rfl) ?_
  obtain ⟨x60, hx61, hm⟩ := bindE hm
  refine WL.st (.pointer (some (at_ a0' (Int.toNat st41.2.1 * 2)))) (ST.index (T := fTrouble.ty) (xs := st41.2.2) (SH.rd (SH.front 0 hS45)) hx61 rfl rfl rfl Tryd.underlying37 (info62).1 (info62).2.1) rfl rfl rfl ?_
  refine WL.runk 1 [0, 1, 5, 14, 16] [(0, .slice a0' st41.2.2.length c0'), (1, .int .i64 st41.1), (5, .int .i64 st41.2.1), (14, .int .i64 st41.1), (16, .pointer (some (at_ a0' (Int.toNat st41.2.1 * 2))))] (by kernel_rfl) ?_
  refine WL.store (F := fTrouble) (STrouble.mk st41.1 x60.Code) 0 [.int .i64 st41.1] (SH.front 0 hS45) hL44 hx61 rfl rfl rfl rfl rfl rfl rfl (info2).1 (info2).2.1 rfl rfl rfl ?_
  intro w62 hB63 hS64
  have hb65 : Below B w w62 := Below.trans hb43 hB63
  have hL66 : B ≤ w62.heap.size := Nat.le_trans hL44 hB63.size
  refine WL.sub [(0, .slice a0' ((st41.2.2.set (Int.toNat st41.2.1) (STrouble.mk st41.1 x60.Code)).length) c0'), (1, .int .i64 st41.1), (5, .int .i64 st41.2.1), (14, .int .i64 st41.1)] ⟨by first | (simp only [List.length_set]; done) | (simp only [List.length_set]; rfl), rfl, rfl, rfl, trivial⟩ ?_
  have hn67 : (st41.2.2.set (Int.toNat st41.2.1) (STrouble.mk st41.1 x60.Code)).length = a_0.length := List.length_set.trans hn54
  refine WL.sub [(0, .slice a0' ((st41.2.2.set (Int.toNat st41.2.1) (STrouble.mk st41.1 x60.Code)).length) c0'), (1, .int .i64 st41.1), (5, .int .i64 st41.2.1)] ⟨rfl, rfl, rfl, trivial⟩ ?_
  refine WL.nil ?_
  refine WQ.then_normal (hK59 _ _ _ ?_)
  refine WP.seq (fun K68 hK68 => ?_)
  refine WP.region ?_
  refine WL.runk 3 [0, 1, 5] [(0, .slice a0' ((st41.2.2.set (Int.toNat st41.2.1) (STrouble.mk st41.1 x60.Code)).length) c0'), (1, .int .i64 (wI64 (st41.1 + 1))), (5, .int .i64 st41.2.1)] (by kernel_rfl) ?_
  refine WL.nil ?_
  refine WQ.then_normal (hK68 _ _ _ ?_)
  refine WP.seq (fun K69 hK69 => ?_)
  refine WP.region ?_
  refine WL.runk 3 [0, 1, 5, 19, 20, 21] [(0, .slice a0' ((st41.2.2.set (Int.toNat st41.2.1) (STrouble.mk st41.1 x60.Code)).length) c0'), (1, .int .i64 (wI64 (st41.1 + 1))), (5, .int .i64 st41.2.1), (19, .slice a0' ((st41.2.2.set (Int.toNat st41.2.1) (STrouble.mk st41.1 x60.Code)).length) c0'), (20, .int .i64 st41.2.1), (21, .int .i64 (wI64 (st41.1 + 1)))] (by kernel_rfl) ?_
  obtain ⟨x70, hx71, hm⟩ := bindE hm
  refine WL.st (.pointer (some (at_ a0' (Int.toNat st41.2.1 * 2)))) (ST.index (T := fTrouble.ty) (xs := (st41.2.2.set (Int.toNat st41.2.1) (STrouble.mk st41.1 x60.Code))) (SH.rd (SH.front 0 hS64)) hx71 rfl rfl rfl Tryd.underlying37 (info62).1 (info62).2.1) rfl rfl rfl ?_
  refine WL.runk 1 [0, 1, 5, 21, 23] [(0, .slice a0' ((st41.2.2.set (Int.toNat st41.2.1) (STrouble.mk st41.1 x60.Code)).length) c0'), (1, .int .i64 (wI64 (st41.1 + 1))), (5, .int .i64 st41.2.1), (21, .int .i64 (wI64 (st41.1 + 1))), (23, .pointer (some (at_ a0' (Int.toNat st41.2.1 * 2 + 1))))] (by kernel_rfl) ?_
  refine WL.store (F := fTrouble) (STrouble.mk x70.Clause (wI64 (st41.1 + 1))) 1 [.int .i64 (wI64 (st41.1 + 1))] (SH.front 0 hS64) hL66 hx71 rfl rfl rfl rfl rfl rfl rfl (info2).1 (info2).2.1 rfl rfl rfl ?_
  intro w72 hB73 hS74
  have hb75 : Below B w w72 := Below.trans hb65 hB73
  have hL76 : B ≤ w72.heap.size := Nat.le_trans hL66 hB73.size
  refine WL.sub [(0, .slice a0' (((st41.2.2.set (Int.toNat st41.2.1) (STrouble.mk st41.1 x60.Code)).set (Int.toNat st41.2.1) (STrouble.mk x70.Clause (wI64 (st41.1 + 1)))).length) c0'), (1, .int .i64 (wI64 (st41.1 + 1))), (5, .int .i64 st41.2.1), (21, .int .i64 (wI64 (st41.1 + 1)))] ⟨by first | (simp only [List.length_set]; done) | (simp only [List.length_set]; rfl), rfl, rfl, rfl, trivial⟩ ?_
  have hn77 : ((st41.2.2.set (Int.toNat st41.2.1) (STrouble.mk st41.1 x60.Code)).set (Int.toNat st41.2.1) (STrouble.mk x70.Clause (wI64 (st41.1 + 1)))).length = a_0.length := List.length_set.trans hn67
  refine WL.sub [(0, .slice a0' (((st41.2.2.set (Int.toNat st41.2.1) (STrouble.mk st41.1 x60.Code)).set (Int.toNat st41.2.1) (STrouble.mk x70.Clause (wI64 (st41.1 + 1)))).length) c0'), (1, .int .i64 (wI64 (st41.1 + 1))), (5, .int .i64 st41.2.1)] ⟨rfl, rfl, rfl, trivial⟩ ?_
  refine WL.nil ?_
  refine WQ.then_normal (hK69 _ _ _ ?_)
  refine WP.region ?_
  refine WL.runk 3 [0, 1, 5] [(0, .slice a0' (((st41.2.2.set (Int.toNat st41.2.1) (STrouble.mk st41.1 x60.Code)).set (Int.toNat st41.2.1) (STrouble.mk x70.Clause (wI64 (st41.1 + 1)))).length) c0'), (1, .int .i64 (wI64 ((wI64 (st41.1 + 1)) + 1))), (5, .int .i64 st41.2.1)] (by kernel_rfl) ?_
  refine WL.nil ?_
  refine WQ.block_normal ?_
  refine WQ.then_normal (hK58 _ _ _ ?_)
  refine WP.region ?_
  refine WL.runk 3 [0, 1, 5] [(0, .slice a0' (((st41.2.2.set (Int.toNat st41.2.1) (STrouble.mk st41.1 x60.Code)).set (Int.toNat st41.2.1) (STrouble.mk x70.Clause (wI64 (st41.1 + 1)))).length) c0'), (1, .int .i64 (wI64 ((wI64 (st41.1 + 1)) + 1))), (5, .int .i64 (wI64 (st41.2.1 + 1)))] (by kernel_rfl) ?_
  refine WL.nil ?_
  obtain rfl := Option.some.inj hm
  exact WQ.round hK48 ⟨((wI64 ((wI64 (st41.1 + 1)) + 1)), (wI64 (st41.2.1 + 1)), ((st41.2.2.set (Int.toNat st41.2.1) (STrouble.mk st41.1 x60.Code)).set (Int.toNat st41.2.1) (STrouble.mk x70.Clause (wI64 (st41.1 + 1))))), rfl, hb75, hL76, hS74, hn77, hl46⟩ (Nat.lt_succ_self _) ⟨rfl, rfl, rfl, trivial⟩

theorem c_23 (n : Nat) (a_0 : List STrouble) (a0' : Option Addr) (c0' : Nat) (k_1 : Int) (w : World) {r : Int} (hm : m_laws_heldTroubleS n a_0 k_1 = some r) (h0 : Rd fTrouble.ty w a0' a_0) (_hle0 : a_0.length ≤ c0') :
    CallV Tryd.prog 23 #[.slice a0' a_0.length c0', .int .i64 k_1] w (fun v w' => v = .int .i64 r ∧ Ext w w') := by
  unfold m_laws_heldTroubleS at hm
  refine CallV.enter Tryd.func23 rfl (by kernel_rfl) Tryd.ntmps23 (env := [(0, .slice a0' a_0.length c0'), (1, .int .i64 k_1)]) ⟨rfl, rfl, trivial⟩ ?_
  refine WP.seq (fun K1 hK1 => ?_)
  refine WP.region ?_
  refine WL.runk 1 [0, 1] [(0, .slice a0' a_0.length c0'), (1, .int .i64 k_1)] (by kernel_rfl) ?_
  refine WL.nil ?_
  refine WQ.then_normal (hK1 _ _ _ ?_)
  refine WP.seq (fun K2 hK2 => ?_)
  refine WP.seq (fun K3 hK3 => ?_)
  refine WP.region ?_
  refine WL.runk 1 [0, 1, 5] [(0, .slice a0' a_0.length c0'), (1, .int .i64 k_1), (5, .int .i64 0)] (by kernel_rfl) ?_
  refine WL.nil ?_
  refine WQ.then_normal (hK3 _ _ _ ?_)
  refine WP.block ?_
  obtain ⟨t15, ht16, hm⟩ := bindE hm
  have hmo10 := hm; clear hm
  refine WP.sub [(0, .slice a0' a_0.length c0'), (1, .int .i64 k_1), (5, .int .i64 0)] ⟨rfl, rfl, rfl, trivial⟩ ?_
  refine WP.loop (fun n' env' w' => ∃ (st4 : Int × Int) , env' = [(0, .slice a0' a_0.length c0'), (1, .int .i64 st4.1), (5, .int .i64 st4.2)] ∧ Ext w w' ∧ w.heap.size ≤ w'.heap.size ∧ SH w' w.heap.size [] ∧ loopN (m_laws_heldTroubleS_l1 n a_0) n' st4 = some t15) n ⟨(k_1, 0), rfl, (Ext.refl w), (Nat.le_refl _), (SH.nil _ _), ht16⟩ ?_
  rintro n12 _ w5 ⟨st4, rfl, hb6, hL7, hS8, hl9⟩ K11 hK11
  obtain ⟨n13, s14, rfl, hm, hl9⟩ := loopN_some hl9
  unfold m_laws_heldTroubleS_l1 at hm
  refine WP.seq (fun K17 hK17 => ?_)
  refine WP.seq (fun K18 hK18 => ?_)
  refine WP.region ?_
  refine WL.runk 4 [0, 1, 5, 9] [(0, .slice a0' a_0.length c0'), (1, .int .i64 st4.1), (5, .int .i64 st4.2), (9, .bool (decide (st4.2 < (a_0.length : Int))))] (by kernel_rfl) ?_
  refine WL.nil ?_
  refine WQ.then_normal (hK18 _ _ _ ?_)
  refine WP.cond (decide (st4.2 < (a_0.length : Int))) rfl rfl (fun hc19 => ?_) (fun hc19 => ?_)
  rotate_left
  · have hm := iteF hm hc19
    refine WP.exit ?_
    refine WQ.then_exit ?_
    refine WQ.then_exit ?_
    refine WQ.block_here ?_
    obtain rfl := Option.some.inj hm
    obtain rfl := afterN_done hl9
    have hm := hmo10
    refine WQ.then_normal (hK2 _ _ _ ?_)
    refine WP.seq (fun K34 hK34 => ?_)
    refine WP.region ?_
    refine WL.runk 2 [4] [(4, .int .i64 st4.1)] (by kernel_rfl) ?_
    refine WL.nil ?_
    refine WQ.then_normal (hK34 _ _ _ ?_)
    refine WP.ret ?_
    obtain rfl := Option.some.inj hm
    exact WQ.ret1 _ rfl rfl ⟨rfl, hb6⟩
  have hm := iteT hm hc19
  refine WP.skip ?_
  refine WQ.then_normal (hK17 _ _ _ ?_)
  refine WP.seq (fun K20 hK20 => ?_)
  refine WP.block ?_
  refine WP.seq (fun K21 hK21 => ?_)
  refine WP.seq (fun K22 hK22 => ?_)
  refine WP.region ?_
  refine WL.runk 2 [0, 1, 5, 12, 13] [(0, .slice a0' a_0.length c0'), (1, .int .i64 st4.1), (5, .int .i64 st4.2), (12, .slice a0' a_0.length c0'), (13, .int .i64 st4.2)] (by kernel_rfl) ?_
  obtain ⟨x23, hx24, hm⟩ := bindE hm
  refine WL.st (.pointer (some (at_ a0' (Int.toNat st4.2 * 2)))) (ST.index (T := fTrouble.ty) (xs := a_0) (Rd.below h0 hb6) hx24 rfl rfl rfl Tryd.underlying37 (info62).1 (info62).2.1) rfl rfl rfl ?_
  refine WL.runk 1 [0, 1, 5, 15] [(0, .slice a0' a_0.length c0'), (1, .int .i64 st4.1), (5, .int .i64 st4.2), (15, .pointer (some (at_ a0' (Int.toNat st4.2 * 2))))] (by kernel_rfl) ?_
  refine WL.st (.int .i64 x23.Clause) (ST.load (cell_ext (Rd.flat (F := fTrouble) (Rd.below h0 hb6) hx24 0 rfl)) rfl rfl Tryd.underlying2 rfl) rfl rfl rfl ?_
  refine WL.runk 2 [0, 1, 5, 18] [(0, .slice a0' a_0.length c0'), (1, .int .i64 st4.1), (5, .int .i64 st4.2), (18, .bool (x23.Clause != st4.1))] (by kernel_rfl) ?_
  refine WL.nil ?_
  refine WQ.then_normal (hK22 _ _ _ ?_)
  refine WP.cond (x23.Clause != st4.1) rfl rfl (fun hc25 => ?_) (fun hc25 => ?_)
  · have hm := iteT hm hc25
    refine WP.seq (fun K26 hK26 => ?_)
    refine WP.region ?_
    refine WL.runk 1 [4] [(4, .int .i64 (-1))] (by kernel_rfl) ?_
    refine WL.nil ?_
    refine WQ.then_normal (hK26 _ _ _ ?_)
    refine WP.ret ?_
    refine WQ.then_ret ?_
    refine WQ.block_ret ?_
    refine WQ.then_ret ?_
    refine WQ.then_ret ?_
    refine WQ.block_ret ?_
    refine WQ.then_ret ?_
    obtain rfl := Option.some.inj hm
    obtain rfl := afterN_done hl9
    have hm := hmo10
    obtain rfl := Option.some.inj hm
    exact WQ.ret1 _ rfl rfl ⟨rfl, hb6⟩
  have hm := iteF hm hc25
  refine WP.skip ?_
  refine WQ.then_normal (hK21 _ _ _ ?_)
  refine WP.seq (fun K27 hK27 => ?_)
  refine WP.region ?_
  refine WL.runk 3 [0, 1, 5] [(0, .slice a0' a_0.length c0'), (1, .int .i64 (wI64 (st4.1 + 1))), (5, .int .i64 st4.2)] (by kernel_rfl) ?_
  refine WL.nil ?_
  refine WQ.then_normal (hK27 _ _ _ ?_)
  refine WP.seq (fun K28 hK28 => ?_)
  refine WP.seq (fun K29 hK29 => ?_)
  refine WP.region ?_
  refine WL.runk 2 [0, 1, 5, 21, 22] [(0, .slice a0' a_0.length c0'), (1, .int .i64 (wI64 (st4.1 + 1))), (5, .int .i64 st4.2), (21, .slice a0' a_0.length c0'), (22, .int .i64 st4.2)] (by kernel_rfl) ?_
  obtain ⟨x30, hx31, hm⟩ := bindE hm
  refine WL.st (.pointer (some (at_ a0' (Int.toNat st4.2 * 2)))) (ST.index (T := fTrouble.ty) (xs := a_0) (Rd.below h0 hb6) hx31 rfl rfl rfl Tryd.underlying37 (info62).1 (info62).2.1) rfl rfl rfl ?_
  refine WL.runk 1 [0, 1, 5, 24] [(0, .slice a0' a_0.length c0'), (1, .int .i64 (wI64 (st4.1 + 1))), (5, .int .i64 st4.2), (24, .pointer (some (at_ a0' (Int.toNat st4.2 * 2 + 1))))] (by kernel_rfl) ?_
  refine WL.st (.int .i64 x30.Code) (ST.load (cell_ext (Rd.flat (F := fTrouble) (Rd.below h0 hb6) hx31 1 rfl)) rfl rfl Tryd.underlying2 rfl) rfl rfl rfl ?_
  refine WL.runk 2 [0, 1, 5, 27] [(0, .slice a0' a_0.length c0'), (1, .int .i64 (wI64 (st4.1 + 1))), (5, .int .i64 st4.2), (27, .bool (x30.Code != (wI64 (st4.1 + 1))))] (by kernel_rfl) ?_
  refine WL.nil ?_
  refine WQ.then_normal (hK29 _ _ _ ?_)
  refine WP.cond (x30.Code != (wI64 (st4.1 + 1))) rfl rfl (fun hc32 => ?_) (fun hc32 => ?_)
  rotate_left
  · have hm := iteF hm hc32
    refine WP.skip ?_
    refine WQ.then_normal (hK28 _ _ _ ?_)
    refine WP.region ?_
    refine WL.runk 3 [0, 1, 5] [(0, .slice a0' a_0.length c0'), (1, .int .i64 (wI64 ((wI64 (st4.1 + 1)) + 1))), (5, .int .i64 st4.2)] (by kernel_rfl) ?_
    refine WL.nil ?_
    refine WQ.block_normal ?_
    refine WQ.then_normal (hK20 _ _ _ ?_)
    refine WP.region ?_
    refine WL.runk 3 [0, 1, 5] [(0, .slice a0' a_0.length c0'), (1, .int .i64 (wI64 ((wI64 (st4.1 + 1)) + 1))), (5, .int .i64 (wI64 (st4.2 + 1)))] (by kernel_rfl) ?_
    refine WL.nil ?_
    obtain rfl := Option.some.inj hm
    exact WQ.round hK11 ⟨((wI64 ((wI64 (st4.1 + 1)) + 1)), (wI64 (st4.2 + 1))), rfl, hb6, hL7, hS8, hl9⟩ (Nat.lt_succ_self _) ⟨rfl, rfl, rfl, trivial⟩
  have hm := iteT hm hc32
  refine WP.seq (fun K33 hK33 => ?_)
  refine WP.region ?_
  refine WL.runk 1 [4] [(4, .int .i64 (-1))] (by kernel_rfl) ?_
  refine WL.nil ?_
  refine WQ.then_normal (hK33 _ _ _ ?_)
  refine WP.ret ?_
  refine WQ.then_ret ?_
  refine WQ.block_ret ?_
  refine WQ.then_ret ?_
  refine WQ.then_ret ?_
  refine WQ.block_ret ?_
  refine WQ.then_ret ?_
  obtain rfl := Option.some.inj hm
  obtain rfl := afterN_done hl9
  have hm := hmo10
  obtain rfl := Option.some.inj hm
  exact WQ.ret1 _ rfl rfl ⟨rfl, hb6⟩

theorem c_6 (n : Nat) (aS_0 : List UInt8) (w : World) {r : Bool} (hm : m_laws_FnExactCheckStyle n aS_0 = some r) (hG : GL 3 w) :
    CallV Tryd.prog 6 #[.string (bs aS_0)] w (fun v w' => v = .bool r ∧ Ext w w') := by
  unfold m_laws_FnExactCheckStyle at hm
  refine CallV.enter Tryd.func6 rfl (by kernel_rfl) Tryd.ntmps6 (env := [(0, .string (bs aS_0))]) ⟨rfl, trivial⟩ ?_
  refine WP.seq (fun K1 hK1 => ?_)
  refine WP.region ?_
  refine WL.runk 1 [0] [(0, .string (bs aS_0))] (by kernel_rfl) ?_
  refine WL.nil ?_
  refine WQ.then_normal (hK1 _ _ _ ?_)
  refine WP.seq (fun K2 hK2 => ?_)
  refine WP.seq (fun K3 hK3 => ?_)
  refine WP.region ?_
  refine WL.runk 3 [0, 13] [(0, .string (bs aS_0)), (13, .bool (decide ((aS_0.length : Int) > 1048576)))] (by kernel_rfl) ?_
  refine WL.nil ?_
  refine WQ.then_normal (hK3 _ _ _ ?_)
  refine WP.cond (decide ((aS_0.length : Int) > 1048576)) rfl rfl (fun hc4 => ?_) (fun hc4 => ?_)
  · have hm := iteT hm hc4
    refine WP.seq (fun K5 hK5 => ?_)
    refine WP.region ?_
    refine WL.runk 1 [2] [(2, .bool true)] (by kernel_rfl) ?_
    refine WL.nil ?_
    refine WQ.then_normal (hK5 _ _ _ ?_)
    refine WP.ret ?_
    refine WQ.then_ret ?_
    obtain rfl := Option.some.inj hm
    exact WQ.ret1 _ rfl rfl ⟨rfl, (Ext.refl w)⟩
  have hm := iteF hm hc4
  refine WP.skip ?_
  refine WQ.then_normal (hK2 _ _ _ ?_)
  refine WP.seq (fun K6 hK6 => ?_)
  refine WP.region ?_
  refine WL.runk 1 [0, 15] [(0, .string (bs aS_0)), (15, .string (bs aS_0))] (by kernel_rfl) ?_
  obtain ⟨x7, hx8, hm⟩ := bindE hm
  refine WL.call 19 #[.string (bs aS_0)] rfl rfl (by kernel_rfl) (c_19 n aS_0 w hx8 ) ?_
  rintro _ w12 ⟨a9, c10, rfl, hE13, hR14⟩
  refine ⟨_, rfl, ?_⟩
  have hb15 : Ext w w12 := Ext.trans (Ext.refl w) hE13
  have hL16 : w.heap.size ≤ w12.heap.size := Nat.le_trans (Nat.le_refl _) hE13.size
  have hS17 : SH w12 w.heap.size [aOwn fTrouble 62 a9 c10 x7.1] := SH.add (SH.nil _ _) hE13 (Nat.le_refl _) hR14
  refine WL.runk 5 [0, 3, 4] [(0, .string (bs aS_0)), (3, .slice a9 x7.1.length c10), (4, .int .i64 x7.2)] (by kernel_rfl) ?_
  refine WL.nil ?_
  refine WQ.then_normal (hK6 _ _ _ ?_)
  refine WP.seq (fun K18 hK18 => ?_)
  refine WP.region ?_
  refine WL.runk 1 [0, 3, 4, 20] [(0, .string (bs aS_0)), (3, .slice a9 x7.1.length c10), (4, .int .i64 x7.2), (20, .string (bs aS_0))] (by kernel_rfl) ?_
  obtain ⟨x19, hx20, hm⟩ := bindE hm
  refine WL.call 20 #[.string (bs aS_0)] rfl rfl (by kernel_rfl) (c_20 n aS_0 w12 hx20 (GL.below hG hb15)) ?_
  rintro _ w24 ⟨a21, c22, rfl, hE25, hR26⟩
  refine ⟨_, rfl, ?_⟩
  have hb27 : Ext w w24 := Ext.trans hb15 hE25
  have hL28 : w.heap.size ≤ w24.heap.size := Nat.le_trans hL16 hE25.size
  have hS29 : SH w24 w.heap.size [aOwn fTrouble 62 a21 c22 x19.1, aOwn fTrouble 62 a9 c10 x7.1] := SH.add hS17 hE25 hL16 hR26
  refine WL.runk 5 [0, 3, 4, 5, 6] [(0, .string (bs aS_0)), (3, .slice a9 x7.1.length c10), (4, .int .i64 x7.2), (5, .slice a21 x19.1.length c22), (6, .int .i64 x19.2)] (by kernel_rfl) ?_
  refine WL.nil ?_
  refine WQ.then_normal (hK18 _ _ _ ?_)
  refine WP.seq (fun K30 hK30 => ?_)
  refine WP.seq (fun K31 hK31 => ?_)
  obtain ⟨x41, hx42, hm⟩ := bindE hm
  refine WP.cut (fun env' w' => env' = [(0, .string (bs aS_0)), (3, .slice a9 x7.1.length c10), (4, .int .i64 x7.2), (5, .slice a21 x19.1.length c22), (32, .bool x41)] ∧ Ext w w' ∧ w.heap.size ≤ w'.heap.size ∧ SH w' w.heap.size [aOwn fTrouble 62 a21 c22 x19.1, aOwn fTrouble 62 a9 c10 x7.1]) ?_ ?_
  · have hm := hx42; clear hx42
    refine WP.region ?_
    refine WL.runk 2 [0, 3, 4, 5, 6, 24, 25] [(0, .string (bs aS_0)), (3, .slice a9 x7.1.length c10), (4, .int .i64 x7.2), (5, .slice a21 x19.1.length c22), (6, .int .i64 x19.2), (24, .slice a21 x19.1.length c22), (25, .slice a9 x7.1.length c10)] (by kernel_rfl) ?_
    obtain ⟨x43, hx44, hm⟩ := bindE hm
    refine WL.call 21 #[.slice a21 x19.1.length c22, .slice a9 x7.1.length c10] rfl rfl (by kernel_rfl) (c_21 n x19.1 a21 c22 x7.1 a9 c10 w24 hx44 (SH.rd (SH.front 0 hS29)) (SH.le (SH.front 0 hS29)).1 (SH.rd (SH.front 1 hS29)) (SH.le (SH.front 1 hS29)).1) ?_
    rintro _ w45 ⟨rfl, hE46⟩
    refine ⟨_, rfl, ?_⟩
    have hb48 : Ext w w45 := Ext.trans hb27 hE46
    have hL49 : w.heap.size ≤ w45.heap.size := Nat.le_trans hL28 hE46.size
    have hS50 : SH w45 w.heap.size [aOwn fTrouble 62 a21 c22 x19.1, aOwn fTrouble 62 a9 c10 x7.1] := SH.ext hS29 hE46
    refine WL.runk 2 [0, 3, 4, 5, 6, 28] [(0, .string (bs aS_0)), (3, .slice a9 x7.1.length c10), (4, .int .i64 x7.2), (5, .slice a21 x19.1.length c22), (6, .int .i64 x19.2), (28, .bool (!x43))] (by kernel_rfl) ?_
    refine WL.case (!x43) [28] ⟨rfl, trivial⟩ (fun hc51 => ?_) (fun hc51 => ?_)
    · have hm := iteT hm hc51
      refine WL.runk 4 [0, 3, 4, 5, 32] [(0, .string (bs aS_0)), (3, .slice a9 x7.1.length c10), (4, .int .i64 x7.2), (5, .slice a21 x19.1.length c22), (32, .bool true)] (by kernel_rfl) ?_
      refine WL.nil ?_
      obtain rfl := Option.some.inj hm
      exact WQ.post' ⟨rfl, hb48, hL49, hS50⟩ ⟨rfl, rfl, rfl, rfl, rfl, trivial⟩
    have hm := iteF hm hc51
    refine WL.runk 4 [0, 3, 4, 5, 32] [(0, .string (bs aS_0)), (3, .slice a9 x7.1.length c10), (4, .int .i64 x7.2), (5, .slice a21 x19.1.length c22), (32, .bool (x19.2 != x7.2))] (by kernel_rfl) ?_
    refine WL.nil ?_
    obtain rfl := Option.some.inj hm
    exact WQ.post' ⟨rfl, hb48, hL49, hS50⟩ ⟨rfl, rfl, rfl, rfl, rfl, trivial⟩
  clear hx42
  rintro _ w52 ⟨rfl, hb53, hL54, hS55⟩
  refine WQ.then_normal (hK31 _ _ _ ?_)
  refine WP.cond x41 rfl rfl (fun hc56 => ?_) (fun hc56 => ?_)
  · have hm := iteT hm hc56
    refine WP.seq (fun K57 hK57 => ?_)
    refine WP.region ?_
    refine WL.runk 1 [2] [(2, .bool false)] (by kernel_rfl) ?_
    refine WL.nil ?_
    refine WQ.then_normal (hK57 _ _ _ ?_)
    refine WP.ret ?_
    refine WQ.then_ret ?_
    obtain rfl := Option.some.inj hm
    exact WQ.ret1 _ rfl rfl ⟨rfl, hb53⟩
  have hm := iteF hm hc56
  refine WP.skip ?_
  refine WQ.then_normal (hK30 _ _ _ ?_)
  refine WP.seq (fun K58 hK58 => ?_)
  refine WP.region ?_
  refine WL.runk 1 [0, 3, 4, 5, 7] [(0, .string (bs aS_0)), (3, .slice a9 x7.1.length c10), (4, .int .i64 x7.2), (5, .slice a21 x19.1.length c22), (7, .int .i64 1)] (by kernel_rfl) ?_
  refine WL.nil ?_
  refine WQ.then_normal (hK58 _ _ _ ?_)
  refine WP.seq (fun K59 hK59 => ?_)
  refine WP.region ?_
  refine WL.runk 2 [0, 3, 4, 5, 33, 34] [(0, .string (bs aS_0)), (3, .slice a9 x7.1.length c10), (4, .int .i64 x7.2), (5, .slice a21 x19.1.length c22), (33, .slice a21 x19.1.length c22), (34, .int .i64 1)] (by kernel_rfl) ?_
  obtain ⟨x60, hx61, hm⟩ := bindE hm
  refine WL.call 22 #[.slice a21 x19.1.length c22, .int .i64 1] rfl rfl (by kernel_rfl) (c_22 n x19.1 a21 c22 1 w52 w w.heap.size [aOwn fTrouble 62 a9 c10 x7.1] hx61 hb53 (Nat.le_refl _) hL54  hS55) ?_
  rintro _ w62 ⟨rfl, hB66, hS65, hlen67⟩
  refine ⟨_, rfl, ?_⟩
  have hb68 : Ext w w62 := Below.trans hb53 hB66
  have hL69 : w.heap.size ≤ w62.heap.size := Nat.le_trans hL54 hB66.size
  refine WL.sub [(0, .string (bs aS_0)), (3, .slice a9 x7.1.length c10), (4, .int .i64 x7.2), (5, .slice a21 x60.2.length c22), (33, .slice a21 x60.2.length c22), (34, .int .i64 1), (35, .int .i64 x60.1)] ⟨rfl, rfl, rfl, by rw [hlen67]; rfl, by rw [hlen67]; rfl, rfl, rfl, trivial⟩ ?_
  refine WL.runk 1 [0, 3, 4, 5, 7] [(0, .string (bs aS_0)), (3, .slice a9 x7.1.length c10), (4, .int .i64 x7.2), (5, .slice a21 x60.2.length c22), (7, .int .i64 x60.1)] (by kernel_rfl) ?_
  refine WL.nil ?_
  refine WQ.then_normal (hK59 _ _ _ ?_)
  refine WP.seq (fun K70 hK70 => ?_)
  refine WP.region ?_
  refine WL.runk 1 [0, 3, 4, 5, 7, 8] [(0, .string (bs aS_0)), (3, .slice a9 x7.1.length c10), (4, .int .i64 x7.2), (5, .slice a21 x60.2.length c22), (7, .int .i64 x60.1), (8, .int .i64 1)] (by kernel_rfl) ?_
  refine WL.nil ?_
  refine WQ.then_normal (hK70 _ _ _ ?_)
  refine WP.seq (fun K71 hK71 => ?_)
  refine WP.region ?_
  refine WL.runk 2 [0, 3, 4, 5, 7, 36, 37] [(0, .string (bs aS_0)), (3, .slice a9 x7.1.length c10), (4, .int .i64 x7.2), (5, .slice a21 x60.2.length c22), (7, .int .i64 x60.1), (36, .slice a21 x60.2.length c22), (37, .int .i64 1)] (by kernel_rfl) ?_
  obtain ⟨x72, hx73, hm⟩ := bindE hm
  refine WL.call 23 #[.slice a21 x60.2.length c22, .int .i64 1] rfl rfl (by kernel_rfl) (c_23 n x60.2 a21 c22 1 w62 hx73 (SH.rd (SH.front 0 hS65)) (SH.le (SH.front 0 hS65)).1) ?_
  rintro _ w74 ⟨rfl, hE75⟩
  refine ⟨_, rfl, ?_⟩
  have hb77 : Ext w w74 := Ext.trans hb68 hE75
  have hL78 : w.heap.size ≤ w74.heap.size := Nat.le_trans hL69 hE75.size
  have hS79 : SH w74 w.heap.size [aOwn fTrouble 62 a21 c22 x60.2, aOwn fTrouble 62 a9 c10 x7.1] := SH.ext hS65 hE75
  refine WL.runk 1 [0, 3, 4, 5, 7, 8] [(0, .string (bs aS_0)), (3, .slice a9 x7.1.length c10), (4, .int .i64 x7.2), (5, .slice a21 x60.2.length c22), (7, .int .i64 x60.1), (8, .int .i64 x72)] (by kernel_rfl) ?_
  refine WL.nil ?_
  refine WQ.then_normal (hK71 _ _ _ ?_)
  refine WP.seq (fun K80 hK80 => ?_)
  refine WP.seq (fun K81 hK81 => ?_)
  refine WP.region ?_
  refine WL.runk 2 [0, 3, 4, 5, 7, 8, 40] [(0, .string (bs aS_0)), (3, .slice a9 x7.1.length c10), (4, .int .i64 x7.2), (5, .slice a21 x60.2.length c22), (7, .int .i64 x60.1), (8, .int .i64 x72), (40, .bool (decide (x72 < 0)))] (by kernel_rfl) ?_
  refine WL.nil ?_
  refine WQ.then_normal (hK81 _ _ _ ?_)
  refine WP.cond (decide (x72 < 0)) rfl rfl (fun hc82 => ?_) (fun hc82 => ?_)
  · have hm := iteT hm hc82
    refine WP.seq (fun K83 hK83 => ?_)
    refine WP.region ?_
    refine WL.runk 1 [2] [(2, .bool false)] (by kernel_rfl) ?_
    refine WL.nil ?_
    refine WQ.then_normal (hK83 _ _ _ ?_)
    refine WP.ret ?_
    refine WQ.then_ret ?_
    obtain rfl := Option.some.inj hm
    exact WQ.ret1 _ rfl rfl ⟨rfl, hb77⟩
  have hm := iteF hm hc82
  refine WP.skip ?_
  refine WQ.then_normal (hK80 _ _ _ ?_)
  refine WP.seq (fun K84 hK84 => ?_)
  refine WP.seq (fun K85 hK85 => ?_)
  refine WP.region ?_
  refine WL.runk 3 [0, 3, 4, 5, 7, 43] [(0, .string (bs aS_0)), (3, .slice a9 x7.1.length c10), (4, .int .i64 x7.2), (5, .slice a21 x60.2.length c22), (7, .int .i64 x60.1), (43, .bool (x72 != x60.1))] (by kernel_rfl) ?_
  refine WL.nil ?_
  refine WQ.then_normal (hK85 _ _ _ ?_)
  refine WP.cond (x72 != x60.1) rfl rfl (fun hc86 => ?_) (fun hc86 => ?_)
  · have hm := iteT hm hc86
    refine WP.seq (fun K87 hK87 => ?_)
    refine WP.region ?_
    refine WL.runk 1 [2] [(2, .bool false)] (by kernel_rfl) ?_
    refine WL.nil ?_
    refine WQ.then_normal (hK87 _ _ _ ?_)
    refine WP.ret ?_
    refine WQ.then_ret ?_
    obtain rfl := Option.some.inj hm
    exact WQ.ret1 _ rfl rfl ⟨rfl, hb77⟩
  have hm := iteF hm hc86
  refine WP.skip ?_
  refine WQ.then_normal (hK84 _ _ _ ?_)
  refine WP.seq (fun K88 hK88 => ?_)
  refine WP.region ?_
  refine WL.runk 1 [3, 4, 5, 7, 45] [(3, .slice a9 x7.1.length c10), (4, .int .i64 x7.2), (5, .slice a21 x60.2.length c22), (7, .int .i64 x60.1), (45, .string (bs aS_0))] (by kernel_rfl) ?_
  obtain ⟨x89, hx90, hm⟩ := bindE hm
  refine WL.call 20 #[.string (bs aS_0)] rfl rfl (by kernel_rfl) (c_20 n aS_0 w74 hx90 (GL.below hG hb77)) ?_
  rintro _ w94 ⟨a91, c92, rfl, hE95, hR96⟩
  refine ⟨_, rfl, ?_⟩
  have hb97 : Ext w w94 := Ext.trans hb77 hE95
  have hL98 : w.heap.size ≤ w94.heap.size := Nat.le_trans hL78 hE95.size
  have hS99 : SH w94 w.heap.size [aOwn fTrouble 62 a91 c92 x89.1, aOwn fTrouble 62 a21 c22 x60.2, aOwn fTrouble 62 a9 c10 x7.1] := SH.add hS79 hE95 hL78 hR96
  refine WL.runk 5 [3, 4, 5, 7, 9, 10] [(3, .slice a9 x7.1.length c10), (4, .int .i64 x7.2), (5, .slice a21 x60.2.length c22), (7, .int .i64 x60.1), (9, .slice a91 x89.1.length c92), (10, .int .i64 x89.2)] (by kernel_rfl) ?_
  refine WL.nil ?_
  refine WQ.then_normal (hK88 _ _ _ ?_)
  refine WP.seq (fun K100 hK100 => ?_)
  refine WP.seq (fun K101 hK101 => ?_)
  obtain ⟨x111, hx112, hm⟩ := bindE hm
  refine WP.cut (fun env' w' => env' = [(5, .slice a21 x60.2.length c22), (7, .int .i64 x60.1), (57, .bool x111)] ∧ Ext w w' ∧ w.heap.size ≤ w'.heap.size ∧ SH w' w.heap.size [aOwn fTrouble 62 a91 c92 x89.1, aOwn fTrouble 62 a21 c22 x60.2, aOwn fTrouble 62 a9 c10 x7.1]) ?_ ?_
  · have hm := hx112; clear hx112
    refine WP.region ?_
    refine WL.runk 2 [4, 5, 7, 10, 49, 50] [(4, .int .i64 x7.2), (5, .slice a21 x60.2.length c22), (7, .int .i64 x60.1), (10, .int .i64 x89.2), (49, .slice a91 x89.1.length c92), (50, .slice a9 x7.1.length c10)] (by kernel_rfl) ?_
    obtain ⟨x113, hx114, hm⟩ := bindE hm
    refine WL.call 21 #[.slice a91 x89.1.length c92, .slice a9 x7.1.length c10] rfl rfl (by kernel_rfl) (c_21 n x89.1 a91 c92 x7.1 a9 c10 w94 hx114 (SH.rd (SH.front 0 hS99)) (SH.le (SH.front 0 hS99)).1 (SH.rd (SH.front 2 hS99)) (SH.le (SH.front 2 hS99)).1) ?_
    rintro _ w115 ⟨rfl, hE116⟩
    refine ⟨_, rfl, ?_⟩
    have hb118 : Ext w w115 := Ext.trans hb97 hE116
    have hL119 : w.heap.size ≤ w115.heap.size := Nat.le_trans hL98 hE116.size
    have hS120 : SH w115 w.heap.size [aOwn fTrouble 62 a91 c92 x89.1, aOwn fTrouble 62 a21 c22 x60.2, aOwn fTrouble 62 a9 c10 x7.1] := SH.ext hS99 hE116
    refine WL.runk 2 [4, 5, 7, 10, 53] [(4, .int .i64 x7.2), (5, .slice a21 x60.2.length c22), (7, .int .i64 x60.1), (10, .int .i64 x89.2), (53, .bool (!x113))] (by kernel_rfl) ?_
    refine WL.case (!x113) [53] ⟨rfl, trivial⟩ (fun hc121 => ?_) (fun hc121 => ?_)
    · have hm := iteT hm hc121
      refine WL.runk 4 [5, 7, 57] [(5, .slice a21 x60.2.length c22), (7, .int .i64 x60.1), (57, .bool true)] (by kernel_rfl) ?_
      refine WL.nil ?_
      obtain rfl := Option.some.inj hm
      exact WQ.post' ⟨rfl, hb118, hL119, hS120⟩ ⟨rfl, rfl, rfl, trivial⟩
    have hm := iteF hm hc121
    refine WL.runk 4 [5, 7, 57] [(5, .slice a21 x60.2.length c22), (7, .int .i64 x60.1), (57, .bool (x89.2 != x7.2))] (by kernel_rfl) ?_
    refine WL.nil ?_
    obtain rfl := Option.some.inj hm
    exact WQ.post' ⟨rfl, hb118, hL119, hS120⟩ ⟨rfl, rfl, rfl, trivial⟩
  clear hx112
  rintro _ w122 ⟨rfl, hb123, hL124, hS125⟩
  refine WQ.then_normal (hK101 _ _ _ ?_)
  refine WP.cond x111 rfl rfl (fun hc126 => ?_) (fun hc126 => ?_)
  · have hm := iteT hm hc126
    refine WP.seq (fun K127 hK127 => ?_)
    refine WP.region ?_
    refine WL.runk 1 [2] [(2, .bool false)] (by kernel_rfl) ?_
    refine WL.nil ?_
    refine WQ.then_normal (hK127 _ _ _ ?_)
    refine WP.ret ?_
    refine WQ.then_ret ?_
    obtain rfl := Option.some.inj hm
    exact WQ.ret1 _ rfl rfl ⟨rfl, hb123⟩
  have hm := iteF hm hc126
  refine WP.skip ?_
  refine WQ.then_normal (hK100 _ _ _ ?_)
  refine WP.seq (fun K128 hK128 => ?_)
  refine WP.region ?_
  refine WL.runk 1 [5, 7, 8] [(5, .slice a21 x60.2.length c22), (7, .int .i64 x60.1), (8, .int .i64 1)] (by kernel_rfl) ?_
  refine WL.nil ?_
  refine WQ.then_normal (hK128 _ _ _ ?_)
  refine WP.seq (fun K129 hK129 => ?_)
  refine WP.region ?_
  refine WL.runk 2 [7, 58, 59] [(7, .int .i64 x60.1), (58, .slice a21 x60.2.length c22), (59, .int .i64 1)] (by kernel_rfl) ?_
  obtain ⟨x130, hx131, hm⟩ := bindE hm
  refine WL.call 23 #[.slice a21 x60.2.length c22, .int .i64 1] rfl rfl (by kernel_rfl) (c_23 n x60.2 a21 c22 1 w122 hx131 (SH.rd (SH.front 1 hS125)) (SH.le (SH.front 1 hS125)).1) ?_
  rintro _ w132 ⟨rfl, hE133⟩
  refine ⟨_, rfl, ?_⟩
  have hb135 : Ext w w132 := Ext.trans hb123 hE133
  have hL136 : w.heap.size ≤ w132.heap.size := Nat.le_trans hL124 hE133.size
  have hS137 : SH w132 w.heap.size [aOwn fTrouble 62 a91 c92 x89.1, aOwn fTrouble 62 a21 c22 x60.2, aOwn fTrouble 62 a9 c10 x7.1] := SH.ext hS125 hE133
  refine WL.runk 1 [7, 8] [(7, .int .i64 x60.1), (8, .int .i64 x130)] (by kernel_rfl) ?_
  refine WL.nil ?_
  refine WQ.then_normal (hK129 _ _ _ ?_)
  refine WP.seq (fun K138 hK138 => ?_)
  refine WP.seq (fun K139 hK139 => ?_)
  refine WP.region ?_
  refine WL.runk 2 [7, 8, 62] [(7, .int .i64 x60.1), (8, .int .i64 x130), (62, .bool (decide (x130 < 0)))] (by kernel_rfl) ?_
  refine WL.nil ?_
  refine WQ.then_normal (hK139 _ _ _ ?_)
  refine WP.cond (decide (x130 < 0)) rfl rfl (fun hc140 => ?_) (fun hc140 => ?_)
  · have hm := iteT hm hc140
    refine WP.seq (fun K141 hK141 => ?_)
    refine WP.region ?_
    refine WL.runk 1 [2] [(2, .bool false)] (by kernel_rfl) ?_
    refine WL.nil ?_
    refine WQ.then_normal (hK141 _ _ _ ?_)
    refine WP.ret ?_
    refine WQ.then_ret ?_
    obtain rfl := Option.some.inj hm
    exact WQ.ret1 _ rfl rfl ⟨rfl, hb135⟩
  have hm := iteF hm hc140
  refine WP.skip ?_
  refine WQ.then_normal (hK138 _ _ _ ?_)
  refine WP.seq (fun K142 hK142 => ?_)
  refine WP.seq (fun K143 hK143 => ?_)
  refine WP.region ?_
  refine WL.runk 3 [65] [(65, .bool (x130 != x60.1))] (by kernel_rfl) ?_
  refine WL.nil ?_
  refine WQ.then_normal (hK143 _ _ _ ?_)
  refine WP.cond (x130 != x60.1) rfl rfl (fun hc144 => ?_) (fun hc144 => ?_)
  · have hm := iteT hm hc144
    refine WP.seq (fun K145 hK145 => ?_)
    refine WP.region ?_
    refine WL.runk 1 [2] [(2, .bool false)] (by kernel_rfl) ?_
    refine WL.nil ?_
    refine WQ.then_normal (hK145 _ _ _ ?_)
    refine WP.ret ?_
    refine WQ.then_ret ?_
    obtain rfl := Option.some.inj hm
    exact WQ.ret1 _ rfl rfl ⟨rfl, hb135⟩
  have hm := iteF hm hc144
  refine WP.skip ?_
  refine WQ.then_normal (hK142 _ _ _ ?_)
  refine WP.seq (fun K146 hK146 => ?_)
  refine WP.region ?_
  refine WL.runk 1 [2] [(2, .bool true)] (by kernel_rfl) ?_
  refine WL.nil ?_
  refine WQ.then_normal (hK146 _ _ _ ?_)
  refine WP.ret ?_
  obtain rfl := Option.some.inj hm
  exact WQ.ret1 _ rfl rfl ⟨rfl, hb135⟩

end Go.Proofs.YtkjjjbfpecmieaaDoor
