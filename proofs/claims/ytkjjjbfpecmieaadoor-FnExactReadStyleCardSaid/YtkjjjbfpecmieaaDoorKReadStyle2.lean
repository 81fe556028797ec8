/- Each call does what its Lean function says. -/
import Derived.Test.YtkjjjbfpecmieaaDoorKReadStyle1
set_option maxRecDepth 20000
set_option maxHeartbeats 40000000
namespace Go.Proofs.YtkjjjbfpecmieaaDoor
open Go Go.Gv Go.RowKit

theorem c_41 (n : Nat) (clauses_0 : List (List UInt8)) (a0' : Option Addr) (c0' : Nat) (w : World) {r : List STrouble} (hm : m_impl_troubles n clauses_0 = some r) (hG : GL 3 w) (h0 : Rd fStr.ty w a0' clauses_0) (_hle0 : clauses_0.length ≤ c0') :
    CallV Tryd.prog 41 #[.slice a0' clauses_0.length c0'] w (fun v w' => ∃ (ra0 : Option Addr) (rc0 : Nat), v = .slice ra0 r.length rc0 ∧ Ext w w' ∧ SH w' w.heap.size [aOwn fTrouble 62 ra0 rc0 r]) := by
  unfold m_impl_troubles at hm
  refine CallV.enter Tryd.func41 rfl (by kernel_rfl) Tryd.ntmps41 (env := [(0, .slice a0' clauses_0.length c0')]) ⟨rfl, trivial⟩ ?_
  refine WP.seq (fun K1 hK1 => ?_)
  refine WP.region ?_
  refine WL.runk 1 [0] [(0, .slice a0' clauses_0.length c0')] (by kernel_rfl) ?_
  refine WL.nil ?_
  refine WQ.then_normal (hK1 _ _ _ ?_)
  refine WP.seq (fun K2 hK2 => ?_)
  refine WP.region ?_
  refine WL.row fTrouble 62 ([] : List STrouble) 0 #[] 9 (by kernel_rfl) rfl rfl rfl rfl rfl rfl rfl ?_
  intro a3 c4 w5 hE6 hR7
  have hb9 : Ext w w5 := Ext.trans (Ext.refl w) hE6
  have hL10 : w.heap.size ≤ w5.heap.size := Nat.le_trans (Nat.le_refl _) hE6.size
  have hS11 : SH w5 w.heap.size [aOwn fTrouble 62 a3 c4 ([] : List STrouble)] := SH.add (SH.nil _ _) hE6 (Nat.le_refl _) hR7
  refine WL.row fStr 9 ([] : List (List UInt8)) 0 #[] 10 (by kernel_rfl) rfl rfl rfl rfl rfl rfl rfl ?_
  intro a12 c13 w14 hE15 hR16
  have hb18 : Ext w w14 := Ext.trans hb9 hE15
  have hL19 : w.heap.size ≤ w14.heap.size := Nat.le_trans hL10 hE15.size
  have hS20 : SH w14 w.heap.size [aOwn fStr 9 a12 c13 ([] : List (List UInt8)), aOwn fTrouble 62 a3 c4 ([] : List STrouble)] := SH.add hS11 hE15 hL10 hR16
  refine WL.runk 2 [0, 3, 4] [(0, .slice a0' clauses_0.length c0'), (3, .slice a3 (([] : List STrouble).length) c4), (4, .slice a12 (([] : List (List UInt8)).length) c13)] (by kernel_rfl) ?_
  refine WL.nil ?_
  refine WQ.then_normal (hK2 _ _ _ ?_)
  refine WP.seq (fun K21 hK21 => ?_)
  refine WP.seq (fun K22 hK22 => ?_)
  refine WP.region ?_
  refine WL.runk 3 [0, 3, 4, 11, 12, 13] [(0, .slice a0' clauses_0.length c0'), (3, .slice a3 (([] : List STrouble).length) c4), (4, .slice a12 (([] : List (List UInt8)).length) c13), (11, .slice a0' clauses_0.length c0'), (12, .int .i64 (clauses_0.length : Int)), (13, .int .i64 0)] (by kernel_rfl) ?_
  refine WL.nil ?_
  refine WQ.then_normal (hK22 _ _ _ ?_)
  refine WP.block ?_
  obtain ⟨t40, ht41, hm⟩ := bindE hm
  have hmo35 := hm; clear hm
  refine WP.sub [(0, .slice a0' clauses_0.length c0'), (3, .slice a3 (([] : List STrouble).length) c4), (4, .slice a12 (([] : List (List UInt8)).length) c13), (11, .slice a0' clauses_0.length c0'), (12, .int .i64 (clauses_0.length : Int)), (13, .int .i64 0)] ⟨rfl, rfl, rfl, rfl, rfl, rfl, trivial⟩ ?_
  refine WP.loop (fun n' env' w' => ∃ (st23 : List STrouble × List (List UInt8) × Int) (a24 : Option Addr) (c25 : Nat) (a27 : Option Addr) (c28 : Nat), env' = [(0, .slice a0' clauses_0.length c0'), (3, .slice a24 st23.1.length c25), (4, .slice a27 st23.2.1.length c28), (11, .slice a0' clauses_0.length c0'), (12, .int .i64 (clauses_0.length : Int)), (13, .int .i64 st23.2.2)] ∧ Ext w w' ∧ w.heap.size ≤ w'.heap.size ∧ SH w' w.heap.size [aOwn fTrouble 62 a24 c25 st23.1, aOwn fStr 9 a27 c28 st23.2.1] ∧ loopN (m_impl_troubles_l1 n clauses_0) n' st23 = some t40) n ⟨(([] : List STrouble), ([] : List (List UInt8)), 0), _, _, _, _, rfl, hb18, hL19, (SH.front 1 hS20), ht41⟩ ?_
  rintro n37 _ w30 ⟨st23, a24, c25, a27, c28, rfl, hb31, hL32, hS33, hl34⟩ K36 hK36
  obtain ⟨n38, s39, rfl, hm, hl34⟩ := loopN_some hl34
  unfold m_impl_troubles_l1 at hm
  refine WP.seq (fun K42 hK42 => ?_)
  refine WP.region ?_
  refine WL.runk 1 [0, 3, 4, 11, 12, 13, 14] [(0, .slice a0' clauses_0.length c0'), (3, .slice a24 st23.1.length c25), (4, .slice a27 st23.2.1.length c28), (11, .slice a0' clauses_0.length c0'), (12, .int .i64 (clauses_0.length : Int)), (13, .int .i64 st23.2.2), (14, .bool (decide (st23.2.2 < (clauses_0.length : Int))))] (by kernel_rfl) ?_
  refine WL.nil ?_
  refine WQ.then_normal (hK42 _ _ _ ?_)
  refine WP.seq (fun K43 hK43 => ?_)
  refine WP.cond (decide (st23.2.2 < (clauses_0.length : Int))) rfl rfl (fun hc44 => ?_) (fun hc44 => ?_)
  rotate_left
  · have hm := iteF hm hc44
    refine WP.exit ?_
    refine WQ.then_exit ?_
    refine WQ.then_exit ?_
    refine WQ.block_here ?_
    obtain rfl := Option.some.inj hm
    obtain rfl := afterN_done hl34
    have hm := hmo35
    refine WQ.then_normal (hK21 _ _ _ ?_)
    refine WP.seq (fun K165 hK165 => ?_)
    refine WP.seq (fun K166 hK166 => ?_)
    obtain ⟨x184, hx185, hm⟩ := bindE hm
    refine WP.cut (fun env' w' => env' = [(0, .slice a0' clauses_0.length c0'), (3, .slice a24 st23.1.length c25), (49, .bool x184)] ∧ Ext w w' ∧ w.heap.size ≤ w'.heap.size ∧ SH w' w.heap.size [aOwn fTrouble 62 a24 c25 st23.1]) ?_ ?_
    · have hm := hx185; clear hx185
      refine WP.region ?_
      refine WL.runk 1 [0, 3, 4, 42] [(0, .slice a0' clauses_0.length c0'), (3, .slice a24 st23.1.length c25), (4, .slice a27 st23.2.1.length c28), (42, .slice a27 st23.2.1.length c28)] (by kernel_rfl) ?_
      obtain ⟨x186, hx187, hm⟩ := bindE hm
      refine WL.call 61 #[.slice a27 st23.2.1.length c28, .string (bs [117, 112, 112, 101, 114])] rfl rfl (by kernel_rfl) (c_61 n st23.2.1 a27 c28 [117, 112, 112, 101, 114] w30 hx187 (SH.rd (SH.front 1 hS33)) (SH.le (SH.front 1 hS33)).1) ?_
      rintro _ w188 ⟨rfl, hE189⟩
      refine ⟨_, rfl, ?_⟩
      have hb191 : Ext w w188 := Ext.trans hb31 hE189
      have hL192 : w.heap.size ≤ w188.heap.size := Nat.le_trans hL32 hE189.size
      have hS193 : SH w188 w.heap.size [aOwn fTrouble 62 a24 c25 st23.1, aOwn fStr 9 a27 c28 st23.2.1] := SH.ext hS33 hE189
      refine WL.runk 2 [0, 3, 4, 45] [(0, .slice a0' clauses_0.length c0'), (3, .slice a24 st23.1.length c25), (4, .slice a27 st23.2.1.length c28), (45, .bool (!x186))] (by kernel_rfl) ?_
      refine WL.case (!x186) [45] ⟨rfl, trivial⟩ (fun hc194 => ?_) (fun hc194 => ?_)
      · have hm := iteT hm hc194
        refine WL.runk 4 [0, 3, 49] [(0, .slice a0' clauses_0.length c0'), (3, .slice a24 st23.1.length c25), (49, .bool true)] (by kernel_rfl) ?_
        refine WL.nil ?_
        obtain rfl := Option.some.inj hm
        exact WQ.post' ⟨rfl, hb191, hL192, (SH.take 1 hS193)⟩ ⟨rfl, rfl, rfl, trivial⟩
      have hm := iteF hm hc194
      refine WL.runk 1 [0, 3, 45, 46] [(0, .slice a0' clauses_0.length c0'), (3, .slice a24 st23.1.length c25), (45, .bool false), (46, .slice a27 st23.2.1.length c28)] (by kernel_rfl) ?_
      obtain ⟨x195, hx196, hm⟩ := bindE hm
      refine WL.call 61 #[.slice a27 st23.2.1.length c28, .string (bs [115, 111, 108, 101])] rfl rfl (by kernel_rfl) (c_61 n st23.2.1 a27 c28 [115, 111, 108, 101] w188 hx196 (SH.rd (SH.front 1 hS193)) (SH.le (SH.front 1 hS193)).1) ?_
      rintro _ w197 ⟨rfl, hE198⟩
      refine ⟨_, rfl, ?_⟩
      have hb200 : Ext w w197 := Ext.trans hb191 hE198
      have hL201 : w.heap.size ≤ w197.heap.size := Nat.le_trans hL192 hE198.size
      have hS202 : SH w197 w.heap.size [aOwn fTrouble 62 a24 c25 st23.1, aOwn fStr 9 a27 c28 st23.2.1] := SH.ext hS193 hE198
      refine WL.runk 2 [0, 3, 49] [(0, .slice a0' clauses_0.length c0'), (3, .slice a24 st23.1.length c25), (49, .bool (!x195))] (by kernel_rfl) ?_
      refine WL.nil ?_
      obtain rfl := Option.some.inj hm
      exact WQ.post' ⟨rfl, hb200, hL201, (SH.take 1 hS202)⟩ ⟨rfl, rfl, rfl, trivial⟩
    clear hx185
    rintro _ w203 ⟨rfl, hb204, hL205, hS206⟩
    refine WQ.then_normal (hK166 _ _ _ ?_)
    obtain ⟨x226, hx227, hm⟩ := bindE hm
    refine WP.cut (fun env' w' => ∃ (a228 : Option Addr) (c229 : Nat), env' = [(3, .slice a228 x226.length c229)] ∧ Ext w w' ∧ w.heap.size ≤ w'.heap.size ∧ SH w' w.heap.size [aOwn fTrouble 62 a228 c229 x226]) ?_ ?_
    rotate_left
    · clear hx227
      rintro _ w249 ⟨a228, c229, rfl, hb250, hL251, hS252⟩
      refine WQ.then_normal (hK165 _ _ _ ?_)
      refine WP.seq (fun K253 hK253 => ?_)
      refine WP.region ?_
      refine WL.runk 2 [2] [(2, .slice a228 x226.length c229)] (by kernel_rfl) ?_
      refine WL.nil ?_
      refine WQ.then_normal (hK253 _ _ _ ?_)
      refine WP.ret ?_
      obtain rfl := Option.some.inj hm
      exact WQ.ret1 _ rfl rfl ⟨_, _, rfl, hb250, hS252⟩
    have hm := hx227; clear hx227
    refine WP.cond x184 rfl rfl (fun hc207 => ?_) (fun hc207 => ?_)
    rotate_left
    · have hm := iteF hm hc207
      refine WP.skip ?_
      obtain rfl := Option.some.inj hm
      exact WQ.post' ⟨_, _, rfl, hb204, hL205, hS206⟩ ⟨rfl, trivial⟩
    have hm := iteT hm hc207
    refine WP.region ?_
    refine WL.runk 4 [50, 53] [(50, .slice a24 st23.1.length c25), (53, .agg #[.int .i64 (clauses_0.length : Int), .int .i64 6])] (by kernel_rfl) ?_
    refine WL.row fTrouble 62 ([(STrouble.mk (clauses_0.length : Int) 6)] : List STrouble) 1 #[.int .i64 (clauses_0.length : Int), .int .i64 6] 54 (by kernel_rfl) rfl rfl rfl rfl rfl rfl rfl ?_
    intro a231 c232 w233 hE234 hR235
    have hb237 : Ext w w233 := Ext.trans hb204 hE234
    have hL238 : w.heap.size ≤ w233.heap.size := Nat.le_trans hL205 hE234.size
    have hS239 : SH w233 w.heap.size [aOwn fTrouble 62 a231 c232 ([(STrouble.mk (clauses_0.length : Int) 6)] : List STrouble), aOwn fTrouble 62 a24 c25 st23.1] := SH.add hS206 hE234 hL205 hR235
    obtain ⟨x240, hx241, hm⟩ := bindE hm
    refine WL.append (F := fTrouble) (xs := st23.1) (ys := ([(STrouble.mk (clauses_0.length : Int) 6)] : List STrouble)) 55 (SH.front 1 hS239) hL238 (SH.rd (SH.front 0 hS239)) hx241 rfl rfl rfl Tryd.underlying37 (info62).1 (info62).2.2.1 (info62).2.1 (info62).2.2.2 rfl rfl rfl rfl rfl ?_
    intro a242 c243 w244 hB245 hS246
    have hb247 : Ext w w244 := Below.trans hb237 hB245
    have hL248 : w.heap.size ≤ w244.heap.size := Nat.le_trans hL238 hB245.size
    refine WL.runk 1 [3] [(3, .slice a242 x240.length c243)] (by kernel_rfl) ?_
    refine WL.nil ?_
    obtain rfl := Option.some.inj hm
    exact WQ.post' ⟨_, _, rfl, hb247, hL248, (SH.take 1 hS246)⟩ ⟨rfl, trivial⟩
  have hm := iteT hm hc44
  refine WP.skip ?_
  refine WQ.then_normal (hK43 _ _ _ ?_)
  refine WP.seq (fun K45 hK45 => ?_)
  refine WP.block ?_
  refine WP.seq (fun K46 hK46 => ?_)
  refine WP.region ?_
  refine WL.runk 1 [0, 3, 4, 11, 12, 13, 15] [(0, .slice a0' clauses_0.length c0'), (3, .slice a24 st23.1.length c25), (4, .slice a27 st23.2.1.length c28), (11, .slice a0' clauses_0.length c0'), (12, .int .i64 (clauses_0.length : Int)), (13, .int .i64 st23.2.2), (15, .int .i64 st23.2.2)] (by kernel_rfl) ?_
  obtain ⟨x47, hx48, hm⟩ := bindE hm
  refine WL.st (.pointer (some (at_ a0' (Int.toNat st23.2.2 * 1)))) (ST.index (T := fStr.ty) (xs := clauses_0) (Rd.below h0 hb31) hx48 rfl rfl rfl Tryd.underlying22 (info9).1 (info9).2.1) rfl rfl rfl ?_
  refine WL.st (.string (bs x47)) (ST.load (cell_ext (Rd.flat (F := fStr) (Rd.below h0 hb31) hx48 0 rfl)) rfl rfl Tryd.underlying9 rfl) rfl rfl rfl ?_
  refine WL.runk 2 [0, 3, 4, 5, 6, 11, 12, 13] [(0, .slice a0' clauses_0.length c0'), (3, .slice a24 st23.1.length c25), (4, .slice a27 st23.2.1.length c28), (11, .slice a0' clauses_0.length c0'), (12, .int .i64 (clauses_0.length : Int)), (13, .int .i64 st23.2.2), (5, .int .i64 st23.2.2), (6, .string (bs x47))] (by kernel_rfl) ?_
  refine WL.nil ?_
  refine WQ.then_normal (hK46 _ _ _ ?_)
  refine WP.seq (fun K49 hK49 => ?_)
  refine WP.region ?_
  refine WL.runk 1 [0, 3, 4, 5, 6, 11, 12, 13, 18] [(0, .slice a0' clauses_0.length c0'), (3, .slice a24 st23.1.length c25), (4, .slice a27 st23.2.1.length c28), (11, .slice a0' clauses_0.length c0'), (12, .int .i64 (clauses_0.length : Int)), (13, .int .i64 st23.2.2), (5, .int .i64 st23.2.2), (6, .string (bs x47)), (18, .string (bs x47))] (by kernel_rfl) ?_
  obtain ⟨x50, hx51, hm⟩ := bindE hm
  refine WL.call 59 #[.string (bs x47)] rfl rfl (by kernel_rfl) (c_59 n x47 w30 hx51 (GL.below hG hb31)) ?_
  rintro _ w52 ⟨rfl, hE53⟩
  refine ⟨_, rfl, ?_⟩
  have hb55 : Ext w w52 := Ext.trans hb31 hE53
  have hL56 : w.heap.size ≤ w52.heap.size := Nat.le_trans hL32 hE53.size
  have hS57 : SH w52 w.heap.size [aOwn fTrouble 62 a24 c25 st23.1, aOwn fStr 9 a27 c28 st23.2.1] := SH.ext hS33 hE53
  refine WL.runk 1 [0, 3, 4, 5, 11, 12, 13, 19, 20] [(0, .slice a0' clauses_0.length c0'), (3, .slice a24 st23.1.length c25), (4, .slice a27 st23.2.1.length c28), (11, .slice a0' clauses_0.length c0'), (12, .int .i64 (clauses_0.length : Int)), (13, .int .i64 st23.2.2), (5, .int .i64 st23.2.2), (19, .int .i64 x50), (20, .string (bs x47))] (by kernel_rfl) ?_
  obtain ⟨x58, hx59, hm⟩ := bindE hm
  refine WL.call 60 #[.string (bs x47)] rfl rfl (by kernel_rfl) (c_60 n x47 w52 hx59 (GL.below (GL.low (j := 1) hG rfl) hb55)) ?_
  rintro _ w60 ⟨rfl, hE61⟩
  refine ⟨_, rfl, ?_⟩
  have hb63 : Ext w w60 := Ext.trans hb55 hE61
  have hL64 : w.heap.size ≤ w60.heap.size := Nat.le_trans hL56 hE61.size
  have hS65 : SH w60 w.heap.size [aOwn fTrouble 62 a24 c25 st23.1, aOwn fStr 9 a27 c28 st23.2.1] := SH.ext hS57 hE61
  refine WL.runk 2 [0, 3, 4, 5, 7, 8, 11, 12, 13] [(0, .slice a0' clauses_0.length c0'), (3, .slice a24 st23.1.length c25), (4, .slice a27 st23.2.1.length c28), (11, .slice a0' clauses_0.length c0'), (12, .int .i64 (clauses_0.length : Int)), (13, .int .i64 st23.2.2), (5, .int .i64 st23.2.2), (7, .int .i64 x50), (8, .string (bs x58))] (by kernel_rfl) ?_
  refine WL.nil ?_
  refine WQ.then_normal (hK49 _ _ _ ?_)
  refine WP.seq (fun K66 hK66 => ?_)
  refine WP.seq (fun K67 hK67 => ?_)
  obtain ⟨x77, hx78, hm⟩ := bindE hm
  refine WP.cut (fun env' w' => env' = [(0, .slice a0' clauses_0.length c0'), (3, .slice a24 st23.1.length c25), (4, .slice a27 st23.2.1.length c28), (11, .slice a0' clauses_0.length c0'), (12, .int .i64 (clauses_0.length : Int)), (13, .int .i64 st23.2.2), (5, .int .i64 st23.2.2), (7, .int .i64 x50), (8, .string (bs x58)), (28, .bool x77)] ∧ Ext w w' ∧ w.heap.size ≤ w'.heap.size ∧ SH w' w.heap.size [aOwn fTrouble 62 a24 c25 st23.1, aOwn fStr 9 a27 c28 st23.2.1]) ?_ ?_
  · have hm := hx78; clear hx78
    refine WP.region ?_
    refine WL.runk 3 [0, 3, 4, 5, 7, 8, 11, 12, 13, 24] [(0, .slice a0' clauses_0.length c0'), (3, .slice a24 st23.1.length c25), (4, .slice a27 st23.2.1.length c28), (11, .slice a0' clauses_0.length c0'), (12, .int .i64 (clauses_0.length : Int)), (13, .int .i64 st23.2.2), (5, .int .i64 st23.2.2), (7, .int .i64 x50), (8, .string (bs x58)), (24, .bool (x50 == 0))] (by kernel_rfl) ?_
    refine WL.case (x50 == 0) [24] ⟨rfl, trivial⟩ (fun hc79 => ?_) (fun hc79 => ?_)
    rotate_left
    · have hm := iteF hm hc79
      refine WL.runk 4 [0, 3, 4, 5, 7, 8, 11, 12, 13, 28] [(0, .slice a0' clauses_0.length c0'), (3, .slice a24 st23.1.length c25), (4, .slice a27 st23.2.1.length c28), (11, .slice a0' clauses_0.length c0'), (12, .int .i64 (clauses_0.length : Int)), (13, .int .i64 st23.2.2), (5, .int .i64 st23.2.2), (7, .int .i64 x50), (8, .string (bs x58)), (28, .bool false)] (by kernel_rfl) ?_
      refine WL.nil ?_
      obtain rfl := Option.some.inj hm
      exact WQ.post' ⟨rfl, hb63, hL64, hS65⟩ ⟨rfl, rfl, rfl, rfl, rfl, rfl, rfl, rfl, rfl, rfl, trivial⟩
    have hm := iteT hm hc79
    refine WL.runk 2 [0, 3, 4, 5, 7, 8, 11, 12, 13, 24, 25, 26] [(0, .slice a0' clauses_0.length c0'), (3, .slice a24 st23.1.length c25), (4, .slice a27 st23.2.1.length c28), (11, .slice a0' clauses_0.length c0'), (12, .int .i64 (clauses_0.length : Int)), (13, .int .i64 st23.2.2), (5, .int .i64 st23.2.2), (7, .int .i64 x50), (8, .string (bs x58)), (24, .bool true), (25, .slice a27 st23.2.1.length c28), (26, .string (bs x58))] (by kernel_rfl) ?_
    obtain ⟨x80, hx81, hm⟩ := bindE hm
    refine WL.call 61 #[.slice a27 st23.2.1.length c28, .string (bs x58)] rfl rfl (by kernel_rfl) (c_61 n st23.2.1 a27 c28 x58 w60 hx81 (SH.rd (SH.front 1 hS65)) (SH.le (SH.front 1 hS65)).1) ?_
    rintro _ w82 ⟨rfl, hE83⟩
    refine ⟨_, rfl, ?_⟩
    have hb85 : Ext w w82 := Ext.trans hb63 hE83
    have hL86 : w.heap.size ≤ w82.heap.size := Nat.le_trans hL64 hE83.size
    have hS87 : SH w82 w.heap.size [aOwn fTrouble 62 a24 c25 st23.1, aOwn fStr 9 a27 c28 st23.2.1] := SH.ext hS65 hE83
    refine WL.runk 1 [0, 3, 4, 5, 7, 8, 11, 12, 13, 28] [(0, .slice a0' clauses_0.length c0'), (3, .slice a24 st23.1.length c25), (4, .slice a27 st23.2.1.length c28), (11, .slice a0' clauses_0.length c0'), (12, .int .i64 (clauses_0.length : Int)), (13, .int .i64 st23.2.2), (5, .int .i64 st23.2.2), (7, .int .i64 x50), (8, .string (bs x58)), (28, .bool x80)] (by kernel_rfl) ?_
    refine WL.nil ?_
    obtain rfl := Option.some.inj hm
    exact WQ.post' ⟨rfl, hb85, hL86, hS87⟩ ⟨rfl, rfl, rfl, rfl, rfl, rfl, rfl, rfl, rfl, rfl, trivial⟩
  clear hx78
  rintro _ w88 ⟨rfl, hb89, hL90, hS91⟩
  refine WQ.then_normal (hK67 _ _ _ ?_)
  obtain ⟨x93, hx94, hm⟩ := bindE hm
  refine WP.cut (fun env' w' => env' = [(0, .slice a0' clauses_0.length c0'), (3, .slice a24 st23.1.length c25), (4, .slice a27 st23.2.1.length c28), (11, .slice a0' clauses_0.length c0'), (12, .int .i64 (clauses_0.length : Int)), (13, .int .i64 st23.2.2), (5, .int .i64 st23.2.2), (7, .int .i64 x93), (8, .string (bs x58))] ∧ Ext w w' ∧ w.heap.size ≤ w'.heap.size ∧ SH w' w.heap.size [aOwn fTrouble 62 a24 c25 st23.1, aOwn fStr 9 a27 c28 st23.2.1]) ?_ ?_
  · have hm := hx94; clear hx94
    refine WP.cond x77 rfl rfl (fun hc92 => ?_) (fun hc92 => ?_)
    rotate_left
    · have hm := iteF hm hc92
      refine WP.skip ?_
      obtain rfl := Option.some.inj hm
      exact WQ.post' ⟨rfl, hb89, hL90, hS91⟩ ⟨rfl, rfl, rfl, rfl, rfl, rfl, rfl, rfl, rfl, trivial⟩
    have hm := iteT hm hc92
    refine WP.region ?_
    refine WL.runk 1 [0, 3, 4, 5, 7, 8, 11, 12, 13] [(0, .slice a0' clauses_0.length c0'), (3, .slice a24 st23.1.length c25), (4, .slice a27 st23.2.1.length c28), (11, .slice a0' clauses_0.length c0'), (12, .int .i64 (clauses_0.length : Int)), (13, .int .i64 st23.2.2), (5, .int .i64 st23.2.2), (7, .int .i64 5), (8, .string (bs x58))] (by kernel_rfl) ?_
    refine WL.nil ?_
    obtain rfl := Option.some.inj hm
    exact WQ.post' ⟨rfl, hb89, hL90, hS91⟩ ⟨rfl, rfl, rfl, rfl, rfl, rfl, rfl, rfl, rfl, trivial⟩
  clear hx94
  rintro _ w95 ⟨rfl, hb96, hL97, hS98⟩
  refine WQ.then_normal (hK66 _ _ _ ?_)
  refine WP.seq (fun K99 hK99 => ?_)
  refine WP.seq (fun K100 hK100 => ?_)
  refine WP.region ?_
  refine WL.runk 2 [0, 3, 4, 5, 7, 8, 11, 12, 13, 30] [(0, .slice a0' clauses_0.length c0'), (3, .slice a24 st23.1.length c25), (4, .slice a27 st23.2.1.length c28), (11, .slice a0' clauses_0.length c0'), (12, .int .i64 (clauses_0.length : Int)), (13, .int .i64 st23.2.2), (5, .int .i64 st23.2.2), (7, .int .i64 x93), (8, .string (bs x58)), (30, .bool (x93 != 0))] (by kernel_rfl) ?_
  refine WL.nil ?_
  refine WQ.then_normal (hK100 _ _ _ ?_)
  obtain ⟨x120, hx121, hm⟩ := bindE hm
  refine WP.cut (fun env' w' => ∃ (a122 : Option Addr) (c123 : Nat), env' = [(0, .slice a0' clauses_0.length c0'), (3, .slice a122 x120.length c123), (4, .slice a27 st23.2.1.length c28), (11, .slice a0' clauses_0.length c0'), (12, .int .i64 (clauses_0.length : Int)), (13, .int .i64 st23.2.2), (8, .string (bs x58))] ∧ Ext w w' ∧ w.heap.size ≤ w'.heap.size ∧ SH w' w.heap.size [aOwn fTrouble 62 a122 c123 x120, aOwn fStr 9 a27 c28 st23.2.1]) ?_ ?_
  · have hm := hx121; clear hx121
    refine WP.cond (x93 != 0) rfl rfl (fun hc101 => ?_) (fun hc101 => ?_)
    rotate_left
    · have hm := iteF hm hc101
      refine WP.skip ?_
      obtain rfl := Option.some.inj hm
      exact WQ.post' ⟨_, _, rfl, hb96, hL97, hS98⟩ ⟨rfl, rfl, rfl, rfl, rfl, rfl, rfl, trivial⟩
    have hm := iteT hm hc101
    refine WP.region ?_
    refine WL.runk 4 [0, 4, 8, 11, 12, 13, 31, 34] [(0, .slice a0' clauses_0.length c0'), (4, .slice a27 st23.2.1.length c28), (11, .slice a0' clauses_0.length c0'), (12, .int .i64 (clauses_0.length : Int)), (13, .int .i64 st23.2.2), (8, .string (bs x58)), (31, .slice a24 st23.1.length c25), (34, .agg #[.int .i64 st23.2.2, .int .i64 x93])] (by kernel_rfl) ?_
    refine WL.row fTrouble 62 ([(STrouble.mk st23.2.2 x93)] : List STrouble) 1 #[.int .i64 st23.2.2, .int .i64 x93] 35 (by kernel_rfl) rfl rfl rfl rfl rfl rfl rfl ?_
    intro a125 c126 w127 hE128 hR129
    have hb131 : Ext w w127 := Ext.trans hb96 hE128
    have hL132 : w.heap.size ≤ w127.heap.size := Nat.le_trans hL97 hE128.size
    have hS133 : SH w127 w.heap.size [aOwn fTrouble 62 a125 c126 ([(STrouble.mk st23.2.2 x93)] : List STrouble), aOwn fTrouble 62 a24 c25 st23.1, aOwn fStr 9 a27 c28 st23.2.1] := SH.add hS98 hE128 hL97 hR129
    obtain ⟨x134, hx135, hm⟩ := bindE hm
    refine WL.append (F := fTrouble) (xs := st23.1) (ys := ([(STrouble.mk st23.2.2 x93)] : List STrouble)) 36 (SH.front 1 hS133) hL132 (SH.rd (SH.front 0 hS133)) hx135 rfl rfl rfl Tryd.underlying37 (info62).1 (info62).2.2.1 (info62).2.1 (info62).2.2.2 rfl rfl rfl rfl rfl ?_
    intro a136 c137 w138 hB139 hS140
    have hb141 : Ext w w138 := Below.trans hb131 hB139
    have hL142 : w.heap.size ≤ w138.heap.size := Nat.le_trans hL132 hB139.size
    refine WL.runk 1 [0, 3, 4, 8, 11, 12, 13] [(0, .slice a0' clauses_0.length c0'), (4, .slice a27 st23.2.1.length c28), (11, .slice a0' clauses_0.length c0'), (12, .int .i64 (clauses_0.length : Int)), (13, .int .i64 st23.2.2), (8, .string (bs x58)), (3, .slice a136 x134.length c137)] (by kernel_rfl) ?_
    refine WL.nil ?_
    obtain rfl := Option.some.inj hm
    exact WQ.post' ⟨_, _, rfl, hb141, hL142, (SH.take 2 (SH.front 1 (SH.front 2 hS140)))⟩ ⟨rfl, rfl, rfl, rfl, rfl, rfl, rfl, trivial⟩
  clear hx121
  rintro _ w143 ⟨a122, c123, rfl, hb144, hL145, hS146⟩
  refine WQ.then_normal (hK99 _ _ _ ?_)
  refine WP.region ?_
  refine WL.runk 2 [0, 3, 11, 12, 13, 37, 38] [(0, .slice a0' clauses_0.length c0'), (3, .slice a122 x120.length c123), (11, .slice a0' clauses_0.length c0'), (12, .int .i64 (clauses_0.length : Int)), (13, .int .i64 st23.2.2), (37, .slice a27 st23.2.1.length c28), (38, .string (bs x58))] (by kernel_rfl) ?_
  refine WL.row fStr 9 ([x58] : List (List UInt8)) 1 #[.string (bs x58)] 39 (by kernel_rfl) rfl rfl rfl rfl rfl rfl rfl ?_
  intro a147 c148 w149 hE150 hR151
  have hb153 : Ext w w149 := Ext.trans hb144 hE150
  have hL154 : w.heap.size ≤ w149.heap.size := Nat.le_trans hL145 hE150.size
  have hS155 : SH w149 w.heap.size [aOwn fStr 9 a147 c148 ([x58] : List (List UInt8)), aOwn fTrouble 62 a122 c123 x120, aOwn fStr 9 a27 c28 st23.2.1] := SH.add hS146 hE150 hL145 hR151
  obtain ⟨x156, hx157, hm⟩ := bindE hm
  refine WL.append (F := fStr) (xs := st23.2.1) (ys := ([x58] : List (List UInt8))) 40 (SH.front 2 hS155) hL154 (SH.rd (SH.front 0 hS155)) hx157 rfl rfl rfl Tryd.underlying22 (info9).1 (info9).2.2.1 (info9).2.1 (info9).2.2.2 rfl rfl rfl rfl rfl ?_
  intro a158 c159 w160 hB161 hS162
  have hb163 : Ext w w160 := Below.trans hb153 hB161
  have hL164 : w.heap.size ≤ w160.heap.size := Nat.le_trans hL154 hB161.size
  refine WL.runk 1 [0, 3, 4, 11, 12, 13] [(0, .slice a0' clauses_0.length c0'), (3, .slice a122 x120.length c123), (11, .slice a0' clauses_0.length c0'), (12, .int .i64 (clauses_0.length : Int)), (13, .int .i64 st23.2.2), (4, .slice a158 x156.length c159)] (by kernel_rfl) ?_
  refine WL.nil ?_
  refine WQ.block_normal ?_
  refine WQ.then_normal (hK45 _ _ _ ?_)
  refine WP.region ?_
  refine WL.runk 2 [0, 3, 4, 11, 12, 13] [(0, .slice a0' clauses_0.length c0'), (3, .slice a122 x120.length c123), (11, .slice a0' clauses_0.length c0'), (12, .int .i64 (clauses_0.length : Int)), (13, .int .i64 (wI64 (st23.2.2 + 1))), (4, .slice a158 x156.length c159)] (by kernel_rfl) ?_
  refine WL.nil ?_
  obtain rfl := Option.some.inj hm
  exact WQ.round hK36 ⟨(x120, x156, (wI64 (st23.2.2 + 1))), _, _, _, _, rfl, hb163, hL164, (SH.take 2 (SH.front 2 hS162)), hl34⟩ (Nat.lt_succ_self _) ⟨rfl, rfl, rfl, rfl, rfl, rfl, trivial⟩

theorem c_24 (n : Nat) (s_0 : List UInt8) (w : World) {r : SStyle × Int} (hm : m_spec_ReadStyle n s_0 = some r)  :
    CallV Tryd.prog 24 #[.string (bs s_0)] w (fun v w' => v = .tuple #[.agg #[.string (bs r.1.Upper), .string (bs r.1.Color), .string (bs r.1.Lining), .string (bs r.1.Sole), .int .i64 r.1.Thick, .int .i64 r.1.Heel, .int .i64 r.1.Eyelets, .int .i64 r.1.Density, .bool r.1.Double], .int .i64 r.2] ∧ Ext w w') := by
  unfold m_spec_ReadStyle at hm
  refine CallV.enter Tryd.func24 rfl (by kernel_rfl) Tryd.ntmps24 (env := [(0, .string (bs s_0))]) ⟨rfl, trivial⟩ ?_
  refine WP.seq (fun K1 hK1 => ?_)
  refine WP.region ?_
  refine WL.box 32 [.string (bs []), .string (bs []), .string (bs []), .string (bs []), .int .i64 0, .int .i64 0, .int .i64 0, .int .i64 0, .bool false] 2 (by kernel_rfl) rfl rfl rfl rfl ?_
  intro b2 w3 hE4 hR5
  have hb7 : Ext w w3 := Ext.trans (Ext.refl w) hE4
  have hL8 : w.heap.size ≤ w3.heap.size := Nat.le_trans (Nat.le_refl _) hE4.size
  have hS9 : SH w3 w.heap.size [aBox 32 b2 [.string (bs []), .string (bs []), .string (bs []), .string (bs []), .int .i64 0, .int .i64 0, .int .i64 0, .int .i64 0, .bool false]] := SH.add (SH.nil _ _) hE4 (Nat.le_refl _) hR5
  refine WL.runk 1 [0, 2] [(0, .string (bs s_0)), (2, .pointer (some ⟨b2, 0, none⟩))] (by kernel_rfl) ?_
  refine WL.nil ?_
  refine WQ.then_normal (hK1 _ _ _ ?_)
  refine WP.seq (fun K10 hK10 => ?_)
  refine WP.region ?_
  refine WL.runk 1 [2, 9] [(2, .pointer (some ⟨b2, 0, none⟩)), (9, .string (bs s_0))] (by kernel_rfl) ?_
  obtain ⟨x11, hx12, hm⟩ := bindE hm
  refine WL.call 27 #[.string (bs s_0)] rfl rfl (by kernel_rfl) (c_27 n s_0 w3 hx12 ) ?_
  rintro _ w16 ⟨a13, c14, rfl, hE17, hR18⟩
  refine ⟨_, rfl, ?_⟩
  have hb19 : Ext w w16 := Ext.trans hb7 hE17
  have hL20 : w.heap.size ≤ w16.heap.size := Nat.le_trans hL8 hE17.size
  have hS21 : SH w16 w.heap.size [aOwn fStr 9 a13 c14 x11.1, aBox 32 b2 [.string (bs []), .string (bs []), .string (bs []), .string (bs []), .int .i64 0, .int .i64 0, .int .i64 0, .int .i64 0, .bool false]] := SH.add hS9 hE17 hL8 hR18
  refine WL.runk 5 [2, 4, 5] [(2, .pointer (some ⟨b2, 0, none⟩)), (4, .slice a13 x11.1.length c14), (5, .bool x11.2)] (by kernel_rfl) ?_
  refine WL.nil ?_
  refine WQ.then_normal (hK10 _ _ _ ?_)
  refine WP.seq (fun K22 hK22 => ?_)
  refine WP.seq (fun K23 hK23 => ?_)
  refine WP.region ?_
  refine WL.runk 2 [2, 4, 14] [(2, .pointer (some ⟨b2, 0, none⟩)), (4, .slice a13 x11.1.length c14), (14, .bool (!x11.2))] (by kernel_rfl) ?_
  refine WL.nil ?_
  refine WQ.then_normal (hK23 _ _ _ ?_)
  refine WP.cond (!x11.2) rfl rfl (fun hc24 => ?_) (fun hc24 => ?_)
  · have hm := iteT hm hc24
    refine WP.seq (fun K25 hK25 => ?_)
    refine WP.region ?_
    refine WL.runk 1 [2, 15] [(2, .pointer (some ⟨b2, 0, none⟩)), (15, .agg #[.string (bs []), .string (bs []), .string (bs []), .string (bs []), .int .i64 0, .int .i64 0, .int .i64 0, .int .i64 0, .bool false])] (by kernel_rfl) ?_
    refine WL.boxStore 0 [.string (bs []), .string (bs []), .string (bs []), .string (bs []), .int .i64 0, .int .i64 0, .int .i64 0, .int .i64 0, .bool false] [.string (bs []), .string (bs []), .string (bs []), .string (bs []), .int .i64 0, .int .i64 0, .int .i64 0, .int .i64 0, .bool false] (SH.front 1 hS21) hL20 rfl rfl rfl rfl rfl rfl rfl (info32).1 (info32).2.1 rfl rfl rfl ?_
    intro w26 hB27 hS28
    have hb29 : Ext w w26 := Below.trans hb19 hB27
    have hL30 : w.heap.size ≤ w26.heap.size := Nat.le_trans hL20 hB27.size
    refine WL.runk 1 [2, 3] [(2, .pointer (some ⟨b2, 0, none⟩)), (3, .int .i64 5)] (by kernel_rfl) ?_
    refine WL.nil ?_
    refine WQ.then_normal (hK25 _ _ _ ?_)
    refine WP.ret ?_
    refine WQ.then_ret ?_
    obtain rfl := Option.some.inj hm
    exact WQ.retv2 _ _ rfl (RVal.box (SH.front 0 hS28) rfl Tryd.underlying32 rfl (info32).1 (info32).2.1) (RVal.tmp rfl) ⟨rfl, hb29⟩
  have hm := iteF hm hc24
  refine WP.skip ?_
  refine WQ.then_normal (hK22 _ _ _ ?_)
  refine WP.seq (fun K31 hK31 => ?_)
  refine WP.region ?_
  refine WL.runk 1 [2, 17] [(2, .pointer (some ⟨b2, 0, none⟩)), (17, .slice a13 x11.1.length c14)] (by kernel_rfl) ?_
  obtain ⟨x32, hx33, hm⟩ := bindE hm
  refine WL.call 40 #[.slice a13 x11.1.length c14] rfl rfl (by kernel_rfl) (c_40 n x11.1 a13 c14 w16 hx33 (SH.rd (SH.front 0 hS21)) (SH.le (SH.front 0 hS21)).1) ?_
  rintro _ w37 ⟨a34, c35, rfl, hE38, hR39⟩
  refine ⟨_, rfl, ?_⟩
  have hb40 : Ext w w37 := Ext.trans hb19 hE38
  have hL41 : w.heap.size ≤ w37.heap.size := Nat.le_trans hL20 hE38.size
  have hS42 : SH w37 w.heap.size [aOwn fTrouble 62 a34 c35 x32.1, aOwn fStr 9 a13 c14 x11.1, aBox 32 b2 [.string (bs []), .string (bs []), .string (bs []), .string (bs []), .int .i64 0, .int .i64 0, .int .i64 0, .int .i64 0, .bool false]] := SH.add hS21 hE38 hL20 hR39
  refine WL.runk 3 [2, 19, 20] [(2, .pointer (some ⟨b2, 0, none⟩)), (19, .slice a34 x32.1.length c35), (20, .agg #[.string (bs x32.2.Upper), .string (bs x32.2.Color), .string (bs x32.2.Lining), .string (bs x32.2.Sole), .int .i64 x32.2.Thick, .int .i64 x32.2.Heel, .int .i64 x32.2.Eyelets, .int .i64 x32.2.Density, .bool x32.2.Double])] (by kernel_rfl) ?_
  refine WL.box 32 [.string (bs []), .string (bs []), .string (bs []), .string (bs []), .int .i64 0, .int .i64 0, .int .i64 0, .int .i64 0, .bool false] 7 (by kernel_rfl) rfl rfl rfl rfl ?_
  intro b43 w44 hE45 hR46
  have hb48 : Ext w w44 := Ext.trans hb40 hE45
  have hL49 : w.heap.size ≤ w44.heap.size := Nat.le_trans hL41 hE45.size
  have hS50 : SH w44 w.heap.size [aBox 32 b43 [.string (bs []), .string (bs []), .string (bs []), .string (bs []), .int .i64 0, .int .i64 0, .int .i64 0, .int .i64 0, .bool false], aOwn fTrouble 62 a34 c35 x32.1, aOwn fStr 9 a13 c14 x11.1, aBox 32 b2 [.string (bs []), .string (bs []), .string (bs []), .string (bs []), .int .i64 0, .int .i64 0, .int .i64 0, .int .i64 0, .bool false]] := SH.add hS42 hE45 hL41 hR46
  refine WL.runk 1 [2, 6, 7, 20] [(2, .pointer (some ⟨b2, 0, none⟩)), (20, .agg #[.string (bs x32.2.Upper), .string (bs x32.2.Color), .string (bs x32.2.Lining), .string (bs x32.2.Sole), .int .i64 x32.2.Thick, .int .i64 x32.2.Heel, .int .i64 x32.2.Eyelets, .int .i64 x32.2.Density, .bool x32.2.Double]), (7, .pointer (some ⟨b43, 0, none⟩)), (6, .slice a34 x32.1.length c35)] (by kernel_rfl) ?_
  refine WL.boxStore 0 [.string (bs x32.2.Upper), .string (bs x32.2.Color), .string (bs x32.2.Lining), .string (bs x32.2.Sole), .int .i64 x32.2.Thick, .int .i64 x32.2.Heel, .int .i64 x32.2.Eyelets, .int .i64 x32.2.Density, .bool x32.2.Double] [.string (bs x32.2.Upper), .string (bs x32.2.Color), .string (bs x32.2.Lining), .string (bs x32.2.Sole), .int .i64 x32.2.Thick, .int .i64 x32.2.Heel, .int .i64 x32.2.Eyelets, .int .i64 x32.2.Density, .bool x32.2.Double] (SH.front 0 hS50) hL49 rfl rfl rfl rfl rfl rfl rfl (info32).1 (info32).2.1 rfl rfl rfl ?_
  intro w51 hB52 hS53
  have hb54 : Ext w w51 := Below.trans hb48 hB52
  have hL55 : w.heap.size ≤ w51.heap.size := Nat.le_trans hL49 hB52.size
  refine WL.sub [(2, .pointer (some ⟨b2, 0, none⟩)), (7, .pointer (some ⟨b43, 0, none⟩)), (6, .slice a34 x32.1.length c35)] ⟨rfl, rfl, rfl, trivial⟩ ?_
  refine WL.nil ?_
  refine WQ.then_normal (hK31 _ _ _ ?_)
  refine WP.seq (fun K56 hK56 => ?_)
  refine WP.seq (fun K57 hK57 => ?_)
  refine WP.region ?_
  refine WL.runk 3 [2, 7, 23] [(2, .pointer (some ⟨b2, 0, none⟩)), (7, .pointer (some ⟨b43, 0, none⟩)), (23, .bool (decide ((x32.1.length : Int) > 0)))] (by kernel_rfl) ?_
  refine WL.nil ?_
  refine WQ.then_normal (hK57 _ _ _ ?_)
  refine WP.cond (decide ((x32.1.length : Int) > 0)) rfl rfl (fun hc58 => ?_) (fun hc58 => ?_)
  · have hm := iteT hm hc58
    refine WP.seq (fun K59 hK59 => ?_)
    refine WP.region ?_
    refine WL.runk 1 [2, 24] [(2, .pointer (some ⟨b2, 0, none⟩)), (24, .agg #[.string (bs []), .string (bs []), .string (bs []), .string (bs []), .int .i64 0, .int .i64 0, .int .i64 0, .int .i64 0, .bool false])] (by kernel_rfl) ?_
    refine WL.boxStore 0 [.string (bs []), .string (bs []), .string (bs []), .string (bs []), .int .i64 0, .int .i64 0, .int .i64 0, .int .i64 0, .bool false] [.string (bs []), .string (bs []), .string (bs []), .string (bs []), .int .i64 0, .int .i64 0, .int .i64 0, .int .i64 0, .bool false] (SH.front 3 hS53) hL55 rfl rfl rfl rfl rfl rfl rfl (info32).1 (info32).2.1 rfl rfl rfl ?_
    intro w60 hB61 hS62
    have hb63 : Ext w w60 := Below.trans hb54 hB61
    have hL64 : w.heap.size ≤ w60.heap.size := Nat.le_trans hL55 hB61.size
    refine WL.runk 1 [2, 3] [(2, .pointer (some ⟨b2, 0, none⟩)), (3, .int .i64 7)] (by kernel_rfl) ?_
    refine WL.nil ?_
    refine WQ.then_normal (hK59 _ _ _ ?_)
    refine WP.ret ?_
    refine WQ.then_ret ?_
    obtain rfl := Option.some.inj hm
    exact WQ.retv2 _ _ rfl (RVal.box (SH.front 0 hS62) rfl Tryd.underlying32 rfl (info32).1 (info32).2.1) (RVal.tmp rfl) ⟨rfl, hb63⟩
  have hm := iteF hm hc58
  refine WP.skip ?_
  refine WQ.then_normal (hK56 _ _ _ ?_)
  refine WP.seq (fun K65 hK65 => ?_)
  refine WP.region ?_
  refine WL.st (.agg #[.string (bs x32.2.Upper), .string (bs x32.2.Color), .string (bs x32.2.Lining), .string (bs x32.2.Sole), .int .i64 x32.2.Thick, .int .i64 x32.2.Heel, .int .i64 x32.2.Eyelets, .int .i64 x32.2.Density, .bool x32.2.Double]) (ST.loadAgg (vs := [.string (bs x32.2.Upper), .string (bs x32.2.Color), .string (bs x32.2.Lining), .string (bs x32.2.Sole), .int .i64 x32.2.Thick, .int .i64 x32.2.Heel, .int .i64 x32.2.Eyelets, .int .i64 x32.2.Density, .bool x32.2.Double]) (fun j v hv => SH.boxPart (us := [.string (bs x32.2.Upper), .string (bs x32.2.Color), .string (bs x32.2.Lining), .string (bs x32.2.Sole), .int .i64 x32.2.Thick, .int .i64 x32.2.Heel, .int .i64 x32.2.Eyelets, .int .i64 x32.2.Density, .bool x32.2.Double]) (SH.front 0 hS53) 0 rfl j v hv) rfl rfl rfl Tryd.underlying32 rfl (info32).1 (info32).2.1) rfl rfl rfl ?_
  refine WL.boxStore 0 [.string (bs x32.2.Upper), .string (bs x32.2.Color), .string (bs x32.2.Lining), .string (bs x32.2.Sole), .int .i64 x32.2.Thick, .int .i64 x32.2.Heel, .int .i64 x32.2.Eyelets, .int .i64 x32.2.Density, .bool x32.2.Double] [.string (bs x32.2.Upper), .string (bs x32.2.Color), .string (bs x32.2.Lining), .string (bs x32.2.Sole), .int .i64 x32.2.Thick, .int .i64 x32.2.Heel, .int .i64 x32.2.Eyelets, .int .i64 x32.2.Density, .bool x32.2.Double] (SH.front 3 hS53) hL55 rfl rfl rfl rfl rfl rfl rfl (info32).1 (info32).2.1 rfl rfl rfl ?_
  intro w66 hB67 hS68
  have hb69 : Ext w w66 := Below.trans hb54 hB67
  have hL70 : w.heap.size ≤ w66.heap.size := Nat.le_trans hL55 hB67.size
  refine WL.runk 1 [2, 3] [(2, .pointer (some ⟨b2, 0, none⟩)), (3, .int .i64 0)] (by kernel_rfl) ?_
  refine WL.nil ?_
  refine WQ.then_normal (hK65 _ _ _ ?_)
  refine WP.ret ?_
  obtain rfl := Option.some.inj hm
  exact WQ.retv2 _ _ rfl (RVal.box (SH.front 0 hS68) rfl Tryd.underlying32 rfl (info32).1 (info32).2.1) (RVal.tmp rfl) ⟨rfl, hb69⟩

theorem c_63 (n : Nat) (k_0 : Int) (cap_1 : List (List UInt8)) (b1' o1' : Nat) (a1' : Option Addr) (c1' : Nat) (w : World) {r : Int} (hm : m_impl_Style_with_1 n k_0 cap_1 = some r) (hG : GL 3 w) (h1 : RdB w b1' o1' [.slice a1' cap_1.length c1']) (hr1 : Rd fStr.ty w a1' cap_1) (_hle1 : cap_1.length ≤ c1') :
    CallV Tryd.prog 63 #[.int .i64 k_0, .pointer (some ⟨b1', o1', none⟩)] w (fun v w' => v = .int .i64 r ∧ Ext w w') := by
  unfold m_impl_Style_with_1 at hm
  refine CallV.enter Tryd.func63 rfl (by kernel_rfl) Tryd.ntmps63 (env := [(0, .int .i64 k_0), (1, .pointer (some ⟨b1', o1', none⟩))]) ⟨rfl, rfl, trivial⟩ ?_
  refine WP.seq (fun K1 hK1 => ?_)
  refine WP.region ?_
  refine WL.runk 1 [0, 1] [(0, .int .i64 k_0), (1, .pointer (some ⟨b1', o1', none⟩))] (by kernel_rfl) ?_
  refine WL.nil ?_
  refine WQ.then_normal (hK1 _ _ _ ?_)
  refine WP.seq (fun K2 hK2 => ?_)
  refine WP.region ?_
  refine WL.st (.slice a1' cap_1.length c1') (ST.load (cell_ext (RdB.at (RdB.below h1 (Ext.refl w)) 0 _ rfl)) rfl rfl Tryd.underlying22 rfl) rfl rfl rfl ?_
  refine WL.runk 1 [7, 8] [(7, .slice a1' cap_1.length c1'), (8, .int .i64 k_0)] (by kernel_rfl) ?_
  obtain ⟨x3, hx4, hm⟩ := bindE hm
  refine WL.st (.pointer (some (at_ a1' (Int.toNat k_0 * 1)))) (ST.index (T := fStr.ty) (xs := cap_1) (Rd.below hr1 (Ext.refl w)) hx4 rfl rfl rfl Tryd.underlying22 (info9).1 (info9).2.1) rfl rfl rfl ?_
  refine WL.st (.string (bs x3)) (ST.load (cell_ext (Rd.flat (F := fStr) (Rd.below hr1 (Ext.refl w)) hx4 0 rfl)) rfl rfl Tryd.underlying9 rfl) rfl rfl rfl ?_
  obtain ⟨x5, hx6, hm⟩ := bindE hm
  refine WL.call 64 #[.string (bs x3)] rfl rfl (by kernel_rfl) (c_64 n x3 w hx6 (GL.below hG (Ext.refl w))) ?_
  rintro _ w7 ⟨rfl, hE8⟩
  refine ⟨_, rfl, ?_⟩
  have hb10 : Ext w w7 := Ext.trans (Ext.refl w) hE8
  have hL11 : w.heap.size ≤ w7.heap.size := Nat.le_trans (Nat.le_refl _) hE8.size
  have hS12 : SH w7 w.heap.size [] := SH.ext (SH.nil _ _) hE8
  refine WL.runk 5 [4] [(4, .int .i64 x5.1)] (by kernel_rfl) ?_
  refine WL.nil ?_
  refine WQ.then_normal (hK2 _ _ _ ?_)
  refine WP.seq (fun K13 hK13 => ?_)
  refine WP.region ?_
  refine WL.runk 2 [3] [(3, .int .i64 x5.1)] (by kernel_rfl) ?_
  refine WL.nil ?_
  refine WQ.then_normal (hK13 _ _ _ ?_)
  refine WP.ret ?_
  obtain rfl := Option.some.inj hm
  exact WQ.ret1 _ rfl rfl ⟨rfl, hb10⟩

theorem c_43 (n : Nat) (x_0 : SStyle) (clause_1 : List UInt8) (w : World) {r : SStyle} (hm : m_impl_Style_with n x_0 clause_1 = some r) (hG : GL 3 w) :
    CallV Tryd.prog 43 #[.agg #[.string (bs x_0.Upper), .string (bs x_0.Color), .string (bs x_0.Lining), .string (bs x_0.Sole), .int .i64 x_0.Thick, .int .i64 x_0.Heel, .int .i64 x_0.Eyelets, .int .i64 x_0.Density, .bool x_0.Double], .string (bs clause_1)] w (fun v w' => v = .agg #[.string (bs r.Upper), .string (bs r.Color), .string (bs r.Lining), .string (bs r.Sole), .int .i64 r.Thick, .int .i64 r.Heel, .int .i64 r.Eyelets, .int .i64 r.Density, .bool r.Double] ∧ Ext w w') := by
  unfold m_impl_Style_with at hm
  refine CallV.enter Tryd.func43 rfl (by kernel_rfl) Tryd.ntmps43 (env := [(0, .agg #[.string (bs x_0.Upper), .string (bs x_0.Color), .string (bs x_0.Lining), .string (bs x_0.Sole), .int .i64 x_0.Thick, .int .i64 x_0.Heel, .int .i64 x_0.Eyelets, .int .i64 x_0.Density, .bool x_0.Double]), (1, .string (bs clause_1))]) ⟨rfl, rfl, trivial⟩ ?_
  refine WP.seq (fun K1 hK1 => ?_)
  refine WP.region ?_
  refine WL.box 32 [.string (bs x_0.Upper), .string (bs x_0.Color), .string (bs x_0.Lining), .string (bs x_0.Sole), .int .i64 x_0.Thick, .int .i64 x_0.Heel, .int .i64 x_0.Eyelets, .int .i64 x_0.Density, .bool x_0.Double] 2 (by kernel_rfl) rfl rfl rfl rfl ?_
  intro b2 w3 hE4 hR5
  have hb7 : Ext w w3 := Ext.trans (Ext.refl w) hE4
  have hL8 : w.heap.size ≤ w3.heap.size := Nat.le_trans (Nat.le_refl _) hE4.size
  have hS9 : SH w3 w.heap.size [aBox 32 b2 [.string (bs x_0.Upper), .string (bs x_0.Color), .string (bs x_0.Lining), .string (bs x_0.Sole), .int .i64 x_0.Thick, .int .i64 x_0.Heel, .int .i64 x_0.Eyelets, .int .i64 x_0.Density, .bool x_0.Double]] := SH.add (SH.nil _ _) hE4 (Nat.le_refl _) hR5
  refine WL.box 32 [.string (bs []), .string (bs []), .string (bs []), .string (bs []), .int .i64 0, .int .i64 0, .int .i64 0, .int .i64 0, .bool false] 4 (by kernel_rfl) rfl rfl rfl rfl ?_
  intro b10 w11 hE12 hR13
  have hb15 : Ext w w11 := Ext.trans hb7 hE12
  have hL16 : w.heap.size ≤ w11.heap.size := Nat.le_trans hL8 hE12.size
  have hS17 : SH w11 w.heap.size [aBox 32 b10 [.string (bs []), .string (bs []), .string (bs []), .string (bs []), .int .i64 0, .int .i64 0, .int .i64 0, .int .i64 0, .bool false], aBox 32 b2 [.string (bs x_0.Upper), .string (bs x_0.Color), .string (bs x_0.Lining), .string (bs x_0.Sole), .int .i64 x_0.Thick, .int .i64 x_0.Heel, .int .i64 x_0.Eyelets, .int .i64 x_0.Density, .bool x_0.Double]] := SH.add hS9 hE12 hL8 hR13
  refine WL.sub [(1, .string (bs clause_1)), (2, .pointer (some ⟨b2, 0, none⟩)), (4, .pointer (some ⟨b10, 0, none⟩))] ⟨rfl, rfl, rfl, trivial⟩ ?_
  refine WL.nil ?_
  refine WQ.then_normal (hK1 _ _ _ ?_)
  refine WP.seq (fun K18 hK18 => ?_)
  refine WP.region ?_
  refine WL.runk 1 [2, 4, 7] [(2, .pointer (some ⟨b2, 0, none⟩)), (4, .pointer (some ⟨b10, 0, none⟩)), (7, .string (bs clause_1))] (by kernel_rfl) ?_
  obtain ⟨x19, hx20, hm⟩ := bindE hm
  refine WL.call 62 #[.string (bs clause_1)] rfl rfl (by kernel_rfl) (c_62 n clause_1 w11 hx20 (GL.below (GL.low (j := 1) hG rfl) hb15)) ?_
  rintro _ w24 ⟨a21, c22, rfl, hE25, hR26⟩
  refine ⟨_, rfl, ?_⟩
  have hb27 : Ext w w24 := Ext.trans hb15 hE25
  have hL28 : w.heap.size ≤ w24.heap.size := Nat.le_trans hL16 hE25.size
  have hS29 : SH w24 w.heap.size [aOwn fStr 9 a21 c22 x19, aBox 32 b10 [.string (bs []), .string (bs []), .string (bs []), .string (bs []), .int .i64 0, .int .i64 0, .int .i64 0, .int .i64 0, .bool false], aBox 32 b2 [.string (bs x_0.Upper), .string (bs x_0.Color), .string (bs x_0.Lining), .string (bs x_0.Sole), .int .i64 x_0.Thick, .int .i64 x_0.Heel, .int .i64 x_0.Eyelets, .int .i64 x_0.Density, .bool x_0.Double]] := SH.add hS17 hE25 hL16 hR26
  refine WL.box 22 [.slice none 0 0] 5 (by kernel_rfl) rfl rfl rfl rfl ?_
  intro b30 w31 hE32 hR33
  have hb35 : Ext w w31 := Ext.trans hb27 hE32
  have hL36 : w.heap.size ≤ w31.heap.size := Nat.le_trans hL28 hE32.size
  have hS37 : SH w31 w.heap.size [aBox 22 b30 [.slice none 0 0], aOwn fStr 9 a21 c22 x19, aBox 32 b10 [.string (bs []), .string (bs []), .string (bs []), .string (bs []), .int .i64 0, .int .i64 0, .int .i64 0, .int .i64 0, .bool false], aBox 32 b2 [.string (bs x_0.Upper), .string (bs x_0.Color), .string (bs x_0.Lining), .string (bs x_0.Sole), .int .i64 x_0.Thick, .int .i64 x_0.Heel, .int .i64 x_0.Eyelets, .int .i64 x_0.Density, .bool x_0.Double]] := SH.add hS29 hE32 hL28 hR33
  refine WL.boxStore 0 [.slice a21 x19.length c22] [.slice a21 x19.length c22] (SH.front 0 hS37) hL36 rfl rfl rfl rfl rfl rfl rfl (info22).1 (info22).2.1 rfl rfl rfl ?_
  intro w38 hB39 hS40
  have hb41 : Ext w w38 := Below.trans hb35 hB39
  have hL42 : w.heap.size ≤ w38.heap.size := Nat.le_trans hL36 hB39.size
  refine WL.sub [(2, .pointer (some ⟨b2, 0, none⟩)), (4, .pointer (some ⟨b10, 0, none⟩)), (5, .pointer (some ⟨b30, 0, none⟩))] ⟨rfl, rfl, rfl, trivial⟩ ?_
  refine WL.nil ?_
  refine WQ.then_normal (hK18 _ _ _ ?_)
  refine WP.seq (fun K43 hK43 => ?_)
  refine WP.region ?_
  refine WL.runk 2 [2, 4, 5, 6] [(2, .pointer (some ⟨b2, 0, none⟩)), (4, .pointer (some ⟨b10, 0, none⟩)), (5, .pointer (some ⟨b30, 0, none⟩)), (6, .func (.func 63) #[] #[.pointer (some ⟨b30, 0, none⟩)])] (by kernel_rfl) ?_
  refine WL.nil ?_
  refine WQ.then_normal (hK43 _ _ _ ?_)
  refine WP.seq (fun K44 hK44 => ?_)
  refine WP.seq (fun K45 hK45 => ?_)
  refine WP.region ?_
  refine WL.st (.slice a21 x19.length c22) (ST.load (cell_ext (SH.boxAt (SH.front 0 hS40) 0 _ rfl)) rfl rfl Tryd.underlying22 rfl) rfl rfl rfl ?_
  obtain ⟨x46, hx47, hm⟩ := bindE hm
  refine WL.st (.pointer (some (at_ a21 (Int.toNat 0 * 1)))) (ST.index (T := fStr.ty) (xs := x19) (SH.rd (SH.front 1 hS40)) hx47 rfl rfl rfl Tryd.underlying22 (info9).1 (info9).2.1) rfl rfl rfl ?_
  refine WL.st (.string (bs x46)) (ST.load (cell_ext (Rd.flat (F := fStr) (SH.rd (SH.front 1 hS40)) hx47 0 rfl)) rfl rfl Tryd.underlying9 rfl) rfl rfl rfl ?_
  refine WL.sub [(2, .pointer (some ⟨b2, 0, none⟩)), (4, .pointer (some ⟨b10, 0, none⟩)), (5, .pointer (some ⟨b30, 0, none⟩)), (6, .func (.func 63) #[] #[.pointer (some ⟨b30, 0, none⟩)]), (12, .string (bs x46))] ⟨rfl, rfl, rfl, rfl, rfl, trivial⟩ ?_
  refine WL.nil ?_
  refine WQ.then_normal (hK45 _ _ _ ?_)
  refine WP.block ?_
  refine WP.seq (fun K48 hK48 => ?_)
  refine WP.region ?_
  refine WL.st (.bool (x46 == [117, 112, 112, 101, 114])) (ST.streq (x := x46) (y := [117, 112, 112, 101, 114]) rfl rfl rfl) rfl rfl rfl ?_
  refine WL.runk 1 [2, 4, 5, 6, 12, 13] [(2, .pointer (some ⟨b2, 0, none⟩)), (4, .pointer (some ⟨b10, 0, none⟩)), (5, .pointer (some ⟨b30, 0, none⟩)), (6, .func (.func 63) #[] #[.pointer (some ⟨b30, 0, none⟩)]), (12, .string (bs x46)), (13, .bool (x46 == [117, 112, 112, 101, 114]))] (by kernel_rfl) ?_
  refine WL.nil ?_
  refine WQ.then_normal (hK48 _ _ _ ?_)
  obtain ⟨x248575, hx248576, hm⟩ := bindE hm
  refine WP.cut (fun env' w' => env' = [(2, .pointer (some ⟨b2, 0, none⟩)), (4, .pointer (some ⟨b10, 0, none⟩))] ∧ Ext w w' ∧ w.heap.size ≤ w'.heap.size ∧ SH w' w.heap.size [aBox 22 b30 [.slice a21 x19.length c22], aOwn fStr 9 a21 c22 x19, aBox 32 b10 [.string (bs []), .string (bs []), .string (bs []), .string (bs []), .int .i64 0, .int .i64 0, .int .i64 0, .int .i64 0, .bool false], aBox 32 b2 [.string (bs x248575.1), .string (bs x248575.2.1), .string (bs x248575.2.2.1), .string (bs x248575.2.2.2.1), .int .i64 x248575.2.2.2.2.1, .int .i64 x248575.2.2.2.2.2.1, .int .i64 x248575.2.2.2.2.2.2.1, .int .i64 x248575.2.2.2.2.2.2.2.1, .bool x248575.2.2.2.2.2.2.2.2]]) ?_ ?_
  rotate_left
  · clear hx248576
    rintro _ w331418 ⟨rfl, hb331419, hL331420, hS331421⟩
    refine WQ.block_normal ?_
    refine WQ.then_normal (hK44 _ _ _ ?_)
    refine WP.seq (fun K331422 hK331422 => ?_)
    refine WP.region ?_
    refine WL.st (.agg #[.string (bs x248575.1), .string (bs x248575.2.1), .string (bs x248575.2.2.1), .string (bs x248575.2.2.2.1), .int .i64 x248575.2.2.2.2.1, .int .i64 x248575.2.2.2.2.2.1, .int .i64 x248575.2.2.2.2.2.2.1, .int .i64 x248575.2.2.2.2.2.2.2.1, .bool x248575.2.2.2.2.2.2.2.2]) (ST.loadAgg (vs := [.string (bs x248575.1), .string (bs x248575.2.1), .string (bs x248575.2.2.1), .string (bs x248575.2.2.2.1), .int .i64 x248575.2.2.2.2.1, .int .i64 x248575.2.2.2.2.2.1, .int .i64 x248575.2.2.2.2.2.2.1, .int .i64 x248575.2.2.2.2.2.2.2.1, .bool x248575.2.2.2.2.2.2.2.2]) (fun j v hv => SH.boxPart (us := [.string (bs x248575.1), .string (bs x248575.2.1), .string (bs x248575.2.2.1), .string (bs x248575.2.2.2.1), .int .i64 x248575.2.2.2.2.1, .int .i64 x248575.2.2.2.2.2.1, .int .i64 x248575.2.2.2.2.2.2.1, .int .i64 x248575.2.2.2.2.2.2.2.1, .bool x248575.2.2.2.2.2.2.2.2]) (SH.front 3 hS331421) 0 rfl j v hv) rfl rfl rfl Tryd.underlying32 rfl (info32).1 (info32).2.1) rfl rfl rfl ?_
    refine WL.boxStore 0 [.string (bs x248575.1), .string (bs x248575.2.1), .string (bs x248575.2.2.1), .string (bs x248575.2.2.2.1), .int .i64 x248575.2.2.2.2.1, .int .i64 x248575.2.2.2.2.2.1, .int .i64 x248575.2.2.2.2.2.2.1, .int .i64 x248575.2.2.2.2.2.2.2.1, .bool x248575.2.2.2.2.2.2.2.2] [.string (bs x248575.1), .string (bs x248575.2.1), .string (bs x248575.2.2.1), .string (bs x248575.2.2.2.1), .int .i64 x248575.2.2.2.2.1, .int .i64 x248575.2.2.2.2.2.1, .int .i64 x248575.2.2.2.2.2.2.1, .int .i64 x248575.2.2.2.2.2.2.2.1, .bool x248575.2.2.2.2.2.2.2.2] (SH.front 2 hS331421) hL331420 rfl rfl rfl rfl rfl rfl rfl (info32).1 (info32).2.1 rfl rfl rfl ?_
    intro w331423 hB331424 hS331425
    have hb331426 : Ext w w331423 := Below.trans hb331419 hB331424
    have hL331427 : w.heap.size ≤ w331423.heap.size := Nat.le_trans hL331420 hB331424.size
    refine WL.sub [(4, .pointer (some ⟨b10, 0, none⟩))] ⟨rfl, trivial⟩ ?_
    refine WL.nil ?_
    refine WQ.then_normal (hK331422 _ _ _ ?_)
    refine WP.ret ?_
    obtain rfl := Option.some.inj hm
    exact WQ.retv1 _ rfl (RVal.box (SH.front 0 hS331425) rfl Tryd.underlying32 rfl (info32).1 (info32).2.1) ⟨rfl, hb331426⟩
  have hm := hx248576; clear hx248576
  refine WP.cond (x46 == [117, 112, 112, 101, 114]) rfl rfl (fun hc49 => ?_) (fun hc49 => ?_)
  · have hm := iteT hm hc49
    refine WP.open (n := 10) (by kernel_rfl) rfl (fun w248577 hE248578 => ?_)
    have hb248579 : Ext w w248577 := Ext.trans hb41 hE248578
    have hL248580 : w.heap.size ≤ w248577.heap.size := Nat.le_trans hL42 hE248578.size
    have hS248581 : SH w248577 w.heap.size [aBox 22 b30 [.slice a21 x19.length c22], aOwn fStr 9 a21 c22 x19, aBox 32 b10 [.string (bs []), .string (bs []), .string (bs []), .string (bs []), .int .i64 0, .int .i64 0, .int .i64 0, .int .i64 0, .bool false], aBox 32 b2 [.string (bs x_0.Upper), .string (bs x_0.Color), .string (bs x_0.Lining), .string (bs x_0.Sole), .int .i64 x_0.Thick, .int .i64 x_0.Heel, .int .i64 x_0.Eyelets, .int .i64 x_0.Density, .bool x_0.Double]] := SH.ext hS40 hE248578
    obtain ⟨x248596, hx248597, hm⟩ := bindE hm
    obtain ⟨x248616, hx248617, hm⟩ := bindE hm
    refine WA.par (R := []) (f' := 2) (D' := [0, 1, 2, 3, 4, 5, 6, 7]) [⟨0, [], fun _ => .slice a21 x19.length c22⟩, ⟨1, [], fun _ => .pointer (some (at_ a21 (Int.toNat 1 * 1)))⟩, ⟨2, [], fun _ => .string (bs x248596)⟩, ⟨3, [], fun _ => .slice a21 x19.length c22⟩, ⟨4, [], fun _ => .pointer (some (at_ a21 (Int.toNat 2 * 1)))⟩, ⟨5, [], fun _ => .string (bs x248616)⟩, ⟨6, [], fun _ => .pointer (some ⟨b2, 0, none⟩)⟩, ⟨7, [], fun _ => undef⟩] [⟨[aBox 22 b30 [.slice a21 x19.length c22]], []⟩, ⟨[aOwn fStr 9 a21 c22 x19], []⟩, ⟨[aBox 32 b10 [.string (bs []), .string (bs []), .string (bs []), .string (bs []), .int .i64 0, .int .i64 0, .int .i64 0, .int .i64 0, .bool false]], []⟩, ⟨[aBox 32 b2 [.string (bs x_0.Upper), .string (bs x_0.Color), .string (bs x_0.Lining), .string (bs x_0.Sole), .int .i64 x_0.Thick, .int .i64 x_0.Heel, .int .i64 x_0.Eyelets, .int .i64 x_0.Density, .bool x_0.Double]], [⟨7, [], fun _ => [aBox 32 b2 [.string (bs x248596), .string (bs x_0.Color), .string (bs x_0.Lining), .string (bs x_0.Sole), .int .i64 x_0.Thick, .int .i64 x_0.Heel, .int .i64 x_0.Eyelets, .int .i64 x_0.Density, .bool x_0.Double]]⟩]⟩] rfl rfl hS248581 (by kernel_rfl) (by kernel_rfl) ⟨?_, ?_, ?_, ?_, ?_, ?_, ?_, ?_, trivial⟩ ?_
    · intro g248582 w248584 R248583 hB248585 hS248586
      have hS248587 : SH w248584 w.heap.size (aBox 22 b30 [.slice a21 x19.length c22] :: aOwn fStr 9 a21 c22 x19 :: aBox 32 b10 [.string (bs []), .string (bs []), .string (bs []), .string (bs []), .int .i64 0, .int .i64 0, .int .i64 0, .int .i64 0, .bool false] :: aBox 32 b2 [.string (bs x_0.Upper), .string (bs x_0.Color), .string (bs x_0.Lining), .string (bs x_0.Sole), .int .i64 x_0.Thick, .int .i64 x_0.Heel, .int .i64 x_0.Eyelets, .int .i64 x_0.Density, .bool x_0.Double] :: R248583) := memEq hS248586 (by kernel_rfl)
      have hb248588 : Ext w w248584 := Below.trans hb248579 hB248585
      have hL248589 : w.heap.size ≤ w248584.heap.size := Nat.le_trans hL248580 hB248585.size
      refine WL.subk [5] [(5, .pointer (some ⟨b30, 0, none⟩))] (by kernel_rfl) ?_
      refine WL.st (.slice a21 x19.length c22) (ST.load (cell_ext (SH.boxAt (SH.front 0 hS248587) 0 _ rfl)) rfl rfl Tryd.underlying22 rfl) rfl rfl rfl ?_
      refine WL.nil ?_
      exact QP.intro (fun k => ([] : List (Option Addr × Nat)).getD k (none, 0)) (d := 15) (by kernel_rfl) (by kernel_rfl) (Below.refl _ _) hS248587 (by kernel_rfl)
    · intro g248582 w248590 R248583 hB248591 hS248592
      have hS248593 : SH w248590 w.heap.size (aBox 22 b30 [.slice a21 x19.length c22] :: aOwn fStr 9 a21 c22 x19 :: aBox 32 b10 [.string (bs []), .string (bs []), .string (bs []), .string (bs []), .int .i64 0, .int .i64 0, .int .i64 0, .int .i64 0, .bool false] :: aBox 32 b2 [.string (bs x_0.Upper), .string (bs x_0.Color), .string (bs x_0.Lining), .string (bs x_0.Sole), .int .i64 x_0.Thick, .int .i64 x_0.Heel, .int .i64 x_0.Eyelets, .int .i64 x_0.Density, .bool x_0.Double] :: R248583) := memEq hS248592 (by kernel_rfl)
      have hb248594 : Ext w w248590 := Below.trans hb248579 hB248591
      have hL248595 : w.heap.size ≤ w248590.heap.size := Nat.le_trans hL248580 hB248591.size
      refine WL.subk [15] [(15, .slice a21 x19.length c22)] (by kernel_rfl) ?_
      refine WL.st (.pointer (some (at_ a21 (Int.toNat 1 * 1)))) (ST.index (T := fStr.ty) (xs := x19) (SH.rd (SH.front 1 hS248593)) hx248597 rfl rfl rfl Tryd.underlying22 (info9).1 (info9).2.1) rfl rfl rfl ?_
      refine WL.nil ?_
      exact QP.intro (fun k => ([] : List (Option Addr × Nat)).getD k (none, 0)) (d := 16) (by kernel_rfl) (by kernel_rfl) (Below.refl _ _) hS248593 (by kernel_rfl)
    · intro g248582 w248598 R248583 hB248599 hS248600
      have hS248601 : SH w248598 w.heap.size (aBox 22 b30 [.slice a21 x19.length c22] :: aOwn fStr 9 a21 c22 x19 :: aBox 32 b10 [.string (bs []), .string (bs []), .string (bs []), .string (bs []), .int .i64 0, .int .i64 0, .int .i64 0, .int .i64 0, .bool false] :: aBox 32 b2 [.string (bs x_0.Upper), .string (bs x_0.Color), .string (bs x_0.Lining), .string (bs x_0.Sole), .int .i64 x_0.Thick, .int .i64 x_0.Heel, .int .i64 x_0.Eyelets, .int .i64 x_0.Density, .bool x_0.Double] :: R248583) := memEq hS248600 (by kernel_rfl)
      have hb248602 : Ext w w248598 := Below.trans hb248579 hB248599
      have hL248603 : w.heap.size ≤ w248598.heap.size := Nat.le_trans hL248580 hB248599.size
      refine WL.subk [16] [(16, .pointer (some (at_ a21 (Int.toNat 1 * 1))))] (by kernel_rfl) ?_
      refine WL.st (.string (bs x248596)) (ST.load (cell_ext (Rd.flat (F := fStr) (SH.rd (SH.front 1 hS248601)) hx248597 0 rfl)) rfl rfl Tryd.underlying9 rfl) rfl rfl rfl ?_
      refine WL.nil ?_
      exact QP.intro (fun k => ([] : List (Option Addr × Nat)).getD k (none, 0)) (d := 17) (by kernel_rfl) (by kernel_rfl) (Below.refl _ _) hS248601 (by kernel_rfl)
    · intro g248582 w248604 R248583 hB248605 hS248606
      have hS248607 : SH w248604 w.heap.size (aBox 22 b30 [.slice a21 x19.length c22] :: aOwn fStr 9 a21 c22 x19 :: aBox 32 b10 [.string (bs []), .string (bs []), .string (bs []), .string (bs []), .int .i64 0, .int .i64 0, .int .i64 0, .int .i64 0, .bool false] :: R248583) := memEq hS248606 (by kernel_rfl)
      have hb248608 : Ext w w248604 := Below.trans hb248579 hB248605
      have hL248609 : w.heap.size ≤ w248604.heap.size := Nat.le_trans hL248580 hB248605.size
      refine WL.subk [5] [(5, .pointer (some ⟨b30, 0, none⟩))] (by kernel_rfl) ?_
      refine WL.st (.slice a21 x19.length c22) (ST.load (cell_ext (SH.boxAt (SH.front 0 hS248607) 0 _ rfl)) rfl rfl Tryd.underlying22 rfl) rfl rfl rfl ?_
      refine WL.nil ?_
      exact QP.intro (fun k => ([] : List (Option Addr × Nat)).getD k (none, 0)) (d := 18) (by kernel_rfl) (by kernel_rfl) (Below.refl _ _) hS248607 (by kernel_rfl)
    · intro g248582 w248610 R248583 hB248611 hS248612
      have hS248613 : SH w248610 w.heap.size (aBox 22 b30 [.slice a21 x19.length c22] :: aOwn fStr 9 a21 c22 x19 :: aBox 32 b10 [.string (bs []), .string (bs []), .string (bs []), .string (bs []), .int .i64 0, .int .i64 0, .int .i64 0, .int .i64 0, .bool false] :: R248583) := memEq hS248612 (by kernel_rfl)
      have hb248614 : Ext w w248610 := Below.trans hb248579 hB248611
      have hL248615 : w.heap.size ≤ w248610.heap.size := Nat.le_trans hL248580 hB248611.size
      refine WL.subk [18] [(18, .slice a21 x19.length c22)] (by kernel_rfl) ?_
      refine WL.st (.pointer (some (at_ a21 (Int.toNat 2 * 1)))) (ST.index (T := fStr.ty) (xs := x19) (SH.rd (SH.front 1 hS248613)) hx248617 rfl rfl rfl Tryd.underlying22 (info9).1 (info9).2.1) rfl rfl rfl ?_
      refine WL.nil ?_
      exact QP.intro (fun k => ([] : List (Option Addr × Nat)).getD k (none, 0)) (d := 19) (by kernel_rfl) (by kernel_rfl) (Below.refl _ _) hS248613 (by kernel_rfl)
    · intro g248582 w248618 R248583 hB248619 hS248620
      have hS248621 : SH w248618 w.heap.size (aBox 22 b30 [.slice a21 x19.length c22] :: aOwn fStr 9 a21 c22 x19 :: aBox 32 b10 [.string (bs []), .string (bs []), .string (bs []), .string (bs []), .int .i64 0, .int .i64 0, .int .i64 0, .int .i64 0, .bool false] :: R248583) := memEq hS248620 (by kernel_rfl)
      have hb248622 : Ext w w248618 := Below.trans hb248579 hB248619
      have hL248623 : w.heap.size ≤ w248618.heap.size := Nat.le_trans hL248580 hB248619.size
      refine WL.subk [19] [(19, .pointer (some (at_ a21 (Int.toNat 2 * 1))))] (by kernel_rfl) ?_
      refine WL.st (.string (bs x248616)) (ST.load (cell_ext (Rd.flat (F := fStr) (SH.rd (SH.front 1 hS248621)) hx248617 0 rfl)) rfl rfl Tryd.underlying9 rfl) rfl rfl rfl ?_
      refine WL.nil ?_
      exact QP.intro (fun k => ([] : List (Option Addr × Nat)).getD k (none, 0)) (d := 20) (by kernel_rfl) (by kernel_rfl) (Below.refl _ _) hS248621 (by kernel_rfl)
    · intro g248582 w248624 R248583 hB248625 hS248626
      have hS248627 : SH w248624 w.heap.size (aBox 22 b30 [.slice a21 x19.length c22] :: aOwn fStr 9 a21 c22 x19 :: aBox 32 b10 [.string (bs []), .string (bs []), .string (bs []), .string (bs []), .int .i64 0, .int .i64 0, .int .i64 0, .int .i64 0, .bool false] :: aBox 32 b2 [.string (bs x_0.Upper), .string (bs x_0.Color), .string (bs x_0.Lining), .string (bs x_0.Sole), .int .i64 x_0.Thick, .int .i64 x_0.Heel, .int .i64 x_0.Eyelets, .int .i64 x_0.Density, .bool x_0.Double] :: R248583) := memEq hS248626 (by kernel_rfl)
      have hb248628 : Ext w w248624 := Below.trans hb248579 hB248625
      have hL248629 : w.heap.size ≤ w248624.heap.size := Nat.le_trans hL248580 hB248625.size
      refine WL.subk [2] [(2, .pointer (some ⟨b2, 0, none⟩))] (by kernel_rfl) ?_
      refine WL.runk 1 [21] [(21, .pointer (some ⟨b2, 0, none⟩))] (by kernel_rfl) ?_
      refine WL.nil ?_
      exact QP.intro (fun k => ([] : List (Option Addr × Nat)).getD k (none, 0)) (d := 21) (by kernel_rfl) (by kernel_rfl) (Below.refl _ _) hS248627 (by kernel_rfl)
    · intro g248582 w248630 R248583 hB248631 hS248632
      have hS248633 : SH w248630 w.heap.size (aBox 22 b30 [.slice a21 x19.length c22] :: aOwn fStr 9 a21 c22 x19 :: aBox 32 b10 [.string (bs []), .string (bs []), .string (bs []), .string (bs []), .int .i64 0, .int .i64 0, .int .i64 0, .int .i64 0, .bool false] :: aBox 32 b2 [.string (bs x_0.Upper), .string (bs x_0.Color), .string (bs x_0.Lining), .string (bs x_0.Sole), .int .i64 x_0.Thick, .int .i64 x_0.Heel, .int .i64 x_0.Eyelets, .int .i64 x_0.Density, .bool x_0.Double] :: R248583) := memEq hS248632 (by kernel_rfl)
      have hb248634 : Ext w w248630 := Below.trans hb248579 hB248631
      have hL248635 : w.heap.size ≤ w248630.heap.size := Nat.le_trans hL248580 hB248631.size
      refine WL.subk [17, 21] [(17, .string (bs x248596)), (21, .pointer (some ⟨b2, 0, none⟩))] (by kernel_rfl) ?_
      refine WL.boxStore 0 [.string (bs x248596)] [.string (bs x248596), .string (bs x_0.Color), .string (bs x_0.Lining), .string (bs x_0.Sole), .int .i64 x_0.Thick, .int .i64 x_0.Heel, .int .i64 x_0.Eyelets, .int .i64 x_0.Density, .bool x_0.Double] (SH.front 3 hS248633) hL248635 rfl rfl rfl rfl rfl rfl rfl (info9).1 (info9).2.1 rfl rfl rfl ?_
      intro w248636 hB248637 hS248638
      have hb248639 : Ext w w248636 := Below.trans hb248634 hB248637
      have hL248640 : w.heap.size ≤ w248636.heap.size := Nat.le_trans hL248635 hB248637.size
      refine WL.nil ?_
      exact QP.intro0 (fun k => ([] : List (Option Addr × Nat)).getD k (none, 0)) (by kernel_rfl) hB248637 (SH.front 3 (SH.front 3 (SH.front 3 hS248638))) (by kernel_rfl)
    intro g248582 w248641 hB248642 hS248643
    have hS248644 : SH w248641 w.heap.size [aBox 22 b30 [.slice a21 x19.length c22], aOwn fStr 9 a21 c22 x19, aBox 32 b10 [.string (bs []), .string (bs []), .string (bs []), .string (bs []), .int .i64 0, .int .i64 0, .int .i64 0, .int .i64 0, .bool false], aBox 32 b2 [.string (bs x248596), .string (bs x_0.Color), .string (bs x_0.Lining), .string (bs x_0.Sole), .int .i64 x_0.Thick, .int .i64 x_0.Heel, .int .i64 x_0.Eyelets, .int .i64 x_0.Density, .bool x_0.Double]] := memEq hS248643 (by kernel_rfl)
    have hb248645 : Ext w w248641 := Below.trans hb248579 hB248642
    have hL248646 : w.heap.size ≤ w248641.heap.size := Nat.le_trans hL248580 hB248642.size
    refine WQ.subk [2, 4, 20] [(2, .pointer (some ⟨b2, 0, none⟩)), (4, .pointer (some ⟨b10, 0, none⟩)), (20, .string (bs x248616))] (by kernel_rfl) ?_
    refine WA.one (i := 8) (D' := [0, 1, 2, 3, 4, 5, 6, 7, 8]) rfl rfl (by kernel_rfl) ?_
    refine WL.runk 1 [2, 4, 20, 22] [(2, .pointer (some ⟨b2, 0, none⟩)), (4, .pointer (some ⟨b10, 0, none⟩)), (20, .string (bs x248616)), (22, .pointer (some ⟨b2, 1, none⟩))] (by kernel_rfl) ?_
    refine WL.nil ?_
    refine WA.one (i := 9) (D' := [0, 1, 2, 3, 4, 5, 6, 7, 8, 9]) rfl rfl (by kernel_rfl) ?_
    refine WL.boxStore 1 [.string (bs x248616)] [.string (bs x248596), .string (bs x248616), .string (bs x_0.Lining), .string (bs x_0.Sole), .int .i64 x_0.Thick, .int .i64 x_0.Heel, .int .i64 x_0.Eyelets, .int .i64 x_0.Density, .bool x_0.Double] (SH.front 3 hS248644) hL248646 rfl rfl rfl rfl rfl rfl rfl (info9).1 (info9).2.1 rfl rfl rfl ?_
    intro w248647 hB248648 hS248649
    have hb248650 : Ext w w248647 := Below.trans hb248645 hB248648
    have hL248651 : w.heap.size ≤ w248647.heap.size := Nat.le_trans hL248646 hB248648.size
    refine WL.sub [(2, .pointer (some ⟨b2, 0, none⟩)), (4, .pointer (some ⟨b10, 0, none⟩))] ⟨rfl, rfl, trivial⟩ ?_
    refine WL.nil ?_
    refine WA.done (by kernel_rfl) ?_
    obtain rfl := Option.some.inj hm
    exact WQ.post' ⟨rfl, hb248650, hL248651, (SH.front 3 (SH.front 3 (SH.front 3 hS248649)))⟩ ⟨rfl, rfl, trivial⟩
  have hm := iteF hm hc49
  refine WP.seq (fun K248652 hK248652 => ?_)
  refine WP.region ?_
  refine WL.st (.bool (x46 == [108, 105, 110, 105, 110, 103])) (ST.streq (x := x46) (y := [108, 105, 110, 105, 110, 103]) rfl rfl rfl) rfl rfl rfl ?_
  refine WL.runk 1 [2, 4, 5, 6, 12, 23] [(2, .pointer (some ⟨b2, 0, none⟩)), (4, .pointer (some ⟨b10, 0, none⟩)), (5, .pointer (some ⟨b30, 0, none⟩)), (6, .func (.func 63) #[] #[.pointer (some ⟨b30, 0, none⟩)]), (12, .string (bs x46)), (23, .bool (x46 == [108, 105, 110, 105, 110, 103]))] (by kernel_rfl) ?_
  refine WL.nil ?_
  refine WQ.then_normal (hK248652 _ _ _ ?_)
  obtain ⟨x310723, hx310724, hm⟩ := bindE hm
  refine WP.cut (fun env' w' => env' = [(2, .pointer (some ⟨b2, 0, none⟩)), (4, .pointer (some ⟨b10, 0, none⟩))] ∧ Ext w w' ∧ w.heap.size ≤ w'.heap.size ∧ SH w' w.heap.size [aBox 22 b30 [.slice a21 x19.length c22], aOwn fStr 9 a21 c22 x19, aBox 32 b10 [.string (bs []), .string (bs []), .string (bs []), .string (bs []), .int .i64 0, .int .i64 0, .int .i64 0, .int .i64 0, .bool false], aBox 32 b2 [.string (bs x_0.Upper), .string (bs x_0.Color), .string (bs x310723.1), .string (bs x310723.2.1), .int .i64 x310723.2.2.1, .int .i64 x310723.2.2.2.1, .int .i64 x310723.2.2.2.2.1, .int .i64 x310723.2.2.2.2.2.1, .bool x310723.2.2.2.2.2.2]]) ?_ ?_
  rotate_left
  · clear hx310724
    rintro _ w331414 ⟨rfl, hb331415, hL331416, hS331417⟩
    obtain rfl := Option.some.inj hm
    exact WQ.post' ⟨rfl, hb331415, hL331416, hS331417⟩ ⟨rfl, rfl, trivial⟩
  have hm := hx310724; clear hx310724
  refine WP.cond (x46 == [108, 105, 110, 105, 110, 103]) rfl rfl (fun hc248653 => ?_) (fun hc248653 => ?_)
  · have hm := iteT hm hc248653
    refine WP.region ?_
    refine WL.st (.slice a21 x19.length c22) (ST.load (cell_ext (SH.boxAt (SH.front 0 hS40) 0 _ rfl)) rfl rfl Tryd.underlying22 rfl) rfl rfl rfl ?_
    obtain ⟨x310725, hx310726, hm⟩ := bindE hm
    refine WL.st (.pointer (some (at_ a21 (Int.toNat 1 * 1)))) (ST.index (T := fStr.ty) (xs := x19) (SH.rd (SH.front 1 hS40)) hx310726 rfl rfl rfl Tryd.underlying22 (info9).1 (info9).2.1) rfl rfl rfl ?_
    refine WL.st (.string (bs x310725)) (ST.load (cell_ext (Rd.flat (F := fStr) (SH.rd (SH.front 1 hS40)) hx310726 0 rfl)) rfl rfl Tryd.underlying9 rfl) rfl rfl rfl ?_
    refine WL.runk 1 [2, 4, 27, 28] [(2, .pointer (some ⟨b2, 0, none⟩)), (4, .pointer (some ⟨b10, 0, none⟩)), (27, .string (bs x310725)), (28, .pointer (some ⟨b2, 2, none⟩))] (by kernel_rfl) ?_
    refine WL.boxStore 2 [.string (bs x310725)] [.string (bs x_0.Upper), .string (bs x_0.Color), .string (bs x310725), .string (bs x_0.Sole), .int .i64 x_0.Thick, .int .i64 x_0.Heel, .int .i64 x_0.Eyelets, .int .i64 x_0.Density, .bool x_0.Double] (SH.front 3 hS40) hL42 rfl rfl rfl rfl rfl rfl rfl (info9).1 (info9).2.1 rfl rfl rfl ?_
    intro w310727 hB310728 hS310729
    have hb310730 : Ext w w310727 := Below.trans hb41 hB310728
    have hL310731 : w.heap.size ≤ w310727.heap.size := Nat.le_trans hL42 hB310728.size
    refine WL.sub [(2, .pointer (some ⟨b2, 0, none⟩)), (4, .pointer (some ⟨b10, 0, none⟩))] ⟨rfl, rfl, trivial⟩ ?_
    refine WL.nil ?_
    obtain rfl := Option.some.inj hm
    exact WQ.post' ⟨rfl, hb310730, hL310731, (SH.front 3 (SH.front 3 (SH.front 3 hS310729)))⟩ ⟨rfl, rfl, trivial⟩
  have hm := iteF hm hc248653
  refine WP.seq (fun K310732 hK310732 => ?_)
  refine WP.region ?_
  refine WL.st (.bool (x46 == [115, 111, 108, 101])) (ST.streq (x := x46) (y := [115, 111, 108, 101]) rfl rfl rfl) rfl rfl rfl ?_
  refine WL.runk 1 [2, 4, 5, 6, 12, 29] [(2, .pointer (some ⟨b2, 0, none⟩)), (4, .pointer (some ⟨b10, 0, none⟩)), (5, .pointer (some ⟨b30, 0, none⟩)), (6, .func (.func 63) #[] #[.pointer (some ⟨b30, 0, none⟩)]), (12, .string (bs x46)), (29, .bool (x46 == [115, 111, 108, 101]))] (by kernel_rfl) ?_
  refine WL.nil ?_
  refine WQ.then_normal (hK310732 _ _ _ ?_)
  obtain ⟨x326240, hx326241, hm⟩ := bindE hm
  refine WP.cut (fun env' w' => env' = [(2, .pointer (some ⟨b2, 0, none⟩)), (4, .pointer (some ⟨b10, 0, none⟩))] ∧ Ext w w' ∧ w.heap.size ≤ w'.heap.size ∧ SH w' w.heap.size [aBox 22 b30 [.slice a21 x19.length c22], aOwn fStr 9 a21 c22 x19, aBox 32 b10 [.string (bs []), .string (bs []), .string (bs []), .string (bs []), .int .i64 0, .int .i64 0, .int .i64 0, .int .i64 0, .bool false], aBox 32 b2 [.string (bs x_0.Upper), .string (bs x_0.Color), .string (bs x_0.Lining), .string (bs x326240.1), .int .i64 x326240.2.1, .int .i64 x326240.2.2.1, .int .i64 x326240.2.2.2.1, .int .i64 x326240.2.2.2.2.1, .bool x326240.2.2.2.2.2]]) ?_ ?_
  rotate_left
  · clear hx326241
    rintro _ w331410 ⟨rfl, hb331411, hL331412, hS331413⟩
    obtain rfl := Option.some.inj hm
    exact WQ.post' ⟨rfl, hb331411, hL331412, hS331413⟩ ⟨rfl, rfl, trivial⟩
  have hm := hx326241; clear hx326241
  refine WP.cond (x46 == [115, 111, 108, 101]) rfl rfl (fun hc310733 => ?_) (fun hc310733 => ?_)
  · have hm := iteT hm hc310733
    refine WP.open (n := 9) (by kernel_rfl) rfl (fun w326242 hE326243 => ?_)
    have hb326244 : Ext w w326242 := Ext.trans hb41 hE326243
    have hL326245 : w.heap.size ≤ w326242.heap.size := Nat.le_trans hL42 hE326243.size
    have hS326246 : SH w326242 w.heap.size [aBox 22 b30 [.slice a21 x19.length c22], aOwn fStr 9 a21 c22 x19, aBox 32 b10 [.string (bs []), .string (bs []), .string (bs []), .string (bs []), .int .i64 0, .int .i64 0, .int .i64 0, .int .i64 0, .bool false], aBox 32 b2 [.string (bs x_0.Upper), .string (bs x_0.Color), .string (bs x_0.Lining), .string (bs x_0.Sole), .int .i64 x_0.Thick, .int .i64 x_0.Heel, .int .i64 x_0.Eyelets, .int .i64 x_0.Density, .bool x_0.Double]] := SH.ext hS40 hE326243
    refine WA.quiet (f' := 3) (D' := [0, 1, 2, 3, 4, 5]) [0, 1, 2, 3, 4, 5] rfl rfl (by kernel_rfl) ?_
    refine QL.st (.slice a21 x19.length c22) (ST.load (cell_ext (SH.boxAt (SH.front 0 hS326246) 0 _ rfl)) rfl rfl Tryd.underlying22 rfl) rfl rfl rfl ?_
    obtain ⟨x326247, hx326248, hm⟩ := bindE hm
    refine QL.st (.pointer (some (at_ a21 (Int.toNat 1 * 1)))) (ST.index (T := fStr.ty) (xs := x19) (SH.rd (SH.front 1 hS326246)) hx326248 rfl rfl rfl Tryd.underlying22 (info9).1 (info9).2.1) rfl rfl rfl ?_
    refine QL.st (.string (bs x326247)) (ST.load (cell_ext (Rd.flat (F := fStr) (SH.rd (SH.front 1 hS326246)) hx326248 0 rfl)) rfl rfl Tryd.underlying9 rfl) rfl rfl rfl ?_
    refine QL.step1v 34 (.func (.func 63) #[] #[.pointer (some ⟨b30, 0, none⟩)]) rfl (fun _ => by kernel_rfl) ?_
    refine QL.subk [2, 4, 33, 34] [(2, .pointer (some ⟨b2, 0, none⟩)), (4, .pointer (some ⟨b10, 0, none⟩)), (33, .string (bs x326247)), (34, .func (.func 63) #[] #[.pointer (some ⟨b30, 0, none⟩)])] (by kernel_rfl) ?_
    obtain ⟨x326249, hx326250, hm⟩ := bindE hm
    refine QL.call 63 #[.int .i64 2, .pointer (some ⟨b30, 0, none⟩)] (.int .i64 x326249) (fun _ => by kernel_rfl) (fun w326251 hE326252 => c_63 n 2 x19 b30 0 a21 c22 w326251 hx326250 (GL.below (GL.below hG hb326244) hE326252) (RdB.below (SH.boxRd (SH.front 0 hS326246)) hE326252) (Rd.below (SH.rd (SH.front 1 hS326246)) hE326252) (SH.le (SH.front 1 hS326246)).1) rfl rfl rfl ?_
    refine QL.step1v 36 (.pointer (some ⟨b2, 3, none⟩)) rfl (fun _ => by kernel_rfl) ?_
    refine QL.subk [2, 4, 33, 35, 36] [(2, .pointer (some ⟨b2, 0, none⟩)), (4, .pointer (some ⟨b10, 0, none⟩)), (33, .string (bs x326247)), (35, .int .i64 x326249), (36, .pointer (some ⟨b2, 3, none⟩))] (by kernel_rfl) ?_
    refine QL.nil ?_
    intro w326253 hE326254
    have hb326255 : Ext w w326253 := Ext.trans hb326244 hE326254
    have hL326256 : w.heap.size ≤ w326253.heap.size := Nat.le_trans hL326245 hE326254.size
    have hS326257 : SH w326253 w.heap.size [aBox 22 b30 [.slice a21 x19.length c22], aOwn fStr 9 a21 c22 x19, aBox 32 b10 [.string (bs []), .string (bs []), .string (bs []), .string (bs []), .int .i64 0, .int .i64 0, .int .i64 0, .int .i64 0, .bool false], aBox 32 b2 [.string (bs x_0.Upper), .string (bs x_0.Color), .string (bs x_0.Lining), .string (bs x_0.Sole), .int .i64 x_0.Thick, .int .i64 x_0.Heel, .int .i64 x_0.Eyelets, .int .i64 x_0.Density, .bool x_0.Double]] := SH.ext hS326246 hE326254
    refine WA.one (i := 6) (D' := [0, 1, 2, 3, 4, 5, 6]) rfl rfl (by kernel_rfl) ?_
    refine WL.boxStore 3 [.string (bs x326247)] [.string (bs x_0.Upper), .string (bs x_0.Color), .string (bs x_0.Lining), .string (bs x326247), .int .i64 x_0.Thick, .int .i64 x_0.Heel, .int .i64 x_0.Eyelets, .int .i64 x_0.Density, .bool x_0.Double] (SH.front 3 hS326257) hL326256 rfl rfl rfl rfl rfl rfl rfl (info9).1 (info9).2.1 rfl rfl rfl ?_
    intro w326258 hB326259 hS326260
    have hb326261 : Ext w w326258 := Below.trans hb326255 hB326259
    have hL326262 : w.heap.size ≤ w326258.heap.size := Nat.le_trans hL326256 hB326259.size
    refine WL.sub [(2, .pointer (some ⟨b2, 0, none⟩)), (4, .pointer (some ⟨b10, 0, none⟩)), (35, .int .i64 x326249)] ⟨rfl, rfl, rfl, trivial⟩ ?_
    refine WL.nil ?_
    refine WA.one (i := 7) (D' := [0, 1, 2, 3, 4, 5, 6, 7]) rfl rfl (by kernel_rfl) ?_
    refine WL.runk 1 [2, 4, 35, 37] [(2, .pointer (some ⟨b2, 0, none⟩)), (4, .pointer (some ⟨b10, 0, none⟩)), (35, .int .i64 x326249), (37, .pointer (some ⟨b2, 4, none⟩))] (by kernel_rfl) ?_
    refine WL.nil ?_
    refine WA.one (i := 8) (D' := [0, 1, 2, 3, 4, 5, 6, 7, 8]) rfl rfl (by kernel_rfl) ?_
    refine WL.boxStore 4 [.int .i64 x326249] [.string (bs x_0.Upper), .string (bs x_0.Color), .string (bs x_0.Lining), .string (bs x326247), .int .i64 x326249, .int .i64 x_0.Heel, .int .i64 x_0.Eyelets, .int .i64 x_0.Density, .bool x_0.Double] (SH.front 0 hS326260) hL326262 rfl rfl rfl rfl rfl rfl rfl (info2).1 (info2).2.1 rfl rfl rfl ?_
    intro w326263 hB326264 hS326265
    have hb326266 : Ext w w326263 := Below.trans hb326261 hB326264
    have hL326267 : w.heap.size ≤ w326263.heap.size := Nat.le_trans hL326262 hB326264.size
    refine WL.sub [(2, .pointer (some ⟨b2, 0, none⟩)), (4, .pointer (some ⟨b10, 0, none⟩))] ⟨rfl, rfl, trivial⟩ ?_
    refine WL.nil ?_
    refine WA.done (by kernel_rfl) ?_
    obtain rfl := Option.some.inj hm
    exact WQ.post' ⟨rfl, hb326266, hL326267, (SH.front 3 (SH.front 3 (SH.front 3 hS326265)))⟩ ⟨rfl, rfl, trivial⟩
  have hm := iteF hm hc310733
  refine WP.seq (fun K326268 hK326268 => ?_)
  refine WP.region ?_
  refine WL.st (.bool (x46 == [104, 101, 101, 108])) (ST.streq (x := x46) (y := [104, 101, 101, 108]) rfl rfl rfl) rfl rfl rfl ?_
  refine WL.runk 1 [2, 4, 5, 6, 12, 38] [(2, .pointer (some ⟨b2, 0, none⟩)), (4, .pointer (some ⟨b10, 0, none⟩)), (5, .pointer (some ⟨b30, 0, none⟩)), (6, .func (.func 63) #[] #[.pointer (some ⟨b30, 0, none⟩)]), (12, .string (bs x46)), (38, .bool (x46 == [104, 101, 101, 108]))] (by kernel_rfl) ?_
  refine WL.nil ?_
  refine WQ.then_normal (hK326268 _ _ _ ?_)
  obtain ⟨x330121, hx330122, hm⟩ := bindE hm
  refine WP.cut (fun env' w' => env' = [(2, .pointer (some ⟨b2, 0, none⟩)), (4, .pointer (some ⟨b10, 0, none⟩))] ∧ Ext w w' ∧ w.heap.size ≤ w'.heap.size ∧ SH w' w.heap.size [aBox 22 b30 [.slice a21 x19.length c22], aOwn fStr 9 a21 c22 x19, aBox 32 b10 [.string (bs []), .string (bs []), .string (bs []), .string (bs []), .int .i64 0, .int .i64 0, .int .i64 0, .int .i64 0, .bool false], aBox 32 b2 [.string (bs x_0.Upper), .string (bs x_0.Color), .string (bs x_0.Lining), .string (bs x_0.Sole), .int .i64 x_0.Thick, .int .i64 x330121.1, .int .i64 x330121.2.1, .int .i64 x330121.2.2.1, .bool x330121.2.2.2]]) ?_ ?_
  rotate_left
  · clear hx330122
    rintro _ w331406 ⟨rfl, hb331407, hL331408, hS331409⟩
    obtain rfl := Option.some.inj hm
    exact WQ.post' ⟨rfl, hb331407, hL331408, hS331409⟩ ⟨rfl, rfl, trivial⟩
  have hm := hx330122; clear hx330122
  refine WP.cond (x46 == [104, 101, 101, 108]) rfl rfl (fun hc326269 => ?_) (fun hc326269 => ?_)
  · have hm := iteT hm hc326269
    refine WP.region ?_
    refine WL.runk 1 [2, 4, 40] [(2, .pointer (some ⟨b2, 0, none⟩)), (4, .pointer (some ⟨b10, 0, none⟩)), (40, .func (.func 63) #[] #[.pointer (some ⟨b30, 0, none⟩)])] (by kernel_rfl) ?_
    obtain ⟨x330123, hx330124, hm⟩ := bindE hm
    refine WL.call 63 #[.int .i64 1, .pointer (some ⟨b30, 0, none⟩)] rfl rfl (by kernel_rfl) (c_63 n 1 x19 b30 0 a21 c22 w38 hx330124 (GL.below hG hb41) (SH.boxRd (SH.front 0 hS40)) (SH.rd (SH.front 1 hS40)) (SH.le (SH.front 1 hS40)).1) ?_
    rintro _ w330125 ⟨rfl, hE330126⟩
    refine ⟨_, rfl, ?_⟩
    have hb330128 : Ext w w330125 := Ext.trans hb41 hE330126
    have hL330129 : w.heap.size ≤ w330125.heap.size := Nat.le_trans hL42 hE330126.size
    have hS330130 : SH w330125 w.heap.size [aBox 22 b30 [.slice a21 x19.length c22], aOwn fStr 9 a21 c22 x19, aBox 32 b10 [.string (bs []), .string (bs []), .string (bs []), .string (bs []), .int .i64 0, .int .i64 0, .int .i64 0, .int .i64 0, .bool false], aBox 32 b2 [.string (bs x_0.Upper), .string (bs x_0.Color), .string (bs x_0.Lining), .string (bs x_0.Sole), .int .i64 x_0.Thick, .int .i64 x_0.Heel, .int .i64 x_0.Eyelets, .int .i64 x_0.Density, .bool x_0.Double]] := SH.ext hS40 hE330126
    refine WL.runk 1 [2, 4, 41, 42] [(2, .pointer (some ⟨b2, 0, none⟩)), (4, .pointer (some ⟨b10, 0, none⟩)), (41, .int .i64 x330123), (42, .pointer (some ⟨b2, 5, none⟩))] (by kernel_rfl) ?_
    refine WL.boxStore 5 [.int .i64 x330123] [.string (bs x_0.Upper), .string (bs x_0.Color), .string (bs x_0.Lining), .string (bs x_0.Sole), .int .i64 x_0.Thick, .int .i64 x330123, .int .i64 x_0.Eyelets, .int .i64 x_0.Density, .bool x_0.Double] (SH.front 3 hS330130) hL330129 rfl rfl rfl rfl rfl rfl rfl (info2).1 (info2).2.1 rfl rfl rfl ?_
    intro w330131 hB330132 hS330133
    have hb330134 : Ext w w330131 := Below.trans hb330128 hB330132
    have hL330135 : w.heap.size ≤ w330131.heap.size := Nat.le_trans hL330129 hB330132.size
    refine WL.sub [(2, .pointer (some ⟨b2, 0, none⟩)), (4, .pointer (some ⟨b10, 0, none⟩))] ⟨rfl, rfl, trivial⟩ ?_
    refine WL.nil ?_
    obtain rfl := Option.some.inj hm
    exact WQ.post' ⟨rfl, hb330134, hL330135, (SH.front 3 (SH.front 3 (SH.front 3 hS330133)))⟩ ⟨rfl, rfl, trivial⟩
  have hm := iteF hm hc326269
  refine WP.seq (fun K330136 hK330136 => ?_)
  refine WP.region ?_
  refine WL.st (.bool (x46 == [101, 121, 101, 108, 101, 116, 115])) (ST.streq (x := x46) (y := [101, 121, 101, 108, 101, 116, 115]) rfl rfl rfl) rfl rfl rfl ?_
  refine WL.runk 1 [2, 4, 5, 6, 12, 43] [(2, .pointer (some ⟨b2, 0, none⟩)), (4, .pointer (some ⟨b10, 0, none⟩)), (5, .pointer (some ⟨b30, 0, none⟩)), (6, .func (.func 63) #[] #[.pointer (some ⟨b30, 0, none⟩)]), (12, .string (bs x46)), (43, .bool (x46 == [101, 121, 101, 108, 101, 116, 115]))] (by kernel_rfl) ?_
  refine WL.nil ?_
  refine WQ.then_normal (hK330136 _ _ _ ?_)
  obtain ⟨x331085, hx331086, hm⟩ := bindE hm
  refine WP.cut (fun env' w' => env' = [(2, .pointer (some ⟨b2, 0, none⟩)), (4, .pointer (some ⟨b10, 0, none⟩))] ∧ Ext w w' ∧ w.heap.size ≤ w'.heap.size ∧ SH w' w.heap.size [aBox 22 b30 [.slice a21 x19.length c22], aOwn fStr 9 a21 c22 x19, aBox 32 b10 [.string (bs []), .string (bs []), .string (bs []), .string (bs []), .int .i64 0, .int .i64 0, .int .i64 0, .int .i64 0, .bool false], aBox 32 b2 [.string (bs x_0.Upper), .string (bs x_0.Color), .string (bs x_0.Lining), .string (bs x_0.Sole), .int .i64 x_0.Thick, .int .i64 x_0.Heel, .int .i64 x331085.1, .int .i64 x331085.2.1, .bool x331085.2.2]]) ?_ ?_
  rotate_left
  · clear hx331086
    rintro _ w331402 ⟨rfl, hb331403, hL331404, hS331405⟩
    obtain rfl := Option.some.inj hm
    exact WQ.post' ⟨rfl, hb331403, hL331404, hS331405⟩ ⟨rfl, rfl, trivial⟩
  have hm := hx331086; clear hx331086
  refine WP.cond (x46 == [101, 121, 101, 108, 101, 116, 115]) rfl rfl (fun hc330137 => ?_) (fun hc330137 => ?_)
  · have hm := iteT hm hc330137
    refine WP.region ?_
    refine WL.runk 1 [2, 4, 45] [(2, .pointer (some ⟨b2, 0, none⟩)), (4, .pointer (some ⟨b10, 0, none⟩)), (45, .func (.func 63) #[] #[.pointer (some ⟨b30, 0, none⟩)])] (by kernel_rfl) ?_
    obtain ⟨x331087, hx331088, hm⟩ := bindE hm
    refine WL.call 63 #[.int .i64 1, .pointer (some ⟨b30, 0, none⟩)] rfl rfl (by kernel_rfl) (c_63 n 1 x19 b30 0 a21 c22 w38 hx331088 (GL.below hG hb41) (SH.boxRd (SH.front 0 hS40)) (SH.rd (SH.front 1 hS40)) (SH.le (SH.front 1 hS40)).1) ?_
    rintro _ w331089 ⟨rfl, hE331090⟩
    refine ⟨_, rfl, ?_⟩
    have hb331092 : Ext w w331089 := Ext.trans hb41 hE331090
    have hL331093 : w.heap.size ≤ w331089.heap.size := Nat.le_trans hL42 hE331090.size
    have hS331094 : SH w331089 w.heap.size [aBox 22 b30 [.slice a21 x19.length c22], aOwn fStr 9 a21 c22 x19, aBox 32 b10 [.string (bs []), .string (bs []), .string (bs []), .string (bs []), .int .i64 0, .int .i64 0, .int .i64 0, .int .i64 0, .bool false], aBox 32 b2 [.string (bs x_0.Upper), .string (bs x_0.Color), .string (bs x_0.Lining), .string (bs x_0.Sole), .int .i64 x_0.Thick, .int .i64 x_0.Heel, .int .i64 x_0.Eyelets, .int .i64 x_0.Density, .bool x_0.Double]] := SH.ext hS40 hE331090
    refine WL.runk 1 [2, 4, 46, 47] [(2, .pointer (some ⟨b2, 0, none⟩)), (4, .pointer (some ⟨b10, 0, none⟩)), (46, .int .i64 x331087), (47, .pointer (some ⟨b2, 6, none⟩))] (by kernel_rfl) ?_
    refine WL.boxStore 6 [.int .i64 x331087] [.string (bs x_0.Upper), .string (bs x_0.Color), .string (bs x_0.Lining), .string (bs x_0.Sole), .int .i64 x_0.Thick, .int .i64 x_0.Heel, .int .i64 x331087, .int .i64 x_0.Density, .bool x_0.Double] (SH.front 3 hS331094) hL331093 rfl rfl rfl rfl rfl rfl rfl (info2).1 (info2).2.1 rfl rfl rfl ?_
    intro w331095 hB331096 hS331097
    have hb331098 : Ext w w331095 := Below.trans hb331092 hB331096
    have hL331099 : w.heap.size ≤ w331095.heap.size := Nat.le_trans hL331093 hB331096.size
    refine WL.sub [(2, .pointer (some ⟨b2, 0, none⟩)), (4, .pointer (some ⟨b10, 0, none⟩))] ⟨rfl, rfl, trivial⟩ ?_
    refine WL.nil ?_
    obtain rfl := Option.some.inj hm
    exact WQ.post' ⟨rfl, hb331098, hL331099, (SH.front 3 (SH.front 3 (SH.front 3 hS331097)))⟩ ⟨rfl, rfl, trivial⟩
  have hm := iteF hm hc330137
  refine WP.seq (fun K331100 hK331100 => ?_)
  refine WP.region ?_
  refine WL.st (.bool (x46 == [115, 116, 105, 116, 99, 104])) (ST.streq (x := x46) (y := [115, 116, 105, 116, 99, 104]) rfl rfl rfl) rfl rfl rfl ?_
  refine WL.runk 1 [2, 4, 5, 6, 48] [(2, .pointer (some ⟨b2, 0, none⟩)), (4, .pointer (some ⟨b10, 0, none⟩)), (5, .pointer (some ⟨b30, 0, none⟩)), (6, .func (.func 63) #[] #[.pointer (some ⟨b30, 0, none⟩)]), (48, .bool (x46 == [115, 116, 105, 116, 99, 104]))] (by kernel_rfl) ?_
  refine WL.nil ?_
  refine WQ.then_normal (hK331100 _ _ _ ?_)
  obtain ⟨x331323, hx331324, hm⟩ := bindE hm
  refine WP.cut (fun env' w' => env' = [(2, .pointer (some ⟨b2, 0, none⟩)), (4, .pointer (some ⟨b10, 0, none⟩))] ∧ Ext w w' ∧ w.heap.size ≤ w'.heap.size ∧ SH w' w.heap.size [aBox 22 b30 [.slice a21 x19.length c22], aOwn fStr 9 a21 c22 x19, aBox 32 b10 [.string (bs []), .string (bs []), .string (bs []), .string (bs []), .int .i64 0, .int .i64 0, .int .i64 0, .int .i64 0, .bool false], aBox 32 b2 [.string (bs x_0.Upper), .string (bs x_0.Color), .string (bs x_0.Lining), .string (bs x_0.Sole), .int .i64 x_0.Thick, .int .i64 x_0.Heel, .int .i64 x_0.Eyelets, .int .i64 x331323.1, .bool x331323.2]]) ?_ ?_
  rotate_left
  · clear hx331324
    rintro _ w331398 ⟨rfl, hb331399, hL331400, hS331401⟩
    obtain rfl := Option.some.inj hm
    exact WQ.post' ⟨rfl, hb331399, hL331400, hS331401⟩ ⟨rfl, rfl, trivial⟩
  have hm := hx331324; clear hx331324
  refine WP.cond (x46 == [115, 116, 105, 116, 99, 104]) rfl rfl (fun hc331101 => ?_) (fun hc331101 => ?_)
  rotate_left
  · have hm := iteF hm hc331101
    refine WP.skip ?_
    obtain rfl := Option.some.inj hm
    exact WQ.post' ⟨rfl, hb41, hL42, hS40⟩ ⟨rfl, rfl, trivial⟩
  have hm := iteT hm hc331101
  refine WP.open (n := 9) (by kernel_rfl) rfl (fun w331325 hE331326 => ?_)
  have hb331327 : Ext w w331325 := Ext.trans hb41 hE331326
  have hL331328 : w.heap.size ≤ w331325.heap.size := Nat.le_trans hL42 hE331326.size
  have hS331329 : SH w331325 w.heap.size [aBox 22 b30 [.slice a21 x19.length c22], aOwn fStr 9 a21 c22 x19, aBox 32 b10 [.string (bs []), .string (bs []), .string (bs []), .string (bs []), .int .i64 0, .int .i64 0, .int .i64 0, .int .i64 0, .bool false], aBox 32 b2 [.string (bs x_0.Upper), .string (bs x_0.Color), .string (bs x_0.Lining), .string (bs x_0.Sole), .int .i64 x_0.Thick, .int .i64 x_0.Heel, .int .i64 x_0.Eyelets, .int .i64 x_0.Density, .bool x_0.Double]] := SH.ext hS40 hE331326
  obtain ⟨x331344, hx331345, hm⟩ := bindE hm
  refine WA.par (R := []) (f' := 2) (D' := [0, 1, 2, 3, 4, 5, 6]) [⟨0, [], fun _ => .func (.func 63) #[] #[.pointer (some ⟨b30, 0, none⟩)]⟩, ⟨1, [], fun _ => .int .i64 x331344⟩, ⟨2, [], fun _ => .slice a21 x19.length c22⟩, ⟨3, [], fun _ => .int .i64 (x19.length : Int)⟩, ⟨4, [], fun _ => .bool ((x19.length : Int) == 3)⟩, ⟨5, [], fun _ => .pointer (some ⟨b2, 7, none⟩)⟩, ⟨6, [], fun _ => undef⟩] [⟨[aBox 22 b30 [.slice a21 x19.length c22]], []⟩, ⟨[aOwn fStr 9 a21 c22 x19], []⟩, ⟨[aBox 32 b10 [.string (bs []), .string (bs []), .string (bs []), .string (bs []), .int .i64 0, .int .i64 0, .int .i64 0, .int .i64 0, .bool false]], []⟩, ⟨[aBox 32 b2 [.string (bs x_0.Upper), .string (bs x_0.Color), .string (bs x_0.Lining), .string (bs x_0.Sole), .int .i64 x_0.Thick, .int .i64 x_0.Heel, .int .i64 x_0.Eyelets, .int .i64 x_0.Density, .bool x_0.Double]], [⟨6, [], fun _ => [aBox 32 b2 [.string (bs x_0.Upper), .string (bs x_0.Color), .string (bs x_0.Lining), .string (bs x_0.Sole), .int .i64 x_0.Thick, .int .i64 x_0.Heel, .int .i64 x_0.Eyelets, .int .i64 x331344, .bool x_0.Double]]⟩]⟩] rfl rfl hS331329 (by kernel_rfl) (by kernel_rfl) ⟨?_, ?_, ?_, ?_, ?_, ?_, ?_, trivial⟩ ?_
  · intro g331330 w331332 R331331 hB331333 hS331334
    have hS331335 : SH w331332 w.heap.size (aBox 22 b30 [.slice a21 x19.length c22] :: aOwn fStr 9 a21 c22 x19 :: aBox 32 b10 [.string (bs []), .string (bs []), .string (bs []), .string (bs []), .int .i64 0, .int .i64 0, .int .i64 0, .int .i64 0, .bool false] :: aBox 32 b2 [.string (bs x_0.Upper), .string (bs x_0.Color), .string (bs x_0.Lining), .string (bs x_0.Sole), .int .i64 x_0.Thick, .int .i64 x_0.Heel, .int .i64 x_0.Eyelets, .int .i64 x_0.Density, .bool x_0.Double] :: R331331) := memEq hS331334 (by kernel_rfl)
    have hb331336 : Ext w w331332 := Below.trans hb331327 hB331333
    have hL331337 : w.heap.size ≤ w331332.heap.size := Nat.le_trans hL331328 hB331333.size
    refine WL.subk [6] [(6, .func (.func 63) #[] #[.pointer (some ⟨b30, 0, none⟩)])] (by kernel_rfl) ?_
    refine WL.runk 1 [50] [(50, .func (.func 63) #[] #[.pointer (some ⟨b30, 0, none⟩)])] (by kernel_rfl) ?_
    refine WL.nil ?_
    exact QP.intro (fun k => ([] : List (Option Addr × Nat)).getD k (none, 0)) (d := 50) (by kernel_rfl) (by kernel_rfl) (Below.refl _ _) hS331335 (by kernel_rfl)
  · intro g331330 w331338 R331331 hB331339 hS331340
    have hS331341 : SH w331338 w.heap.size (aBox 22 b30 [.slice a21 x19.length c22] :: aOwn fStr 9 a21 c22 x19 :: aBox 32 b10 [.string (bs []), .string (bs []), .string (bs []), .string (bs []), .int .i64 0, .int .i64 0, .int .i64 0, .int .i64 0, .bool false] :: aBox 32 b2 [.string (bs x_0.Upper), .string (bs x_0.Color), .string (bs x_0.Lining), .string (bs x_0.Sole), .int .i64 x_0.Thick, .int .i64 x_0.Heel, .int .i64 x_0.Eyelets, .int .i64 x_0.Density, .bool x_0.Double] :: R331331) := memEq hS331340 (by kernel_rfl)
    have hb331342 : Ext w w331338 := Below.trans hb331327 hB331339
    have hL331343 : w.heap.size ≤ w331338.heap.size := Nat.le_trans hL331328 hB331339.size
    refine WL.subk [50] [(50, .func (.func 63) #[] #[.pointer (some ⟨b30, 0, none⟩)])] (by kernel_rfl) ?_
    refine WL.call 63 #[.int .i64 1, .pointer (some ⟨b30, 0, none⟩)] rfl rfl (by kernel_rfl) (c_63 n 1 x19 b30 0 a21 c22 w331338 hx331345 (GL.below hG hb331342) (SH.boxRd (SH.front 0 hS331341)) (SH.rd (SH.front 1 hS331341)) (SH.le (SH.front 1 hS331341)).1) ?_
    rintro _ w331346 ⟨rfl, hE331347⟩
    refine ⟨_, rfl, ?_⟩
    have hb331349 : Ext w w331346 := Ext.trans hb331342 hE331347
    have hL331350 : w.heap.size ≤ w331346.heap.size := Nat.le_trans hL331343 hE331347.size
    have hS331351 : SH w331346 w.heap.size (aBox 22 b30 [.slice a21 x19.length c22] :: aOwn fStr 9 a21 c22 x19 :: aBox 32 b10 [.string (bs []), .string (bs []), .string (bs []), .string (bs []), .int .i64 0, .int .i64 0, .int .i64 0, .int .i64 0, .bool false] :: aBox 32 b2 [.string (bs x_0.Upper), .string (bs x_0.Color), .string (bs x_0.Lining), .string (bs x_0.Sole), .int .i64 x_0.Thick, .int .i64 x_0.Heel, .int .i64 x_0.Eyelets, .int .i64 x_0.Density, .bool x_0.Double] :: R331331) := SH.ext hS331341 hE331347
    refine WL.nil ?_
    exact QP.intro (fun k => ([] : List (Option Addr × Nat)).getD k (none, 0)) (d := 51) (by kernel_rfl) (by kernel_rfl) (Below.mono hE331347 hL331343) hS331351 (by kernel_rfl)
  · intro g331330 w331352 R331331 hB331353 hS331354
    have hS331355 : SH w331352 w.heap.size (aBox 22 b30 [.slice a21 x19.length c22] :: aOwn fStr 9 a21 c22 x19 :: aBox 32 b10 [.string (bs []), .string (bs []), .string (bs []), .string (bs []), .int .i64 0, .int .i64 0, .int .i64 0, .int .i64 0, .bool false] :: R331331) := memEq hS331354 (by kernel_rfl)
    have hb331356 : Ext w w331352 := Below.trans hb331327 hB331353
    have hL331357 : w.heap.size ≤ w331352.heap.size := Nat.le_trans hL331328 hB331353.size
    refine WL.subk [5] [(5, .pointer (some ⟨b30, 0, none⟩))] (by kernel_rfl) ?_
    refine WL.st (.slice a21 x19.length c22) (ST.load (cell_ext (SH.boxAt (SH.front 0 hS331355) 0 _ rfl)) rfl rfl Tryd.underlying22 rfl) rfl rfl rfl ?_
    refine WL.nil ?_
    exact QP.intro (fun k => ([] : List (Option Addr × Nat)).getD k (none, 0)) (d := 52) (by kernel_rfl) (by kernel_rfl) (Below.refl _ _) hS331355 (by kernel_rfl)
  · intro g331330 w331358 R331331 hB331359 hS331360
    have hS331361 : SH w331358 w.heap.size (aBox 22 b30 [.slice a21 x19.length c22] :: aOwn fStr 9 a21 c22 x19 :: aBox 32 b10 [.string (bs []), .string (bs []), .string (bs []), .string (bs []), .int .i64 0, .int .i64 0, .int .i64 0, .int .i64 0, .bool false] :: R331331) := memEq hS331360 (by kernel_rfl)
    have hb331362 : Ext w w331358 := Below.trans hb331327 hB331359
    have hL331363 : w.heap.size ≤ w331358.heap.size := Nat.le_trans hL331328 hB331359.size
    refine WL.subk [52] [(52, .slice a21 x19.length c22)] (by kernel_rfl) ?_
    refine WL.runk 1 [53] [(53, .int .i64 (x19.length : Int))] (by kernel_rfl) ?_
    refine WL.nil ?_
    exact QP.intro (fun k => ([] : List (Option Addr × Nat)).getD k (none, 0)) (d := 53) (by kernel_rfl) (by kernel_rfl) (Below.refl _ _) hS331361 (by kernel_rfl)
  · intro g331330 w331364 R331331 hB331365 hS331366
    have hS331367 : SH w331364 w.heap.size (aBox 22 b30 [.slice a21 x19.length c22] :: aOwn fStr 9 a21 c22 x19 :: aBox 32 b10 [.string (bs []), .string (bs []), .string (bs []), .string (bs []), .int .i64 0, .int .i64 0, .int .i64 0, .int .i64 0, .bool false] :: R331331) := memEq hS331366 (by kernel_rfl)
    have hb331368 : Ext w w331364 := Below.trans hb331327 hB331365
    have hL331369 : w.heap.size ≤ w331364.heap.size := Nat.le_trans hL331328 hB331365.size
    refine WL.subk [53] [(53, .int .i64 (x19.length : Int))] (by kernel_rfl) ?_
    refine WL.runk 1 [54] [(54, .bool ((x19.length : Int) == 3))] (by kernel_rfl) ?_
    refine WL.nil ?_
    exact QP.intro (fun k => ([] : List (Option Addr × Nat)).getD k (none, 0)) (d := 54) (by kernel_rfl) (by kernel_rfl) (Below.refl _ _) hS331367 (by kernel_rfl)
  · intro g331330 w331370 R331331 hB331371 hS331372
    have hS331373 : SH w331370 w.heap.size (aBox 22 b30 [.slice a21 x19.length c22] :: aOwn fStr 9 a21 c22 x19 :: aBox 32 b10 [.string (bs []), .string (bs []), .string (bs []), .string (bs []), .int .i64 0, .int .i64 0, .int .i64 0, .int .i64 0, .bool false] :: aBox 32 b2 [.string (bs x_0.Upper), .string (bs x_0.Color), .string (bs x_0.Lining), .string (bs x_0.Sole), .int .i64 x_0.Thick, .int .i64 x_0.Heel, .int .i64 x_0.Eyelets, .int .i64 x_0.Density, .bool x_0.Double] :: R331331) := memEq hS331372 (by kernel_rfl)
    have hb331374 : Ext w w331370 := Below.trans hb331327 hB331371
    have hL331375 : w.heap.size ≤ w331370.heap.size := Nat.le_trans hL331328 hB331371.size
    refine WL.subk [2] [(2, .pointer (some ⟨b2, 0, none⟩))] (by kernel_rfl) ?_
    refine WL.runk 1 [55] [(55, .pointer (some ⟨b2, 7, none⟩))] (by kernel_rfl) ?_
    refine WL.nil ?_
    exact QP.intro (fun k => ([] : List (Option Addr × Nat)).getD k (none, 0)) (d := 55) (by kernel_rfl) (by kernel_rfl) (Below.refl _ _) hS331373 (by kernel_rfl)
  · intro g331330 w331376 R331331 hB331377 hS331378
    have hS331379 : SH w331376 w.heap.size (aBox 22 b30 [.slice a21 x19.length c22] :: aOwn fStr 9 a21 c22 x19 :: aBox 32 b10 [.string (bs []), .string (bs []), .string (bs []), .string (bs []), .int .i64 0, .int .i64 0, .int .i64 0, .int .i64 0, .bool false] :: aBox 32 b2 [.string (bs x_0.Upper), .string (bs x_0.Color), .string (bs x_0.Lining), .string (bs x_0.Sole), .int .i64 x_0.Thick, .int .i64 x_0.Heel, .int .i64 x_0.Eyelets, .int .i64 x_0.Density, .bool x_0.Double] :: R331331) := memEq hS331378 (by kernel_rfl)
    have hb331380 : Ext w w331376 := Below.trans hb331327 hB331377
    have hL331381 : w.heap.size ≤ w331376.heap.size := Nat.le_trans hL331328 hB331377.size
    refine WL.subk [51, 55] [(51, .int .i64 x331344), (55, .pointer (some ⟨b2, 7, none⟩))] (by kernel_rfl) ?_
    refine WL.boxStore 7 [.int .i64 x331344] [.string (bs x_0.Upper), .string (bs x_0.Color), .string (bs x_0.Lining), .string (bs x_0.Sole), .int .i64 x_0.Thick, .int .i64 x_0.Heel, .int .i64 x_0.Eyelets, .int .i64 x331344, .bool x_0.Double] (SH.front 3 hS331379) hL331381 rfl rfl rfl rfl rfl rfl rfl (info2).1 (info2).2.1 rfl rfl rfl ?_
    intro w331382 hB331383 hS331384
    have hb331385 : Ext w w331382 := Below.trans hb331380 hB331383
    have hL331386 : w.heap.size ≤ w331382.heap.size := Nat.le_trans hL331381 hB331383.size
    refine WL.nil ?_
    exact QP.intro0 (fun k => ([] : List (Option Addr × Nat)).getD k (none, 0)) (by kernel_rfl) hB331383 (SH.front 3 (SH.front 3 (SH.front 3 hS331384))) (by kernel_rfl)
  intro g331330 w331387 hB331388 hS331389
  have hS331390 : SH w331387 w.heap.size [aBox 22 b30 [.slice a21 x19.length c22], aOwn fStr 9 a21 c22 x19, aBox 32 b10 [.string (bs []), .string (bs []), .string (bs []), .string (bs []), .int .i64 0, .int .i64 0, .int .i64 0, .int .i64 0, .bool false], aBox 32 b2 [.string (bs x_0.Upper), .string (bs x_0.Color), .string (bs x_0.Lining), .string (bs x_0.Sole), .int .i64 x_0.Thick, .int .i64 x_0.Heel, .int .i64 x_0.Eyelets, .int .i64 x331344, .bool x_0.Double]] := memEq hS331389 (by kernel_rfl)
  have hb331391 : Ext w w331387 := Below.trans hb331327 hB331388
  have hL331392 : w.heap.size ≤ w331387.heap.size := Nat.le_trans hL331328 hB331388.size
  refine WQ.subk [2, 4, 54] [(2, .pointer (some ⟨b2, 0, none⟩)), (4, .pointer (some ⟨b10, 0, none⟩)), (54, .bool ((x19.length : Int) == 3))] (by kernel_rfl) ?_
  refine WA.one (i := 7) (D' := [0, 1, 2, 3, 4, 5, 6, 7]) rfl rfl (by kernel_rfl) ?_
  refine WL.runk 1 [2, 4, 54, 56] [(2, .pointer (some ⟨b2, 0, none⟩)), (4, .pointer (some ⟨b10, 0, none⟩)), (54, .bool ((x19.length : Int) == 3)), (56, .pointer (some ⟨b2, 8, none⟩))] (by kernel_rfl) ?_
  refine WL.nil ?_
  refine WA.one (i := 8) (D' := [0, 1, 2, 3, 4, 5, 6, 7, 8]) rfl rfl (by kernel_rfl) ?_
  refine WL.boxStore 8 [.bool ((x19.length : Int) == 3)] [.string (bs x_0.Upper), .string (bs x_0.Color), .string (bs x_0.Lining), .string (bs x_0.Sole), .int .i64 x_0.Thick, .int .i64 x_0.Heel, .int .i64 x_0.Eyelets, .int .i64 x331344, .bool ((x19.length : Int) == 3)] (SH.front 3 hS331390) hL331392 rfl rfl rfl rfl rfl rfl rfl (info4).1 (info4).2.1 rfl rfl rfl ?_
  intro w331393 hB331394 hS331395
  have hb331396 : Ext w w331393 := Below.trans hb331391 hB331394
  have hL331397 : w.heap.size ≤ w331393.heap.size := Nat.le_trans hL331392 hB331394.size
  refine WL.sub [(2, .pointer (some ⟨b2, 0, none⟩)), (4, .pointer (some ⟨b10, 0, none⟩))] ⟨rfl, rfl, trivial⟩ ?_
  refine WL.nil ?_
  refine WA.done (by kernel_rfl) ?_
  obtain rfl := Option.some.inj hm
  exact WQ.post' ⟨rfl, hb331396, hL331397, (SH.front 3 (SH.front 3 (SH.front 3 hS331395)))⟩ ⟨rfl, rfl, trivial⟩

theorem c_25 (n : Nat) (s_0 : List UInt8) (w : World) {r : SStyle × Int} (hm : m_impl_ReadStyle n s_0 = some r) (hG : GL 3 w) :
    CallV Tryd.prog 25 #[.string (bs s_0)] w (fun v w' => v = .tuple #[.agg #[.string (bs r.1.Upper), .string (bs r.1.Color), .string (bs r.1.Lining), .string (bs r.1.Sole), .int .i64 r.1.Thick, .int .i64 r.1.Heel, .int .i64 r.1.Eyelets, .int .i64 r.1.Density, .bool r.1.Double], .int .i64 r.2] ∧ Ext w w') := by
  unfold m_impl_ReadStyle at hm
  refine CallV.enter Tryd.func25 rfl (by kernel_rfl) Tryd.ntmps25 (env := [(0, .string (bs s_0))]) ⟨rfl, trivial⟩ ?_
  refine WP.seq (fun K1 hK1 => ?_)
  refine WP.region ?_
  refine WL.box 32 [.string (bs []), .string (bs []), .string (bs []), .string (bs []), .int .i64 0, .int .i64 0, .int .i64 0, .int .i64 0, .bool false] 2 (by kernel_rfl) rfl rfl rfl rfl ?_
  intro b2 w3 hE4 hR5
  have hb7 : Ext w w3 := Ext.trans (Ext.refl w) hE4
  have hL8 : w.heap.size ≤ w3.heap.size := Nat.le_trans (Nat.le_refl _) hE4.size
  have hS9 : SH w3 w.heap.size [aBox 32 b2 [.string (bs []), .string (bs []), .string (bs []), .string (bs []), .int .i64 0, .int .i64 0, .int .i64 0, .int .i64 0, .bool false]] := SH.add (SH.nil _ _) hE4 (Nat.le_refl _) hR5
  refine WL.runk 1 [0, 2] [(0, .string (bs s_0)), (2, .pointer (some ⟨b2, 0, none⟩))] (by kernel_rfl) ?_
  refine WL.nil ?_
  refine WQ.then_normal (hK1 _ _ _ ?_)
  refine WP.seq (fun K10 hK10 => ?_)
  refine WP.region ?_
  refine WL.runk 1 [2, 10] [(2, .pointer (some ⟨b2, 0, none⟩)), (10, .string (bs s_0))] (by kernel_rfl) ?_
  obtain ⟨x11, hx12, hm⟩ := bindE hm
  refine WL.call 28 #[.string (bs s_0)] rfl rfl (by kernel_rfl) (c_28 n s_0 w3 hx12 (GL.below (GL.low (j := 1) hG rfl) hb7)) ?_
  rintro _ w16 ⟨a13, c14, rfl, hE17, hR18⟩
  refine ⟨_, rfl, ?_⟩
  have hb19 : Ext w w16 := Ext.trans hb7 hE17
  have hL20 : w.heap.size ≤ w16.heap.size := Nat.le_trans hL8 hE17.size
  have hS21 : SH w16 w.heap.size [aOwn fStr 9 a13 c14 x11.1, aBox 32 b2 [.string (bs []), .string (bs []), .string (bs []), .string (bs []), .int .i64 0, .int .i64 0, .int .i64 0, .int .i64 0, .bool false]] := SH.add hS9 hE17 hL8 hR18
  refine WL.runk 5 [2, 4, 5] [(2, .pointer (some ⟨b2, 0, none⟩)), (4, .slice a13 x11.1.length c14), (5, .bool x11.2)] (by kernel_rfl) ?_
  refine WL.nil ?_
  refine WQ.then_normal (hK10 _ _ _ ?_)
  refine WP.seq (fun K22 hK22 => ?_)
  refine WP.block ?_
  refine WP.seq (fun K23 hK23 => ?_)
  refine WP.region ?_
  refine WL.runk 3 [2, 4, 14] [(2, .pointer (some ⟨b2, 0, none⟩)), (4, .slice a13 x11.1.length c14), (14, .bool (!x11.2))] (by kernel_rfl) ?_
  refine WL.nil ?_
  refine WQ.then_normal (hK23 _ _ _ ?_)
  refine WP.cond (!x11.2) rfl rfl (fun hc24 => ?_) (fun hc24 => ?_)
  · have hm := iteT hm hc24
    refine WP.seq (fun K25 hK25 => ?_)
    refine WP.region ?_
    refine WL.runk 1 [2, 17] [(2, .pointer (some ⟨b2, 0, none⟩)), (17, .agg #[.string (bs []), .string (bs []), .string (bs []), .string (bs []), .int .i64 0, .int .i64 0, .int .i64 0, .int .i64 0, .bool false])] (by kernel_rfl) ?_
    refine WL.boxStore 0 [.string (bs []), .string (bs []), .string (bs []), .string (bs []), .int .i64 0, .int .i64 0, .int .i64 0, .int .i64 0, .bool false] [.string (bs []), .string (bs []), .string (bs []), .string (bs []), .int .i64 0, .int .i64 0, .int .i64 0, .int .i64 0, .bool false] (SH.front 1 hS21) hL20 rfl rfl rfl rfl rfl rfl rfl (info32).1 (info32).2.1 rfl rfl rfl ?_
    intro w26 hB27 hS28
    have hb29 : Ext w w26 := Below.trans hb19 hB27
    have hL30 : w.heap.size ≤ w26.heap.size := Nat.le_trans hL20 hB27.size
    refine WL.runk 1 [2, 3] [(2, .pointer (some ⟨b2, 0, none⟩)), (3, .int .i64 5)] (by kernel_rfl) ?_
    refine WL.nil ?_
    refine WQ.then_normal (hK25 _ _ _ ?_)
    refine WP.ret ?_
    refine WQ.block_ret ?_
    refine WQ.then_ret ?_
    obtain rfl := Option.some.inj hm
    exact WQ.retv2 _ _ rfl (RVal.box (SH.front 0 hS28) rfl Tryd.underlying32 rfl (info32).1 (info32).2.1) (RVal.tmp rfl) ⟨rfl, hb29⟩
  have hm := iteF hm hc24
  refine WP.seq (fun K31 hK31 => ?_)
  refine WP.region ?_
  refine WL.runk 1 [2, 4, 19] [(2, .pointer (some ⟨b2, 0, none⟩)), (4, .slice a13 x11.1.length c14), (19, .slice a13 x11.1.length c14)] (by kernel_rfl) ?_
  obtain ⟨x32, hx33, hm⟩ := bindE hm
  refine WL.call 41 #[.slice a13 x11.1.length c14] rfl rfl (by kernel_rfl) (c_41 n x11.1 a13 c14 w16 hx33 (GL.below hG hb19) (SH.rd (SH.front 0 hS21)) (SH.le (SH.front 0 hS21)).1) ?_
  rintro _ w37 ⟨a34, c35, rfl, hE38, hR39⟩
  refine ⟨_, rfl, ?_⟩
  have hb40 : Ext w w37 := Ext.trans hb19 hE38
  have hL41 : w.heap.size ≤ w37.heap.size := Nat.le_trans hL20 hE38.size
  have hS42 : SH w37 w.heap.size [aOwn fTrouble 62 a34 c35 x32, aOwn fStr 9 a13 c14 x11.1, aBox 32 b2 [.string (bs []), .string (bs []), .string (bs []), .string (bs []), .int .i64 0, .int .i64 0, .int .i64 0, .int .i64 0, .bool false]] := SH.add hS21 hE38 hL20 hR39
  refine WL.runk 3 [2, 4, 18] [(2, .pointer (some ⟨b2, 0, none⟩)), (4, .slice a13 x11.1.length c14), (18, .bool (decide ((x32.length : Int) > 0)))] (by kernel_rfl) ?_
  refine WL.nil ?_
  refine WQ.then_normal (hK31 _ _ _ ?_)
  refine WP.cond (decide ((x32.length : Int) > 0)) rfl rfl (fun hc43 => ?_) (fun hc43 => ?_)
  · have hm := iteT hm hc43
    refine WP.seq (fun K44 hK44 => ?_)
    refine WP.region ?_
    refine WL.runk 1 [2, 23] [(2, .pointer (some ⟨b2, 0, none⟩)), (23, .agg #[.string (bs []), .string (bs []), .string (bs []), .string (bs []), .int .i64 0, .int .i64 0, .int .i64 0, .int .i64 0, .bool false])] (by kernel_rfl) ?_
    refine WL.boxStore 0 [.string (bs []), .string (bs []), .string (bs []), .string (bs []), .int .i64 0, .int .i64 0, .int .i64 0, .int .i64 0, .bool false] [.string (bs []), .string (bs []), .string (bs []), .string (bs []), .int .i64 0, .int .i64 0, .int .i64 0, .int .i64 0, .bool false] (SH.front 2 hS42) hL41 rfl rfl rfl rfl rfl rfl rfl (info32).1 (info32).2.1 rfl rfl rfl ?_
    intro w45 hB46 hS47
    have hb48 : Ext w w45 := Below.trans hb40 hB46
    have hL49 : w.heap.size ≤ w45.heap.size := Nat.le_trans hL41 hB46.size
    refine WL.runk 1 [2, 3] [(2, .pointer (some ⟨b2, 0, none⟩)), (3, .int .i64 7)] (by kernel_rfl) ?_
    refine WL.nil ?_
    refine WQ.then_normal (hK44 _ _ _ ?_)
    refine WP.ret ?_
    refine WQ.block_ret ?_
    refine WQ.then_ret ?_
    obtain rfl := Option.some.inj hm
    exact WQ.retv2 _ _ rfl (RVal.box (SH.front 0 hS47) rfl Tryd.underlying32 rfl (info32).1 (info32).2.1) (RVal.tmp rfl) ⟨rfl, hb48⟩
  have hm := iteF hm hc43
  refine WP.skip ?_
  refine WQ.block_normal ?_
  refine WQ.then_normal (hK22 _ _ _ ?_)
  refine WP.seq (fun K50 hK50 => ?_)
  refine WP.region ?_
  refine WL.runk 1 [2, 4, 24] [(2, .pointer (some ⟨b2, 0, none⟩)), (4, .slice a13 x11.1.length c14), (24, .agg #[.string (bs []), .string (bs []), .string (bs []), .string (bs []), .int .i64 0, .int .i64 0, .int .i64 0, .int .i64 0, .bool false])] (by kernel_rfl) ?_
  refine WL.box 32 [.string (bs []), .string (bs []), .string (bs []), .string (bs []), .int .i64 0, .int .i64 0, .int .i64 0, .int .i64 0, .bool false] 6 (by kernel_rfl) rfl rfl rfl rfl ?_
  intro b51 w52 hE53 hR54
  have hb56 : Ext w w52 := Ext.trans hb40 hE53
  have hL57 : w.heap.size ≤ w52.heap.size := Nat.le_trans hL41 hE53.size
  have hS58 : SH w52 w.heap.size [aBox 32 b51 [.string (bs []), .string (bs []), .string (bs []), .string (bs []), .int .i64 0, .int .i64 0, .int .i64 0, .int .i64 0, .bool false], aOwn fTrouble 62 a34 c35 x32, aOwn fStr 9 a13 c14 x11.1, aBox 32 b2 [.string (bs []), .string (bs []), .string (bs []), .string (bs []), .int .i64 0, .int .i64 0, .int .i64 0, .int .i64 0, .bool false]] := SH.add hS42 hE53 hL41 hR54
  refine WL.boxStore 0 [.string (bs []), .string (bs []), .string (bs []), .string (bs []), .int .i64 0, .int .i64 0, .int .i64 0, .int .i64 0, .bool false] [.string (bs []), .string (bs []), .string (bs []), .string (bs []), .int .i64 0, .int .i64 0, .int .i64 0, .int .i64 0, .bool false] (SH.front 0 hS58) hL57 rfl rfl rfl rfl rfl rfl rfl (info32).1 (info32).2.1 rfl rfl rfl ?_
  intro w59 hB60 hS61
  have hb62 : Ext w w59 := Below.trans hb56 hB60
  have hL63 : w.heap.size ≤ w59.heap.size := Nat.le_trans hL57 hB60.size
  refine WL.sub [(2, .pointer (some ⟨b2, 0, none⟩)), (4, .slice a13 x11.1.length c14), (6, .pointer (some ⟨b51, 0, none⟩))] ⟨rfl, rfl, rfl, trivial⟩ ?_
  refine WL.nil ?_
  refine WQ.then_normal (hK50 _ _ _ ?_)
  refine WP.seq (fun K64 hK64 => ?_)
  refine WP.seq (fun K65 hK65 => ?_)
  refine WP.region ?_
  refine WL.runk 3 [2, 6, 25, 26, 27] [(2, .pointer (some ⟨b2, 0, none⟩)), (6, .pointer (some ⟨b51, 0, none⟩)), (25, .slice a13 x11.1.length c14), (26, .int .i64 (x11.1.length : Int)), (27, .int .i64 0)] (by kernel_rfl) ?_
  refine WL.nil ?_
  refine WQ.then_normal (hK65 _ _ _ ?_)
  refine WP.block ?_
  obtain ⟨t116, ht117, hm⟩ := bindE hm
  have hmo111 := hm; clear hm
  refine WP.sub [(2, .pointer (some ⟨b2, 0, none⟩)), (6, .pointer (some ⟨b51, 0, none⟩)), (25, .slice a13 x11.1.length c14), (26, .int .i64 (x11.1.length : Int)), (27, .int .i64 0)] ⟨rfl, rfl, rfl, rfl, rfl, trivial⟩ ?_
  refine WP.loop (fun n' env' w' => ∃ (st105 : Int × List UInt8 × List UInt8 × List UInt8 × List UInt8 × Int × Int × Int × Int × Bool) , env' = [(2, .pointer (some ⟨b2, 0, none⟩)), (6, .pointer (some ⟨b51, 0, none⟩)), (25, .slice a13 x11.1.length c14), (26, .int .i64 (x11.1.length : Int)), (27, .int .i64 st105.1)] ∧ Ext w w' ∧ w.heap.size ≤ w'.heap.size ∧ SH w' w.heap.size [aBox 32 b51 [.string (bs st105.2.1), .string (bs st105.2.2.1), .string (bs st105.2.2.2.1), .string (bs st105.2.2.2.2.1), .int .i64 st105.2.2.2.2.2.1, .int .i64 st105.2.2.2.2.2.2.1, .int .i64 st105.2.2.2.2.2.2.2.1, .int .i64 st105.2.2.2.2.2.2.2.2.1, .bool st105.2.2.2.2.2.2.2.2.2], aOwn fStr 9 a13 c14 x11.1, aBox 32 b2 [.string (bs []), .string (bs []), .string (bs []), .string (bs []), .int .i64 0, .int .i64 0, .int .i64 0, .int .i64 0, .bool false]] ∧ loopN (m_impl_ReadStyle_l1 n x11) n' st105 = some t116) n ⟨(0, [], [], [], [], 0, 0, 0, 0, false), rfl, hb62, hL63, (SH.take 3 (SH.front 2 (SH.front 3 (SH.front 3 hS61)))), ht117⟩ ?_
  rintro n113 _ w106 ⟨st105, rfl, hb107, hL108, hS109, hl110⟩ K112 hK112
  obtain ⟨n114, s115, rfl, hm, hl110⟩ := loopN_some hl110
  unfold m_impl_ReadStyle_l1 at hm
  refine WP.seq (fun K118 hK118 => ?_)
  refine WP.region ?_
  refine WL.runk 1 [2, 6, 25, 26, 27, 28] [(2, .pointer (some ⟨b2, 0, none⟩)), (6, .pointer (some ⟨b51, 0, none⟩)), (25, .slice a13 x11.1.length c14), (26, .int .i64 (x11.1.length : Int)), (27, .int .i64 st105.1), (28, .bool (decide (st105.1 < (x11.1.length : Int))))] (by kernel_rfl) ?_
  refine WL.nil ?_
  refine WQ.then_normal (hK118 _ _ _ ?_)
  refine WP.seq (fun K119 hK119 => ?_)
  refine WP.cond (decide (st105.1 < (x11.1.length : Int))) rfl rfl (fun hc120 => ?_) (fun hc120 => ?_)
  rotate_left
  · have hm := iteF hm hc120
    refine WP.exit ?_
    refine WQ.then_exit ?_
    refine WQ.then_exit ?_
    refine WQ.block_here ?_
    obtain rfl := Option.some.inj hm
    obtain rfl := afterN_done hl110
    have hm := hmo111
    refine WQ.then_normal (hK64 _ _ _ ?_)
    refine WP.seq (fun K138 hK138 => ?_)
    refine WP.region ?_
    refine WL.st (.agg #[.string (bs st105.2.1), .string (bs st105.2.2.1), .string (bs st105.2.2.2.1), .string (bs st105.2.2.2.2.1), .int .i64 st105.2.2.2.2.2.1, .int .i64 st105.2.2.2.2.2.2.1, .int .i64 st105.2.2.2.2.2.2.2.1, .int .i64 st105.2.2.2.2.2.2.2.2.1, .bool st105.2.2.2.2.2.2.2.2.2]) (ST.loadAgg (vs := [.string (bs st105.2.1), .string (bs st105.2.2.1), .string (bs st105.2.2.2.1), .string (bs st105.2.2.2.2.1), .int .i64 st105.2.2.2.2.2.1, .int .i64 st105.2.2.2.2.2.2.1, .int .i64 st105.2.2.2.2.2.2.2.1, .int .i64 st105.2.2.2.2.2.2.2.2.1, .bool st105.2.2.2.2.2.2.2.2.2]) (fun j v hv => SH.boxPart (us := [.string (bs st105.2.1), .string (bs st105.2.2.1), .string (bs st105.2.2.2.1), .string (bs st105.2.2.2.2.1), .int .i64 st105.2.2.2.2.2.1, .int .i64 st105.2.2.2.2.2.2.1, .int .i64 st105.2.2.2.2.2.2.2.1, .int .i64 st105.2.2.2.2.2.2.2.2.1, .bool st105.2.2.2.2.2.2.2.2.2]) (SH.front 0 hS109) 0 rfl j v hv) rfl rfl rfl Tryd.underlying32 rfl (info32).1 (info32).2.1) rfl rfl rfl ?_
    refine WL.boxStore 0 [.string (bs st105.2.1), .string (bs st105.2.2.1), .string (bs st105.2.2.2.1), .string (bs st105.2.2.2.2.1), .int .i64 st105.2.2.2.2.2.1, .int .i64 st105.2.2.2.2.2.2.1, .int .i64 st105.2.2.2.2.2.2.2.1, .int .i64 st105.2.2.2.2.2.2.2.2.1, .bool st105.2.2.2.2.2.2.2.2.2] [.string (bs st105.2.1), .string (bs st105.2.2.1), .string (bs st105.2.2.2.1), .string (bs st105.2.2.2.2.1), .int .i64 st105.2.2.2.2.2.1, .int .i64 st105.2.2.2.2.2.2.1, .int .i64 st105.2.2.2.2.2.2.2.1, .int .i64 st105.2.2.2.2.2.2.2.2.1, .bool st105.2.2.2.2.2.2.2.2.2] (SH.front 2 hS109) hL108 rfl rfl rfl rfl rfl rfl rfl (info32).1 (info32).2.1 rfl rfl rfl ?_
    intro w139 hB140 hS141
    have hb142 : Ext w w139 := Below.trans hb107 hB140
    have hL143 : w.heap.size ≤ w139.heap.size := Nat.le_trans hL108 hB140.size
    refine WL.runk 1 [2, 3] [(2, .pointer (some ⟨b2, 0, none⟩)), (3, .int .i64 0)] (by kernel_rfl) ?_
    refine WL.nil ?_
    refine WQ.then_normal (hK138 _ _ _ ?_)
    refine WP.ret ?_
    obtain rfl := Option.some.inj hm
    exact WQ.retv2 _ _ rfl (RVal.box (SH.front 0 hS141) rfl Tryd.underlying32 rfl (info32).1 (info32).2.1) (RVal.tmp rfl) ⟨rfl, hb142⟩
  have hm := iteT hm hc120
  refine WP.skip ?_
  refine WQ.then_normal (hK119 _ _ _ ?_)
  refine WP.seq (fun K121 hK121 => ?_)
  refine WP.block ?_
  refine WP.seq (fun K122 hK122 => ?_)
  refine WP.region ?_
  obtain ⟨x123, hx124, hm⟩ := bindE hm
  refine WL.st (.pointer (some (at_ a13 (Int.toNat st105.1 * 1)))) (ST.index (T := fStr.ty) (xs := x11.1) (SH.rd (SH.front 1 hS109)) hx124 rfl rfl rfl Tryd.underlying22 (info9).1 (info9).2.1) rfl rfl rfl ?_
  refine WL.st (.string (bs x123)) (ST.load (cell_ext (Rd.flat (F := fStr) (SH.rd (SH.front 1 hS109)) hx124 0 rfl)) rfl rfl Tryd.underlying9 rfl) rfl rfl rfl ?_
  refine WL.runk 1 [2, 6, 8, 25, 26, 27] [(2, .pointer (some ⟨b2, 0, none⟩)), (6, .pointer (some ⟨b51, 0, none⟩)), (25, .slice a13 x11.1.length c14), (26, .int .i64 (x11.1.length : Int)), (27, .int .i64 st105.1), (8, .string (bs x123))] (by kernel_rfl) ?_
  refine WL.nil ?_
  refine WQ.then_normal (hK122 _ _ _ ?_)
  refine WP.region ?_
  refine WL.st (.agg #[.string (bs st105.2.1), .string (bs st105.2.2.1), .string (bs st105.2.2.2.1), .string (bs st105.2.2.2.2.1), .int .i64 st105.2.2.2.2.2.1, .int .i64 st105.2.2.2.2.2.2.1, .int .i64 st105.2.2.2.2.2.2.2.1, .int .i64 st105.2.2.2.2.2.2.2.2.1, .bool st105.2.2.2.2.2.2.2.2.2]) (ST.loadAgg (vs := [.string (bs st105.2.1), .string (bs st105.2.2.1), .string (bs st105.2.2.2.1), .string (bs st105.2.2.2.2.1), .int .i64 st105.2.2.2.2.2.1, .int .i64 st105.2.2.2.2.2.2.1, .int .i64 st105.2.2.2.2.2.2.2.1, .int .i64 st105.2.2.2.2.2.2.2.2.1, .bool st105.2.2.2.2.2.2.2.2.2]) (fun j v hv => SH.boxPart (us := [.string (bs st105.2.1), .string (bs st105.2.2.1), .string (bs st105.2.2.2.1), .string (bs st105.2.2.2.2.1), .int .i64 st105.2.2.2.2.2.1, .int .i64 st105.2.2.2.2.2.2.1, .int .i64 st105.2.2.2.2.2.2.2.1, .int .i64 st105.2.2.2.2.2.2.2.2.1, .bool st105.2.2.2.2.2.2.2.2.2]) (SH.front 0 hS109) 0 rfl j v hv) rfl rfl rfl Tryd.underlying32 rfl (info32).1 (info32).2.1) rfl rfl rfl ?_
  refine WL.runk 1 [2, 6, 25, 26, 27, 31, 32] [(2, .pointer (some ⟨b2, 0, none⟩)), (6, .pointer (some ⟨b51, 0, none⟩)), (25, .slice a13 x11.1.length c14), (26, .int .i64 (x11.1.length : Int)), (27, .int .i64 st105.1), (31, .agg #[.string (bs st105.2.1), .string (bs st105.2.2.1), .string (bs st105.2.2.2.1), .string (bs st105.2.2.2.2.1), .int .i64 st105.2.2.2.2.2.1, .int .i64 st105.2.2.2.2.2.2.1, .int .i64 st105.2.2.2.2.2.2.2.1, .int .i64 st105.2.2.2.2.2.2.2.2.1, .bool st105.2.2.2.2.2.2.2.2.2]), (32, .string (bs x123))] (by kernel_rfl) ?_
  obtain ⟨x125, hx126, hm⟩ := bindE hm
  refine WL.call 43 #[.agg #[.string (bs st105.2.1), .string (bs st105.2.2.1), .string (bs st105.2.2.2.1), .string (bs st105.2.2.2.2.1), .int .i64 st105.2.2.2.2.2.1, .int .i64 st105.2.2.2.2.2.2.1, .int .i64 st105.2.2.2.2.2.2.2.1, .int .i64 st105.2.2.2.2.2.2.2.2.1, .bool st105.2.2.2.2.2.2.2.2.2], .string (bs x123)] rfl rfl (by kernel_rfl) (c_43 n (SStyle.mk st105.2.1 st105.2.2.1 st105.2.2.2.1 st105.2.2.2.2.1 st105.2.2.2.2.2.1 st105.2.2.2.2.2.2.1 st105.2.2.2.2.2.2.2.1 st105.2.2.2.2.2.2.2.2.1 st105.2.2.2.2.2.2.2.2.2) x123 w106 hx126 (GL.below hG hb107)) ?_
  rintro _ w127 ⟨rfl, hE128⟩
  refine ⟨_, rfl, ?_⟩
  have hb130 : Ext w w127 := Ext.trans hb107 hE128
  have hL131 : w.heap.size ≤ w127.heap.size := Nat.le_trans hL108 hE128.size
  have hS132 : SH w127 w.heap.size [aBox 32 b51 [.string (bs st105.2.1), .string (bs st105.2.2.1), .string (bs st105.2.2.2.1), .string (bs st105.2.2.2.2.1), .int .i64 st105.2.2.2.2.2.1, .int .i64 st105.2.2.2.2.2.2.1, .int .i64 st105.2.2.2.2.2.2.2.1, .int .i64 st105.2.2.2.2.2.2.2.2.1, .bool st105.2.2.2.2.2.2.2.2.2], aOwn fStr 9 a13 c14 x11.1, aBox 32 b2 [.string (bs []), .string (bs []), .string (bs []), .string (bs []), .int .i64 0, .int .i64 0, .int .i64 0, .int .i64 0, .bool false]] := SH.ext hS109 hE128
  refine WL.boxStore 0 [.string (bs x125.Upper), .string (bs x125.Color), .string (bs x125.Lining), .string (bs x125.Sole), .int .i64 x125.Thick, .int .i64 x125.Heel, .int .i64 x125.Eyelets, .int .i64 x125.Density, .bool x125.Double] [.string (bs x125.Upper), .string (bs x125.Color), .string (bs x125.Lining), .string (bs x125.Sole), .int .i64 x125.Thick, .int .i64 x125.Heel, .int .i64 x125.Eyelets, .int .i64 x125.Density, .bool x125.Double] (SH.front 0 hS132) hL131 rfl rfl rfl rfl rfl rfl rfl (info32).1 (info32).2.1 rfl rfl rfl ?_
  intro w133 hB134 hS135
  have hb136 : Ext w w133 := Below.trans hb130 hB134
  have hL137 : w.heap.size ≤ w133.heap.size := Nat.le_trans hL131 hB134.size
  refine WL.sub [(2, .pointer (some ⟨b2, 0, none⟩)), (6, .pointer (some ⟨b51, 0, none⟩)), (25, .slice a13 x11.1.length c14), (26, .int .i64 (x11.1.length : Int)), (27, .int .i64 st105.1)] ⟨rfl, rfl, rfl, rfl, rfl, trivial⟩ ?_
  refine WL.nil ?_
  refine WQ.block_normal ?_
  refine WQ.then_normal (hK121 _ _ _ ?_)
  refine WP.region ?_
  refine WL.runk 2 [2, 6, 25, 26, 27] [(2, .pointer (some ⟨b2, 0, none⟩)), (6, .pointer (some ⟨b51, 0, none⟩)), (25, .slice a13 x11.1.length c14), (26, .int .i64 (x11.1.length : Int)), (27, .int .i64 (wI64 (st105.1 + 1)))] (by kernel_rfl) ?_
  refine WL.nil ?_
  obtain rfl := Option.some.inj hm
  exact WQ.round hK112 ⟨((wI64 (st105.1 + 1)), x125.Upper, x125.Color, x125.Lining, x125.Sole, x125.Thick, x125.Heel, x125.Eyelets, x125.Density, x125.Double), rfl, hb136, hL137, hS135, hl110⟩ (Nat.lt_succ_self _) ⟨rfl, rfl, rfl, rfl, rfl, trivial⟩

theorem c_26 (n : Nat) (a_0 : SStyle) (b_1 : SStyle) (w : World) {r : Bool} (hm : m_laws_eqStyle n a_0 b_1 = some r)  :
    CallV Tryd.prog 26 #[.agg #[.string (bs a_0.Upper), .string (bs a_0.Color), .string (bs a_0.Lining), .string (bs a_0.Sole), .int .i64 a_0.Thick, .int .i64 a_0.Heel, .int .i64 a_0.Eyelets, .int .i64 a_0.Density, .bool a_0.Double], .agg #[.string (bs b_1.Upper), .string (bs b_1.Color), .string (bs b_1.Lining), .string (bs b_1.Sole), .int .i64 b_1.Thick, .int .i64 b_1.Heel, .int .i64 b_1.Eyelets, .int .i64 b_1.Density, .bool b_1.Double]] w (fun v w' => v = .bool r ∧ Ext w w') := by
  unfold m_laws_eqStyle at hm
  refine CallV.enter Tryd.func26 rfl (by kernel_rfl) Tryd.ntmps26 (env := [(0, .agg #[.string (bs a_0.Upper), .string (bs a_0.Color), .string (bs a_0.Lining), .string (bs a_0.Sole), .int .i64 a_0.Thick, .int .i64 a_0.Heel, .int .i64 a_0.Eyelets, .int .i64 a_0.Density, .bool a_0.Double]), (1, .agg #[.string (bs b_1.Upper), .string (bs b_1.Color), .string (bs b_1.Lining), .string (bs b_1.Sole), .int .i64 b_1.Thick, .int .i64 b_1.Heel, .int .i64 b_1.Eyelets, .int .i64 b_1.Density, .bool b_1.Double])]) ⟨rfl, rfl, trivial⟩ ?_
  refine WP.seq (fun K1 hK1 => ?_)
  refine WP.region ?_
  refine WL.box 32 [.string (bs a_0.Upper), .string (bs a_0.Color), .string (bs a_0.Lining), .string (bs a_0.Sole), .int .i64 a_0.Thick, .int .i64 a_0.Heel, .int .i64 a_0.Eyelets, .int .i64 a_0.Density, .bool a_0.Double] 2 (by kernel_rfl) rfl rfl rfl rfl ?_
  intro b2 w3 hE4 hR5
  have hb7 : Ext w w3 := Ext.trans (Ext.refl w) hE4
  have hL8 : w.heap.size ≤ w3.heap.size := Nat.le_trans (Nat.le_refl _) hE4.size
  have hS9 : SH w3 w.heap.size [aBox 32 b2 [.string (bs a_0.Upper), .string (bs a_0.Color), .string (bs a_0.Lining), .string (bs a_0.Sole), .int .i64 a_0.Thick, .int .i64 a_0.Heel, .int .i64 a_0.Eyelets, .int .i64 a_0.Density, .bool a_0.Double]] := SH.add (SH.nil _ _) hE4 (Nat.le_refl _) hR5
  refine WL.box 32 [.string (bs b_1.Upper), .string (bs b_1.Color), .string (bs b_1.Lining), .string (bs b_1.Sole), .int .i64 b_1.Thick, .int .i64 b_1.Heel, .int .i64 b_1.Eyelets, .int .i64 b_1.Density, .bool b_1.Double] 3 (by kernel_rfl) rfl rfl rfl rfl ?_
  intro b10 w11 hE12 hR13
  have hb15 : Ext w w11 := Ext.trans hb7 hE12
  have hL16 : w.heap.size ≤ w11.heap.size := Nat.le_trans hL8 hE12.size
  have hS17 : SH w11 w.heap.size [aBox 32 b10 [.string (bs b_1.Upper), .string (bs b_1.Color), .string (bs b_1.Lining), .string (bs b_1.Sole), .int .i64 b_1.Thick, .int .i64 b_1.Heel, .int .i64 b_1.Eyelets, .int .i64 b_1.Density, .bool b_1.Double], aBox 32 b2 [.string (bs a_0.Upper), .string (bs a_0.Color), .string (bs a_0.Lining), .string (bs a_0.Sole), .int .i64 a_0.Thick, .int .i64 a_0.Heel, .int .i64 a_0.Eyelets, .int .i64 a_0.Density, .bool a_0.Double]] := SH.add hS9 hE12 hL8 hR13
  refine WL.runk 1 [2, 3] [(2, .pointer (some ⟨b2, 0, none⟩)), (3, .pointer (some ⟨b10, 0, none⟩))] (by kernel_rfl) ?_
  refine WL.nil ?_
  refine WQ.then_normal (hK1 _ _ _ ?_)
  refine WP.seq (fun K18 hK18 => ?_)
  refine WP.seq (fun K19 hK19 => ?_)
  refine WP.region ?_
  refine WL.runk 1 [2, 3, 5] [(2, .pointer (some ⟨b2, 0, none⟩)), (3, .pointer (some ⟨b10, 0, none⟩)), (5, .pointer (some ⟨b2, 0, none⟩))] (by kernel_rfl) ?_
  refine WL.st (.string (bs a_0.Upper)) (ST.load (cell_ext (SH.boxAt (SH.front 1 hS17) 0 _ rfl)) rfl rfl Tryd.underlying9 rfl) rfl rfl rfl ?_
  refine WL.runk 1 [2, 3, 6, 7] [(2, .pointer (some ⟨b2, 0, none⟩)), (3, .pointer (some ⟨b10, 0, none⟩)), (6, .string (bs a_0.Upper)), (7, .pointer (some ⟨b10, 0, none⟩))] (by kernel_rfl) ?_
  refine WL.st (.string (bs b_1.Upper)) (ST.load (cell_ext (SH.boxAt (SH.front 0 hS17) 0 _ rfl)) rfl rfl Tryd.underlying9 rfl) rfl rfl rfl ?_
  refine WL.st (.bool (!(a_0.Upper == b_1.Upper))) (ST.strne (x := a_0.Upper) (y := b_1.Upper) rfl rfl rfl) rfl rfl rfl ?_
  refine WL.sub [(2, .pointer (some ⟨b2, 0, none⟩)), (3, .pointer (some ⟨b10, 0, none⟩)), (9, .bool (!(a_0.Upper == b_1.Upper)))] ⟨rfl, rfl, rfl, trivial⟩ ?_
  refine WL.nil ?_
  refine WQ.then_normal (hK19 _ _ _ ?_)
  refine WP.cond (!(a_0.Upper == b_1.Upper)) rfl rfl (fun hc20 => ?_) (fun hc20 => ?_)
  · have hm := iteT hm hc20
    refine WP.seq (fun K21 hK21 => ?_)
    refine WP.region ?_
    refine WL.runk 1 [4] [(4, .bool false)] (by kernel_rfl) ?_
    refine WL.nil ?_
    refine WQ.then_normal (hK21 _ _ _ ?_)
    refine WP.ret ?_
    refine WQ.then_ret ?_
    obtain rfl := Option.some.inj hm
    exact WQ.ret1 _ rfl rfl ⟨rfl, hb15⟩
  have hm := iteF hm hc20
  refine WP.skip ?_
  refine WQ.then_normal (hK18 _ _ _ ?_)
  refine WP.seq (fun K22 hK22 => ?_)
  refine WP.seq (fun K23 hK23 => ?_)
  refine WP.region ?_
  refine WL.runk 1 [2, 3, 10] [(2, .pointer (some ⟨b2, 0, none⟩)), (3, .pointer (some ⟨b10, 0, none⟩)), (10, .pointer (some ⟨b2, 1, none⟩))] (by kernel_rfl) ?_
  refine WL.st (.string (bs a_0.Color)) (ST.load (cell_ext (SH.boxAt (SH.front 1 hS17) 1 _ rfl)) rfl rfl Tryd.underlying9 rfl) rfl rfl rfl ?_
  refine WL.runk 1 [2, 3, 11, 12] [(2, .pointer (some ⟨b2, 0, none⟩)), (3, .pointer (some ⟨b10, 0, none⟩)), (11, .string (bs a_0.Color)), (12, .pointer (some ⟨b10, 1, none⟩))] (by kernel_rfl) ?_
  refine WL.st (.string (bs b_1.Color)) (ST.load (cell_ext (SH.boxAt (SH.front 0 hS17) 1 _ rfl)) rfl rfl Tryd.underlying9 rfl) rfl rfl rfl ?_
  refine WL.st (.bool (!(a_0.Color == b_1.Color))) (ST.strne (x := a_0.Color) (y := b_1.Color) rfl rfl rfl) rfl rfl rfl ?_
  refine WL.sub [(2, .pointer (some ⟨b2, 0, none⟩)), (3, .pointer (some ⟨b10, 0, none⟩)), (14, .bool (!(a_0.Color == b_1.Color)))] ⟨rfl, rfl, rfl, trivial⟩ ?_
  refine WL.nil ?_
  refine WQ.then_normal (hK23 _ _ _ ?_)
  refine WP.cond (!(a_0.Color == b_1.Color)) rfl rfl (fun hc24 => ?_) (fun hc24 => ?_)
  · have hm := iteT hm hc24
    refine WP.seq (fun K25 hK25 => ?_)
    refine WP.region ?_
    refine WL.runk 1 [4] [(4, .bool false)] (by kernel_rfl) ?_
    refine WL.nil ?_
    refine WQ.then_normal (hK25 _ _ _ ?_)
    refine WP.ret ?_
    refine WQ.then_ret ?_
    obtain rfl := Option.some.inj hm
    exact WQ.ret1 _ rfl rfl ⟨rfl, hb15⟩
  have hm := iteF hm hc24
  refine WP.skip ?_
  refine WQ.then_normal (hK22 _ _ _ ?_)
  refine WP.seq (fun K26 hK26 => ?_)
  refine WP.seq (fun K27 hK27 => ?_)
  refine WP.region ?_
  refine WL.runk 1 [2, 3, 15] [(2, .pointer (some ⟨b2, 0, none⟩)), (3, .pointer (some ⟨b10, 0, none⟩)), (15, .pointer (some ⟨b2, 2, none⟩))] (by kernel_rfl) ?_
  refine WL.st (.string (bs a_0.Lining)) (ST.load (cell_ext (SH.boxAt (SH.front 1 hS17) 2 _ rfl)) rfl rfl Tryd.underlying9 rfl) rfl rfl rfl ?_
  refine WL.runk 1 [2, 3, 16, 17] [(2, .pointer (some ⟨b2, 0, none⟩)), (3, .pointer (some ⟨b10, 0, none⟩)), (16, .string (bs a_0.Lining)), (17, .pointer (some ⟨b10, 2, none⟩))] (by kernel_rfl) ?_
  refine WL.st (.string (bs b_1.Lining)) (ST.load (cell_ext (SH.boxAt (SH.front 0 hS17) 2 _ rfl)) rfl rfl Tryd.underlying9 rfl) rfl rfl rfl ?_
  refine WL.st (.bool (!(a_0.Lining == b_1.Lining))) (ST.strne (x := a_0.Lining) (y := b_1.Lining) rfl rfl rfl) rfl rfl rfl ?_
  refine WL.sub [(2, .pointer (some ⟨b2, 0, none⟩)), (3, .pointer (some ⟨b10, 0, none⟩)), (19, .bool (!(a_0.Lining == b_1.Lining)))] ⟨rfl, rfl, rfl, trivial⟩ ?_
  refine WL.nil ?_
  refine WQ.then_normal (hK27 _ _ _ ?_)
  refine WP.cond (!(a_0.Lining == b_1.Lining)) rfl rfl (fun hc28 => ?_) (fun hc28 => ?_)
  · have hm := iteT hm hc28
    refine WP.seq (fun K29 hK29 => ?_)
    refine WP.region ?_
    refine WL.runk 1 [4] [(4, .bool false)] (by kernel_rfl) ?_
    refine WL.nil ?_
    refine WQ.then_normal (hK29 _ _ _ ?_)
    refine WP.ret ?_
    refine WQ.then_ret ?_
    obtain rfl := Option.some.inj hm
    exact WQ.ret1 _ rfl rfl ⟨rfl, hb15⟩
  have hm := iteF hm hc28
  refine WP.skip ?_
  refine WQ.then_normal (hK26 _ _ _ ?_)
  refine WP.seq (fun K30 hK30 => ?_)
  refine WP.seq (fun K31 hK31 => ?_)
  refine WP.region ?_
  refine WL.runk 1 [2, 3, 20] [(2, .pointer (some ⟨b2, 0, none⟩)), (3, .pointer (some ⟨b10, 0, none⟩)), (20, .pointer (some ⟨b2, 3, none⟩))] (by kernel_rfl) ?_
  refine WL.st (.string (bs a_0.Sole)) (ST.load (cell_ext (SH.boxAt (SH.front 1 hS17) 3 _ rfl)) rfl rfl Tryd.underlying9 rfl) rfl rfl rfl ?_
  refine WL.runk 1 [2, 3, 21, 22] [(2, .pointer (some ⟨b2, 0, none⟩)), (3, .pointer (some ⟨b10, 0, none⟩)), (21, .string (bs a_0.Sole)), (22, .pointer (some ⟨b10, 3, none⟩))] (by kernel_rfl) ?_
  refine WL.st (.string (bs b_1.Sole)) (ST.load (cell_ext (SH.boxAt (SH.front 0 hS17) 3 _ rfl)) rfl rfl Tryd.underlying9 rfl) rfl rfl rfl ?_
  refine WL.st (.bool (!(a_0.Sole == b_1.Sole))) (ST.strne (x := a_0.Sole) (y := b_1.Sole) rfl rfl rfl) rfl rfl rfl ?_
  refine WL.sub [(2, .pointer (some ⟨b2, 0, none⟩)), (3, .pointer (some ⟨b10, 0, none⟩)), (24, .bool (!(a_0.Sole == b_1.Sole)))] ⟨rfl, rfl, rfl, trivial⟩ ?_
  refine WL.nil ?_
  refine WQ.then_normal (hK31 _ _ _ ?_)
  refine WP.cond (!(a_0.Sole == b_1.Sole)) rfl rfl (fun hc32 => ?_) (fun hc32 => ?_)
  · have hm := iteT hm hc32
    refine WP.seq (fun K33 hK33 => ?_)
    refine WP.region ?_
    refine WL.runk 1 [4] [(4, .bool false)] (by kernel_rfl) ?_
    refine WL.nil ?_
    refine WQ.then_normal (hK33 _ _ _ ?_)
    refine WP.ret ?_
    refine WQ.then_ret ?_
    obtain rfl := Option.some.inj hm
    exact WQ.ret1 _ rfl rfl ⟨rfl, hb15⟩
  have hm := iteF hm hc32
  refine WP.skip ?_
  refine WQ.then_normal (hK30 _ _ _ ?_)
  refine WP.seq (fun K34 hK34 => ?_)
  refine WP.seq (fun K35 hK35 => ?_)
  refine WP.region ?_
  refine WL.runk 1 [2, 3, 25] [(2, .pointer (some ⟨b2, 0, none⟩)), (3, .pointer (some ⟨b10, 0, none⟩)), (25, .pointer (some ⟨b2, 4, none⟩))] (by kernel_rfl) ?_
  refine WL.st (.int .i64 a_0.Thick) (ST.load (cell_ext (SH.boxAt (SH.front 1 hS17) 4 _ rfl)) rfl rfl Tryd.underlying2 rfl) rfl rfl rfl ?_
  refine WL.runk 1 [2, 3, 26, 27] [(2, .pointer (some ⟨b2, 0, none⟩)), (3, .pointer (some ⟨b10, 0, none⟩)), (26, .int .i64 a_0.Thick), (27, .pointer (some ⟨b10, 4, none⟩))] (by kernel_rfl) ?_
  refine WL.st (.int .i64 b_1.Thick) (ST.load (cell_ext (SH.boxAt (SH.front 0 hS17) 4 _ rfl)) rfl rfl Tryd.underlying2 rfl) rfl rfl rfl ?_
  refine WL.runk 1 [2, 3, 29] [(2, .pointer (some ⟨b2, 0, none⟩)), (3, .pointer (some ⟨b10, 0, none⟩)), (29, .bool (a_0.Thick != b_1.Thick))] (by kernel_rfl) ?_
  refine WL.nil ?_
  refine WQ.then_normal (hK35 _ _ _ ?_)
  refine WP.cond (a_0.Thick != b_1.Thick) rfl rfl (fun hc36 => ?_) (fun hc36 => ?_)
  · have hm := iteT hm hc36
    refine WP.seq (fun K37 hK37 => ?_)
    refine WP.region ?_
    refine WL.runk 1 [4] [(4, .bool false)] (by kernel_rfl) ?_
    refine WL.nil ?_
    refine WQ.then_normal (hK37 _ _ _ ?_)
    refine WP.ret ?_
    refine WQ.then_ret ?_
    obtain rfl := Option.some.inj hm
    exact WQ.ret1 _ rfl rfl ⟨rfl, hb15⟩
  have hm := iteF hm hc36
  refine WP.skip ?_
  refine WQ.then_normal (hK34 _ _ _ ?_)
  refine WP.seq (fun K38 hK38 => ?_)
  refine WP.seq (fun K39 hK39 => ?_)
  refine WP.region ?_
  refine WL.runk 1 [2, 3, 30] [(2, .pointer (some ⟨b2, 0, none⟩)), (3, .pointer (some ⟨b10, 0, none⟩)), (30, .pointer (some ⟨b2, 5, none⟩))] (by kernel_rfl) ?_
  refine WL.st (.int .i64 a_0.Heel) (ST.load (cell_ext (SH.boxAt (SH.front 1 hS17) 5 _ rfl)) rfl rfl Tryd.underlying2 rfl) rfl rfl rfl ?_
  refine WL.runk 1 [2, 3, 31, 32] [(2, .pointer (some ⟨b2, 0, none⟩)), (3, .pointer (some ⟨b10, 0, none⟩)), (31, .int .i64 a_0.Heel), (32, .pointer (some ⟨b10, 5, none⟩))] (by kernel_rfl) ?_
  refine WL.st (.int .i64 b_1.Heel) (ST.load (cell_ext (SH.boxAt (SH.front 0 hS17) 5 _ rfl)) rfl rfl Tryd.underlying2 rfl) rfl rfl rfl ?_
  refine WL.runk 1 [2, 3, 34] [(2, .pointer (some ⟨b2, 0, none⟩)), (3, .pointer (some ⟨b10, 0, none⟩)), (34, .bool (a_0.Heel != b_1.Heel))] (by kernel_rfl) ?_
  refine WL.nil ?_
  refine WQ.then_normal (hK39 _ _ _ ?_)
  refine WP.cond (a_0.Heel != b_1.Heel) rfl rfl (fun hc40 => ?_) (fun hc40 => ?_)
  · have hm := iteT hm hc40
    refine WP.seq (fun K41 hK41 => ?_)
    refine WP.region ?_
    refine WL.runk 1 [4] [(4, .bool false)] (by kernel_rfl) ?_
    refine WL.nil ?_
    refine WQ.then_normal (hK41 _ _ _ ?_)
    refine WP.ret ?_
    refine WQ.then_ret ?_
    obtain rfl := Option.some.inj hm
    exact WQ.ret1 _ rfl rfl ⟨rfl, hb15⟩
  have hm := iteF hm hc40
  refine WP.skip ?_
  refine WQ.then_normal (hK38 _ _ _ ?_)
  refine WP.seq (fun K42 hK42 => ?_)
  refine WP.seq (fun K43 hK43 => ?_)
  refine WP.region ?_
  refine WL.runk 1 [2, 3, 35] [(2, .pointer (some ⟨b2, 0, none⟩)), (3, .pointer (some ⟨b10, 0, none⟩)), (35, .pointer (some ⟨b2, 6, none⟩))] (by kernel_rfl) ?_
  refine WL.st (.int .i64 a_0.Eyelets) (ST.load (cell_ext (SH.boxAt (SH.front 1 hS17) 6 _ rfl)) rfl rfl Tryd.underlying2 rfl) rfl rfl rfl ?_
  refine WL.runk 1 [2, 3, 36, 37] [(2, .pointer (some ⟨b2, 0, none⟩)), (3, .pointer (some ⟨b10, 0, none⟩)), (36, .int .i64 a_0.Eyelets), (37, .pointer (some ⟨b10, 6, none⟩))] (by kernel_rfl) ?_
  refine WL.st (.int .i64 b_1.Eyelets) (ST.load (cell_ext (SH.boxAt (SH.front 0 hS17) 6 _ rfl)) rfl rfl Tryd.underlying2 rfl) rfl rfl rfl ?_
  refine WL.runk 1 [2, 3, 39] [(2, .pointer (some ⟨b2, 0, none⟩)), (3, .pointer (some ⟨b10, 0, none⟩)), (39, .bool (a_0.Eyelets != b_1.Eyelets))] (by kernel_rfl) ?_
  refine WL.nil ?_
  refine WQ.then_normal (hK43 _ _ _ ?_)
  refine WP.cond (a_0.Eyelets != b_1.Eyelets) rfl rfl (fun hc44 => ?_) (fun hc44 => ?_)
  · have hm := iteT hm hc44
    refine WP.seq (fun K45 hK45 => ?_)
    refine WP.region ?_
    refine WL.runk 1 [4] [(4, .bool false)] (by kernel_rfl) ?_
    refine WL.nil ?_
    refine WQ.then_normal (hK45 _ _ _ ?_)
    refine WP.ret ?_
    refine WQ.then_ret ?_
    obtain rfl := Option.some.inj hm
    exact WQ.ret1 _ rfl rfl ⟨rfl, hb15⟩
  have hm := iteF hm hc44
  refine WP.skip ?_
  refine WQ.then_normal (hK42 _ _ _ ?_)
  refine WP.seq (fun K46 hK46 => ?_)
  refine WP.seq (fun K47 hK47 => ?_)
  refine WP.region ?_
  refine WL.runk 1 [2, 3, 40] [(2, .pointer (some ⟨b2, 0, none⟩)), (3, .pointer (some ⟨b10, 0, none⟩)), (40, .pointer (some ⟨b2, 7, none⟩))] (by kernel_rfl) ?_
  refine WL.st (.int .i64 a_0.Density) (ST.load (cell_ext (SH.boxAt (SH.front 1 hS17) 7 _ rfl)) rfl rfl Tryd.underlying2 rfl) rfl rfl rfl ?_
  refine WL.runk 1 [2, 3, 41, 42] [(2, .pointer (some ⟨b2, 0, none⟩)), (3, .pointer (some ⟨b10, 0, none⟩)), (41, .int .i64 a_0.Density), (42, .pointer (some ⟨b10, 7, none⟩))] (by kernel_rfl) ?_
  refine WL.st (.int .i64 b_1.Density) (ST.load (cell_ext (SH.boxAt (SH.front 0 hS17) 7 _ rfl)) rfl rfl Tryd.underlying2 rfl) rfl rfl rfl ?_
  refine WL.runk 1 [2, 3, 44] [(2, .pointer (some ⟨b2, 0, none⟩)), (3, .pointer (some ⟨b10, 0, none⟩)), (44, .bool (a_0.Density != b_1.Density))] (by kernel_rfl) ?_
  refine WL.nil ?_
  refine WQ.then_normal (hK47 _ _ _ ?_)
  refine WP.cond (a_0.Density != b_1.Density) rfl rfl (fun hc48 => ?_) (fun hc48 => ?_)
  · have hm := iteT hm hc48
    refine WP.seq (fun K49 hK49 => ?_)
    refine WP.region ?_
    refine WL.runk 1 [4] [(4, .bool false)] (by kernel_rfl) ?_
    refine WL.nil ?_
    refine WQ.then_normal (hK49 _ _ _ ?_)
    refine WP.ret ?_
    refine WQ.then_ret ?_
    obtain rfl := Option.some.inj hm
    exact WQ.ret1 _ rfl rfl ⟨rfl, hb15⟩
  have hm := iteF hm hc48
  refine WP.skip ?_
  refine WQ.then_normal (hK46 _ _ _ ?_)
  refine WP.seq (fun K50 hK50 => ?_)
  refine WP.seq (fun K51 hK51 => ?_)
  refine WP.region ?_
  refine WL.runk 1 [3, 45] [(3, .pointer (some ⟨b10, 0, none⟩)), (45, .pointer (some ⟨b2, 8, none⟩))] (by kernel_rfl) ?_
  refine WL.st (.bool a_0.Double) (ST.load (cell_ext (SH.boxAt (SH.front 1 hS17) 8 _ rfl)) rfl rfl Tryd.underlying4 rfl) rfl rfl rfl ?_
  refine WL.runk 1 [46, 47] [(46, .bool a_0.Double), (47, .pointer (some ⟨b10, 8, none⟩))] (by kernel_rfl) ?_
  refine WL.st (.bool b_1.Double) (ST.load (cell_ext (SH.boxAt (SH.front 0 hS17) 8 _ rfl)) rfl rfl Tryd.underlying4 rfl) rfl rfl rfl ?_
  refine WL.runk 1 [49] [(49, .bool (!(a_0.Double == b_1.Double)))] (by kernel_rfl) ?_
  refine WL.nil ?_
  refine WQ.then_normal (hK51 _ _ _ ?_)
  refine WP.cond (!(a_0.Double == b_1.Double)) rfl rfl (fun hc52 => ?_) (fun hc52 => ?_)
  · have hm := iteT hm hc52
    refine WP.seq (fun K53 hK53 => ?_)
    refine WP.region ?_
    refine WL.runk 1 [4] [(4, .bool false)] (by kernel_rfl) ?_
    refine WL.nil ?_
    refine WQ.then_normal (hK53 _ _ _ ?_)
    refine WP.ret ?_
    refine WQ.then_ret ?_
    obtain rfl := Option.some.inj hm
    exact WQ.ret1 _ rfl rfl ⟨rfl, hb15⟩
  have hm := iteF hm hc52
  refine WP.skip ?_
  refine WQ.then_normal (hK50 _ _ _ ?_)
  refine WP.seq (fun K54 hK54 => ?_)
  refine WP.region ?_
  refine WL.runk 1 [4] [(4, .bool true)] (by kernel_rfl) ?_
  refine WL.nil ?_
  refine WQ.then_normal (hK54 _ _ _ ?_)
  refine WP.ret ?_
  obtain rfl := Option.some.inj hm
  exact WQ.ret1 _ rfl rfl ⟨rfl, hb15⟩

theorem c_7 (n : Nat) (aS_0 : List UInt8) (w : World) {r : Bool} (hm : m_laws_FnExactReadStyle n aS_0 = some r) (hG : GL 3 w) :
    CallV Tryd.prog 7 #[.string (bs aS_0)] w (fun v w' => v = .bool r ∧ Ext w w') := by
  unfold m_laws_FnExactReadStyle at hm
  refine CallV.enter Tryd.func7 rfl (by kernel_rfl) Tryd.ntmps7 (env := [(0, .string (bs aS_0))]) ⟨rfl, trivial⟩ ?_
  refine WP.seq (fun K1 hK1 => ?_)
  refine WP.region ?_
  refine WL.runk 1 [0] [(0, .string (bs aS_0))] (by kernel_rfl) ?_
  refine WL.nil ?_
  refine WQ.then_normal (hK1 _ _ _ ?_)
  refine WP.seq (fun K2 hK2 => ?_)
  refine WP.seq (fun K3 hK3 => ?_)
  refine WP.region ?_
  refine WL.runk 3 [0, 9] [(0, .string (bs aS_0)), (9, .bool (decide ((aS_0.length : Int) > 1048576)))] (by kernel_rfl) ?_
  refine WL.nil ?_
  refine WQ.then_normal (hK3 _ _ _ ?_)
  refine WP.cond (decide ((aS_0.length : Int) > 1048576)) rfl rfl (fun hc4 => ?_) (fun hc4 => ?_)
  · have hm := iteT hm hc4
    refine WP.seq (fun K5 hK5 => ?_)
    refine WP.region ?_
    refine WL.runk 1 [2] [(2, .bool true)] (by kernel_rfl) ?_
    refine WL.nil ?_
    refine WQ.then_normal (hK5 _ _ _ ?_)
    refine WP.ret ?_
    refine WQ.then_ret ?_
    obtain rfl := Option.some.inj hm
    exact WQ.ret1 _ rfl rfl ⟨rfl, (Ext.refl w)⟩
  have hm := iteF hm hc4
  refine WP.skip ?_
  refine WQ.then_normal (hK2 _ _ _ ?_)
  refine WP.seq (fun K6 hK6 => ?_)
  refine WP.region ?_
  refine WL.runk 1 [0, 11] [(0, .string (bs aS_0)), (11, .string (bs aS_0))] (by kernel_rfl) ?_
  obtain ⟨x7, hx8, hm⟩ := bindE hm
  refine WL.call 24 #[.string (bs aS_0)] rfl rfl (by kernel_rfl) (c_24 n aS_0 w hx8 ) ?_
  rintro _ w9 ⟨rfl, hE10⟩
  refine ⟨_, rfl, ?_⟩
  have hb12 : Ext w w9 := Ext.trans (Ext.refl w) hE10
  have hL13 : w.heap.size ≤ w9.heap.size := Nat.le_trans (Nat.le_refl _) hE10.size
  have hS14 : SH w9 w.heap.size [] := SH.ext (SH.nil _ _) hE10
  refine WL.runk 3 [0, 13, 14] [(0, .string (bs aS_0)), (13, .agg #[.string (bs x7.1.Upper), .string (bs x7.1.Color), .string (bs x7.1.Lining), .string (bs x7.1.Sole), .int .i64 x7.1.Thick, .int .i64 x7.1.Heel, .int .i64 x7.1.Eyelets, .int .i64 x7.1.Density, .bool x7.1.Double]), (14, .int .i64 x7.2)] (by kernel_rfl) ?_
  refine WL.box 32 [.string (bs []), .string (bs []), .string (bs []), .string (bs []), .int .i64 0, .int .i64 0, .int .i64 0, .int .i64 0, .bool false] 3 (by kernel_rfl) rfl rfl rfl rfl ?_
  intro b15 w16 hE17 hR18
  have hb20 : Ext w w16 := Ext.trans hb12 hE17
  have hL21 : w.heap.size ≤ w16.heap.size := Nat.le_trans hL13 hE17.size
  have hS22 : SH w16 w.heap.size [aBox 32 b15 [.string (bs []), .string (bs []), .string (bs []), .string (bs []), .int .i64 0, .int .i64 0, .int .i64 0, .int .i64 0, .bool false]] := SH.add hS14 hE17 hL13 hR18
  refine WL.boxStore 0 [.string (bs x7.1.Upper), .string (bs x7.1.Color), .string (bs x7.1.Lining), .string (bs x7.1.Sole), .int .i64 x7.1.Thick, .int .i64 x7.1.Heel, .int .i64 x7.1.Eyelets, .int .i64 x7.1.Density, .bool x7.1.Double] [.string (bs x7.1.Upper), .string (bs x7.1.Color), .string (bs x7.1.Lining), .string (bs x7.1.Sole), .int .i64 x7.1.Thick, .int .i64 x7.1.Heel, .int .i64 x7.1.Eyelets, .int .i64 x7.1.Density, .bool x7.1.Double] (SH.front 0 hS22) hL21 rfl rfl rfl rfl rfl rfl rfl (info32).1 (info32).2.1 rfl rfl rfl ?_
  intro w23 hB24 hS25
  have hb26 : Ext w w23 := Below.trans hb20 hB24
  have hL27 : w.heap.size ≤ w23.heap.size := Nat.le_trans hL21 hB24.size
  refine WL.runk 1 [0, 3, 4] [(0, .string (bs aS_0)), (3, .pointer (some ⟨b15, 0, none⟩)), (4, .int .i64 x7.2)] (by kernel_rfl) ?_
  refine WL.nil ?_
  refine WQ.then_normal (hK6 _ _ _ ?_)
  refine WP.seq (fun K28 hK28 => ?_)
  refine WP.region ?_
  refine WL.runk 1 [3, 4, 16] [(3, .pointer (some ⟨b15, 0, none⟩)), (4, .int .i64 x7.2), (16, .string (bs aS_0))] (by kernel_rfl) ?_
  obtain ⟨x29, hx30, hm⟩ := bindE hm
  refine WL.call 25 #[.string (bs aS_0)] rfl rfl (by kernel_rfl) (c_25 n aS_0 w23 hx30 (GL.below hG hb26)) ?_
  rintro _ w31 ⟨rfl, hE32⟩
  refine ⟨_, rfl, ?_⟩
  have hb34 : Ext w w31 := Ext.trans hb26 hE32
  have hL35 : w.heap.size ≤ w31.heap.size := Nat.le_trans hL27 hE32.size
  have hS36 : SH w31 w.heap.size [aBox 32 b15 [.string (bs x7.1.Upper), .string (bs x7.1.Color), .string (bs x7.1.Lining), .string (bs x7.1.Sole), .int .i64 x7.1.Thick, .int .i64 x7.1.Heel, .int .i64 x7.1.Eyelets, .int .i64 x7.1.Density, .bool x7.1.Double]] := SH.ext hS25 hE32
  refine WL.runk 3 [3, 4, 18, 19] [(3, .pointer (some ⟨b15, 0, none⟩)), (4, .int .i64 x7.2), (18, .agg #[.string (bs x29.1.Upper), .string (bs x29.1.Color), .string (bs x29.1.Lining), .string (bs x29.1.Sole), .int .i64 x29.1.Thick, .int .i64 x29.1.Heel, .int .i64 x29.1.Eyelets, .int .i64 x29.1.Density, .bool x29.1.Double]), (19, .int .i64 x29.2)] (by kernel_rfl) ?_
  refine WL.box 32 [.string (bs []), .string (bs []), .string (bs []), .string (bs []), .int .i64 0, .int .i64 0, .int .i64 0, .int .i64 0, .bool false] 5 (by kernel_rfl) rfl rfl rfl rfl ?_
  intro b37 w38 hE39 hR40
  have hb42 : Ext w w38 := Ext.trans hb34 hE39
  have hL43 : w.heap.size ≤ w38.heap.size := Nat.le_trans hL35 hE39.size
  have hS44 : SH w38 w.heap.size [aBox 32 b37 [.string (bs []), .string (bs []), .string (bs []), .string (bs []), .int .i64 0, .int .i64 0, .int .i64 0, .int .i64 0, .bool false], aBox 32 b15 [.string (bs x7.1.Upper), .string (bs x7.1.Color), .string (bs x7.1.Lining), .string (bs x7.1.Sole), .int .i64 x7.1.Thick, .int .i64 x7.1.Heel, .int .i64 x7.1.Eyelets, .int .i64 x7.1.Density, .bool x7.1.Double]] := SH.add hS36 hE39 hL35 hR40
  refine WL.boxStore 0 [.string (bs x29.1.Upper), .string (bs x29.1.Color), .string (bs x29.1.Lining), .string (bs x29.1.Sole), .int .i64 x29.1.Thick, .int .i64 x29.1.Heel, .int .i64 x29.1.Eyelets, .int .i64 x29.1.Density, .bool x29.1.Double] [.string (bs x29.1.Upper), .string (bs x29.1.Color), .string (bs x29.1.Lining), .string (bs x29.1.Sole), .int .i64 x29.1.Thick, .int .i64 x29.1.Heel, .int .i64 x29.1.Eyelets, .int .i64 x29.1.Density, .bool x29.1.Double] (SH.front 0 hS44) hL43 rfl rfl rfl rfl rfl rfl rfl (info32).1 (info32).2.1 rfl rfl rfl ?_
  intro w45 hB46 hS47
  have hb48 : Ext w w45 := Below.trans hb42 hB46
  have hL49 : w.heap.size ≤ w45.heap.size := Nat.le_trans hL43 hB46.size
  refine WL.runk 1 [3, 4, 5, 6] [(3, .pointer (some ⟨b15, 0, none⟩)), (4, .int .i64 x7.2), (5, .pointer (some ⟨b37, 0, none⟩)), (6, .int .i64 x29.2)] (by kernel_rfl) ?_
  refine WL.nil ?_
  refine WQ.then_normal (hK28 _ _ _ ?_)
  refine WP.seq (fun K50 hK50 => ?_)
  refine WP.seq (fun K51 hK51 => ?_)
  obtain ⟨x61, hx62, hm⟩ := bindE hm
  refine WP.cut (fun env' w' => env' = [(28, .bool x61)] ∧ Ext w w' ∧ w.heap.size ≤ w'.heap.size ∧ SH w' w.heap.size [aBox 32 b37 [.string (bs x29.1.Upper), .string (bs x29.1.Color), .string (bs x29.1.Lining), .string (bs x29.1.Sole), .int .i64 x29.1.Thick, .int .i64 x29.1.Heel, .int .i64 x29.1.Eyelets, .int .i64 x29.1.Density, .bool x29.1.Double], aBox 32 b15 [.string (bs x7.1.Upper), .string (bs x7.1.Color), .string (bs x7.1.Lining), .string (bs x7.1.Sole), .int .i64 x7.1.Thick, .int .i64 x7.1.Heel, .int .i64 x7.1.Eyelets, .int .i64 x7.1.Density, .bool x7.1.Double]]) ?_ ?_
  · have hm := hx62; clear hx62
    refine WP.region ?_
    refine WL.st (.agg #[.string (bs x29.1.Upper), .string (bs x29.1.Color), .string (bs x29.1.Lining), .string (bs x29.1.Sole), .int .i64 x29.1.Thick, .int .i64 x29.1.Heel, .int .i64 x29.1.Eyelets, .int .i64 x29.1.Density, .bool x29.1.Double]) (ST.loadAgg (vs := [.string (bs x29.1.Upper), .string (bs x29.1.Color), .string (bs x29.1.Lining), .string (bs x29.1.Sole), .int .i64 x29.1.Thick, .int .i64 x29.1.Heel, .int .i64 x29.1.Eyelets, .int .i64 x29.1.Density, .bool x29.1.Double]) (fun j v hv => SH.boxPart (us := [.string (bs x29.1.Upper), .string (bs x29.1.Color), .string (bs x29.1.Lining), .string (bs x29.1.Sole), .int .i64 x29.1.Thick, .int .i64 x29.1.Heel, .int .i64 x29.1.Eyelets, .int .i64 x29.1.Density, .bool x29.1.Double]) (SH.front 0 hS47) 0 rfl j v hv) rfl rfl rfl Tryd.underlying32 rfl (info32).1 (info32).2.1) rfl rfl rfl ?_
    refine WL.st (.agg #[.string (bs x7.1.Upper), .string (bs x7.1.Color), .string (bs x7.1.Lining), .string (bs x7.1.Sole), .int .i64 x7.1.Thick, .int .i64 x7.1.Heel, .int .i64 x7.1.Eyelets, .int .i64 x7.1.Density, .bool x7.1.Double]) (ST.loadAgg (vs := [.string (bs x7.1.Upper), .string (bs x7.1.Color), .string (bs x7.1.Lining), .string (bs x7.1.Sole), .int .i64 x7.1.Thick, .int .i64 x7.1.Heel, .int .i64 x7.1.Eyelets, .int .i64 x7.1.Density, .bool x7.1.Double]) (fun j v hv => SH.boxPart (us := [.string (bs x7.1.Upper), .string (bs x7.1.Color), .string (bs x7.1.Lining), .string (bs x7.1.Sole), .int .i64 x7.1.Thick, .int .i64 x7.1.Heel, .int .i64 x7.1.Eyelets, .int .i64 x7.1.Density, .bool x7.1.Double]) (SH.front 1 hS47) 0 rfl j v hv) rfl rfl rfl Tryd.underlying32 rfl (info32).1 (info32).2.1) rfl rfl rfl ?_
    obtain ⟨x63, hx64, hm⟩ := bindE hm
    refine WL.call 26 #[.agg #[.string (bs x29.1.Upper), .string (bs x29.1.Color), .string (bs x29.1.Lining), .string (bs x29.1.Sole), .int .i64 x29.1.Thick, .int .i64 x29.1.Heel, .int .i64 x29.1.Eyelets, .int .i64 x29.1.Density, .bool x29.1.Double], .agg #[.string (bs x7.1.Upper), .string (bs x7.1.Color), .string (bs x7.1.Lining), .string (bs x7.1.Sole), .int .i64 x7.1.Thick, .int .i64 x7.1.Heel, .int .i64 x7.1.Eyelets, .int .i64 x7.1.Density, .bool x7.1.Double]] rfl rfl (by kernel_rfl) (c_26 n x29.1 x7.1 w45 hx64 ) ?_
    rintro _ w65 ⟨rfl, hE66⟩
    refine ⟨_, rfl, ?_⟩
    have hb68 : Ext w w65 := Ext.trans hb48 hE66
    have hL69 : w.heap.size ≤ w65.heap.size := Nat.le_trans hL49 hE66.size
    have hS70 : SH w65 w.heap.size [aBox 32 b37 [.string (bs x29.1.Upper), .string (bs x29.1.Color), .string (bs x29.1.Lining), .string (bs x29.1.Sole), .int .i64 x29.1.Thick, .int .i64 x29.1.Heel, .int .i64 x29.1.Eyelets, .int .i64 x29.1.Density, .bool x29.1.Double], aBox 32 b15 [.string (bs x7.1.Upper), .string (bs x7.1.Color), .string (bs x7.1.Lining), .string (bs x7.1.Sole), .int .i64 x7.1.Thick, .int .i64 x7.1.Heel, .int .i64 x7.1.Eyelets, .int .i64 x7.1.Density, .bool x7.1.Double]] := SH.ext hS47 hE66
    refine WL.runk 2 [4, 6, 24] [(4, .int .i64 x7.2), (6, .int .i64 x29.2), (24, .bool (!x63))] (by kernel_rfl) ?_
    refine WL.case (!x63) [24] ⟨rfl, trivial⟩ (fun hc71 => ?_) (fun hc71 => ?_)
    · have hm := iteT hm hc71
      refine WL.runk 4 [28] [(28, .bool true)] (by kernel_rfl) ?_
      refine WL.nil ?_
      obtain rfl := Option.some.inj hm
      exact WQ.post' ⟨rfl, hb68, hL69, hS70⟩ ⟨rfl, trivial⟩
    have hm := iteF hm hc71
    refine WL.runk 4 [28] [(28, .bool (x29.2 != x7.2))] (by kernel_rfl) ?_
    refine WL.nil ?_
    obtain rfl := Option.some.inj hm
    exact WQ.post' ⟨rfl, hb68, hL69, hS70⟩ ⟨rfl, trivial⟩
  clear hx62
  rintro _ w72 ⟨rfl, hb73, hL74, hS75⟩
  refine WQ.then_normal (hK51 _ _ _ ?_)
  refine WP.cond x61 rfl rfl (fun hc76 => ?_) (fun hc76 => ?_)
  · have hm := iteT hm hc76
    refine WP.seq (fun K77 hK77 => ?_)
    refine WP.region ?_
    refine WL.runk 1 [2] [(2, .bool false)] (by kernel_rfl) ?_
    refine WL.nil ?_
    refine WQ.then_normal (hK77 _ _ _ ?_)
    refine WP.ret ?_
    refine WQ.then_ret ?_
    obtain rfl := Option.some.inj hm
    exact WQ.ret1 _ rfl rfl ⟨rfl, hb73⟩
  have hm := iteF hm hc76
  refine WP.skip ?_
  refine WQ.then_normal (hK50 _ _ _ ?_)
  refine WP.seq (fun K78 hK78 => ?_)
  refine WP.region ?_
  refine WL.runk 1 [2] [(2, .bool true)] (by kernel_rfl) ?_
  refine WL.nil ?_
  refine WQ.then_normal (hK78 _ _ _ ?_)
  refine WP.ret ?_
  obtain rfl := Option.some.inj hm
  exact WQ.ret1 _ rfl rfl ⟨rfl, hb73⟩

end Go.Proofs.YtkjjjbfpecmieaaDoor
