/- Each call does what its Lean function says. -/
import Derived.Test.YtoljnpoiclklpaaTi
import Derived.Test.YtoljnpoiclklpaaEq
import Derived.Test.YtoljnpoiclklpaaMo
set_option maxRecDepth 20000
set_option maxHeartbeats 4000000
namespace Go.Proofs.Ytoljnpoiclklpaa
open Go Go.Gv Go.RowKit

theorem c_71 (n : Nat) (n_0 : Int) (low_1 : Int) (high_2 : Int) (w : World) {r : Bool} (hm : m_spec_l00In n n_0 low_1 high_2 = some r)  :
    CallV Try.prog 71 #[.int .i64 n_0, .int .i64 low_1, .int .i64 high_2] w (fun v w' => v = .bool r ∧ Ext w w') := by
  unfold m_spec_l00In at hm
  refine CallV.enter Try.func71 rfl (by kernel_rfl) Try.ntmps71 (env := [(0, .int .i64 n_0), (1, .int .i64 low_1), (2, .int .i64 high_2)]) ⟨rfl, rfl, rfl, trivial⟩ ?_
  refine WP.seq (fun K1 hK1 => ?_)
  refine WP.region ?_
  refine WL.runk 1 [0, 1, 2] [(0, .int .i64 n_0), (1, .int .i64 low_1), (2, .int .i64 high_2)] (by kernel_rfl) ?_
  refine WL.nil ?_
  refine WQ.then_normal (hK1 _ _ _ ?_)
  refine WP.seq (fun K2 hK2 => ?_)
  obtain ⟨x4, hx5, hm⟩ := bindE hm
  refine WP.cut (fun env' w' => env' = [(6, .bool x4)] ∧ Ext w w' ∧ w.heap.size ≤ w'.heap.size ∧ SH w' w.heap.size []) ?_ ?_
  rotate_left
  · clear hx5
    rintro _ w7 ⟨rfl, hb8, hL9, hS10⟩
    refine WQ.then_normal (hK2 _ _ _ ?_)
    refine WP.ret ?_
    obtain rfl := Option.some.inj hm
    exact WQ.ret1 _ rfl rfl ⟨rfl, hb8⟩
  have hm := hx5; clear hx5
  refine WP.region ?_
  refine WL.runk 4 [0, 2, 10] [(0, .int .i64 n_0), (2, .int .i64 high_2), (10, .bool (decide (n_0 ≥ low_1)))] (by kernel_rfl) ?_
  refine WL.case (decide (n_0 ≥ low_1)) [10] ⟨rfl, trivial⟩ (fun hc6 => ?_) (fun hc6 => ?_)
  · have hm := iteT hm hc6
    refine WL.runk 5 [6] [(6, .bool (decide (n_0 ≤ high_2)))] (by kernel_rfl) ?_
    refine WL.nil ?_
    obtain rfl := Option.some.inj hm
    exact WQ.post' ⟨rfl, (Ext.refl w), (Nat.le_refl _), (SH.nil _ _)⟩ ⟨rfl, trivial⟩
  have hm := iteF hm hc6
  refine WL.runk 5 [6] [(6, .bool false)] (by kernel_rfl) ?_
  refine WL.nil ?_
  obtain rfl := Option.some.inj hm
  exact WQ.post' ⟨rfl, (Ext.refl w), (Nat.le_refl _), (SH.nil _ _)⟩ ⟨rfl, trivial⟩

theorem c_76 (n : Nat) (c_0 : Int) (w : World) {r : Bool} (hm : m_spec_l01Digit n c_0 = some r)  :
    CallV Try.prog 76 #[.int .u8 c_0] w (fun v w' => v = .bool r ∧ Ext w w') := by
  unfold m_spec_l01Digit at hm
  refine CallV.enter Try.func76 rfl (by kernel_rfl) Try.ntmps76 (env := [(0, .int .u8 c_0)]) ⟨rfl, trivial⟩ ?_
  refine WP.seq (fun K1 hK1 => ?_)
  refine WP.region ?_
  refine WL.runk 1 [0] [(0, .int .u8 c_0)] (by kernel_rfl) ?_
  refine WL.nil ?_
  refine WQ.then_normal (hK1 _ _ _ ?_)
  refine WP.seq (fun K2 hK2 => ?_)
  obtain ⟨x4, hx5, hm⟩ := bindE hm
  refine WP.cut (fun env' w' => env' = [(2, .bool x4)] ∧ Ext w w' ∧ w.heap.size ≤ w'.heap.size ∧ SH w' w.heap.size []) ?_ ?_
  rotate_left
  · clear hx5
    rintro _ w7 ⟨rfl, hb8, hL9, hS10⟩
    refine WQ.then_normal (hK2 _ _ _ ?_)
    refine WP.ret ?_
    obtain rfl := Option.some.inj hm
    exact WQ.ret1 _ rfl rfl ⟨rfl, hb8⟩
  have hm := hx5; clear hx5
  refine WP.region ?_
  refine WL.runk 3 [0, 5] [(0, .int .u8 c_0), (5, .bool (decide (c_0 ≥ 48)))] (by kernel_rfl) ?_
  refine WL.case (decide (c_0 ≥ 48)) [5] ⟨rfl, trivial⟩ (fun hc6 => ?_) (fun hc6 => ?_)
  · have hm := iteT hm hc6
    refine WL.runk 4 [2] [(2, .bool (decide (c_0 ≤ 57)))] (by kernel_rfl) ?_
    refine WL.nil ?_
    obtain rfl := Option.some.inj hm
    exact WQ.post' ⟨rfl, (Ext.refl w), (Nat.le_refl _), (SH.nil _ _)⟩ ⟨rfl, trivial⟩
  have hm := iteF hm hc6
  refine WL.runk 4 [2] [(2, .bool false)] (by kernel_rfl) ?_
  refine WL.nil ?_
  obtain rfl := Option.some.inj hm
  exact WQ.post' ⟨rfl, (Ext.refl w), (Nat.le_refl _), (SH.nil _ _)⟩ ⟨rfl, trivial⟩

theorem c_49 (n : Nat) (rows_0 : List (List UInt8)) (a0' : Option Addr) (c0' : Nat) (w : World) {r : Bool} (hm : m_spec_l20Ok n rows_0 = some r) (h0 : Rd fStr.ty w a0' rows_0) (_hle0 : rows_0.length ≤ c0') :
    CallV Try.prog 49 #[.slice a0' rows_0.length c0'] w (fun v w' => v = .bool r ∧ Ext w w') := by
  unfold m_spec_l20Ok at hm
  refine CallV.enter Try.func49 rfl (by kernel_rfl) Try.ntmps49 (env := [(0, .slice a0' rows_0.length c0')]) ⟨rfl, trivial⟩ ?_
  refine WP.seq (fun K1 hK1 => ?_)
  refine WP.region ?_
  refine WL.runk 1 [0] [(0, .slice a0' rows_0.length c0')] (by kernel_rfl) ?_
  refine WL.nil ?_
  refine WQ.then_normal (hK1 _ _ _ ?_)
  refine WP.seq (fun K2 hK2 => ?_)
  refine WP.seq (fun K3 hK3 => ?_)
  refine WP.region ?_
  refine WL.runk 1 [0, 3] [(0, .slice a0' rows_0.length c0'), (3, .int .i64 0)] (by kernel_rfl) ?_
  refine WL.nil ?_
  refine WQ.then_normal (hK3 _ _ _ ?_)
  refine WP.block ?_
  obtain ⟨t15, ht16, hm⟩ := bindE hm
  have hmo10 := hm; clear hm
  refine WP.sub [(0, .slice a0' rows_0.length c0'), (3, .int .i64 0)] ⟨rfl, rfl, trivial⟩ ?_
  refine WP.loop (fun n' env' w' => ∃ (st4 : Int) , env' = [(0, .slice a0' rows_0.length c0'), (3, .int .i64 st4)] ∧ Ext w w' ∧ w.heap.size ≤ w'.heap.size ∧ SH w' w.heap.size [] ∧ loopN (m_spec_l20Ok_l1 n rows_0) n' st4 = some t15) n ⟨0, rfl, (Ext.refl w), (Nat.le_refl _), (SH.nil _ _), ht16⟩ ?_
  rintro n12 _ w5 ⟨st4, rfl, hb6, hL7, hS8, hl9⟩ K11 hK11
  obtain ⟨n13, s14, rfl, hm, hl9⟩ := loopN_some hl9
  unfold m_spec_l20Ok_l1 at hm
  refine WP.seq (fun K17 hK17 => ?_)
  refine WP.seq (fun K18 hK18 => ?_)
  refine WP.region ?_
  refine WL.runk 4 [0, 3, 8] [(0, .slice a0' rows_0.length c0'), (3, .int .i64 st4), (8, .bool (decide (st4 < (rows_0.length : Int))))] (by kernel_rfl) ?_
  refine WL.nil ?_
  refine WQ.then_normal (hK18 _ _ _ ?_)
  refine WP.cond (decide (st4 < (rows_0.length : Int))) rfl rfl (fun hc19 => ?_) (fun hc19 => ?_)
  rotate_left
  · have hm := iteF hm hc19
    refine WP.exit ?_
    refine WQ.then_exit ?_
    refine WQ.then_exit ?_
    refine WQ.block_here ?_
    obtain rfl := Option.some.inj hm
    obtain rfl := afterN_done hl9
    have hm := hmo10
    refine WQ.then_normal (hK2 _ _ _ ?_)
    refine WP.seq (fun K109 hK109 => ?_)
    refine WP.region ?_
    refine WL.runk 2 [48] [(48, .int .i64 (rows_0.length : Int))] (by kernel_rfl) ?_
    obtain ⟨x110, hx111, hm⟩ := bindE hm
    refine WL.call 71 #[.int .i64 (rows_0.length : Int), .int .i64 2, .int .i64 12] rfl rfl (by kernel_rfl) (c_71 n (rows_0.length : Int) 2 12 w5 hx111 ) ?_
    rintro _ w112 ⟨rfl, hE113⟩
    refine ⟨_, rfl, ?_⟩
    have hb115 : Ext w w112 := Ext.trans hb6 hE113
    have hL116 : w.heap.size ≤ w112.heap.size := Nat.le_trans hL7 hE113.size
    have hS117 : SH w112 w.heap.size [] := SH.ext hS8 hE113
    refine WL.runk 1 [2] [(2, .bool x110)] (by kernel_rfl) ?_
    refine WL.nil ?_
    refine WQ.then_normal (hK109 _ _ _ ?_)
    refine WP.ret ?_
    obtain rfl := Option.some.inj hm
    exact WQ.ret1 _ rfl rfl ⟨rfl, hb115⟩
  have hm := iteT hm hc19
  refine WP.skip ?_
  refine WQ.then_normal (hK17 _ _ _ ?_)
  refine WP.seq (fun K20 hK20 => ?_)
  refine WP.block ?_
  refine WP.seq (fun K21 hK21 => ?_)
  refine WP.seq (fun K22 hK22 => ?_)
  obtain ⟨x44, hx45, hm⟩ := bindE hm
  refine WP.cut (fun env' w' => env' = [(0, .slice a0' rows_0.length c0'), (3, .int .i64 st4), (29, .bool x44)] ∧ Ext w w' ∧ w.heap.size ≤ w'.heap.size ∧ SH w' w.heap.size []) ?_ ?_
  · have hm := hx45; clear hx45
    refine WP.quiet (by kernel_rfl) (by kernel_rfl) ?_
    refine QL.step1v 11 (.slice a0' rows_0.length c0') rfl (fun _ => by kernel_rfl) ?_
    refine QL.step1v 12 (.int .i64 st4) rfl (fun _ => by kernel_rfl) ?_
    refine QL.subk [0, 3, 11, 12] [(0, .slice a0' rows_0.length c0'), (3, .int .i64 st4), (11, .slice a0' rows_0.length c0'), (12, .int .i64 st4)] (by kernel_rfl) ?_
    obtain ⟨x46, hx47, hm⟩ := bindE hm
    refine QL.st (.pointer (some (at_ a0' (Int.toNat st4 * 1)))) (ST.index (T := fStr.ty) (xs := rows_0) (Rd.below h0 hb6) hx47 rfl rfl rfl Try.underlying22 (info9).1 (info9).2.1) rfl rfl rfl ?_
    refine QL.st (.string (bs x46)) (ST.load (cell_ext (Rd.flat (F := fStr) (Rd.below h0 hb6) hx47 0 rfl)) rfl rfl Try.underlying9 rfl) rfl rfl rfl ?_
    refine QL.step1v 15 (.int .i64 (x46.length : Int)) rfl (fun _ => by kernel_rfl) ?_
    refine QL.step1v 16 (.slice a0' rows_0.length c0') rfl (fun _ => by kernel_rfl) ?_
    refine QL.subk [0, 3, 15, 16] [(0, .slice a0' rows_0.length c0'), (3, .int .i64 st4), (15, .int .i64 (x46.length : Int)), (16, .slice a0' rows_0.length c0')] (by kernel_rfl) ?_
    obtain ⟨x48, hx49, hm⟩ := bindE hm
    refine QL.st (.pointer (some (at_ a0' (Int.toNat 0 * 1)))) (ST.index (T := fStr.ty) (xs := rows_0) (Rd.below h0 hb6) hx49 rfl rfl rfl Try.underlying22 (info9).1 (info9).2.1) rfl rfl rfl ?_
    refine QL.st (.string (bs x48)) (ST.load (cell_ext (Rd.flat (F := fStr) (Rd.below h0 hb6) hx49 0 rfl)) rfl rfl Try.underlying9 rfl) rfl rfl rfl ?_
    refine QL.step1v 19 (.int .i64 (x48.length : Int)) rfl (fun _ => by kernel_rfl) ?_
    refine QL.step1v 20 (.bool ((x46.length : Int) != (x48.length : Int))) rfl (fun _ => by kernel_rfl) ?_
    refine QL.step1v 21 (.bool ((x46.length : Int) != (x48.length : Int))) rfl (fun _ => by kernel_rfl) ?_
    refine QL.subk [0, 3, 21] [(0, .slice a0' rows_0.length c0'), (3, .int .i64 st4), (21, .bool ((x46.length : Int) != (x48.length : Int)))] (by kernel_rfl) ?_
    refine QL.case ((x46.length : Int) != (x48.length : Int)) [21] ⟨rfl, trivial⟩ (fun hc50 => ?_) (fun hc50 => ?_)
    · have hm := iteT hm hc50
      refine QL.step1v 22 undef rfl (fun _ => by kernel_rfl) ?_
      refine QL.step1v 23 undef rfl (fun _ => by kernel_rfl) ?_
      refine QL.step1v 24 undef rfl (fun _ => by kernel_rfl) ?_
      refine QL.step1v 25 undef rfl (fun _ => by kernel_rfl) ?_
      refine QL.step1v 26 undef rfl (fun _ => by kernel_rfl) ?_
      refine QL.step1v 27 undef rfl (fun _ => by kernel_rfl) ?_
      refine QL.step1v 28 undef rfl (fun _ => by kernel_rfl) ?_
      refine QL.step1v 29 (.bool true) rfl (fun _ => by kernel_rfl) ?_
      refine QL.subk [0, 3, 29] [(0, .slice a0' rows_0.length c0'), (3, .int .i64 st4), (29, .bool true)] (by kernel_rfl) ?_
      refine QL.nil ?_
      intro w51 hE52
      have hb53 : Ext w w51 := Ext.trans hb6 hE52
      have hL54 : w.heap.size ≤ w51.heap.size := Nat.le_trans hL7 hE52.size
      have hS55 : SH w51 w.heap.size [] := SH.ext hS8 hE52
      obtain rfl := Option.some.inj hm
      exact WQ.post' ⟨rfl, hb53, hL54, hS55⟩ ⟨rfl, rfl, rfl, trivial⟩
    have hm := iteF hm hc50
    refine QL.step1v 22 (.slice a0' rows_0.length c0') rfl (fun _ => by kernel_rfl) ?_
    refine QL.step1v 23 (.int .i64 st4) rfl (fun _ => by kernel_rfl) ?_
    refine QL.subk [0, 3, 21, 22, 23] [(0, .slice a0' rows_0.length c0'), (3, .int .i64 st4), (21, .bool false), (22, .slice a0' rows_0.length c0'), (23, .int .i64 st4)] (by kernel_rfl) ?_
    obtain ⟨x56, hx57, hm⟩ := bindE hm
    refine QL.st (.pointer (some (at_ a0' (Int.toNat st4 * 1)))) (ST.index (T := fStr.ty) (xs := rows_0) (Rd.below h0 hb6) hx57 rfl rfl rfl Try.underlying22 (info9).1 (info9).2.1) rfl rfl rfl ?_
    refine QL.st (.string (bs x56)) (ST.load (cell_ext (Rd.flat (F := fStr) (Rd.below h0 hb6) hx57 0 rfl)) rfl rfl Try.underlying9 rfl) rfl rfl rfl ?_
    refine QL.step1v 26 (.int .i64 (x56.length : Int)) rfl (fun _ => by kernel_rfl) ?_
    refine QL.subk [0, 3, 21, 26] [(0, .slice a0' rows_0.length c0'), (3, .int .i64 st4), (21, .bool false), (26, .int .i64 (x56.length : Int))] (by kernel_rfl) ?_
    obtain ⟨x58, hx59, hm⟩ := bindE hm
    refine QL.call 71 #[.int .i64 (x56.length : Int), .int .i64 2, .int .i64 8] (.bool x58) (fun _ => by kernel_rfl) (fun w60 hE61 => c_71 n (x56.length : Int) 2 8 w60 hx59 ) rfl rfl rfl ?_
    refine QL.step1v 28 (.bool (!x58)) rfl (fun _ => by kernel_rfl) ?_
    refine QL.step1v 29 (.bool (!x58)) rfl (fun _ => by kernel_rfl) ?_
    refine QL.subk [0, 3, 29] [(0, .slice a0' rows_0.length c0'), (3, .int .i64 st4), (29, .bool (!x58))] (by kernel_rfl) ?_
    refine QL.nil ?_
    intro w62 hE63
    have hb64 : Ext w w62 := Ext.trans hb6 hE63
    have hL65 : w.heap.size ≤ w62.heap.size := Nat.le_trans hL7 hE63.size
    have hS66 : SH w62 w.heap.size [] := SH.ext hS8 hE63
    obtain rfl := Option.some.inj hm
    exact WQ.post' ⟨rfl, hb64, hL65, hS66⟩ ⟨rfl, rfl, rfl, trivial⟩
  clear hx45
  rintro _ w67 ⟨rfl, hb68, hL69, hS70⟩
  refine WQ.then_normal (hK22 _ _ _ ?_)
  refine WP.cond x44 rfl rfl (fun hc71 => ?_) (fun hc71 => ?_)
  · have hm := iteT hm hc71
    refine WP.seq (fun K72 hK72 => ?_)
    refine WP.region ?_
    refine WL.runk 1 [2] [(2, .bool false)] (by kernel_rfl) ?_
    refine WL.nil ?_
    refine WQ.then_normal (hK72 _ _ _ ?_)
    refine WP.ret ?_
    refine WQ.then_ret ?_
    refine WQ.block_ret ?_
    refine WQ.then_ret ?_
    refine WQ.then_ret ?_
    refine WQ.block_ret ?_
    refine WQ.then_ret ?_
    obtain rfl := Option.some.inj hm
    obtain rfl := afterN_done hl9
    have hm := hmo10
    obtain rfl := Option.some.inj hm
    exact WQ.ret1 _ rfl rfl ⟨rfl, hb68⟩
  have hm := iteF hm hc71
  refine WP.skip ?_
  refine WQ.then_normal (hK21 _ _ _ ?_)
  refine WP.seq (fun K73 hK73 => ?_)
  refine WP.region ?_
  refine WL.runk 1 [0, 3, 4] [(0, .slice a0' rows_0.length c0'), (3, .int .i64 st4), (4, .int .i64 0)] (by kernel_rfl) ?_
  refine WL.nil ?_
  refine WQ.then_normal (hK73 _ _ _ ?_)
  refine WP.block ?_
  obtain ⟨t85, ht86, hm⟩ := bindE hm
  have hmo80 := hm; clear hm
  refine WP.sub [(0, .slice a0' rows_0.length c0'), (3, .int .i64 st4), (4, .int .i64 0)] ⟨rfl, rfl, rfl, trivial⟩ ?_
  refine WP.loop (fun n' env' w' => ∃ (st74 : Int) , env' = [(0, .slice a0' rows_0.length c0'), (3, .int .i64 st4), (4, .int .i64 st74)] ∧ Ext w w' ∧ w.heap.size ≤ w'.heap.size ∧ SH w' w.heap.size [] ∧ loopN (m_spec_l20Ok_l2 n rows_0 st4) n' st74 = some t85) n ⟨0, rfl, hb68, hL69, hS70, ht86⟩ ?_
  rintro n82 _ w75 ⟨st74, rfl, hb76, hL77, hS78, hl79⟩ K81 hK81
  obtain ⟨n83, s84, rfl, hm, hl79⟩ := loopN_some hl79
  unfold m_spec_l20Ok_l2 at hm
  refine WP.seq (fun K87 hK87 => ?_)
  refine WP.seq (fun K88 hK88 => ?_)
  refine WP.region ?_
  refine WL.runk 3 [0, 3, 4, 30, 31, 32] [(0, .slice a0' rows_0.length c0'), (3, .int .i64 st4), (4, .int .i64 st74), (30, .int .i64 st74), (31, .slice a0' rows_0.length c0'), (32, .int .i64 st4)] (by kernel_rfl) ?_
  obtain ⟨x89, hx90, hm⟩ := bindE hm
  refine WL.st (.pointer (some (at_ a0' (Int.toNat st4 * 1)))) (ST.index (T := fStr.ty) (xs := rows_0) (Rd.below h0 hb76) hx90 rfl rfl rfl Try.underlying22 (info9).1 (info9).2.1) rfl rfl rfl ?_
  refine WL.st (.string (bs x89)) (ST.load (cell_ext (Rd.flat (F := fStr) (Rd.below h0 hb76) hx90 0 rfl)) rfl rfl Try.underlying9 rfl) rfl rfl rfl ?_
  refine WL.runk 2 [0, 3, 4, 36] [(0, .slice a0' rows_0.length c0'), (3, .int .i64 st4), (4, .int .i64 st74), (36, .bool (decide (st74 < (x89.length : Int))))] (by kernel_rfl) ?_
  refine WL.nil ?_
  refine WQ.then_normal (hK88 _ _ _ ?_)
  refine WP.cond (decide (st74 < (x89.length : Int))) rfl rfl (fun hc91 => ?_) (fun hc91 => ?_)
  rotate_left
  · have hm := iteF hm hc91
    refine WP.exit ?_
    refine WQ.then_exit ?_
    refine WQ.then_exit ?_
    refine WQ.block_here ?_
    obtain rfl := Option.some.inj hm
    obtain rfl := afterN_done hl79
    have hm := hmo80
    refine WQ.block_normal ?_
    refine WQ.then_normal (hK20 _ _ _ ?_)
    refine WP.region ?_
    refine WL.runk 3 [0, 3] [(0, .slice a0' rows_0.length c0'), (3, .int .i64 (wI64 (st4 + 1)))] (by kernel_rfl) ?_
    refine WL.nil ?_
    obtain rfl := Option.some.inj hm
    exact WQ.round hK11 ⟨(wI64 (st4 + 1)), rfl, hb76, hL77, hS78, hl9⟩ (Nat.lt_succ_self _) ⟨rfl, rfl, trivial⟩
  have hm := iteT hm hc91
  refine WP.skip ?_
  refine WQ.then_normal (hK87 _ _ _ ?_)
  refine WP.seq (fun K92 hK92 => ?_)
  refine WP.block ?_
  refine WP.seq (fun K93 hK93 => ?_)
  refine WP.region ?_
  refine WL.runk 2 [0, 3, 4, 39, 40] [(0, .slice a0' rows_0.length c0'), (3, .int .i64 st4), (4, .int .i64 st74), (39, .slice a0' rows_0.length c0'), (40, .int .i64 st4)] (by kernel_rfl) ?_
  obtain ⟨x94, hx95, hm⟩ := bindE hm
  refine WL.st (.pointer (some (at_ a0' (Int.toNat st4 * 1)))) (ST.index (T := fStr.ty) (xs := rows_0) (Rd.below h0 hb76) hx95 rfl rfl rfl Try.underlying22 (info9).1 (info9).2.1) rfl rfl rfl ?_
  refine WL.st (.string (bs x94)) (ST.load (cell_ext (Rd.flat (F := fStr) (Rd.below h0 hb76) hx95 0 rfl)) rfl rfl Try.underlying9 rfl) rfl rfl rfl ?_
  refine WL.runk 1 [0, 3, 4, 42, 43] [(0, .slice a0' rows_0.length c0'), (3, .int .i64 st4), (4, .int .i64 st74), (42, .string (bs x94)), (43, .int .i64 st74)] (by kernel_rfl) ?_
  obtain ⟨x96, hx97, hm⟩ := bindE hm
  refine WL.st (.int .u8 (x96.toNat : Int)) (ST.sindex hx97 rfl rfl rfl Try.underlying9) rfl rfl rfl ?_
  obtain ⟨x98, hx99, hm⟩ := bindE hm
  refine WL.call 76 #[.int .u8 (x96.toNat : Int)] rfl rfl (by kernel_rfl) (c_76 n (x96.toNat : Int) w75 hx99 ) ?_
  rintro _ w100 ⟨rfl, hE101⟩
  refine ⟨_, rfl, ?_⟩
  have hb103 : Ext w w100 := Ext.trans hb76 hE101
  have hL104 : w.heap.size ≤ w100.heap.size := Nat.le_trans hL77 hE101.size
  have hS105 : SH w100 w.heap.size [] := SH.ext hS78 hE101
  refine WL.runk 1 [0, 3, 4, 46] [(0, .slice a0' rows_0.length c0'), (3, .int .i64 st4), (4, .int .i64 st74), (46, .bool (!x98))] (by kernel_rfl) ?_
  refine WL.nil ?_
  refine WQ.then_normal (hK93 _ _ _ ?_)
  refine WP.cond (!x98) rfl rfl (fun hc106 => ?_) (fun hc106 => ?_)
  rotate_left
  · have hm := iteF hm hc106
    refine WP.skip ?_
    refine WQ.block_normal ?_
    refine WQ.then_normal (hK92 _ _ _ ?_)
    refine WP.region ?_
    refine WL.runk 3 [0, 3, 4] [(0, .slice a0' rows_0.length c0'), (3, .int .i64 st4), (4, .int .i64 (wI64 (st74 + 1)))] (by kernel_rfl) ?_
    refine WL.nil ?_
    obtain rfl := Option.some.inj hm
    exact WQ.round hK81 ⟨(wI64 (st74 + 1)), rfl, hb103, hL104, hS105, hl79⟩ (Nat.lt_succ_self _) ⟨rfl, rfl, rfl, trivial⟩
  have hm := iteT hm hc106
  refine WP.seq (fun K107 hK107 => ?_)
  refine WP.region ?_
  refine WL.runk 1 [2] [(2, .bool false)] (by kernel_rfl) ?_
  refine WL.nil ?_
  refine WQ.then_normal (hK107 _ _ _ ?_)
  refine WP.ret ?_
  refine WQ.block_ret ?_
  refine WQ.then_ret ?_
  refine WQ.then_ret ?_
  refine WQ.block_ret ?_
  refine WQ.block_ret ?_
  refine WQ.then_ret ?_
  refine WQ.then_ret ?_
  refine WQ.block_ret ?_
  refine WQ.then_ret ?_
  obtain rfl := Option.some.inj hm
  obtain rfl := afterN_done hl79
  have hm := hmo80
  obtain rfl := Option.some.inj hm
  obtain rfl := afterN_done hl9
  have hm := hmo10
  obtain rfl := Option.some.inj hm
  exact WQ.ret1 _ rfl rfl ⟨rfl, hb103⟩

theorem c_16 (n : Nat) (rows_0 : List (List UInt8)) (a0' : Option Addr) (c0' : Nat) (w : World) {r : Bool} (hm : m_spec_ValidWear n rows_0 = some r) (h0 : Rd fStr.ty w a0' rows_0) (hle0 : rows_0.length ≤ c0') :
    CallV Try.prog 16 #[.slice a0' rows_0.length c0'] w (fun v w' => v = .bool r ∧ Ext w w') := by
  unfold m_spec_ValidWear at hm
  refine CallV.enter Try.func16 rfl (by kernel_rfl) Try.ntmps16 (env := [(0, .slice a0' rows_0.length c0')]) ⟨rfl, trivial⟩ ?_
  refine WP.seq (fun K1 hK1 => ?_)
  refine WP.region ?_
  refine WL.runk 1 [0] [(0, .slice a0' rows_0.length c0')] (by kernel_rfl) ?_
  refine WL.nil ?_
  refine WQ.then_normal (hK1 _ _ _ ?_)
  refine WP.seq (fun K2 hK2 => ?_)
  refine WP.region ?_
  refine WL.runk 1 [3] [(3, .slice a0' rows_0.length c0')] (by kernel_rfl) ?_
  obtain ⟨x3, hx4, hm⟩ := bindE hm
  refine WL.call 49 #[.slice a0' rows_0.length c0'] rfl rfl (by kernel_rfl) (c_49 n rows_0 a0' c0' w hx4 (Rd.below h0 (Ext.refl w)) hle0) ?_
  rintro _ w5 ⟨rfl, hE6⟩
  refine ⟨_, rfl, ?_⟩
  have hb8 : Ext w w5 := Ext.trans (Ext.refl w) hE6
  have hL9 : w.heap.size ≤ w5.heap.size := Nat.le_trans (Nat.le_refl _) hE6.size
  have hS10 : SH w5 w.heap.size [] := SH.ext (SH.nil _ _) hE6
  refine WL.runk 1 [2] [(2, .bool x3)] (by kernel_rfl) ?_
  refine WL.nil ?_
  refine WQ.then_normal (hK2 _ _ _ ?_)
  refine WP.ret ?_
  obtain rfl := Option.some.inj hm
  exact WQ.ret1 _ rfl rfl ⟨rfl, hb8⟩

theorem c_50 (n : Nat) (n_0 : Int) (low_1 : Int) (high_2 : Int) (w : World) {r : Bool} (hm : m_impl_within n n_0 low_1 high_2 = some r)  :
    CallV Try.prog 50 #[.int .i64 n_0, .int .i64 low_1, .int .i64 high_2] w (fun v w' => v = .bool r ∧ Ext w w') := by
  unfold m_impl_within at hm
  refine CallV.enter Try.func50 rfl (by kernel_rfl) Try.ntmps50 (env := [(0, .int .i64 n_0), (1, .int .i64 low_1), (2, .int .i64 high_2)]) ⟨rfl, rfl, rfl, trivial⟩ ?_
  refine WP.seq (fun K1 hK1 => ?_)
  refine WP.region ?_
  refine WL.runk 1 [0, 1, 2] [(0, .int .i64 n_0), (1, .int .i64 low_1), (2, .int .i64 high_2)] (by kernel_rfl) ?_
  refine WL.nil ?_
  refine WQ.then_normal (hK1 _ _ _ ?_)
  refine WP.seq (fun K2 hK2 => ?_)
  obtain ⟨x4, hx5, hm⟩ := bindE hm
  refine WP.cut (fun env' w' => env' = [(6, .bool x4)] ∧ Ext w w' ∧ w.heap.size ≤ w'.heap.size ∧ SH w' w.heap.size []) ?_ ?_
  rotate_left
  · clear hx5
    rintro _ w7 ⟨rfl, hb8, hL9, hS10⟩
    refine WQ.then_normal (hK2 _ _ _ ?_)
    refine WP.ret ?_
    obtain rfl := Option.some.inj hm
    exact WQ.ret1 _ rfl rfl ⟨rfl, hb8⟩
  have hm := hx5; clear hx5
  refine WP.region ?_
  refine WL.runk 4 [0, 2, 10] [(0, .int .i64 n_0), (2, .int .i64 high_2), (10, .bool (decide (n_0 ≥ low_1)))] (by kernel_rfl) ?_
  refine WL.case (decide (n_0 ≥ low_1)) [10] ⟨rfl, trivial⟩ (fun hc6 => ?_) (fun hc6 => ?_)
  · have hm := iteT hm hc6
    refine WL.runk 5 [6] [(6, .bool (decide (n_0 ≤ high_2)))] (by kernel_rfl) ?_
    refine WL.nil ?_
    obtain rfl := Option.some.inj hm
    exact WQ.post' ⟨rfl, (Ext.refl w), (Nat.le_refl _), (SH.nil _ _)⟩ ⟨rfl, trivial⟩
  have hm := iteF hm hc6
  refine WL.runk 5 [6] [(6, .bool false)] (by kernel_rfl) ?_
  refine WL.nil ?_
  obtain rfl := Option.some.inj hm
  exact WQ.post' ⟨rfl, (Ext.refl w), (Nat.le_refl _), (SH.nil _ _)⟩ ⟨rfl, trivial⟩

theorem c_18 (n : Nat) (rows_0 : List (List UInt8)) (a0' : Option Addr) (c0' : Nat) (w : World) {r : Bool} (hm : m_impl_ValidWear n rows_0 = some r) (h0 : Rd fStr.ty w a0' rows_0) (_hle0 : rows_0.length ≤ c0') :
    CallV Try.prog 18 #[.slice a0' rows_0.length c0'] w (fun v w' => v = .bool r ∧ Ext w w') := by
  unfold m_impl_ValidWear at hm
  refine CallV.enter Try.func18 rfl (by kernel_rfl) Try.ntmps18 (env := [(0, .slice a0' rows_0.length c0')]) ⟨rfl, trivial⟩ ?_
  refine WP.seq (fun K1 hK1 => ?_)
  refine WP.region ?_
  refine WL.runk 1 [0] [(0, .slice a0' rows_0.length c0')] (by kernel_rfl) ?_
  refine WL.nil ?_
  refine WQ.then_normal (hK1 _ _ _ ?_)
  refine WP.seq (fun K2 hK2 => ?_)
  refine WP.seq (fun K3 hK3 => ?_)
  obtain ⟨x23, hx24, hm⟩ := bindE hm
  refine WP.cut (fun env' w' => env' = [(0, .slice a0' rows_0.length c0'), (17, .bool x23)] ∧ Ext w w' ∧ w.heap.size ≤ w'.heap.size ∧ SH w' w.heap.size []) ?_ ?_
  · have hm := hx24; clear hx24
    refine WP.region ?_
    refine WL.runk 2 [0, 7] [(0, .slice a0' rows_0.length c0'), (7, .int .i64 (rows_0.length : Int))] (by kernel_rfl) ?_
    obtain ⟨x25, hx26, hm⟩ := bindE hm
    refine WL.call 50 #[.int .i64 (rows_0.length : Int), .int .i64 2, .int .i64 12] rfl rfl (by kernel_rfl) (c_50 n (rows_0.length : Int) 2 12 w hx26 ) ?_
    rintro _ w27 ⟨rfl, hE28⟩
    refine ⟨_, rfl, ?_⟩
    have hb30 : Ext w w27 := Ext.trans (Ext.refl w) hE28
    have hL31 : w.heap.size ≤ w27.heap.size := Nat.le_trans (Nat.le_refl _) hE28.size
    have hS32 : SH w27 w.heap.size [] := SH.ext (SH.nil _ _) hE28
    refine WL.runk 2 [0, 10] [(0, .slice a0' rows_0.length c0'), (10, .bool (!x25))] (by kernel_rfl) ?_
    refine WL.case (!x25) [10] ⟨rfl, trivial⟩ (fun hc33 => ?_) (fun hc33 => ?_)
    · have hm := iteT hm hc33
      refine WL.runk 7 [0, 17] [(0, .slice a0' rows_0.length c0'), (17, .bool true)] (by kernel_rfl) ?_
      refine WL.nil ?_
      obtain rfl := Option.some.inj hm
      exact WQ.post' ⟨rfl, hb30, hL31, hS32⟩ ⟨rfl, rfl, trivial⟩
    have hm := iteF hm hc33
    refine WL.runk 1 [0, 10, 11] [(0, .slice a0' rows_0.length c0'), (10, .bool false), (11, .slice a0' rows_0.length c0')] (by kernel_rfl) ?_
    obtain ⟨x34, hx35, hm⟩ := bindE hm
    refine WL.st (.pointer (some (at_ a0' (Int.toNat 0 * 1)))) (ST.index (T := fStr.ty) (xs := rows_0) (Rd.below h0 hb30) hx35 rfl rfl rfl Try.underlying22 (info9).1 (info9).2.1) rfl rfl rfl ?_
    refine WL.st (.string (bs x34)) (ST.load (cell_ext (Rd.flat (F := fStr) (Rd.below h0 hb30) hx35 0 rfl)) rfl rfl Try.underlying9 rfl) rfl rfl rfl ?_
    refine WL.runk 1 [0, 10, 14] [(0, .slice a0' rows_0.length c0'), (10, .bool false), (14, .int .i64 (x34.length : Int))] (by kernel_rfl) ?_
    obtain ⟨x36, hx37, hm⟩ := bindE hm
    refine WL.call 50 #[.int .i64 (x34.length : Int), .int .i64 2, .int .i64 8] rfl rfl (by kernel_rfl) (c_50 n (x34.length : Int) 2 8 w27 hx37 ) ?_
    rintro _ w38 ⟨rfl, hE39⟩
    refine ⟨_, rfl, ?_⟩
    have hb41 : Ext w w38 := Ext.trans hb30 hE39
    have hL42 : w.heap.size ≤ w38.heap.size := Nat.le_trans hL31 hE39.size
    have hS43 : SH w38 w.heap.size [] := SH.ext hS32 hE39
    refine WL.runk 2 [0, 17] [(0, .slice a0' rows_0.length c0'), (17, .bool (!x36))] (by kernel_rfl) ?_
    refine WL.nil ?_
    obtain rfl := Option.some.inj hm
    exact WQ.post' ⟨rfl, hb41, hL42, hS43⟩ ⟨rfl, rfl, trivial⟩
  clear hx24
  rintro _ w44 ⟨rfl, hb45, hL46, hS47⟩
  refine WQ.then_normal (hK3 _ _ _ ?_)
  refine WP.cond x23 rfl rfl (fun hc48 => ?_) (fun hc48 => ?_)
  · have hm := iteT hm hc48
    refine WP.seq (fun K49 hK49 => ?_)
    refine WP.region ?_
    refine WL.runk 1 [2] [(2, .bool false)] (by kernel_rfl) ?_
    refine WL.nil ?_
    refine WQ.then_normal (hK49 _ _ _ ?_)
    refine WP.ret ?_
    refine WQ.then_ret ?_
    obtain rfl := Option.some.inj hm
    exact WQ.ret1 _ rfl rfl ⟨rfl, hb45⟩
  have hm := iteF hm hc48
  refine WP.skip ?_
  refine WQ.then_normal (hK2 _ _ _ ?_)
  refine WP.seq (fun K50 hK50 => ?_)
  refine WP.seq (fun K51 hK51 => ?_)
  refine WP.region ?_
  refine WL.runk 3 [0, 18, 19, 20] [(0, .slice a0' rows_0.length c0'), (18, .slice a0' rows_0.length c0'), (19, .int .i64 (rows_0.length : Int)), (20, .int .i64 0)] (by kernel_rfl) ?_
  refine WL.nil ?_
  refine WQ.then_normal (hK51 _ _ _ ?_)
  refine WP.block ?_
  obtain ⟨t63, ht64, hm⟩ := bindE hm
  have hmo58 := hm; clear hm
  refine WP.sub [(0, .slice a0' rows_0.length c0'), (18, .slice a0' rows_0.length c0'), (19, .int .i64 (rows_0.length : Int)), (20, .int .i64 0)] ⟨rfl, rfl, rfl, rfl, trivial⟩ ?_
  refine WP.loop (fun n' env' w' => ∃ (st52 : Int) , env' = [(0, .slice a0' rows_0.length c0'), (18, .slice a0' rows_0.length c0'), (19, .int .i64 (rows_0.length : Int)), (20, .int .i64 st52)] ∧ Ext w w' ∧ w.heap.size ≤ w'.heap.size ∧ SH w' w.heap.size [] ∧ loopN (m_impl_ValidWear_l1 n rows_0) n' st52 = some t63) n ⟨0, rfl, hb45, hL46, hS47, ht64⟩ ?_
  rintro n60 _ w53 ⟨st52, rfl, hb54, hL55, hS56, hl57⟩ K59 hK59
  obtain ⟨n61, s62, rfl, hm, hl57⟩ := loopN_some hl57
  unfold m_impl_ValidWear_l1 at hm
  refine WP.seq (fun K65 hK65 => ?_)
  refine WP.region ?_
  refine WL.runk 1 [0, 18, 19, 20, 21] [(0, .slice a0' rows_0.length c0'), (18, .slice a0' rows_0.length c0'), (19, .int .i64 (rows_0.length : Int)), (20, .int .i64 st52), (21, .bool (decide (st52 < (rows_0.length : Int))))] (by kernel_rfl) ?_
  refine WL.nil ?_
  refine WQ.then_normal (hK65 _ _ _ ?_)
  refine WP.seq (fun K66 hK66 => ?_)
  refine WP.cond (decide (st52 < (rows_0.length : Int))) rfl rfl (fun hc67 => ?_) (fun hc67 => ?_)
  rotate_left
  · have hm := iteF hm hc67
    refine WP.exit ?_
    refine WQ.then_exit ?_
    refine WQ.then_exit ?_
    refine WQ.block_here ?_
    obtain rfl := Option.some.inj hm
    obtain rfl := afterN_done hl57
    have hm := hmo58
    refine WQ.then_normal (hK50 _ _ _ ?_)
    refine WP.seq (fun K117 hK117 => ?_)
    refine WP.region ?_
    refine WL.runk 1 [2] [(2, .bool true)] (by kernel_rfl) ?_
    refine WL.nil ?_
    refine WQ.then_normal (hK117 _ _ _ ?_)
    refine WP.ret ?_
    obtain rfl := Option.some.inj hm
    exact WQ.ret1 _ rfl rfl ⟨rfl, hb54⟩
  have hm := iteT hm hc67
  refine WP.skip ?_
  refine WQ.then_normal (hK66 _ _ _ ?_)
  refine WP.seq (fun K68 hK68 => ?_)
  refine WP.block ?_
  refine WP.seq (fun K69 hK69 => ?_)
  refine WP.region ?_
  obtain ⟨x70, hx71, hm⟩ := bindE hm
  refine WL.st (.pointer (some (at_ a0' (Int.toNat st52 * 1)))) (ST.index (T := fStr.ty) (xs := rows_0) (Rd.below h0 hb54) hx71 rfl rfl rfl Try.underlying22 (info9).1 (info9).2.1) rfl rfl rfl ?_
  refine WL.st (.string (bs x70)) (ST.load (cell_ext (Rd.flat (F := fStr) (Rd.below h0 hb54) hx71 0 rfl)) rfl rfl Try.underlying9 rfl) rfl rfl rfl ?_
  refine WL.runk 1 [0, 4, 18, 19, 20] [(0, .slice a0' rows_0.length c0'), (18, .slice a0' rows_0.length c0'), (19, .int .i64 (rows_0.length : Int)), (20, .int .i64 st52), (4, .string (bs x70))] (by kernel_rfl) ?_
  refine WL.nil ?_
  refine WQ.then_normal (hK69 _ _ _ ?_)
  refine WP.seq (fun K72 hK72 => ?_)
  refine WP.seq (fun K73 hK73 => ?_)
  refine WP.region ?_
  refine WL.runk 3 [0, 4, 18, 19, 20, 25, 26] [(0, .slice a0' rows_0.length c0'), (18, .slice a0' rows_0.length c0'), (19, .int .i64 (rows_0.length : Int)), (20, .int .i64 st52), (4, .string (bs x70)), (25, .int .i64 (x70.length : Int)), (26, .slice a0' rows_0.length c0')] (by kernel_rfl) ?_
  obtain ⟨x74, hx75, hm⟩ := bindE hm
  refine WL.st (.pointer (some (at_ a0' (Int.toNat 0 * 1)))) (ST.index (T := fStr.ty) (xs := rows_0) (Rd.below h0 hb54) hx75 rfl rfl rfl Try.underlying22 (info9).1 (info9).2.1) rfl rfl rfl ?_
  refine WL.st (.string (bs x74)) (ST.load (cell_ext (Rd.flat (F := fStr) (Rd.below h0 hb54) hx75 0 rfl)) rfl rfl Try.underlying9 rfl) rfl rfl rfl ?_
  refine WL.runk 2 [0, 4, 18, 19, 20, 30] [(0, .slice a0' rows_0.length c0'), (18, .slice a0' rows_0.length c0'), (19, .int .i64 (rows_0.length : Int)), (20, .int .i64 st52), (4, .string (bs x70)), (30, .bool ((x70.length : Int) != (x74.length : Int)))] (by kernel_rfl) ?_
  refine WL.nil ?_
  refine WQ.then_normal (hK73 _ _ _ ?_)
  refine WP.cond ((x70.length : Int) != (x74.length : Int)) rfl rfl (fun hc76 => ?_) (fun hc76 => ?_)
  · have hm := iteT hm hc76
    refine WP.seq (fun K77 hK77 => ?_)
    refine WP.region ?_
    refine WL.runk 1 [2] [(2, .bool false)] (by kernel_rfl) ?_
    refine WL.nil ?_
    refine WQ.then_normal (hK77 _ _ _ ?_)
    refine WP.ret ?_
    refine WQ.then_ret ?_
    refine WQ.block_ret ?_
    refine WQ.then_ret ?_
    refine WQ.then_ret ?_
    refine WQ.block_ret ?_
    refine WQ.then_ret ?_
    obtain rfl := Option.some.inj hm
    obtain rfl := afterN_done hl57
    have hm := hmo58
    obtain rfl := Option.some.inj hm
    exact WQ.ret1 _ rfl rfl ⟨rfl, hb54⟩
  have hm := iteF hm hc76
  refine WP.skip ?_
  refine WQ.then_normal (hK72 _ _ _ ?_)
  refine WP.seq (fun K78 hK78 => ?_)
  refine WP.region ?_
  refine WL.runk 3 [0, 4, 18, 19, 20, 32, 33] [(0, .slice a0' rows_0.length c0'), (18, .slice a0' rows_0.length c0'), (19, .int .i64 (rows_0.length : Int)), (20, .int .i64 st52), (4, .string (bs x70)), (32, .int .i64 (x70.length : Int)), (33, .int .i64 0)] (by kernel_rfl) ?_
  refine WL.nil ?_
  refine WQ.then_normal (hK78 _ _ _ ?_)
  refine WP.block ?_
  obtain ⟨t90, ht91, hm⟩ := bindE hm
  have hmo85 := hm; clear hm
  refine WP.sub [(0, .slice a0' rows_0.length c0'), (18, .slice a0' rows_0.length c0'), (19, .int .i64 (rows_0.length : Int)), (20, .int .i64 st52), (4, .string (bs x70)), (32, .int .i64 (x70.length : Int)), (33, .int .i64 0)] ⟨rfl, rfl, rfl, rfl, rfl, rfl, rfl, trivial⟩ ?_
  refine WP.loop (fun n' env' w' => ∃ (st79 : Int) , env' = [(0, .slice a0' rows_0.length c0'), (18, .slice a0' rows_0.length c0'), (19, .int .i64 (rows_0.length : Int)), (20, .int .i64 st52), (4, .string (bs x70)), (32, .int .i64 (x70.length : Int)), (33, .int .i64 st79)] ∧ Ext w w' ∧ w.heap.size ≤ w'.heap.size ∧ SH w' w.heap.size [] ∧ loopN (m_impl_ValidWear_l2 n x70) n' st79 = some t90) n ⟨0, rfl, hb54, hL55, hS56, ht91⟩ ?_
  rintro n87 _ w80 ⟨st79, rfl, hb81, hL82, hS83, hl84⟩ K86 hK86
  obtain ⟨n88, s89, rfl, hm, hl84⟩ := loopN_some hl84
  unfold m_impl_ValidWear_l2 at hm
  refine WP.seq (fun K92 hK92 => ?_)
  refine WP.region ?_
  refine WL.runk 1 [0, 4, 18, 19, 20, 32, 33, 34] [(0, .slice a0' rows_0.length c0'), (18, .slice a0' rows_0.length c0'), (19, .int .i64 (rows_0.length : Int)), (20, .int .i64 st52), (4, .string (bs x70)), (32, .int .i64 (x70.length : Int)), (33, .int .i64 st79), (34, .bool (decide (st79 < (x70.length : Int))))] (by kernel_rfl) ?_
  refine WL.nil ?_
  refine WQ.then_normal (hK92 _ _ _ ?_)
  refine WP.seq (fun K93 hK93 => ?_)
  refine WP.cond (decide (st79 < (x70.length : Int))) rfl rfl (fun hc94 => ?_) (fun hc94 => ?_)
  rotate_left
  · have hm := iteF hm hc94
    refine WP.exit ?_
    refine WQ.then_exit ?_
    refine WQ.then_exit ?_
    refine WQ.block_here ?_
    obtain rfl := Option.some.inj hm
    obtain rfl := afterN_done hl84
    have hm := hmo85
    refine WQ.block_normal ?_
    refine WQ.then_normal (hK68 _ _ _ ?_)
    refine WP.region ?_
    refine WL.runk 2 [0, 18, 19, 20] [(0, .slice a0' rows_0.length c0'), (18, .slice a0' rows_0.length c0'), (19, .int .i64 (rows_0.length : Int)), (20, .int .i64 (wI64 (st52 + 1)))] (by kernel_rfl) ?_
    refine WL.nil ?_
    obtain rfl := Option.some.inj hm
    exact WQ.round hK59 ⟨(wI64 (st52 + 1)), rfl, hb81, hL82, hS83, hl57⟩ (Nat.lt_succ_self _) ⟨rfl, rfl, rfl, rfl, trivial⟩
  have hm := iteT hm hc94
  refine WP.skip ?_
  refine WQ.then_normal (hK93 _ _ _ ?_)
  refine WP.seq (fun K95 hK95 => ?_)
  refine WP.block ?_
  refine WP.seq (fun K96 hK96 => ?_)
  refine WP.region ?_
  refine WL.runk 2 [0, 4, 5, 18, 19, 20, 32, 33] [(0, .slice a0' rows_0.length c0'), (18, .slice a0' rows_0.length c0'), (19, .int .i64 (rows_0.length : Int)), (20, .int .i64 st52), (4, .string (bs x70)), (32, .int .i64 (x70.length : Int)), (33, .int .i64 st79), (5, .int .i64 st79)] (by kernel_rfl) ?_
  refine WL.nil ?_
  refine WQ.then_normal (hK96 _ _ _ ?_)
  refine WP.seq (fun K97 hK97 => ?_)
  obtain ⟨x103, hx104, hm⟩ := bindE hm
  refine WP.cut (fun env' w' => env' = [(0, .slice a0' rows_0.length c0'), (18, .slice a0' rows_0.length c0'), (19, .int .i64 (rows_0.length : Int)), (20, .int .i64 st52), (4, .string (bs x70)), (32, .int .i64 (x70.length : Int)), (33, .int .i64 st79), (45, .bool x103)] ∧ Ext w w' ∧ w.heap.size ≤ w'.heap.size ∧ SH w' w.heap.size []) ?_ ?_
  · have hm := hx104; clear hx104
    refine WP.region ?_
    refine WL.runk 2 [0, 4, 5, 18, 19, 20, 32, 33, 36, 37] [(0, .slice a0' rows_0.length c0'), (18, .slice a0' rows_0.length c0'), (19, .int .i64 (rows_0.length : Int)), (20, .int .i64 st52), (4, .string (bs x70)), (32, .int .i64 (x70.length : Int)), (33, .int .i64 st79), (5, .int .i64 st79), (36, .string (bs x70)), (37, .int .i64 st79)] (by kernel_rfl) ?_
    obtain ⟨x105, hx106, hm⟩ := bindE hm
    refine WL.st (.int .u8 (x105.toNat : Int)) (ST.sindex hx106 rfl rfl rfl Try.underlying9) rfl rfl rfl ?_
    refine WL.runk 2 [0, 4, 5, 18, 19, 20, 32, 33, 40] [(0, .slice a0' rows_0.length c0'), (18, .slice a0' rows_0.length c0'), (19, .int .i64 (rows_0.length : Int)), (20, .int .i64 st52), (4, .string (bs x70)), (32, .int .i64 (x70.length : Int)), (33, .int .i64 st79), (5, .int .i64 st79), (40, .bool (decide ((x105.toNat : Int) < 48)))] (by kernel_rfl) ?_
    refine WL.case (decide ((x105.toNat : Int) < 48)) [40] ⟨rfl, trivial⟩ (fun hc107 => ?_) (fun hc107 => ?_)
    · have hm := iteT hm hc107
      refine WL.runk 5 [0, 4, 18, 19, 20, 32, 33, 45] [(0, .slice a0' rows_0.length c0'), (18, .slice a0' rows_0.length c0'), (19, .int .i64 (rows_0.length : Int)), (20, .int .i64 st52), (4, .string (bs x70)), (32, .int .i64 (x70.length : Int)), (33, .int .i64 st79), (45, .bool true)] (by kernel_rfl) ?_
      refine WL.nil ?_
      obtain rfl := Option.some.inj hm
      exact WQ.post' ⟨rfl, hb81, hL82, hS83⟩ ⟨rfl, rfl, rfl, rfl, rfl, rfl, rfl, rfl, trivial⟩
    have hm := iteF hm hc107
    refine WL.runk 2 [0, 4, 18, 19, 20, 32, 33, 40, 41, 42] [(0, .slice a0' rows_0.length c0'), (18, .slice a0' rows_0.length c0'), (19, .int .i64 (rows_0.length : Int)), (20, .int .i64 st52), (4, .string (bs x70)), (32, .int .i64 (x70.length : Int)), (33, .int .i64 st79), (40, .bool false), (41, .string (bs x70)), (42, .int .i64 st79)] (by kernel_rfl) ?_
    obtain ⟨x108, hx109, hm⟩ := bindE hm
    refine WL.st (.int .u8 (x108.toNat : Int)) (ST.sindex hx109 rfl rfl rfl Try.underlying9) rfl rfl rfl ?_
    refine WL.runk 2 [0, 4, 18, 19, 20, 32, 33, 45] [(0, .slice a0' rows_0.length c0'), (18, .slice a0' rows_0.length c0'), (19, .int .i64 (rows_0.length : Int)), (20, .int .i64 st52), (4, .string (bs x70)), (32, .int .i64 (x70.length : Int)), (33, .int .i64 st79), (45, .bool (decide ((x108.toNat : Int) > 57)))] (by kernel_rfl) ?_
    refine WL.nil ?_
    obtain rfl := Option.some.inj hm
    exact WQ.post' ⟨rfl, hb81, hL82, hS83⟩ ⟨rfl, rfl, rfl, rfl, rfl, rfl, rfl, rfl, trivial⟩
  clear hx104
  rintro _ w110 ⟨rfl, hb111, hL112, hS113⟩
  refine WQ.then_normal (hK97 _ _ _ ?_)
  refine WP.cond x103 rfl rfl (fun hc114 => ?_) (fun hc114 => ?_)
  rotate_left
  · have hm := iteF hm hc114
    refine WP.skip ?_
    refine WQ.block_normal ?_
    refine WQ.then_normal (hK95 _ _ _ ?_)
    refine WP.region ?_
    refine WL.runk 2 [0, 4, 18, 19, 20, 32, 33] [(0, .slice a0' rows_0.length c0'), (18, .slice a0' rows_0.length c0'), (19, .int .i64 (rows_0.length : Int)), (20, .int .i64 st52), (4, .string (bs x70)), (32, .int .i64 (x70.length : Int)), (33, .int .i64 (wI64 (st79 + 1)))] (by kernel_rfl) ?_
    refine WL.nil ?_
    obtain rfl := Option.some.inj hm
    exact WQ.round hK86 ⟨(wI64 (st79 + 1)), rfl, hb111, hL112, hS113, hl84⟩ (Nat.lt_succ_self _) ⟨rfl, rfl, rfl, rfl, rfl, rfl, rfl, trivial⟩
  have hm := iteT hm hc114
  refine WP.seq (fun K115 hK115 => ?_)
  refine WP.region ?_
  refine WL.runk 1 [2] [(2, .bool false)] (by kernel_rfl) ?_
  refine WL.nil ?_
  refine WQ.then_normal (hK115 _ _ _ ?_)
  refine WP.ret ?_
  refine WQ.block_ret ?_
  refine WQ.then_ret ?_
  refine WQ.then_ret ?_
  refine WQ.block_ret ?_
  refine WQ.block_ret ?_
  refine WQ.then_ret ?_
  refine WQ.then_ret ?_
  refine WQ.block_ret ?_
  refine WQ.then_ret ?_
  obtain rfl := Option.some.inj hm
  obtain rfl := afterN_done hl84
  have hm := hmo85
  obtain rfl := Option.some.inj hm
  obtain rfl := afterN_done hl57
  have hm := hmo58
  obtain rfl := Option.some.inj hm
  exact WQ.ret1 _ rfl rfl ⟨rfl, hb111⟩

theorem c_53 (n : Nat) (rows_0 : List (List UInt8)) (a0' : Option Addr) (c0' : Nat) (least_1 : Int) (w : World) {r : Int} (hm : m_impl_wearCode n rows_0 least_1 = some r) (h0 : Rd fStr.ty w a0' rows_0) (hle0 : rows_0.length ≤ c0') :
    CallV Try.prog 53 #[.slice a0' rows_0.length c0', .int .i64 least_1] w (fun v w' => v = .int .i64 r ∧ Ext w w') := by
  unfold m_impl_wearCode at hm
  refine CallV.enter Try.func53 rfl (by kernel_rfl) Try.ntmps53 (env := [(0, .slice a0' rows_0.length c0'), (1, .int .i64 least_1)]) ⟨rfl, rfl, trivial⟩ ?_
  refine WP.seq (fun K1 hK1 => ?_)
  refine WP.region ?_
  refine WL.runk 1 [0, 1] [(0, .slice a0' rows_0.length c0'), (1, .int .i64 least_1)] (by kernel_rfl) ?_
  refine WL.nil ?_
  refine WQ.then_normal (hK1 _ _ _ ?_)
  refine WP.seq (fun K2 hK2 => ?_)
  refine WP.block ?_
  refine WP.seq (fun K3 hK3 => ?_)
  refine WP.region ?_
  refine WL.runk 1 [1, 6] [(1, .int .i64 least_1), (6, .slice a0' rows_0.length c0')] (by kernel_rfl) ?_
  obtain ⟨x4, hx5, hm⟩ := bindE hm
  refine WL.call 18 #[.slice a0' rows_0.length c0'] rfl rfl (by kernel_rfl) (c_18 n rows_0 a0' c0' w hx5 (Rd.below h0 (Ext.refl w)) hle0) ?_
  rintro _ w6 ⟨rfl, hE7⟩
  refine ⟨_, rfl, ?_⟩
  have hb9 : Ext w w6 := Ext.trans (Ext.refl w) hE7
  have hL10 : w.heap.size ≤ w6.heap.size := Nat.le_trans (Nat.le_refl _) hE7.size
  have hS11 : SH w6 w.heap.size [] := SH.ext (SH.nil _ _) hE7
  refine WL.runk 2 [1, 5] [(1, .int .i64 least_1), (5, .bool (!x4))] (by kernel_rfl) ?_
  refine WL.nil ?_
  refine WQ.then_normal (hK3 _ _ _ ?_)
  refine WP.cond (!x4) rfl rfl (fun hc12 => ?_) (fun hc12 => ?_)
  · have hm := iteT hm hc12
    refine WP.seq (fun K13 hK13 => ?_)
    refine WP.region ?_
    refine WL.runk 1 [4] [(4, .int .i64 1)] (by kernel_rfl) ?_
    refine WL.nil ?_
    refine WQ.then_normal (hK13 _ _ _ ?_)
    refine WP.ret ?_
    refine WQ.block_ret ?_
    refine WQ.then_ret ?_
    obtain rfl := Option.some.inj hm
    exact WQ.ret1 _ rfl rfl ⟨rfl, hb9⟩
  have hm := iteF hm hc12
  refine WP.seq (fun K14 hK14 => ?_)
  refine WP.region ?_
  refine WL.runk 1 [10] [(10, .int .i64 least_1)] (by kernel_rfl) ?_
  obtain ⟨x15, hx16, hm⟩ := bindE hm
  refine WL.call 50 #[.int .i64 least_1, .int .i64 1, .int .i64 9] rfl rfl (by kernel_rfl) (c_50 n least_1 1 9 w6 hx16 ) ?_
  rintro _ w17 ⟨rfl, hE18⟩
  refine ⟨_, rfl, ?_⟩
  have hb20 : Ext w w17 := Ext.trans hb9 hE18
  have hL21 : w.heap.size ≤ w17.heap.size := Nat.le_trans hL10 hE18.size
  have hS22 : SH w17 w.heap.size [] := SH.ext hS11 hE18
  refine WL.runk 2 [9] [(9, .bool (!x15))] (by kernel_rfl) ?_
  refine WL.nil ?_
  refine WQ.then_normal (hK14 _ _ _ ?_)
  refine WP.cond (!x15) rfl rfl (fun hc23 => ?_) (fun hc23 => ?_)
  · have hm := iteT hm hc23
    refine WP.seq (fun K24 hK24 => ?_)
    refine WP.region ?_
    refine WL.runk 1 [4] [(4, .int .i64 2)] (by kernel_rfl) ?_
    refine WL.nil ?_
    refine WQ.then_normal (hK24 _ _ _ ?_)
    refine WP.ret ?_
    refine WQ.block_ret ?_
    refine WQ.then_ret ?_
    obtain rfl := Option.some.inj hm
    exact WQ.ret1 _ rfl rfl ⟨rfl, hb20⟩
  have hm := iteF hm hc23
  refine WP.skip ?_
  refine WQ.block_normal ?_
  refine WQ.then_normal (hK2 _ _ _ ?_)
  refine WP.seq (fun K25 hK25 => ?_)
  refine WP.region ?_
  refine WL.runk 1 [4] [(4, .int .i64 0)] (by kernel_rfl) ?_
  refine WL.nil ?_
  refine WQ.then_normal (hK25 _ _ _ ?_)
  refine WP.ret ?_
  obtain rfl := Option.some.inj hm
  exact WQ.ret1 _ rfl rfl ⟨rfl, hb20⟩

theorem c_54 (n : Nat) (rows_0 : List (List UInt8)) (a0' : Option Addr) (c0' : Nat) (w : World) {r : List Int} (hm : m_impl_digits n rows_0 = some r) (h0 : Rd fStr.ty w a0' rows_0) (_hle0 : rows_0.length ≤ c0') :
    CallV Try.prog 54 #[.slice a0' rows_0.length c0'] w (fun v w' => ∃ (ra0 : Option Addr) (rc0 : Nat), v = .slice ra0 r.length rc0 ∧ Ext w w' ∧ SH w' w.heap.size [aOwn fInt 2 ra0 rc0 r]) := by
  unfold m_impl_digits at hm
  refine CallV.enter Try.func54 rfl (by kernel_rfl) Try.ntmps54 (env := [(0, .slice a0' rows_0.length c0')]) ⟨rfl, trivial⟩ ?_
  refine WP.seq (fun K1 hK1 => ?_)
  refine WP.region ?_
  refine WL.runk 1 [0] [(0, .slice a0' rows_0.length c0')] (by kernel_rfl) ?_
  refine WL.nil ?_
  refine WQ.then_normal (hK1 _ _ _ ?_)
  refine WP.seq (fun K2 hK2 => ?_)
  refine WP.region ?_
  refine WL.row fInt 2 ([] : List Int) 0 #[] 7 (by kernel_rfl) rfl rfl rfl rfl rfl rfl rfl ?_
  intro a3 c4 w5 hE6 hR7
  have hb9 : Ext w w5 := Ext.trans (Ext.refl w) hE6
  have hL10 : w.heap.size ≤ w5.heap.size := Nat.le_trans (Nat.le_refl _) hE6.size
  have hS11 : SH w5 w.heap.size [aOwn fInt 2 a3 c4 ([] : List Int)] := SH.add (SH.nil _ _) hE6 (Nat.le_refl _) hR7
  refine WL.runk 1 [0, 3] [(0, .slice a0' rows_0.length c0'), (3, .slice a3 (([] : List Int).length) c4)] (by kernel_rfl) ?_
  refine WL.nil ?_
  refine WQ.then_normal (hK2 _ _ _ ?_)
  refine WP.seq (fun K12 hK12 => ?_)
  refine WP.seq (fun K13 hK13 => ?_)
  refine WP.region ?_
  refine WL.runk 3 [3, 8, 9, 10] [(3, .slice a3 (([] : List Int).length) c4), (8, .slice a0' rows_0.length c0'), (9, .int .i64 (rows_0.length : Int)), (10, .int .i64 0)] (by kernel_rfl) ?_
  refine WL.nil ?_
  refine WQ.then_normal (hK13 _ _ _ ?_)
  refine WP.block ?_
  obtain ⟨t28, ht29, hm⟩ := bindE hm
  have hmo23 := hm; clear hm
  refine WP.sub [(3, .slice a3 (([] : List Int).length) c4), (8, .slice a0' rows_0.length c0'), (9, .int .i64 (rows_0.length : Int)), (10, .int .i64 0)] ⟨rfl, rfl, rfl, rfl, trivial⟩ ?_
  refine WP.loop (fun n' env' w' => ∃ (st14 : List Int × Int) (a15 : Option Addr) (c16 : Nat), env' = [(3, .slice a15 st14.1.length c16), (8, .slice a0' rows_0.length c0'), (9, .int .i64 (rows_0.length : Int)), (10, .int .i64 st14.2)] ∧ Ext w w' ∧ w.heap.size ≤ w'.heap.size ∧ SH w' w.heap.size [aOwn fInt 2 a15 c16 st14.1] ∧ loopN (m_impl_digits_l1 n rows_0) n' st14 = some t28) n ⟨(([] : List Int), 0), _, _, rfl, hb9, hL10, hS11, ht29⟩ ?_
  rintro n25 _ w18 ⟨st14, a15, c16, rfl, hb19, hL20, hS21, hl22⟩ K24 hK24
  obtain ⟨n26, s27, rfl, hm, hl22⟩ := loopN_some hl22
  unfold m_impl_digits_l1 at hm
  refine WP.seq (fun K30 hK30 => ?_)
  refine WP.region ?_
  refine WL.runk 1 [3, 8, 9, 10, 11] [(3, .slice a15 st14.1.length c16), (8, .slice a0' rows_0.length c0'), (9, .int .i64 (rows_0.length : Int)), (10, .int .i64 st14.2), (11, .bool (decide (st14.2 < (rows_0.length : Int))))] (by kernel_rfl) ?_
  refine WL.nil ?_
  refine WQ.then_normal (hK30 _ _ _ ?_)
  refine WP.seq (fun K31 hK31 => ?_)
  refine WP.cond (decide (st14.2 < (rows_0.length : Int))) rfl rfl (fun hc32 => ?_) (fun hc32 => ?_)
  rotate_left
  · have hm := iteF hm hc32
    refine WP.exit ?_
    refine WQ.then_exit ?_
    refine WQ.then_exit ?_
    refine WQ.block_here ?_
    obtain rfl := Option.some.inj hm
    obtain rfl := afterN_done hl22
    have hm := hmo23
    refine WQ.then_normal (hK12 _ _ _ ?_)
    refine WP.seq (fun K83 hK83 => ?_)
    refine WP.region ?_
    refine WL.runk 2 [2] [(2, .slice a15 st14.1.length c16)] (by kernel_rfl) ?_
    refine WL.nil ?_
    refine WQ.then_normal (hK83 _ _ _ ?_)
    refine WP.ret ?_
    obtain rfl := Option.some.inj hm
    exact WQ.ret1 _ rfl rfl ⟨_, _, rfl, hb19, hS21⟩
  have hm := iteT hm hc32
  refine WP.skip ?_
  refine WQ.then_normal (hK31 _ _ _ ?_)
  refine WP.seq (fun K33 hK33 => ?_)
  refine WP.block ?_
  refine WP.seq (fun K34 hK34 => ?_)
  refine WP.region ?_
  obtain ⟨x35, hx36, hm⟩ := bindE hm
  refine WL.st (.pointer (some (at_ a0' (Int.toNat st14.2 * 1)))) (ST.index (T := fStr.ty) (xs := rows_0) (Rd.below h0 hb19) hx36 rfl rfl rfl Try.underlying22 (info9).1 (info9).2.1) rfl rfl rfl ?_
  refine WL.st (.string (bs x35)) (ST.load (cell_ext (Rd.flat (F := fStr) (Rd.below h0 hb19) hx36 0 rfl)) rfl rfl Try.underlying9 rfl) rfl rfl rfl ?_
  refine WL.runk 1 [3, 5, 8, 9, 10] [(3, .slice a15 st14.1.length c16), (8, .slice a0' rows_0.length c0'), (9, .int .i64 (rows_0.length : Int)), (10, .int .i64 st14.2), (5, .string (bs x35))] (by kernel_rfl) ?_
  refine WL.nil ?_
  refine WQ.then_normal (hK34 _ _ _ ?_)
  refine WP.seq (fun K37 hK37 => ?_)
  refine WP.region ?_
  refine WL.runk 3 [3, 5, 8, 9, 10, 15, 16] [(3, .slice a15 st14.1.length c16), (8, .slice a0' rows_0.length c0'), (9, .int .i64 (rows_0.length : Int)), (10, .int .i64 st14.2), (5, .string (bs x35)), (15, .int .i64 (x35.length : Int)), (16, .int .i64 0)] (by kernel_rfl) ?_
  refine WL.nil ?_
  refine WQ.then_normal (hK37 _ _ _ ?_)
  refine WP.block ?_
  obtain ⟨t52, ht53, hm⟩ := bindE hm
  have hmo47 := hm; clear hm
  refine WP.sub [(3, .slice a15 st14.1.length c16), (8, .slice a0' rows_0.length c0'), (9, .int .i64 (rows_0.length : Int)), (10, .int .i64 st14.2), (5, .string (bs x35)), (15, .int .i64 (x35.length : Int)), (16, .int .i64 0)] ⟨rfl, rfl, rfl, rfl, rfl, rfl, rfl, trivial⟩ ?_
  refine WP.loop (fun n' env' w' => ∃ (st38 : List Int × Int) (a39 : Option Addr) (c40 : Nat), env' = [(3, .slice a39 st38.1.length c40), (8, .slice a0' rows_0.length c0'), (9, .int .i64 (rows_0.length : Int)), (10, .int .i64 st14.2), (5, .string (bs x35)), (15, .int .i64 (x35.length : Int)), (16, .int .i64 st38.2)] ∧ Ext w w' ∧ w.heap.size ≤ w'.heap.size ∧ SH w' w.heap.size [aOwn fInt 2 a39 c40 st38.1] ∧ loopN (m_impl_digits_l2 n x35) n' st38 = some t52) n ⟨(st14.1, 0), _, _, rfl, hb19, hL20, hS21, ht53⟩ ?_
  rintro n49 _ w42 ⟨st38, a39, c40, rfl, hb43, hL44, hS45, hl46⟩ K48 hK48
  obtain ⟨n50, s51, rfl, hm, hl46⟩ := loopN_some hl46
  unfold m_impl_digits_l2 at hm
  refine WP.seq (fun K54 hK54 => ?_)
  refine WP.region ?_
  refine WL.runk 1 [3, 5, 8, 9, 10, 15, 16, 17] [(3, .slice a39 st38.1.length c40), (8, .slice a0' rows_0.length c0'), (9, .int .i64 (rows_0.length : Int)), (10, .int .i64 st14.2), (5, .string (bs x35)), (15, .int .i64 (x35.length : Int)), (16, .int .i64 st38.2), (17, .bool (decide (st38.2 < (x35.length : Int))))] (by kernel_rfl) ?_
  refine WL.nil ?_
  refine WQ.then_normal (hK54 _ _ _ ?_)
  refine WP.seq (fun K55 hK55 => ?_)
  refine WP.cond (decide (st38.2 < (x35.length : Int))) rfl rfl (fun hc56 => ?_) (fun hc56 => ?_)
  rotate_left
  · have hm := iteF hm hc56
    refine WP.exit ?_
    refine WQ.then_exit ?_
    refine WQ.then_exit ?_
    refine WQ.block_here ?_
    obtain rfl := Option.some.inj hm
    obtain rfl := afterN_done hl46
    have hm := hmo47
    refine WQ.block_normal ?_
    refine WQ.then_normal (hK33 _ _ _ ?_)
    refine WP.region ?_
    refine WL.runk 2 [3, 8, 9, 10] [(3, .slice a39 st38.1.length c40), (8, .slice a0' rows_0.length c0'), (9, .int .i64 (rows_0.length : Int)), (10, .int .i64 (wI64 (st14.2 + 1)))] (by kernel_rfl) ?_
    refine WL.nil ?_
    obtain rfl := Option.some.inj hm
    exact WQ.round hK24 ⟨(st38.1, (wI64 (st14.2 + 1))), _, _, rfl, hb43, hL44, hS45, hl22⟩ (Nat.lt_succ_self _) ⟨rfl, rfl, rfl, rfl, trivial⟩
  have hm := iteT hm hc56
  refine WP.skip ?_
  refine WQ.then_normal (hK55 _ _ _ ?_)
  refine WP.seq (fun K57 hK57 => ?_)
  refine WP.block ?_
  refine WP.seq (fun K58 hK58 => ?_)
  refine WP.region ?_
  refine WL.runk 2 [3, 5, 6, 8, 9, 10, 15, 16] [(3, .slice a39 st38.1.length c40), (8, .slice a0' rows_0.length c0'), (9, .int .i64 (rows_0.length : Int)), (10, .int .i64 st14.2), (5, .string (bs x35)), (15, .int .i64 (x35.length : Int)), (16, .int .i64 st38.2), (6, .int .i64 st38.2)] (by kernel_rfl) ?_
  refine WL.nil ?_
  refine WQ.then_normal (hK58 _ _ _ ?_)
  refine WP.region ?_
  refine WL.runk 3 [5, 8, 9, 10, 15, 16, 19, 20, 21] [(8, .slice a0' rows_0.length c0'), (9, .int .i64 (rows_0.length : Int)), (10, .int .i64 st14.2), (5, .string (bs x35)), (15, .int .i64 (x35.length : Int)), (16, .int .i64 st38.2), (19, .slice a39 st38.1.length c40), (20, .string (bs x35)), (21, .int .i64 st38.2)] (by kernel_rfl) ?_
  obtain ⟨x59, hx60, hm⟩ := bindE hm
  refine WL.st (.int .u8 (x59.toNat : Int)) (ST.sindex hx60 rfl rfl rfl Try.underlying9) rfl rfl rfl ?_
  refine WL.runk 2 [5, 8, 9, 10, 15, 16, 19, 24] [(8, .slice a0' rows_0.length c0'), (9, .int .i64 (rows_0.length : Int)), (10, .int .i64 st14.2), (5, .string (bs x35)), (15, .int .i64 (x35.length : Int)), (16, .int .i64 st38.2), (19, .slice a39 st38.1.length c40), (24, .int .i64 (wI64 (IntKind.u8.wrap ((x59.toNat : Int) - 48))))] (by kernel_rfl) ?_
  refine WL.row fInt 2 ([(wI64 (IntKind.u8.wrap ((x59.toNat : Int) - 48)))] : List Int) 1 #[.int .i64 (wI64 (IntKind.u8.wrap ((x59.toNat : Int) - 48)))] 25 (by kernel_rfl) rfl rfl rfl rfl rfl rfl rfl ?_
  intro a61 c62 w63 hE64 hR65
  have hb67 : Ext w w63 := Ext.trans hb43 hE64
  have hL68 : w.heap.size ≤ w63.heap.size := Nat.le_trans hL44 hE64.size
  have hS69 : SH w63 w.heap.size [aOwn fInt 2 a61 c62 ([(wI64 (IntKind.u8.wrap ((x59.toNat : Int) - 48)))] : List Int), aOwn fInt 2 a39 c40 st38.1] := SH.add hS45 hE64 hL44 hR65
  obtain ⟨x70, hx71, hm⟩ := bindE hm
  refine WL.append (F := fInt) (xs := st38.1) (ys := ([(wI64 (IntKind.u8.wrap ((x59.toNat : Int) - 48)))] : List Int)) 26 (SH.front 1 hS69) hL68 (SH.rd (SH.front 0 hS69)) hx71 rfl rfl rfl Try.underlying40 (info2).1 (info2).2.2.1 (info2).2.1 (info2).2.2.2 rfl rfl rfl rfl rfl ?_
  intro a72 c73 w74 hB75 hS76
  have hb77 : Ext w w74 := Below.trans hb67 hB75
  have hL78 : w.heap.size ≤ w74.heap.size := Nat.le_trans hL68 hB75.size
  refine WL.runk 1 [3, 5, 8, 9, 10, 15, 16] [(8, .slice a0' rows_0.length c0'), (9, .int .i64 (rows_0.length : Int)), (10, .int .i64 st14.2), (5, .string (bs x35)), (15, .int .i64 (x35.length : Int)), (16, .int .i64 st38.2), (3, .slice a72 x70.length c73)] (by kernel_rfl) ?_
  refine WL.nil ?_
  refine WQ.block_normal ?_
  refine WQ.then_normal (hK57 _ _ _ ?_)
  refine WP.region ?_
  refine WL.runk 2 [3, 5, 8, 9, 10, 15, 16] [(8, .slice a0' rows_0.length c0'), (9, .int .i64 (rows_0.length : Int)), (10, .int .i64 st14.2), (5, .string (bs x35)), (15, .int .i64 (x35.length : Int)), (16, .int .i64 (wI64 (st38.2 + 1))), (3, .slice a72 x70.length c73)] (by kernel_rfl) ?_
  refine WL.nil ?_
  obtain rfl := Option.some.inj hm
  exact WQ.round hK48 ⟨(x70, (wI64 (st38.2 + 1))), _, _, rfl, hb77, hL78, (SH.take 1 hS76), hl46⟩ (Nat.lt_succ_self _) ⟨rfl, rfl, rfl, rfl, rfl, rfl, rfl, trivial⟩

theorem c_21 (n : Nat) (rows_0 : List (List UInt8)) (a0' : Option Addr) (c0' : Nat) (least_1 : Int) (w : World) {r : Int × Int} (hm : m_impl_WornFields n rows_0 least_1 = some r) (h0 : Rd fStr.ty w a0' rows_0) (hle0 : rows_0.length ≤ c0') :
    CallV Try.prog 21 #[.slice a0' rows_0.length c0', .int .i64 least_1] w (fun v w' => v = .tuple #[.int .i64 r.1, .int .i64 r.2] ∧ Ext w w') := by
  unfold m_impl_WornFields at hm
  refine CallV.enter Try.func21 rfl (by kernel_rfl) Try.ntmps21 (env := [(0, .slice a0' rows_0.length c0'), (1, .int .i64 least_1)]) ⟨rfl, rfl, trivial⟩ ?_
  refine WP.seq (fun K1 hK1 => ?_)
  refine WP.region ?_
  refine WL.runk 2 [0, 1] [(0, .slice a0' rows_0.length c0'), (1, .int .i64 least_1)] (by kernel_rfl) ?_
  refine WL.nil ?_
  refine WQ.then_normal (hK1 _ _ _ ?_)
  refine WP.seq (fun K2 hK2 => ?_)
  refine WP.seq (fun K3 hK3 => ?_)
  refine WP.region ?_
  refine WL.runk 2 [0, 1, 10, 11] [(0, .slice a0' rows_0.length c0'), (1, .int .i64 least_1), (10, .slice a0' rows_0.length c0'), (11, .int .i64 least_1)] (by kernel_rfl) ?_
  obtain ⟨x4, hx5, hm⟩ := bindE hm
  refine WL.call 53 #[.slice a0' rows_0.length c0', .int .i64 least_1] rfl rfl (by kernel_rfl) (c_53 n rows_0 a0' c0' least_1 w hx5 (Rd.below h0 (Ext.refl w)) hle0) ?_
  rintro _ w6 ⟨rfl, hE7⟩
  refine ⟨_, rfl, ?_⟩
  have hb9 : Ext w w6 := Ext.trans (Ext.refl w) hE7
  have hL10 : w.heap.size ≤ w6.heap.size := Nat.le_trans (Nat.le_refl _) hE7.size
  have hS11 : SH w6 w.heap.size [] := SH.ext (SH.nil _ _) hE7
  refine WL.runk 1 [0, 1, 6] [(0, .slice a0' rows_0.length c0'), (1, .int .i64 least_1), (6, .int .i64 x4)] (by kernel_rfl) ?_
  refine WL.nil ?_
  refine WQ.then_normal (hK3 _ _ _ ?_)
  refine WP.seq (fun K12 hK12 => ?_)
  refine WP.region ?_
  refine WL.runk 2 [0, 1, 6, 14] [(0, .slice a0' rows_0.length c0'), (1, .int .i64 least_1), (6, .int .i64 x4), (14, .bool (x4 != 0))] (by kernel_rfl) ?_
  refine WL.nil ?_
  refine WQ.then_normal (hK12 _ _ _ ?_)
  refine WP.cond (x4 != 0) rfl rfl (fun hc13 => ?_) (fun hc13 => ?_)
  · have hm := iteT hm hc13
    refine WP.seq (fun K14 hK14 => ?_)
    refine WP.region ?_
    refine WL.runk 3 [4, 5] [(4, .int .i64 0), (5, .int .i64 x4)] (by kernel_rfl) ?_
    refine WL.nil ?_
    refine WQ.then_normal (hK14 _ _ _ ?_)
    refine WP.ret ?_
    refine WQ.then_ret ?_
    obtain rfl := Option.some.inj hm
    exact WQ.ret2 _ _ rfl rfl rfl ⟨rfl, hb9⟩
  have hm := iteF hm hc13
  refine WP.skip ?_
  refine WQ.then_normal (hK2 _ _ _ ?_)
  refine WP.seq (fun K15 hK15 => ?_)
  refine WP.region ?_
  refine WL.runk 1 [0, 1, 7] [(0, .slice a0' rows_0.length c0'), (1, .int .i64 least_1), (7, .int .i64 0)] (by kernel_rfl) ?_
  refine WL.nil ?_
  refine WQ.then_normal (hK15 _ _ _ ?_)
  refine WP.seq (fun K16 hK16 => ?_)
  refine WP.seq (fun K17 hK17 => ?_)
  refine WP.region ?_
  refine WL.runk 1 [1, 7, 16] [(1, .int .i64 least_1), (7, .int .i64 0), (16, .slice a0' rows_0.length c0')] (by kernel_rfl) ?_
  obtain ⟨x18, hx19, hm⟩ := bindE hm
  refine WL.call 54 #[.slice a0' rows_0.length c0'] rfl rfl (by kernel_rfl) (c_54 n rows_0 a0' c0' w6 hx19 (Rd.below h0 hb9) hle0) ?_
  rintro _ w23 ⟨a20, c21, rfl, hE24, hR25⟩
  refine ⟨_, rfl, ?_⟩
  have hb26 : Ext w w23 := Ext.trans hb9 hE24
  have hL27 : w.heap.size ≤ w23.heap.size := Nat.le_trans hL10 hE24.size
  have hS28 : SH w23 w.heap.size [aOwn fInt 2 a20 c21 x18] := SH.add hS11 hE24 hL10 hR25
  refine WL.runk 2 [1, 7, 17, 18, 19] [(1, .int .i64 least_1), (7, .int .i64 0), (17, .slice a20 x18.length c21), (18, .int .i64 (x18.length : Int)), (19, .int .i64 0)] (by kernel_rfl) ?_
  refine WL.nil ?_
  refine WQ.then_normal (hK17 _ _ _ ?_)
  refine WP.block ?_
  obtain ⟨t40, ht41, hm⟩ := bindE hm
  have hmo35 := hm; clear hm
  refine WP.sub [(1, .int .i64 least_1), (7, .int .i64 0), (17, .slice a20 x18.length c21), (18, .int .i64 (x18.length : Int)), (19, .int .i64 0)] ⟨rfl, rfl, rfl, rfl, rfl, trivial⟩ ?_
  refine WP.loop (fun n' env' w' => ∃ (st29 : Int × Int) , env' = [(1, .int .i64 least_1), (7, .int .i64 st29.1), (17, .slice a20 x18.length c21), (18, .int .i64 (x18.length : Int)), (19, .int .i64 st29.2)] ∧ Ext w w' ∧ w.heap.size ≤ w'.heap.size ∧ SH w' w.heap.size [aOwn fInt 2 a20 c21 x18] ∧ loopN (m_impl_WornFields_l1 n least_1 x18) n' st29 = some t40) n ⟨(0, 0), rfl, hb26, hL27, hS28, ht41⟩ ?_
  rintro n37 _ w30 ⟨st29, rfl, hb31, hL32, hS33, hl34⟩ K36 hK36
  obtain ⟨n38, s39, rfl, hm, hl34⟩ := loopN_some hl34
  unfold m_impl_WornFields_l1 at hm
  refine WP.seq (fun K42 hK42 => ?_)
  refine WP.region ?_
  refine WL.runk 1 [1, 7, 17, 18, 19, 20] [(1, .int .i64 least_1), (7, .int .i64 st29.1), (17, .slice a20 x18.length c21), (18, .int .i64 (x18.length : Int)), (19, .int .i64 st29.2), (20, .bool (decide (st29.2 < (x18.length : Int))))] (by kernel_rfl) ?_
  refine WL.nil ?_
  refine WQ.then_normal (hK42 _ _ _ ?_)
  refine WP.seq (fun K43 hK43 => ?_)
  refine WP.cond (decide (st29.2 < (x18.length : Int))) rfl rfl (fun hc44 => ?_) (fun hc44 => ?_)
  rotate_left
  · have hm := iteF hm hc44
    refine WP.exit ?_
    refine WQ.then_exit ?_
    refine WQ.then_exit ?_
    refine WQ.block_here ?_
    obtain rfl := Option.some.inj hm
    obtain rfl := afterN_done hl34
    have hm := hmo35
    refine WQ.then_normal (hK16 _ _ _ ?_)
    refine WP.seq (fun K57 hK57 => ?_)
    refine WP.region ?_
    refine WL.runk 3 [4, 5] [(4, .int .i64 st29.1), (5, .int .i64 0)] (by kernel_rfl) ?_
    refine WL.nil ?_
    refine WQ.then_normal (hK57 _ _ _ ?_)
    refine WP.ret ?_
    obtain rfl := Option.some.inj hm
    exact WQ.ret2 _ _ rfl rfl rfl ⟨rfl, hb31⟩
  have hm := iteT hm hc44
  refine WP.skip ?_
  refine WQ.then_normal (hK43 _ _ _ ?_)
  refine WP.seq (fun K45 hK45 => ?_)
  refine WP.block ?_
  refine WP.seq (fun K46 hK46 => ?_)
  refine WP.region ?_
  obtain ⟨x47, hx48, hm⟩ := bindE hm
  refine WL.st (.pointer (some (at_ a20 (Int.toNat st29.2 * 1)))) (ST.index (T := fInt.ty) (xs := x18) (SH.rd (SH.front 0 hS33)) hx48 rfl rfl rfl Try.underlying40 (info2).1 (info2).2.1) rfl rfl rfl ?_
  refine WL.st (.int .i64 x47) (ST.load (cell_ext (Rd.flat (F := fInt) (SH.rd (SH.front 0 hS33)) hx48 0 rfl)) rfl rfl Try.underlying2 rfl) rfl rfl rfl ?_
  refine WL.runk 1 [1, 7, 9, 17, 18, 19] [(1, .int .i64 least_1), (7, .int .i64 st29.1), (17, .slice a20 x18.length c21), (18, .int .i64 (x18.length : Int)), (19, .int .i64 st29.2), (9, .int .i64 x47)] (by kernel_rfl) ?_
  refine WL.nil ?_
  refine WQ.then_normal (hK46 _ _ _ ?_)
  refine WP.seq (fun K49 hK49 => ?_)
  refine WP.region ?_
  refine WL.runk 3 [1, 7, 17, 18, 19, 25] [(1, .int .i64 least_1), (7, .int .i64 st29.1), (17, .slice a20 x18.length c21), (18, .int .i64 (x18.length : Int)), (19, .int .i64 st29.2), (25, .bool (decide (x47 ≥ least_1)))] (by kernel_rfl) ?_
  refine WL.nil ?_
  refine WQ.then_normal (hK49 _ _ _ ?_)
  obtain ⟨x51, hx52, hm⟩ := bindE hm
  refine WP.cut (fun env' w' => env' = [(1, .int .i64 least_1), (7, .int .i64 x51), (17, .slice a20 x18.length c21), (18, .int .i64 (x18.length : Int)), (19, .int .i64 st29.2)] ∧ Ext w w' ∧ w.heap.size ≤ w'.heap.size ∧ SH w' w.heap.size [aOwn fInt 2 a20 c21 x18]) ?_ ?_
  rotate_left
  · clear hx52
    rintro _ w53 ⟨rfl, hb54, hL55, hS56⟩
    refine WQ.block_normal ?_
    refine WQ.then_normal (hK45 _ _ _ ?_)
    refine WP.region ?_
    refine WL.runk 2 [1, 7, 17, 18, 19] [(1, .int .i64 least_1), (7, .int .i64 x51), (17, .slice a20 x18.length c21), (18, .int .i64 (x18.length : Int)), (19, .int .i64 (wI64 (st29.2 + 1)))] (by kernel_rfl) ?_
    refine WL.nil ?_
    obtain rfl := Option.some.inj hm
    exact WQ.round hK36 ⟨(x51, (wI64 (st29.2 + 1))), rfl, hb54, hL55, hS56, hl34⟩ (Nat.lt_succ_self _) ⟨rfl, rfl, rfl, rfl, rfl, trivial⟩
  have hm := hx52; clear hx52
  refine WP.cond (decide (x47 ≥ least_1)) rfl rfl (fun hc50 => ?_) (fun hc50 => ?_)
  rotate_left
  · have hm := iteF hm hc50
    refine WP.skip ?_
    obtain rfl := Option.some.inj hm
    exact WQ.post' ⟨rfl, hb31, hL32, hS33⟩ ⟨rfl, rfl, rfl, rfl, rfl, trivial⟩
  have hm := iteT hm hc50
  refine WP.region ?_
  refine WL.runk 3 [1, 7, 17, 18, 19] [(1, .int .i64 least_1), (7, .int .i64 (wI64 (st29.1 + 1))), (17, .slice a20 x18.length c21), (18, .int .i64 (x18.length : Int)), (19, .int .i64 st29.2)] (by kernel_rfl) ?_
  refine WL.nil ?_
  obtain rfl := Option.some.inj hm
  exact WQ.post' ⟨rfl, hb31, hL32, hS33⟩ ⟨rfl, rfl, rfl, rfl, rfl, trivial⟩

theorem c_77 (n : Nat) (s_0 : List Int) (a0' : Option Addr) (c0' : Nat) (w : World) (w0 : World) (B : Nat) (L : List Asrt) {r : List Int} (hm : m_slices_Reverse_byte_byte n s_0 = some r) (_hE0 : Ext w0 w) (_hW : w0.heap.size ≤ B) (hL : B ≤ w.heap.size) (hS : SH w B (aFz 5 a0' c0' s_0 :: L)) :
    CallV Try.prog 77 #[.slice a0' s_0.length c0'] w (fun v w' => v = .tuple #[] ∧ Below B w w' ∧ SH w' B (aFz 5 a0' c0' r :: L) ∧ r.length = s_0.length) := by
  unfold m_slices_Reverse_byte_byte at hm
  refine CallV.enter Try.func77 rfl (by kernel_rfl) Try.ntmps77 (env := [(0, .slice a0' s_0.length c0')]) ⟨rfl, trivial⟩ ?_
  refine WP.seq (fun K1 hK1 => ?_)
  refine WP.region ?_
  refine WL.runk 5 [0, 2, 3] [(0, .slice a0' s_0.length c0'), (2, .int .i64 0), (3, .int .i64 (wI64 ((s_0.length : Int) - 1)))] (by kernel_rfl) ?_
  refine WL.nil ?_
  refine WQ.then_normal (hK1 _ _ _ ?_)
  refine WP.block ?_
  obtain ⟨t60, ht61, hm⟩ := bindE hm
  have hmo55 := hm; clear hm
  refine WP.sub [(0, .slice a0' s_0.length c0'), (2, .int .i64 0), (3, .int .i64 (wI64 ((s_0.length : Int) - 1)))] ⟨rfl, rfl, rfl, trivial⟩ ?_
  refine WP.loop (fun n' env' w' => ∃ (st49 : Int × Int × List Int) , env' = [(0, .slice a0' st49.2.2.length c0'), (2, .int .i64 st49.1), (3, .int .i64 st49.2.1)] ∧ Below B w w' ∧ B ≤ w'.heap.size ∧ SH w' B (aFz 5 a0' c0' st49.2.2 :: L) ∧ st49.2.2.length = s_0.length ∧ loopN (m_slices_Reverse_byte_byte_l1 n) n' st49 = some t60) n ⟨(0, (wI64 ((s_0.length : Int) - 1)), s_0), rfl, (Below.refl _ _), hL, hS, rfl, ht61⟩ ?_
  rintro n57 _ w50 ⟨st49, rfl, hb51, hL52, hS53, hn62, hl54⟩ K56 hK56
  obtain ⟨n58, s59, rfl, hm, hl54⟩ := loopN_some hl54
  unfold m_slices_Reverse_byte_byte_l1 at hm
  refine WP.seq (fun K63 hK63 => ?_)
  refine WP.seq (fun K64 hK64 => ?_)
  refine WP.region ?_
  refine WL.runk 3 [0, 2, 3, 9] [(0, .slice a0' st49.2.2.length c0'), (2, .int .i64 st49.1), (3, .int .i64 st49.2.1), (9, .bool (decide (st49.1 < st49.2.1)))] (by kernel_rfl) ?_
  refine WL.nil ?_
  refine WQ.then_normal (hK64 _ _ _ ?_)
  refine WP.cond (decide (st49.1 < st49.2.1)) rfl rfl (fun hc65 => ?_) (fun hc65 => ?_)
  rotate_left
  · have hm := iteF hm hc65
    refine WP.exit ?_
    refine WQ.then_exit ?_
    refine WQ.then_exit ?_
    refine WQ.block_here ?_
    obtain rfl := Option.some.inj hm
    obtain rfl := afterN_done hl54
    have hm := hmo55
    obtain rfl := Option.some.inj hm
    exact WQ.end0 rfl ⟨rfl, hb51, hS53, hn62⟩
  have hm := iteT hm hc65
  refine WP.skip ?_
  refine WQ.then_normal (hK63 _ _ _ ?_)
  refine WP.seq (fun K66 hK66 => ?_)
  refine WP.block ?_
  refine WP.open (n := 16) (by kernel_rfl) rfl (fun w67 hE68 => ?_)
  have hb69 : Below B w w67 := Below.trans hb51 (Below.mono hE68 hL52)
  have hL70 : B ≤ w67.heap.size := Nat.le_trans hL52 hE68.size
  have hS71 : SH w67 B (aFz 5 a0' c0' st49.2.2 :: L) := SH.ext hS53 hE68
  refine WA.pre (i := 2) (D' := [2]) [(0, .slice a0' st49.2.2.length c0'), (2, .int .i64 st49.1), (3, .int .i64 st49.2.1), (9, .bool (decide (st49.1 < st49.2.1))), (16, .slice a0' st49.2.2.length c0')] rfl (by kernel_rfl) rfl (fun _ => by kernel_rfl) rfl ?_
  refine WA.pre (i := 3) (D' := [2, 3]) [(0, .slice a0' st49.2.2.length c0'), (2, .int .i64 st49.1), (3, .int .i64 st49.2.1), (9, .bool (decide (st49.1 < st49.2.1))), (16, .slice a0' st49.2.2.length c0'), (17, .int .i64 st49.2.1)] rfl (by kernel_rfl) rfl (fun _ => by kernel_rfl) rfl ?_
  refine WA.quiet (f' := 3) (D' := [2, 3, 0, 1, 4, 5, 6, 7, 8, 9, 10, 11, 12]) [0, 1, 4, 5, 6, 7, 8, 9, 10, 11, 12] rfl rfl (by kernel_rfl) ?_
  refine QL.step1v 14 (.slice a0' st49.2.2.length c0') rfl (fun _ => by kernel_rfl) ?_
  refine QL.step1v 15 (.int .i64 st49.1) rfl (fun _ => by kernel_rfl) ?_
  refine QL.step1v 18 (.slice a0' st49.2.2.length c0') rfl (fun _ => by kernel_rfl) ?_
  refine QL.step1v 19 (.int .i64 st49.2.1) rfl (fun _ => by kernel_rfl) ?_
  refine QL.subk [0, 2, 3, 16, 17, 14, 15, 18, 19] [(0, .slice a0' st49.2.2.length c0'), (2, .int .i64 st49.1), (3, .int .i64 st49.2.1), (16, .slice a0' st49.2.2.length c0'), (17, .int .i64 st49.2.1), (14, .slice a0' st49.2.2.length c0'), (15, .int .i64 st49.1), (18, .slice a0' st49.2.2.length c0'), (19, .int .i64 st49.2.1)] (by kernel_rfl) ?_
  obtain ⟨x72, hx73, hm⟩ := bindE hm
  refine QL.st (.pointer (some (at_ a0' (Int.toNat st49.2.1 * 1)))) (ST.index (T := fU8.ty) (xs := st49.2.2) (SH.rdFz (SH.front 0 hS71)) hx73 rfl rfl rfl Try.underlying46 (info5).1 (info5).2.1) rfl rfl rfl ?_
  refine QL.st (.int .u8 x72) (ST.load (cell_ext (Rd.flat (F := fU8) (SH.rdFz (SH.front 0 hS71)) hx73 0 rfl)) rfl rfl Try.underlying5 rfl) rfl rfl rfl ?_
  refine QL.step1v 22 (.slice a0' st49.2.2.length c0') rfl (fun _ => by kernel_rfl) ?_
  refine QL.step1v 23 (.int .i64 st49.1) rfl (fun _ => by kernel_rfl) ?_
  refine QL.subk [0, 2, 3, 16, 17, 14, 15, 21, 22, 23] [(0, .slice a0' st49.2.2.length c0'), (2, .int .i64 st49.1), (3, .int .i64 st49.2.1), (16, .slice a0' st49.2.2.length c0'), (17, .int .i64 st49.2.1), (14, .slice a0' st49.2.2.length c0'), (15, .int .i64 st49.1), (21, .int .u8 x72), (22, .slice a0' st49.2.2.length c0'), (23, .int .i64 st49.1)] (by kernel_rfl) ?_
  obtain ⟨x74, hx75, hm⟩ := bindE hm
  refine QL.st (.pointer (some (at_ a0' (Int.toNat st49.1 * 1)))) (ST.index (T := fU8.ty) (xs := st49.2.2) (SH.rdFz (SH.front 0 hS71)) hx75 rfl rfl rfl Try.underlying46 (info5).1 (info5).2.1) rfl rfl rfl ?_
  refine QL.st (.int .u8 x74) (ST.load (cell_ext (Rd.flat (F := fU8) (SH.rdFz (SH.front 0 hS71)) hx75 0 rfl)) rfl rfl Try.underlying5 rfl) rfl rfl rfl ?_
  obtain ⟨x76, hx77, hm⟩ := bindE hm
  refine QL.st (.pointer (some (at_ a0' (Int.toNat st49.1 * 1)))) (ST.index (T := fU8.ty) (xs := st49.2.2) (SH.rdFz (SH.front 0 hS71)) hx77 rfl rfl rfl Try.underlying46 (info5).1 (info5).2.1) rfl rfl rfl ?_
  refine QL.subk [0, 2, 3, 16, 17, 21, 25, 26] [(0, .slice a0' st49.2.2.length c0'), (2, .int .i64 st49.1), (3, .int .i64 st49.2.1), (16, .slice a0' st49.2.2.length c0'), (17, .int .i64 st49.2.1), (21, .int .u8 x72), (25, .int .u8 x74), (26, .pointer (some (at_ a0' (Int.toNat st49.1 * 1))))] (by kernel_rfl) ?_
  refine QL.nil ?_
  intro w78 hE79
  have hb80 : Below B w w78 := Below.trans hb69 (Below.mono hE79 hL70)
  have hL81 : B ≤ w78.heap.size := Nat.le_trans hL70 hE79.size
  have hS82 : SH w78 B (aFz 5 a0' c0' st49.2.2 :: L) := SH.ext hS71 hE79
  refine WA.one (i := 13) (D' := [2, 3, 0, 1, 4, 5, 6, 7, 8, 9, 10, 11, 12, 13]) rfl rfl (by kernel_rfl) ?_
  refine WL.storeFz (SH.front 0 hS82) hL81 hx77 rfl rfl rfl (info5).1 (info5).2.1 rfl rfl rfl ?_
  intro w83 hB84 hS85
  have hb86 : Below B w w83 := Below.trans hb80 hB84
  have hL87 : B ≤ w83.heap.size := Nat.le_trans hL81 hB84.size
  refine WL.sub [(0, .slice a0' ((st49.2.2.set (Int.toNat st49.1) x72).length) c0'), (2, .int .i64 st49.1), (3, .int .i64 st49.2.1), (16, .slice a0' ((st49.2.2.set (Int.toNat st49.1) x72).length) c0'), (17, .int .i64 st49.2.1), (21, .int .u8 x72), (25, .int .u8 x74)] ⟨by first | (simp only [List.length_set]; done) | (simp only [List.length_set]; rfl), rfl, rfl, by first | (simp only [List.length_set]; done) | (simp only [List.length_set]; rfl), rfl, rfl, rfl, trivial⟩ ?_
  have hn88 : (st49.2.2.set (Int.toNat st49.1) x72).length = s_0.length := List.length_set.trans hn62
  refine WL.sub [(0, .slice a0' ((st49.2.2.set (Int.toNat st49.1) x72).length) c0'), (2, .int .i64 st49.1), (3, .int .i64 st49.2.1), (16, .slice a0' ((st49.2.2.set (Int.toNat st49.1) x72).length) c0'), (17, .int .i64 st49.2.1), (25, .int .u8 x74)] ⟨rfl, rfl, rfl, rfl, rfl, rfl, trivial⟩ ?_
  refine WL.nil ?_
  refine WA.one (i := 14) (D' := [2, 3, 0, 1, 4, 5, 6, 7, 8, 9, 10, 11, 12, 13, 14]) rfl rfl (by kernel_rfl) ?_
  obtain ⟨x89, hx90, hm⟩ := bindE hm
  refine WL.st (.pointer (some (at_ a0' (Int.toNat st49.2.1 * 1)))) (ST.index (T := fU8.ty) (xs := (st49.2.2.set (Int.toNat st49.1) x72)) (SH.rdFz (SH.front 0 hS85)) hx90 rfl rfl rfl Try.underlying46 (info5).1 (info5).2.1) rfl rfl rfl ?_
  refine WL.sub [(0, .slice a0' ((st49.2.2.set (Int.toNat st49.1) x72).length) c0'), (2, .int .i64 st49.1), (3, .int .i64 st49.2.1), (25, .int .u8 x74), (27, .pointer (some (at_ a0' (Int.toNat st49.2.1 * 1))))] ⟨rfl, rfl, rfl, rfl, rfl, trivial⟩ ?_
  refine WL.nil ?_
  refine WA.one (i := 15) (D' := [2, 3, 0, 1, 4, 5, 6, 7, 8, 9, 10, 11, 12, 13, 14, 15]) rfl rfl (by kernel_rfl) ?_
  refine WL.storeFz (SH.front 0 hS85) hL87 hx90 rfl rfl rfl (info5).1 (info5).2.1 rfl rfl rfl ?_
  intro w91 hB92 hS93
  have hb94 : Below B w w91 := Below.trans hb86 hB92
  have hL95 : B ≤ w91.heap.size := Nat.le_trans hL87 hB92.size
  refine WL.sub [(0, .slice a0' (((st49.2.2.set (Int.toNat st49.1) x72).set (Int.toNat st49.2.1) x74).length) c0'), (2, .int .i64 st49.1), (3, .int .i64 st49.2.1), (25, .int .u8 x74)] ⟨by first | (simp only [List.length_set]; done) | (simp only [List.length_set]; rfl), rfl, rfl, rfl, trivial⟩ ?_
  have hn96 : ((st49.2.2.set (Int.toNat st49.1) x72).set (Int.toNat st49.2.1) x74).length = s_0.length := List.length_set.trans hn88
  refine WL.sub [(0, .slice a0' (((st49.2.2.set (Int.toNat st49.1) x72).set (Int.toNat st49.2.1) x74).length) c0'), (2, .int .i64 st49.1), (3, .int .i64 st49.2.1)] ⟨rfl, rfl, rfl, trivial⟩ ?_
  refine WL.nil ?_
  refine WA.done (by kernel_rfl) ?_
  refine WQ.block_normal ?_
  refine WQ.then_normal (hK66 _ _ _ ?_)
  refine WP.region ?_
  refine WL.runk 6 [0, 2, 3] [(0, .slice a0' (((st49.2.2.set (Int.toNat st49.1) x72).set (Int.toNat st49.2.1) x74).length) c0'), (2, .int .i64 (wI64 (st49.1 + 1))), (3, .int .i64 (wI64 (st49.2.1 - 1)))] (by kernel_rfl) ?_
  refine WL.nil ?_
  obtain rfl := Option.some.inj hm
  exact WQ.round hK56 ⟨((wI64 (st49.1 + 1)), (wI64 (st49.2.1 - 1)), ((st49.2.2.set (Int.toNat st49.1) x72).set (Int.toNat st49.2.1) x74)), rfl, hb94, hL95, hS93, hn96, hl54⟩ (Nat.lt_succ_self _) ⟨rfl, rfl, rfl, trivial⟩

theorem c_56 (n : Nat) (rows_0 : List (List UInt8)) (a0' : Option Addr) (c0' : Nat) (w : World) {r : List (List UInt8)} (hm : m_impl_mirrorWear n rows_0 = some r) (h0 : Rd fStr.ty w a0' rows_0) (_hle0 : rows_0.length ≤ c0') :
    CallV Try.prog 56 #[.slice a0' rows_0.length c0'] w (fun v w' => ∃ (ra0 : Option Addr) (rc0 : Nat), v = .slice ra0 r.length rc0 ∧ Ext w w' ∧ SH w' w.heap.size [aOwn fStr 9 ra0 rc0 r]) := by
  unfold m_impl_mirrorWear at hm
  refine CallV.enter Try.func56 rfl (by kernel_rfl) Try.ntmps56 (env := [(0, .slice a0' rows_0.length c0')]) ⟨rfl, trivial⟩ ?_
  refine WP.seq (fun K1 hK1 => ?_)
  refine WP.region ?_
  refine WL.runk 1 [0] [(0, .slice a0' rows_0.length c0')] (by kernel_rfl) ?_
  refine WL.nil ?_
  refine WQ.then_normal (hK1 _ _ _ ?_)
  refine WP.seq (fun K2 hK2 => ?_)
  refine WP.region ?_
  refine WL.row fStr 9 ([] : List (List UInt8)) 0 #[] 7 (by kernel_rfl) rfl rfl rfl rfl rfl rfl rfl ?_
  intro a3 c4 w5 hE6 hR7
  have hb9 : Ext w w5 := Ext.trans (Ext.refl w) hE6
  have hL10 : w.heap.size ≤ w5.heap.size := Nat.le_trans (Nat.le_refl _) hE6.size
  have hS11 : SH w5 w.heap.size [aOwn fStr 9 a3 c4 ([] : List (List UInt8))] := SH.add (SH.nil _ _) hE6 (Nat.le_refl _) hR7
  refine WL.runk 1 [0, 3] [(0, .slice a0' rows_0.length c0'), (3, .slice a3 (([] : List (List UInt8)).length) c4)] (by kernel_rfl) ?_
  refine WL.nil ?_
  refine WQ.then_normal (hK2 _ _ _ ?_)
  refine WP.seq (fun K12 hK12 => ?_)
  refine WP.seq (fun K13 hK13 => ?_)
  refine WP.region ?_
  refine WL.runk 3 [3, 8, 9, 10] [(3, .slice a3 (([] : List (List UInt8)).length) c4), (8, .slice a0' rows_0.length c0'), (9, .int .i64 (rows_0.length : Int)), (10, .int .i64 0)] (by kernel_rfl) ?_
  refine WL.nil ?_
  refine WQ.then_normal (hK13 _ _ _ ?_)
  refine WP.block ?_
  obtain ⟨t28, ht29, hm⟩ := bindE hm
  have hmo23 := hm; clear hm
  refine WP.sub [(3, .slice a3 (([] : List (List UInt8)).length) c4), (8, .slice a0' rows_0.length c0'), (9, .int .i64 (rows_0.length : Int)), (10, .int .i64 0)] ⟨rfl, rfl, rfl, rfl, trivial⟩ ?_
  refine WP.loop (fun n' env' w' => ∃ (st14 : List (List UInt8) × Int) (a15 : Option Addr) (c16 : Nat), env' = [(3, .slice a15 st14.1.length c16), (8, .slice a0' rows_0.length c0'), (9, .int .i64 (rows_0.length : Int)), (10, .int .i64 st14.2)] ∧ Ext w w' ∧ w.heap.size ≤ w'.heap.size ∧ SH w' w.heap.size [aOwn fStr 9 a15 c16 st14.1] ∧ loopN (m_impl_mirrorWear_l1 n rows_0) n' st14 = some t28) n ⟨(([] : List (List UInt8)), 0), _, _, rfl, hb9, hL10, hS11, ht29⟩ ?_
  rintro n25 _ w18 ⟨st14, a15, c16, rfl, hb19, hL20, hS21, hl22⟩ K24 hK24
  obtain ⟨n26, s27, rfl, hm, hl22⟩ := loopN_some hl22
  unfold m_impl_mirrorWear_l1 at hm
  refine WP.seq (fun K30 hK30 => ?_)
  refine WP.region ?_
  refine WL.runk 1 [3, 8, 9, 10, 11] [(3, .slice a15 st14.1.length c16), (8, .slice a0' rows_0.length c0'), (9, .int .i64 (rows_0.length : Int)), (10, .int .i64 st14.2), (11, .bool (decide (st14.2 < (rows_0.length : Int))))] (by kernel_rfl) ?_
  refine WL.nil ?_
  refine WQ.then_normal (hK30 _ _ _ ?_)
  refine WP.seq (fun K31 hK31 => ?_)
  refine WP.cond (decide (st14.2 < (rows_0.length : Int))) rfl rfl (fun hc32 => ?_) (fun hc32 => ?_)
  rotate_left
  · have hm := iteF hm hc32
    refine WP.exit ?_
    refine WQ.then_exit ?_
    refine WQ.then_exit ?_
    refine WQ.block_here ?_
    obtain rfl := Option.some.inj hm
    obtain rfl := afterN_done hl22
    have hm := hmo23
    refine WQ.then_normal (hK12 _ _ _ ?_)
    refine WP.seq (fun K76 hK76 => ?_)
    refine WP.region ?_
    refine WL.runk 2 [2] [(2, .slice a15 st14.1.length c16)] (by kernel_rfl) ?_
    refine WL.nil ?_
    refine WQ.then_normal (hK76 _ _ _ ?_)
    refine WP.ret ?_
    obtain rfl := Option.some.inj hm
    exact WQ.ret1 _ rfl rfl ⟨_, _, rfl, hb19, hS21⟩
  have hm := iteT hm hc32
  refine WP.skip ?_
  refine WQ.then_normal (hK31 _ _ _ ?_)
  refine WP.seq (fun K33 hK33 => ?_)
  refine WP.block ?_
  refine WP.seq (fun K34 hK34 => ?_)
  refine WP.region ?_
  obtain ⟨x35, hx36, hm⟩ := bindE hm
  refine WL.st (.pointer (some (at_ a0' (Int.toNat st14.2 * 1)))) (ST.index (T := fStr.ty) (xs := rows_0) (Rd.below h0 hb19) hx36 rfl rfl rfl Try.underlying22 (info9).1 (info9).2.1) rfl rfl rfl ?_
  refine WL.st (.string (bs x35)) (ST.load (cell_ext (Rd.flat (F := fStr) (Rd.below h0 hb19) hx36 0 rfl)) rfl rfl Try.underlying9 rfl) rfl rfl rfl ?_
  refine WL.runk 1 [3, 5, 8, 9, 10] [(3, .slice a15 st14.1.length c16), (8, .slice a0' rows_0.length c0'), (9, .int .i64 (rows_0.length : Int)), (10, .int .i64 st14.2), (5, .string (bs x35))] (by kernel_rfl) ?_
  refine WL.nil ?_
  refine WQ.then_normal (hK34 _ _ _ ?_)
  refine WP.seq (fun K37 hK37 => ?_)
  refine WP.region ?_
  refine WL.runk 1 [3, 8, 9, 10, 14] [(3, .slice a15 st14.1.length c16), (8, .slice a0' rows_0.length c0'), (9, .int .i64 (rows_0.length : Int)), (10, .int .i64 st14.2), (14, .string (bs x35))] (by kernel_rfl) ?_
  refine WL.bytes 15 rfl rfl Try.underlying9 Try.underlying46 Try.underlying5 rfl rfl rfl rfl ?_
  intro a38 c39 w40 hE41 hR42
  have hb44 : Ext w w40 := Ext.trans hb19 hE41
  have hL45 : w.heap.size ≤ w40.heap.size := Nat.le_trans hL20 hE41.size
  have hS46 : SH w40 w.heap.size [aFz 5 a38 c39 (toBytes x35), aOwn fStr 9 a15 c16 st14.1] := SH.add hS21 hE41 hL20 hR42
  refine WL.runk 1 [3, 6, 8, 9, 10] [(3, .slice a15 st14.1.length c16), (8, .slice a0' rows_0.length c0'), (9, .int .i64 (rows_0.length : Int)), (10, .int .i64 st14.2), (6, .slice a38 ((toBytes x35).length) c39)] (by kernel_rfl) ?_
  refine WL.nil ?_
  refine WQ.then_normal (hK37 _ _ _ ?_)
  refine WP.seq (fun K47 hK47 => ?_)
  refine WP.region ?_
  refine WL.runk 1 [3, 6, 8, 9, 10, 16] [(3, .slice a15 st14.1.length c16), (8, .slice a0' rows_0.length c0'), (9, .int .i64 (rows_0.length : Int)), (10, .int .i64 st14.2), (6, .slice a38 ((toBytes x35).length) c39), (16, .slice a38 ((toBytes x35).length) c39)] (by kernel_rfl) ?_
  obtain ⟨x48, hx49, hm⟩ := bindE hm
  refine WL.call 77 #[.slice a38 ((toBytes x35).length) c39] rfl rfl (by kernel_rfl) (c_77 n (toBytes x35) a38 c39 w40 w w.heap.size [aOwn fStr 9 a15 c16 st14.1] hx49 hb44 (Nat.le_refl _) hL45  hS46) ?_
  rintro _ w50 ⟨rfl, hB54, hS53, hlen55⟩
  refine ⟨_, rfl, ?_⟩
  have hb56 : Ext w w50 := Below.trans hb44 hB54
  have hL57 : w.heap.size ≤ w50.heap.size := Nat.le_trans hL45 hB54.size
  refine WL.sub [(3, .slice a15 st14.1.length c16), (8, .slice a0' rows_0.length c0'), (9, .int .i64 (rows_0.length : Int)), (10, .int .i64 st14.2), (6, .slice a38 x48.length c39), (16, .slice a38 x48.length c39), (17, .tuple #[])] ⟨rfl, rfl, rfl, rfl, by rw [hlen55]; rfl, by rw [hlen55]; rfl, rfl, trivial⟩ ?_
  refine WL.sub [(3, .slice a15 st14.1.length c16), (8, .slice a0' rows_0.length c0'), (9, .int .i64 (rows_0.length : Int)), (10, .int .i64 st14.2), (6, .slice a38 x48.length c39)] ⟨rfl, rfl, rfl, rfl, rfl, trivial⟩ ?_
  refine WL.nil ?_
  refine WQ.then_normal (hK47 _ _ _ ?_)
  refine WP.region ?_
  refine WL.runk 2 [8, 9, 10, 18, 19] [(8, .slice a0' rows_0.length c0'), (9, .int .i64 (rows_0.length : Int)), (10, .int .i64 st14.2), (18, .slice a15 st14.1.length c16), (19, .slice a38 x48.length c39)] (by kernel_rfl) ?_
  refine WL.st (.string (bs (ofBytes x48))) (ST.b2s (SH.rdFz (SH.front 0 hS53)) (SH.leFz (SH.front 0 hS53)).2 rfl rfl Try.underlying46 Try.underlying9 Try.underlying5) rfl rfl rfl ?_
  refine WL.row fStr 9 ([(ofBytes x48)] : List (List UInt8)) 1 #[.string (bs (ofBytes x48))] 21 (by kernel_rfl) rfl rfl rfl rfl rfl rfl rfl ?_
  intro a58 c59 w60 hE61 hR62
  have hb64 : Ext w w60 := Ext.trans hb56 hE61
  have hL65 : w.heap.size ≤ w60.heap.size := Nat.le_trans hL57 hE61.size
  have hS66 : SH w60 w.heap.size [aOwn fStr 9 a58 c59 ([(ofBytes x48)] : List (List UInt8)), aFz 5 a38 c39 x48, aOwn fStr 9 a15 c16 st14.1] := SH.add hS53 hE61 hL57 hR62
  obtain ⟨x67, hx68, hm⟩ := bindE hm
  refine WL.append (F := fStr) (xs := st14.1) (ys := ([(ofBytes x48)] : List (List UInt8))) 22 (SH.front 2 hS66) hL65 (SH.rd (SH.front 0 hS66)) hx68 rfl rfl rfl Try.underlying22 (info9).1 (info9).2.2.1 (info9).2.1 (info9).2.2.2 rfl rfl rfl rfl rfl ?_
  intro a69 c70 w71 hB72 hS73
  have hb74 : Ext w w71 := Below.trans hb64 hB72
  have hL75 : w.heap.size ≤ w71.heap.size := Nat.le_trans hL65 hB72.size
  refine WL.runk 1 [3, 8, 9, 10] [(8, .slice a0' rows_0.length c0'), (9, .int .i64 (rows_0.length : Int)), (10, .int .i64 st14.2), (3, .slice a69 x67.length c70)] (by kernel_rfl) ?_
  refine WL.nil ?_
  refine WQ.block_normal ?_
  refine WQ.then_normal (hK33 _ _ _ ?_)
  refine WP.region ?_
  refine WL.runk 2 [3, 8, 9, 10] [(8, .slice a0' rows_0.length c0'), (9, .int .i64 (rows_0.length : Int)), (10, .int .i64 (wI64 (st14.2 + 1))), (3, .slice a69 x67.length c70)] (by kernel_rfl) ?_
  refine WL.nil ?_
  obtain rfl := Option.some.inj hm
  exact WQ.round hK24 ⟨(x67, (wI64 (st14.2 + 1))), _, _, rfl, hb74, hL75, (SH.take 1 hS73), hl22⟩ (Nat.lt_succ_self _) ⟨rfl, rfl, rfl, rfl, trivial⟩

theorem c_23 (n : Nat) (rows_0 : List (List UInt8)) (a0' : Option Addr) (c0' : Nat) (w : World) {r : List (List UInt8) × Int} (hm : m_impl_MirrorWear n rows_0 = some r) (h0 : Rd fStr.ty w a0' rows_0) (hle0 : rows_0.length ≤ c0') :
    CallV Try.prog 23 #[.slice a0' rows_0.length c0'] w (fun v w' => ∃ (ra0 : Option Addr) (rc0 : Nat), v = .tuple #[.slice ra0 r.1.length rc0, .int .i64 r.2] ∧ Ext w w' ∧ SH w' w.heap.size [aOwn fStr 9 ra0 rc0 r.1]) := by
  unfold m_impl_MirrorWear at hm
  refine CallV.enter Try.func23 rfl (by kernel_rfl) Try.ntmps23 (env := [(0, .slice a0' rows_0.length c0')]) ⟨rfl, trivial⟩ ?_
  refine WP.seq (fun K1 hK1 => ?_)
  refine WP.region ?_
  refine WL.runk 2 [0] [(0, .slice a0' rows_0.length c0')] (by kernel_rfl) ?_
  refine WL.nil ?_
  refine WQ.then_normal (hK1 _ _ _ ?_)
  refine WP.seq (fun K2 hK2 => ?_)
  refine WP.seq (fun K3 hK3 => ?_)
  refine WP.region ?_
  refine WL.runk 1 [0, 4] [(0, .slice a0' rows_0.length c0'), (4, .slice a0' rows_0.length c0')] (by kernel_rfl) ?_
  obtain ⟨x4, hx5, hm⟩ := bindE hm
  refine WL.call 18 #[.slice a0' rows_0.length c0'] rfl rfl (by kernel_rfl) (c_18 n rows_0 a0' c0' w hx5 (Rd.below h0 (Ext.refl w)) hle0) ?_
  rintro _ w6 ⟨rfl, hE7⟩
  refine ⟨_, rfl, ?_⟩
  have hb9 : Ext w w6 := Ext.trans (Ext.refl w) hE7
  have hL10 : w.heap.size ≤ w6.heap.size := Nat.le_trans (Nat.le_refl _) hE7.size
  have hS11 : SH w6 w.heap.size [] := SH.ext (SH.nil _ _) hE7
  refine WL.runk 1 [0, 6] [(0, .slice a0' rows_0.length c0'), (6, .bool (!x4))] (by kernel_rfl) ?_
  refine WL.nil ?_
  refine WQ.then_normal (hK3 _ _ _ ?_)
  refine WP.cond (!x4) rfl rfl (fun hc12 => ?_) (fun hc12 => ?_)
  · have hm := iteT hm hc12
    refine WP.seq (fun K13 hK13 => ?_)
    refine WP.region ?_
    refine WL.runk 2 [2, 3] [(2, .slice none 0 0), (3, .int .i64 1)] (by kernel_rfl) ?_
    refine WL.nil ?_
    refine WQ.then_normal (hK13 _ _ _ ?_)
    refine WP.ret ?_
    refine WQ.then_ret ?_
    obtain rfl := Option.some.inj hm
    have hS15 : SH w6 w.heap.size [aOwn fStr 9 none 0 ([] : List (List UInt8))] := SH.nilOwn hS11
    exact WQ.ret2 _ _ rfl rfl rfl ⟨_, _, rfl, hb9, hS15⟩
  have hm := iteF hm hc12
  refine WP.skip ?_
  refine WQ.then_normal (hK2 _ _ _ ?_)
  refine WP.seq (fun K16 hK16 => ?_)
  refine WP.region ?_
  refine WL.runk 1 [7] [(7, .slice a0' rows_0.length c0')] (by kernel_rfl) ?_
  obtain ⟨x17, hx18, hm⟩ := bindE hm
  refine WL.call 56 #[.slice a0' rows_0.length c0'] rfl rfl (by kernel_rfl) (c_56 n rows_0 a0' c0' w6 hx18 (Rd.below h0 hb9) hle0) ?_
  rintro _ w22 ⟨a19, c20, rfl, hE23, hR24⟩
  refine ⟨_, rfl, ?_⟩
  have hb25 : Ext w w22 := Ext.trans hb9 hE23
  have hL26 : w.heap.size ≤ w22.heap.size := Nat.le_trans hL10 hE23.size
  have hS27 : SH w22 w.heap.size [aOwn fStr 9 a19 c20 x17] := SH.add hS11 hE23 hL10 hR24
  refine WL.runk 2 [2, 3] [(2, .slice a19 x17.length c20), (3, .int .i64 0)] (by kernel_rfl) ?_
  refine WL.nil ?_
  refine WQ.then_normal (hK16 _ _ _ ?_)
  refine WP.ret ?_
  obtain rfl := Option.some.inj hm
  exact WQ.ret2 _ _ rfl rfl rfl ⟨_, _, rfl, hb25, hS27⟩

theorem c_60 (n : Nat) (a_0 : List (List UInt8)) (a0' : Option Addr) (c0' : Nat) (b_1 : List (List UInt8)) (a1' : Option Addr) (c1' : Nat) (w : World) {r : Int} (hm : m_impl_sameWear n a_0 b_1 = some r) (h0 : Rd fStr.ty w a0' a_0) (hle0 : a_0.length ≤ c0') (h1 : Rd fStr.ty w a1' b_1) (hle1 : b_1.length ≤ c1') :
    CallV Try.prog 60 #[.slice a0' a_0.length c0', .slice a1' b_1.length c1'] w (fun v w' => v = .int .i64 r ∧ Ext w w') := by
  unfold m_impl_sameWear at hm
  refine CallV.enter Try.func60 rfl (by kernel_rfl) Try.ntmps60 (env := [(0, .slice a0' a_0.length c0'), (1, .slice a1' b_1.length c1')]) ⟨rfl, rfl, trivial⟩ ?_
  refine WP.seq (fun K1 hK1 => ?_)
  refine WP.region ?_
  refine WL.runk 1 [0, 1] [(0, .slice a0' a_0.length c0'), (1, .slice a1' b_1.length c1')] (by kernel_rfl) ?_
  refine WL.nil ?_
  refine WQ.then_normal (hK1 _ _ _ ?_)
  refine WP.seq (fun K2 hK2 => ?_)
  refine WP.block ?_
  refine WP.seq (fun K3 hK3 => ?_)
  obtain ⟨x21, hx22, hm⟩ := bindE hm
  refine WP.cut (fun env' w' => env' = [(0, .slice a0' a_0.length c0'), (1, .slice a1' b_1.length c1'), (5, .bool x21)] ∧ Ext w w' ∧ w.heap.size ≤ w'.heap.size ∧ SH w' w.heap.size []) ?_ ?_
  · have hm := hx22; clear hx22
    refine WP.region ?_
    refine WL.runk 1 [0, 1, 6] [(0, .slice a0' a_0.length c0'), (1, .slice a1' b_1.length c1'), (6, .slice a0' a_0.length c0')] (by kernel_rfl) ?_
    obtain ⟨x23, hx24, hm⟩ := bindE hm
    refine WL.call 18 #[.slice a0' a_0.length c0'] rfl rfl (by kernel_rfl) (c_18 n a_0 a0' c0' w hx24 (Rd.below h0 (Ext.refl w)) hle0) ?_
    rintro _ w25 ⟨rfl, hE26⟩
    refine ⟨_, rfl, ?_⟩
    have hb28 : Ext w w25 := Ext.trans (Ext.refl w) hE26
    have hL29 : w.heap.size ≤ w25.heap.size := Nat.le_trans (Nat.le_refl _) hE26.size
    have hS30 : SH w25 w.heap.size [] := SH.ext (SH.nil _ _) hE26
    refine WL.runk 2 [0, 1, 9] [(0, .slice a0' a_0.length c0'), (1, .slice a1' b_1.length c1'), (9, .bool (!x23))] (by kernel_rfl) ?_
    refine WL.case (!x23) [9] ⟨rfl, trivial⟩ (fun hc31 => ?_) (fun hc31 => ?_)
    · have hm := iteT hm hc31
      refine WL.runk 5 [0, 1, 5] [(0, .slice a0' a_0.length c0'), (1, .slice a1' b_1.length c1'), (5, .bool true)] (by kernel_rfl) ?_
      refine WL.nil ?_
      obtain rfl := Option.some.inj hm
      exact WQ.post' ⟨rfl, hb28, hL29, hS30⟩ ⟨rfl, rfl, rfl, trivial⟩
    have hm := iteF hm hc31
    refine WL.runk 1 [0, 1, 9, 10] [(0, .slice a0' a_0.length c0'), (1, .slice a1' b_1.length c1'), (9, .bool false), (10, .slice a1' b_1.length c1')] (by kernel_rfl) ?_
    obtain ⟨x32, hx33, hm⟩ := bindE hm
    refine WL.call 18 #[.slice a1' b_1.length c1'] rfl rfl (by kernel_rfl) (c_18 n b_1 a1' c1' w25 hx33 (Rd.below h1 hb28) hle1) ?_
    rintro _ w34 ⟨rfl, hE35⟩
    refine ⟨_, rfl, ?_⟩
    have hb37 : Ext w w34 := Ext.trans hb28 hE35
    have hL38 : w.heap.size ≤ w34.heap.size := Nat.le_trans hL29 hE35.size
    have hS39 : SH w34 w.heap.size [] := SH.ext hS30 hE35
    refine WL.runk 3 [0, 1, 5] [(0, .slice a0' a_0.length c0'), (1, .slice a1' b_1.length c1'), (5, .bool (!x32))] (by kernel_rfl) ?_
    refine WL.nil ?_
    obtain rfl := Option.some.inj hm
    exact WQ.post' ⟨rfl, hb37, hL38, hS39⟩ ⟨rfl, rfl, rfl, trivial⟩
  clear hx22
  rintro _ w40 ⟨rfl, hb41, hL42, hS43⟩
  refine WQ.then_normal (hK3 _ _ _ ?_)
  refine WP.cond x21 rfl rfl (fun hc44 => ?_) (fun hc44 => ?_)
  · have hm := iteT hm hc44
    refine WP.seq (fun K45 hK45 => ?_)
    refine WP.region ?_
    refine WL.runk 1 [4] [(4, .int .i64 1)] (by kernel_rfl) ?_
    refine WL.nil ?_
    refine WQ.then_normal (hK45 _ _ _ ?_)
    refine WP.ret ?_
    refine WQ.block_ret ?_
    refine WQ.then_ret ?_
    obtain rfl := Option.some.inj hm
    exact WQ.ret1 _ rfl rfl ⟨rfl, hb41⟩
  have hm := iteF hm hc44
  refine WP.seq (fun K46 hK46 => ?_)
  obtain ⟨x62, hx63, hm⟩ := bindE hm
  refine WP.cut (fun env' w' => env' = [(14, .bool x62)] ∧ Ext w w' ∧ w.heap.size ≤ w'.heap.size ∧ SH w' w.heap.size []) ?_ ?_
  rotate_left
  · clear hx63
    rintro _ w79 ⟨rfl, hb80, hL81, hS82⟩
    refine WQ.then_normal (hK46 _ _ _ ?_)
    refine WP.cond x62 rfl rfl (fun hc83 => ?_) (fun hc83 => ?_)
    · have hm := iteT hm hc83
      refine WP.seq (fun K84 hK84 => ?_)
      refine WP.region ?_
      refine WL.runk 1 [4] [(4, .int .i64 9)] (by kernel_rfl) ?_
      refine WL.nil ?_
      refine WQ.then_normal (hK84 _ _ _ ?_)
      refine WP.ret ?_
      refine WQ.block_ret ?_
      refine WQ.then_ret ?_
      obtain rfl := Option.some.inj hm
      exact WQ.ret1 _ rfl rfl ⟨rfl, hb80⟩
    have hm := iteF hm hc83
    refine WP.skip ?_
    refine WQ.block_normal ?_
    refine WQ.then_normal (hK2 _ _ _ ?_)
    refine WP.seq (fun K85 hK85 => ?_)
    refine WP.region ?_
    refine WL.runk 1 [4] [(4, .int .i64 0)] (by kernel_rfl) ?_
    refine WL.nil ?_
    refine WQ.then_normal (hK85 _ _ _ ?_)
    refine WP.ret ?_
    obtain rfl := Option.some.inj hm
    exact WQ.ret1 _ rfl rfl ⟨rfl, hb80⟩
  have hm := hx63; clear hx63
  refine WP.quiet (by kernel_rfl) (by kernel_rfl) ?_
  refine QL.step1v 15 (.slice a0' a_0.length c0') rfl (fun _ => by kernel_rfl) ?_
  refine QL.step1v 16 (.int .i64 (a_0.length : Int)) rfl (fun _ => by kernel_rfl) ?_
  refine QL.step1v 17 (.slice a1' b_1.length c1') rfl (fun _ => by kernel_rfl) ?_
  refine QL.step1v 18 (.int .i64 (b_1.length : Int)) rfl (fun _ => by kernel_rfl) ?_
  refine QL.step1v 19 (.bool ((a_0.length : Int) != (b_1.length : Int))) rfl (fun _ => by kernel_rfl) ?_
  refine QL.step1v 20 (.bool ((a_0.length : Int) != (b_1.length : Int))) rfl (fun _ => by kernel_rfl) ?_
  refine QL.subk [0, 1, 20] [(0, .slice a0' a_0.length c0'), (1, .slice a1' b_1.length c1'), (20, .bool ((a_0.length : Int) != (b_1.length : Int)))] (by kernel_rfl) ?_
  refine QL.case ((a_0.length : Int) != (b_1.length : Int)) [20] ⟨rfl, trivial⟩ (fun hc64 => ?_) (fun hc64 => ?_)
  · have hm := iteT hm hc64
    refine QL.step1v 21 undef rfl (fun _ => by kernel_rfl) ?_
    refine QL.step1v 22 undef rfl (fun _ => by kernel_rfl) ?_
    refine QL.step1v 23 undef rfl (fun _ => by kernel_rfl) ?_
    refine QL.step1v 24 undef rfl (fun _ => by kernel_rfl) ?_
    refine QL.step1v 25 undef rfl (fun _ => by kernel_rfl) ?_
    refine QL.step1v 26 undef rfl (fun _ => by kernel_rfl) ?_
    refine QL.step1v 27 undef rfl (fun _ => by kernel_rfl) ?_
    refine QL.step1v 28 undef rfl (fun _ => by kernel_rfl) ?_
    refine QL.step1v 29 undef rfl (fun _ => by kernel_rfl) ?_
    refine QL.step1v 30 (.bool true) rfl (fun _ => by kernel_rfl) ?_
    refine QL.step1v 14 (.bool true) rfl (fun _ => by kernel_rfl) ?_
    refine QL.subk [14] [(14, .bool true)] (by kernel_rfl) ?_
    refine QL.nil ?_
    intro w65 hE66
    have hb67 : Ext w w65 := Ext.trans hb41 hE66
    have hL68 : w.heap.size ≤ w65.heap.size := Nat.le_trans hL42 hE66.size
    have hS69 : SH w65 w.heap.size [] := SH.ext hS43 hE66
    obtain rfl := Option.some.inj hm
    exact WQ.post' ⟨rfl, hb67, hL68, hS69⟩ ⟨rfl, trivial⟩
  have hm := iteF hm hc64
  refine QL.step1v 21 (.slice a0' a_0.length c0') rfl (fun _ => by kernel_rfl) ?_
  refine QL.subk [1, 20, 21] [(1, .slice a1' b_1.length c1'), (20, .bool false), (21, .slice a0' a_0.length c0')] (by kernel_rfl) ?_
  obtain ⟨x70, hx71, hm⟩ := bindE hm
  refine QL.st (.pointer (some (at_ a0' (Int.toNat 0 * 1)))) (ST.index (T := fStr.ty) (xs := a_0) (Rd.below h0 hb41) hx71 rfl rfl rfl Try.underlying22 (info9).1 (info9).2.1) rfl rfl rfl ?_
  refine QL.st (.string (bs x70)) (ST.load (cell_ext (Rd.flat (F := fStr) (Rd.below h0 hb41) hx71 0 rfl)) rfl rfl Try.underlying9 rfl) rfl rfl rfl ?_
  refine QL.step1v 24 (.int .i64 (x70.length : Int)) rfl (fun _ => by kernel_rfl) ?_
  refine QL.step1v 25 (.slice a1' b_1.length c1') rfl (fun _ => by kernel_rfl) ?_
  refine QL.subk [20, 24, 25] [(20, .bool false), (24, .int .i64 (x70.length : Int)), (25, .slice a1' b_1.length c1')] (by kernel_rfl) ?_
  obtain ⟨x72, hx73, hm⟩ := bindE hm
  refine QL.st (.pointer (some (at_ a1' (Int.toNat 0 * 1)))) (ST.index (T := fStr.ty) (xs := b_1) (Rd.below h1 hb41) hx73 rfl rfl rfl Try.underlying22 (info9).1 (info9).2.1) rfl rfl rfl ?_
  refine QL.st (.string (bs x72)) (ST.load (cell_ext (Rd.flat (F := fStr) (Rd.below h1 hb41) hx73 0 rfl)) rfl rfl Try.underlying9 rfl) rfl rfl rfl ?_
  refine QL.step1v 28 (.int .i64 (x72.length : Int)) rfl (fun _ => by kernel_rfl) ?_
  refine QL.step1v 29 (.bool ((x70.length : Int) != (x72.length : Int))) rfl (fun _ => by kernel_rfl) ?_
  refine QL.step1v 30 (.bool ((x70.length : Int) != (x72.length : Int))) rfl (fun _ => by kernel_rfl) ?_
  refine QL.step1v 14 (.bool ((x70.length : Int) != (x72.length : Int))) rfl (fun _ => by kernel_rfl) ?_
  refine QL.subk [14] [(14, .bool ((x70.length : Int) != (x72.length : Int)))] (by kernel_rfl) ?_
  refine QL.nil ?_
  intro w74 hE75
  have hb76 : Ext w w74 := Ext.trans hb41 hE75
  have hL77 : w.heap.size ≤ w74.heap.size := Nat.le_trans hL42 hE75.size
  have hS78 : SH w74 w.heap.size [] := SH.ext hS43 hE75
  obtain rfl := Option.some.inj hm
  exact WQ.post' ⟨rfl, hb76, hL77, hS78⟩ ⟨rfl, trivial⟩

theorem c_27 (n : Nat) (a_0 : List (List UInt8)) (a0' : Option Addr) (c0' : Nat) (b_1 : List (List UInt8)) (a1' : Option Addr) (c1' : Nat) (w : World) {r : List (List UInt8) × Int} (hm : m_impl_AddWear n a_0 b_1 = some r) (h0 : Rd fStr.ty w a0' a_0) (hle0 : a_0.length ≤ c0') (h1 : Rd fStr.ty w a1' b_1) (hle1 : b_1.length ≤ c1') :
    CallV Try.prog 27 #[.slice a0' a_0.length c0', .slice a1' b_1.length c1'] w (fun v w' => ∃ (ra0 : Option Addr) (rc0 : Nat), v = .tuple #[.slice ra0 r.1.length rc0, .int .i64 r.2] ∧ Ext w w' ∧ SH w' w.heap.size [aOwn fStr 9 ra0 rc0 r.1]) := by
  unfold m_impl_AddWear at hm
  refine CallV.enter Try.func27 rfl (by kernel_rfl) Try.ntmps27 (env := [(0, .slice a0' a_0.length c0'), (1, .slice a1' b_1.length c1')]) ⟨rfl, rfl, trivial⟩ ?_
  refine WP.seq (fun K1 hK1 => ?_)
  refine WP.region ?_
  refine WL.runk 2 [0, 1] [(0, .slice a0' a_0.length c0'), (1, .slice a1' b_1.length c1')] (by kernel_rfl) ?_
  refine WL.nil ?_
  refine WQ.then_normal (hK1 _ _ _ ?_)
  refine WP.seq (fun K2 hK2 => ?_)
  refine WP.seq (fun K3 hK3 => ?_)
  refine WP.region ?_
  refine WL.runk 2 [0, 1, 11, 12] [(0, .slice a0' a_0.length c0'), (1, .slice a1' b_1.length c1'), (11, .slice a0' a_0.length c0'), (12, .slice a1' b_1.length c1')] (by kernel_rfl) ?_
  obtain ⟨x4, hx5, hm⟩ := bindE hm
  refine WL.call 60 #[.slice a0' a_0.length c0', .slice a1' b_1.length c1'] rfl rfl (by kernel_rfl) (c_60 n a_0 a0' c0' b_1 a1' c1' w hx5 (Rd.below h0 (Ext.refl w)) hle0 (Rd.below h1 (Ext.refl w)) hle1) ?_
  rintro _ w6 ⟨rfl, hE7⟩
  refine ⟨_, rfl, ?_⟩
  have hb9 : Ext w w6 := Ext.trans (Ext.refl w) hE7
  have hL10 : w.heap.size ≤ w6.heap.size := Nat.le_trans (Nat.le_refl _) hE7.size
  have hS11 : SH w6 w.heap.size [] := SH.ext (SH.nil _ _) hE7
  refine WL.runk 1 [0, 1, 6] [(0, .slice a0' a_0.length c0'), (1, .slice a1' b_1.length c1'), (6, .int .i64 x4)] (by kernel_rfl) ?_
  refine WL.nil ?_
  refine WQ.then_normal (hK3 _ _ _ ?_)
  refine WP.seq (fun K12 hK12 => ?_)
  refine WP.region ?_
  refine WL.runk 2 [0, 1, 6, 15] [(0, .slice a0' a_0.length c0'), (1, .slice a1' b_1.length c1'), (6, .int .i64 x4), (15, .bool (x4 != 0))] (by kernel_rfl) ?_
  refine WL.nil ?_
  refine WQ.then_normal (hK12 _ _ _ ?_)
  refine WP.cond (x4 != 0) rfl rfl (fun hc13 => ?_) (fun hc13 => ?_)
  · have hm := iteT hm hc13
    refine WP.seq (fun K14 hK14 => ?_)
    refine WP.region ?_
    refine WL.runk 3 [4, 5] [(4, .slice none 0 0), (5, .int .i64 x4)] (by kernel_rfl) ?_
    refine WL.nil ?_
    refine WQ.then_normal (hK14 _ _ _ ?_)
    refine WP.ret ?_
    refine WQ.then_ret ?_
    obtain rfl := Option.some.inj hm
    have hS16 : SH w6 w.heap.size [aOwn fStr 9 none 0 ([] : List (List UInt8))] := SH.nilOwn hS11
    exact WQ.ret2 _ _ rfl rfl rfl ⟨_, _, rfl, hb9, hS16⟩
  have hm := iteF hm hc13
  refine WP.skip ?_
  refine WQ.then_normal (hK2 _ _ _ ?_)
  refine WP.seq (fun K17 hK17 => ?_)
  refine WP.region ?_
  refine WL.row fStr 9 ([] : List (List UInt8)) 0 #[] 17 (by kernel_rfl) rfl rfl rfl rfl rfl rfl rfl ?_
  intro a18 c19 w20 hE21 hR22
  have hb24 : Ext w w20 := Ext.trans hb9 hE21
  have hL25 : w.heap.size ≤ w20.heap.size := Nat.le_trans hL10 hE21.size
  have hS26 : SH w20 w.heap.size [aOwn fStr 9 a18 c19 ([] : List (List UInt8))] := SH.add hS11 hE21 hL10 hR22
  refine WL.runk 1 [0, 1, 7] [(0, .slice a0' a_0.length c0'), (1, .slice a1' b_1.length c1'), (7, .slice a18 (([] : List (List UInt8)).length) c19)] (by kernel_rfl) ?_
  refine WL.nil ?_
  refine WQ.then_normal (hK17 _ _ _ ?_)
  refine WP.seq (fun K27 hK27 => ?_)
  refine WP.seq (fun K28 hK28 => ?_)
  refine WP.region ?_
  refine WL.runk 3 [0, 1, 7, 19, 20] [(0, .slice a0' a_0.length c0'), (1, .slice a1' b_1.length c1'), (7, .slice a18 (([] : List (List UInt8)).length) c19), (19, .int .i64 (a_0.length : Int)), (20, .int .i64 0)] (by kernel_rfl) ?_
  refine WL.nil ?_
  refine WQ.then_normal (hK28 _ _ _ ?_)
  refine WP.block ?_
  obtain ⟨t43, ht44, hm⟩ := bindE hm
  have hmo38 := hm; clear hm
  refine WP.sub [(0, .slice a0' a_0.length c0'), (1, .slice a1' b_1.length c1'), (7, .slice a18 (([] : List (List UInt8)).length) c19), (19, .int .i64 (a_0.length : Int)), (20, .int .i64 0)] ⟨rfl, rfl, rfl, rfl, rfl, trivial⟩ ?_
  refine WP.loop (fun n' env' w' => ∃ (st29 : List (List UInt8) × Int) (a30 : Option Addr) (c31 : Nat), env' = [(0, .slice a0' a_0.length c0'), (1, .slice a1' b_1.length c1'), (7, .slice a30 st29.1.length c31), (19, .int .i64 (a_0.length : Int)), (20, .int .i64 st29.2)] ∧ Ext w w' ∧ w.heap.size ≤ w'.heap.size ∧ SH w' w.heap.size [aOwn fStr 9 a30 c31 st29.1] ∧ loopN (m_impl_AddWear_l1 n a_0 b_1) n' st29 = some t43) n ⟨(([] : List (List UInt8)), 0), _, _, rfl, hb24, hL25, hS26, ht44⟩ ?_
  rintro n40 _ w33 ⟨st29, a30, c31, rfl, hb34, hL35, hS36, hl37⟩ K39 hK39
  obtain ⟨n41, s42, rfl, hm, hl37⟩ := loopN_some hl37
  unfold m_impl_AddWear_l1 at hm
  refine WP.seq (fun K45 hK45 => ?_)
  refine WP.region ?_
  refine WL.runk 1 [0, 1, 7, 19, 20, 21] [(0, .slice a0' a_0.length c0'), (1, .slice a1' b_1.length c1'), (7, .slice a30 st29.1.length c31), (19, .int .i64 (a_0.length : Int)), (20, .int .i64 st29.2), (21, .bool (decide (st29.2 < (a_0.length : Int))))] (by kernel_rfl) ?_
  refine WL.nil ?_
  refine WQ.then_normal (hK45 _ _ _ ?_)
  refine WP.seq (fun K46 hK46 => ?_)
  refine WP.cond (decide (st29.2 < (a_0.length : Int))) rfl rfl (fun hc47 => ?_) (fun hc47 => ?_)
  rotate_left
  · have hm := iteF hm hc47
    refine WP.exit ?_
    refine WQ.then_exit ?_
    refine WQ.then_exit ?_
    refine WQ.block_here ?_
    obtain rfl := Option.some.inj hm
    obtain rfl := afterN_done hl37
    have hm := hmo38
    refine WQ.then_normal (hK27 _ _ _ ?_)
    refine WP.seq (fun K161 hK161 => ?_)
    refine WP.region ?_
    refine WL.runk 3 [4, 5] [(4, .slice a30 st29.1.length c31), (5, .int .i64 0)] (by kernel_rfl) ?_
    refine WL.nil ?_
    refine WQ.then_normal (hK161 _ _ _ ?_)
    refine WP.ret ?_
    obtain rfl := Option.some.inj hm
    exact WQ.ret2 _ _ rfl rfl rfl ⟨_, _, rfl, hb34, hS36⟩
  have hm := iteT hm hc47
  refine WP.skip ?_
  refine WQ.then_normal (hK46 _ _ _ ?_)
  refine WP.seq (fun K48 hK48 => ?_)
  refine WP.block ?_
  refine WP.seq (fun K49 hK49 => ?_)
  refine WP.region ?_
  refine WL.runk 2 [0, 1, 7, 8, 19, 20] [(0, .slice a0' a_0.length c0'), (1, .slice a1' b_1.length c1'), (7, .slice a30 st29.1.length c31), (19, .int .i64 (a_0.length : Int)), (20, .int .i64 st29.2), (8, .int .i64 st29.2)] (by kernel_rfl) ?_
  refine WL.nil ?_
  refine WQ.then_normal (hK49 _ _ _ ?_)
  refine WP.seq (fun K50 hK50 => ?_)
  refine WP.region ?_
  refine WL.row fU8 5 ([] : List Int) 0 #[] 23 (by kernel_rfl) rfl rfl rfl rfl rfl rfl rfl ?_
  intro a51 c52 w53 hE54 hR55
  have hb57 : Ext w w53 := Ext.trans hb34 hE54
  have hL58 : w.heap.size ≤ w53.heap.size := Nat.le_trans hL35 hE54.size
  have hS59 : SH w53 w.heap.size [aOwn fU8 5 a51 c52 ([] : List Int), aOwn fStr 9 a30 c31 st29.1] := SH.add hS36 hE54 hL35 hR55
  refine WL.runk 1 [0, 1, 7, 8, 9, 19, 20] [(0, .slice a0' a_0.length c0'), (1, .slice a1' b_1.length c1'), (7, .slice a30 st29.1.length c31), (19, .int .i64 (a_0.length : Int)), (20, .int .i64 st29.2), (8, .int .i64 st29.2), (9, .slice a51 (([] : List Int).length) c52)] (by kernel_rfl) ?_
  refine WL.nil ?_
  refine WQ.then_normal (hK50 _ _ _ ?_)
  refine WP.seq (fun K60 hK60 => ?_)
  refine WP.seq (fun K61 hK61 => ?_)
  refine WP.region ?_
  refine WL.runk 2 [0, 1, 7, 8, 9, 19, 20, 24, 25] [(0, .slice a0' a_0.length c0'), (1, .slice a1' b_1.length c1'), (7, .slice a30 st29.1.length c31), (19, .int .i64 (a_0.length : Int)), (20, .int .i64 st29.2), (8, .int .i64 st29.2), (9, .slice a51 (([] : List Int).length) c52), (24, .slice a0' a_0.length c0'), (25, .int .i64 st29.2)] (by kernel_rfl) ?_
  obtain ⟨x62, hx63, hm⟩ := bindE hm
  refine WL.st (.pointer (some (at_ a0' (Int.toNat st29.2 * 1)))) (ST.index (T := fStr.ty) (xs := a_0) (Rd.below h0 hb57) hx63 rfl rfl rfl Try.underlying22 (info9).1 (info9).2.1) rfl rfl rfl ?_
  refine WL.st (.string (bs x62)) (ST.load (cell_ext (Rd.flat (F := fStr) (Rd.below h0 hb57) hx63 0 rfl)) rfl rfl Try.underlying9 rfl) rfl rfl rfl ?_
  refine WL.runk 2 [0, 1, 7, 8, 9, 19, 20, 28, 29] [(0, .slice a0' a_0.length c0'), (1, .slice a1' b_1.length c1'), (7, .slice a30 st29.1.length c31), (19, .int .i64 (a_0.length : Int)), (20, .int .i64 st29.2), (8, .int .i64 st29.2), (9, .slice a51 (([] : List Int).length) c52), (28, .int .i64 (x62.length : Int)), (29, .int .i64 0)] (by kernel_rfl) ?_
  refine WL.nil ?_
  refine WQ.then_normal (hK61 _ _ _ ?_)
  refine WP.block ?_
  obtain ⟨t78, ht79, hm⟩ := bindE hm
  have hmo73 := hm; clear hm
  refine WP.sub [(0, .slice a0' a_0.length c0'), (1, .slice a1' b_1.length c1'), (7, .slice a30 st29.1.length c31), (19, .int .i64 (a_0.length : Int)), (20, .int .i64 st29.2), (8, .int .i64 st29.2), (9, .slice a51 (([] : List Int).length) c52), (28, .int .i64 (x62.length : Int)), (29, .int .i64 0)] ⟨rfl, rfl, rfl, rfl, rfl, rfl, rfl, rfl, rfl, trivial⟩ ?_
  refine WP.loop (fun n' env' w' => ∃ (st64 : List Int × Int) (a65 : Option Addr) (c66 : Nat), env' = [(0, .slice a0' a_0.length c0'), (1, .slice a1' b_1.length c1'), (7, .slice a30 st29.1.length c31), (19, .int .i64 (a_0.length : Int)), (20, .int .i64 st29.2), (8, .int .i64 st29.2), (9, .slice a65 st64.1.length c66), (28, .int .i64 (x62.length : Int)), (29, .int .i64 st64.2)] ∧ Ext w w' ∧ w.heap.size ≤ w'.heap.size ∧ SH w' w.heap.size [aOwn fU8 5 a65 c66 st64.1, aOwn fStr 9 a30 c31 st29.1] ∧ loopN (m_impl_AddWear_l2 n a_0 b_1 st29 x62) n' st64 = some t78) n ⟨(([] : List Int), 0), _, _, rfl, hb57, hL58, hS59, ht79⟩ ?_
  rintro n75 _ w68 ⟨st64, a65, c66, rfl, hb69, hL70, hS71, hl72⟩ K74 hK74
  obtain ⟨n76, s77, rfl, hm, hl72⟩ := loopN_some hl72
  unfold m_impl_AddWear_l2 at hm
  refine WP.seq (fun K80 hK80 => ?_)
  refine WP.region ?_
  refine WL.runk 1 [0, 1, 7, 8, 9, 19, 20, 28, 29, 30] [(0, .slice a0' a_0.length c0'), (1, .slice a1' b_1.length c1'), (7, .slice a30 st29.1.length c31), (19, .int .i64 (a_0.length : Int)), (20, .int .i64 st29.2), (8, .int .i64 st29.2), (9, .slice a65 st64.1.length c66), (28, .int .i64 (x62.length : Int)), (29, .int .i64 st64.2), (30, .bool (decide (st64.2 < (x62.length : Int))))] (by kernel_rfl) ?_
  refine WL.nil ?_
  refine WQ.then_normal (hK80 _ _ _ ?_)
  refine WP.seq (fun K81 hK81 => ?_)
  refine WP.cond (decide (st64.2 < (x62.length : Int))) rfl rfl (fun hc82 => ?_) (fun hc82 => ?_)
  rotate_left
  · have hm := iteF hm hc82
    refine WP.exit ?_
    refine WQ.then_exit ?_
    refine WQ.then_exit ?_
    refine WQ.block_here ?_
    obtain rfl := Option.some.inj hm
    obtain rfl := afterN_done hl72
    have hm := hmo73
    refine WQ.then_normal (hK60 _ _ _ ?_)
    refine WP.region ?_
    refine WL.runk 2 [0, 1, 19, 20, 51, 52] [(0, .slice a0' a_0.length c0'), (1, .slice a1' b_1.length c1'), (19, .int .i64 (a_0.length : Int)), (20, .int .i64 st29.2), (51, .slice a30 st29.1.length c31), (52, .slice a65 st64.1.length c66)] (by kernel_rfl) ?_
    refine WL.st (.string (bs (ofBytes st64.1))) (ST.b2s (SH.rd (SH.front 0 hS71)) (SH.le (SH.front 0 hS71)).2 rfl rfl Try.underlying46 Try.underlying9 Try.underlying5) rfl rfl rfl ?_
    refine WL.row fStr 9 ([(ofBytes st64.1)] : List (List UInt8)) 1 #[.string (bs (ofBytes st64.1))] 54 (by kernel_rfl) rfl rfl rfl rfl rfl rfl rfl ?_
    intro a121 c122 w123 hE124 hR125
    have hb127 : Ext w w123 := Ext.trans hb69 hE124
    have hL128 : w.heap.size ≤ w123.heap.size := Nat.le_trans hL70 hE124.size
    have hS129 : SH w123 w.heap.size [aOwn fStr 9 a121 c122 ([(ofBytes st64.1)] : List (List UInt8)), aOwn fU8 5 a65 c66 st64.1, aOwn fStr 9 a30 c31 st29.1] := SH.add hS71 hE124 hL70 hR125
    obtain ⟨x130, hx131, hm⟩ := bindE hm
    refine WL.append (F := fStr) (xs := st29.1) (ys := ([(ofBytes st64.1)] : List (List UInt8))) 55 (SH.front 2 hS129) hL128 (SH.rd (SH.front 0 hS129)) hx131 rfl rfl rfl Try.underlying22 (info9).1 (info9).2.2.1 (info9).2.1 (info9).2.2.2 rfl rfl rfl rfl rfl ?_
    intro a132 c133 w134 hB135 hS136
    have hb137 : Ext w w134 := Below.trans hb127 hB135
    have hL138 : w.heap.size ≤ w134.heap.size := Nat.le_trans hL128 hB135.size
    refine WL.runk 1 [0, 1, 7, 19, 20] [(0, .slice a0' a_0.length c0'), (1, .slice a1' b_1.length c1'), (19, .int .i64 (a_0.length : Int)), (20, .int .i64 st29.2), (7, .slice a132 x130.length c133)] (by kernel_rfl) ?_
    refine WL.nil ?_
    refine WQ.block_normal ?_
    refine WQ.then_normal (hK48 _ _ _ ?_)
    refine WP.region ?_
    refine WL.runk 2 [0, 1, 7, 19, 20] [(0, .slice a0' a_0.length c0'), (1, .slice a1' b_1.length c1'), (19, .int .i64 (a_0.length : Int)), (20, .int .i64 (wI64 (st29.2 + 1))), (7, .slice a132 x130.length c133)] (by kernel_rfl) ?_
    refine WL.nil ?_
    obtain rfl := Option.some.inj hm
    exact WQ.round hK39 ⟨(x130, (wI64 (st29.2 + 1))), _, _, rfl, hb137, hL138, (SH.take 1 hS136), hl37⟩ (Nat.lt_succ_self _) ⟨rfl, rfl, rfl, rfl, rfl, trivial⟩
  have hm := iteT hm hc82
  refine WP.skip ?_
  refine WQ.then_normal (hK81 _ _ _ ?_)
  refine WP.seq (fun K83 hK83 => ?_)
  refine WP.block ?_
  refine WP.seq (fun K84 hK84 => ?_)
  refine WP.region ?_
  refine WL.runk 2 [0, 1, 7, 8, 9, 10, 19, 20, 28, 29] [(0, .slice a0' a_0.length c0'), (1, .slice a1' b_1.length c1'), (7, .slice a30 st29.1.length c31), (19, .int .i64 (a_0.length : Int)), (20, .int .i64 st29.2), (8, .int .i64 st29.2), (9, .slice a65 st64.1.length c66), (28, .int .i64 (x62.length : Int)), (29, .int .i64 st64.2), (10, .int .i64 st64.2)] (by kernel_rfl) ?_
  refine WL.nil ?_
  refine WQ.then_normal (hK84 _ _ _ ?_)
  refine WP.open (n := 19) (by kernel_rfl) rfl (fun w85 hE86 => ?_)
  have hb87 : Ext w w85 := Ext.trans hb69 hE86
  have hL88 : w.heap.size ≤ w85.heap.size := Nat.le_trans hL70 hE86.size
  have hS89 : SH w85 w.heap.size [aOwn fU8 5 a65 c66 st64.1, aOwn fStr 9 a30 c31 st29.1] := SH.ext hS71 hE86
  refine WA.pre (i := 0) (D' := [0]) [(0, .slice a0' a_0.length c0'), (1, .slice a1' b_1.length c1'), (7, .slice a30 st29.1.length c31), (19, .int .i64 (a_0.length : Int)), (20, .int .i64 st29.2), (8, .int .i64 st29.2), (9, .slice a65 st64.1.length c66), (28, .int .i64 (x62.length : Int)), (29, .int .i64 st64.2), (10, .int .i64 st64.2), (32, .slice a65 st64.1.length c66)] rfl (by kernel_rfl) rfl (fun _ => by kernel_rfl) rfl ?_
  refine WA.quiet (f' := 3) (D' := [0, 1, 2, 3, 4, 5, 6, 7, 8, 9, 10, 11, 12, 13, 14, 15]) [1, 2, 3, 4, 5, 6, 7, 8, 9, 10, 11, 12, 13, 14, 15] rfl rfl (by kernel_rfl) ?_
  refine QL.step1v 33 (.slice a0' a_0.length c0') rfl (fun _ => by kernel_rfl) ?_
  refine QL.step1v 34 (.int .i64 st29.2) rfl (fun _ => by kernel_rfl) ?_
  refine QL.subk [0, 1, 7, 19, 20, 8, 9, 28, 29, 10, 32, 33, 34] [(0, .slice a0' a_0.length c0'), (1, .slice a1' b_1.length c1'), (7, .slice a30 st29.1.length c31), (19, .int .i64 (a_0.length : Int)), (20, .int .i64 st29.2), (8, .int .i64 st29.2), (9, .slice a65 st64.1.length c66), (28, .int .i64 (x62.length : Int)), (29, .int .i64 st64.2), (10, .int .i64 st64.2), (32, .slice a65 st64.1.length c66), (33, .slice a0' a_0.length c0'), (34, .int .i64 st29.2)] (by kernel_rfl) ?_
  obtain ⟨x90, hx91, hm⟩ := bindE hm
  refine QL.st (.pointer (some (at_ a0' (Int.toNat st29.2 * 1)))) (ST.index (T := fStr.ty) (xs := a_0) (Rd.below h0 hb87) hx91 rfl rfl rfl Try.underlying22 (info9).1 (info9).2.1) rfl rfl rfl ?_
  refine QL.st (.string (bs x90)) (ST.load (cell_ext (Rd.flat (F := fStr) (Rd.below h0 hb87) hx91 0 rfl)) rfl rfl Try.underlying9 rfl) rfl rfl rfl ?_
  refine QL.step1v 37 (.int .i64 st64.2) rfl (fun _ => by kernel_rfl) ?_
  refine QL.subk [0, 1, 7, 19, 20, 8, 9, 28, 29, 10, 32, 36, 37] [(0, .slice a0' a_0.length c0'), (1, .slice a1' b_1.length c1'), (7, .slice a30 st29.1.length c31), (19, .int .i64 (a_0.length : Int)), (20, .int .i64 st29.2), (8, .int .i64 st29.2), (9, .slice a65 st64.1.length c66), (28, .int .i64 (x62.length : Int)), (29, .int .i64 st64.2), (10, .int .i64 st64.2), (32, .slice a65 st64.1.length c66), (36, .string (bs x90)), (37, .int .i64 st64.2)] (by kernel_rfl) ?_
  obtain ⟨x92, hx93, hm⟩ := bindE hm
  refine QL.st (.int .u8 (x92.toNat : Int)) (ST.sindex hx93 rfl rfl rfl Try.underlying9) rfl rfl rfl ?_
  refine QL.step1v 39 (.slice a1' b_1.length c1') rfl (fun _ => by kernel_rfl) ?_
  refine QL.step1v 40 (.int .i64 st29.2) rfl (fun _ => by kernel_rfl) ?_
  refine QL.subk [0, 1, 7, 19, 20, 8, 9, 28, 29, 10, 32, 38, 39, 40] [(0, .slice a0' a_0.length c0'), (1, .slice a1' b_1.length c1'), (7, .slice a30 st29.1.length c31), (19, .int .i64 (a_0.length : Int)), (20, .int .i64 st29.2), (8, .int .i64 st29.2), (9, .slice a65 st64.1.length c66), (28, .int .i64 (x62.length : Int)), (29, .int .i64 st64.2), (10, .int .i64 st64.2), (32, .slice a65 st64.1.length c66), (38, .int .u8 (x92.toNat : Int)), (39, .slice a1' b_1.length c1'), (40, .int .i64 st29.2)] (by kernel_rfl) ?_
  obtain ⟨x94, hx95, hm⟩ := bindE hm
  refine QL.st (.pointer (some (at_ a1' (Int.toNat st29.2 * 1)))) (ST.index (T := fStr.ty) (xs := b_1) (Rd.below h1 hb87) hx95 rfl rfl rfl Try.underlying22 (info9).1 (info9).2.1) rfl rfl rfl ?_
  refine QL.st (.string (bs x94)) (ST.load (cell_ext (Rd.flat (F := fStr) (Rd.below h1 hb87) hx95 0 rfl)) rfl rfl Try.underlying9 rfl) rfl rfl rfl ?_
  refine QL.step1v 43 (.int .i64 st64.2) rfl (fun _ => by kernel_rfl) ?_
  refine QL.subk [0, 1, 7, 19, 20, 8, 9, 28, 29, 32, 38, 42, 43] [(0, .slice a0' a_0.length c0'), (1, .slice a1' b_1.length c1'), (7, .slice a30 st29.1.length c31), (19, .int .i64 (a_0.length : Int)), (20, .int .i64 st29.2), (8, .int .i64 st29.2), (9, .slice a65 st64.1.length c66), (28, .int .i64 (x62.length : Int)), (29, .int .i64 st64.2), (32, .slice a65 st64.1.length c66), (38, .int .u8 (x92.toNat : Int)), (42, .string (bs x94)), (43, .int .i64 st64.2)] (by kernel_rfl) ?_
  obtain ⟨x96, hx97, hm⟩ := bindE hm
  refine QL.st (.int .u8 (x96.toNat : Int)) (ST.sindex hx97 rfl rfl rfl Try.underlying9) rfl rfl rfl ?_
  refine QL.step1v 45 (.int .u8 (IntKind.u8.wrap ((x96.toNat : Int) - 48))) rfl (fun _ => by kernel_rfl) ?_
  refine QL.step1v 46 (.int .u8 (IntKind.u8.wrap ((x92.toNat : Int) + (IntKind.u8.wrap ((x96.toNat : Int) - 48))))) rfl (fun _ => by kernel_rfl) ?_
  refine QL.step1v 47 (.int .u8 (imin (IntKind.u8.wrap ((x92.toNat : Int) + (IntKind.u8.wrap ((x96.toNat : Int) - 48)))) 57)) rfl (fun _ => by kernel_rfl) ?_
  refine QL.subk [0, 1, 7, 19, 20, 8, 9, 28, 29, 32, 47] [(0, .slice a0' a_0.length c0'), (1, .slice a1' b_1.length c1'), (7, .slice a30 st29.1.length c31), (19, .int .i64 (a_0.length : Int)), (20, .int .i64 st29.2), (8, .int .i64 st29.2), (9, .slice a65 st64.1.length c66), (28, .int .i64 (x62.length : Int)), (29, .int .i64 st64.2), (32, .slice a65 st64.1.length c66), (47, .int .u8 (imin (IntKind.u8.wrap ((x92.toNat : Int) + (IntKind.u8.wrap ((x96.toNat : Int) - 48)))) 57))] (by kernel_rfl) ?_
  refine QL.nil ?_
  intro w98 hE99
  have hb100 : Ext w w98 := Ext.trans hb87 hE99
  have hL101 : w.heap.size ≤ w98.heap.size := Nat.le_trans hL88 hE99.size
  have hS102 : SH w98 w.heap.size [aOwn fU8 5 a65 c66 st64.1, aOwn fStr 9 a30 c31 st29.1] := SH.ext hS89 hE99
  refine WA.one (i := 16) (D' := [0, 1, 2, 3, 4, 5, 6, 7, 8, 9, 10, 11, 12, 13, 14, 15, 16]) rfl rfl (by kernel_rfl) ?_
  refine WL.row fU8 5 ([(imin (IntKind.u8.wrap ((x92.toNat : Int) + (IntKind.u8.wrap ((x96.toNat : Int) - 48)))) 57)] : List Int) 1 #[.int .u8 (imin (IntKind.u8.wrap ((x92.toNat : Int) + (IntKind.u8.wrap ((x96.toNat : Int) - 48)))) 57)] 48 (by kernel_rfl) rfl rfl rfl rfl rfl rfl rfl ?_
  intro a103 c104 w105 hE106 hR107
  have hb109 : Ext w w105 := Ext.trans hb100 hE106
  have hL110 : w.heap.size ≤ w105.heap.size := Nat.le_trans hL101 hE106.size
  have hS111 : SH w105 w.heap.size [aOwn fU8 5 a103 c104 ([(imin (IntKind.u8.wrap ((x92.toNat : Int) + (IntKind.u8.wrap ((x96.toNat : Int) - 48)))) 57)] : List Int), aOwn fU8 5 a65 c66 st64.1, aOwn fStr 9 a30 c31 st29.1] := SH.add hS102 hE106 hL101 hR107
  refine WL.sub [(0, .slice a0' a_0.length c0'), (1, .slice a1' b_1.length c1'), (7, .slice a30 st29.1.length c31), (19, .int .i64 (a_0.length : Int)), (20, .int .i64 st29.2), (8, .int .i64 st29.2), (9, .slice a65 st64.1.length c66), (28, .int .i64 (x62.length : Int)), (29, .int .i64 st64.2), (32, .slice a65 st64.1.length c66), (48, .slice a103 (([(imin (IntKind.u8.wrap ((x92.toNat : Int) + (IntKind.u8.wrap ((x96.toNat : Int) - 48)))) 57)] : List Int).length) c104)] ⟨rfl, rfl, rfl, rfl, rfl, rfl, rfl, rfl, rfl, rfl, rfl, trivial⟩ ?_
  refine WL.nil ?_
  refine WA.one (i := 17) (D' := [0, 1, 2, 3, 4, 5, 6, 7, 8, 9, 10, 11, 12, 13, 14, 15, 16, 17]) rfl rfl (by kernel_rfl) ?_
  obtain ⟨x112, hx113, hm⟩ := bindE hm
  refine WL.append (F := fU8) (xs := st64.1) (ys := ([(imin (IntKind.u8.wrap ((x92.toNat : Int) + (IntKind.u8.wrap ((x96.toNat : Int) - 48)))) 57)] : List Int)) 49 (SH.front 1 hS111) hL110 (SH.rd (SH.front 0 hS111)) hx113 rfl rfl rfl Try.underlying46 (info5).1 (info5).2.2.1 (info5).2.1 (info5).2.2.2 rfl rfl rfl rfl rfl ?_
  intro a114 c115 w116 hB117 hS118
  have hb119 : Ext w w116 := Below.trans hb109 hB117
  have hL120 : w.heap.size ≤ w116.heap.size := Nat.le_trans hL110 hB117.size
  refine WL.sub [(0, .slice a0' a_0.length c0'), (1, .slice a1' b_1.length c1'), (7, .slice a30 st29.1.length c31), (19, .int .i64 (a_0.length : Int)), (20, .int .i64 st29.2), (8, .int .i64 st29.2), (9, .slice a65 st64.1.length c66), (28, .int .i64 (x62.length : Int)), (29, .int .i64 st64.2), (49, .slice a114 x112.length c115)] ⟨rfl, rfl, rfl, rfl, rfl, rfl, rfl, rfl, rfl, rfl, trivial⟩ ?_
  refine WL.nil ?_
  refine WA.one (i := 18) (D' := [0, 1, 2, 3, 4, 5, 6, 7, 8, 9, 10, 11, 12, 13, 14, 15, 16, 17, 18]) rfl rfl (by kernel_rfl) ?_
  refine WL.runk 1 [0, 1, 7, 8, 9, 19, 20, 28, 29] [(0, .slice a0' a_0.length c0'), (1, .slice a1' b_1.length c1'), (7, .slice a30 st29.1.length c31), (19, .int .i64 (a_0.length : Int)), (20, .int .i64 st29.2), (8, .int .i64 st29.2), (9, .slice a114 x112.length c115), (28, .int .i64 (x62.length : Int)), (29, .int .i64 st64.2)] (by kernel_rfl) ?_
  refine WL.nil ?_
  refine WA.done (by kernel_rfl) ?_
  refine WQ.block_normal ?_
  refine WQ.then_normal (hK83 _ _ _ ?_)
  refine WP.region ?_
  refine WL.runk 2 [0, 1, 7, 8, 9, 19, 20, 28, 29] [(0, .slice a0' a_0.length c0'), (1, .slice a1' b_1.length c1'), (7, .slice a30 st29.1.length c31), (19, .int .i64 (a_0.length : Int)), (20, .int .i64 st29.2), (8, .int .i64 st29.2), (9, .slice a114 x112.length c115), (28, .int .i64 (x62.length : Int)), (29, .int .i64 (wI64 (st64.2 + 1)))] (by kernel_rfl) ?_
  refine WL.nil ?_
  obtain rfl := Option.some.inj hm
  exact WQ.round hK74 ⟨(x112, (wI64 (st64.2 + 1))), _, _, rfl, hb119, hL120, (SH.take 2 (SH.front 1 (SH.front 2 hS118))), hl72⟩ (Nat.lt_succ_self _) ⟨rfl, rfl, rfl, rfl, rfl, rfl, rfl, rfl, rfl, trivial⟩

theorem c_39 (n : Nat) (rows_0 : List (List UInt8)) (a0' : Option Addr) (c0' : Nat) (least_1 : Int) (w : World) {r : List Int × Int} (hm : m_impl_PatchFor n rows_0 least_1 = some r) (h0 : Rd fStr.ty w a0' rows_0) (hle0 : rows_0.length ≤ c0') :
    CallV Try.prog 39 #[.slice a0' rows_0.length c0', .int .i64 least_1] w (fun v w' => ∃ (ra0 : Option Addr) (rc0 : Nat), v = .tuple #[.slice ra0 r.1.length rc0, .int .i64 r.2] ∧ Ext w w' ∧ SH w' w.heap.size [aOwn fInt 2 ra0 rc0 r.1]) := by
  unfold m_impl_PatchFor at hm
  refine CallV.enter Try.func39 rfl (by kernel_rfl) Try.ntmps39 (env := [(0, .slice a0' rows_0.length c0'), (1, .int .i64 least_1)]) ⟨rfl, rfl, trivial⟩ ?_
  refine WP.seq (fun K1 hK1 => ?_)
  refine WP.region ?_
  refine WL.runk 2 [0, 1] [(0, .slice a0' rows_0.length c0'), (1, .int .i64 least_1)] (by kernel_rfl) ?_
  refine WL.nil ?_
  refine WQ.then_normal (hK1 _ _ _ ?_)
  refine WP.seq (fun K2 hK2 => ?_)
  refine WP.seq (fun K3 hK3 => ?_)
  refine WP.region ?_
  refine WL.runk 2 [0, 1, 16, 17] [(0, .slice a0' rows_0.length c0'), (1, .int .i64 least_1), (16, .slice a0' rows_0.length c0'), (17, .int .i64 least_1)] (by kernel_rfl) ?_
  obtain ⟨x4, hx5, hm⟩ := bindE hm
  refine WL.call 53 #[.slice a0' rows_0.length c0', .int .i64 least_1] rfl rfl (by kernel_rfl) (c_53 n rows_0 a0' c0' least_1 w hx5 (Rd.below h0 (Ext.refl w)) hle0) ?_
  rintro _ w6 ⟨rfl, hE7⟩
  refine ⟨_, rfl, ?_⟩
  have hb9 : Ext w w6 := Ext.trans (Ext.refl w) hE7
  have hL10 : w.heap.size ≤ w6.heap.size := Nat.le_trans (Nat.le_refl _) hE7.size
  have hS11 : SH w6 w.heap.size [] := SH.ext (SH.nil _ _) hE7
  refine WL.runk 1 [0, 1, 6] [(0, .slice a0' rows_0.length c0'), (1, .int .i64 least_1), (6, .int .i64 x4)] (by kernel_rfl) ?_
  refine WL.nil ?_
  refine WQ.then_normal (hK3 _ _ _ ?_)
  refine WP.seq (fun K12 hK12 => ?_)
  refine WP.region ?_
  refine WL.runk 2 [0, 1, 6, 20] [(0, .slice a0' rows_0.length c0'), (1, .int .i64 least_1), (6, .int .i64 x4), (20, .bool (x4 != 0))] (by kernel_rfl) ?_
  refine WL.nil ?_
  refine WQ.then_normal (hK12 _ _ _ ?_)
  refine WP.cond (x4 != 0) rfl rfl (fun hc13 => ?_) (fun hc13 => ?_)
  · have hm := iteT hm hc13
    refine WP.seq (fun K14 hK14 => ?_)
    refine WP.region ?_
    refine WL.runk 3 [4, 5] [(4, .slice none 0 0), (5, .int .i64 x4)] (by kernel_rfl) ?_
    refine WL.nil ?_
    refine WQ.then_normal (hK14 _ _ _ ?_)
    refine WP.ret ?_
    refine WQ.then_ret ?_
    obtain rfl := Option.some.inj hm
    have hS16 : SH w6 w.heap.size [aOwn fInt 2 none 0 ([] : List Int)] := SH.nilOwn hS11
    exact WQ.ret2 _ _ rfl rfl rfl ⟨_, _, rfl, hb9, hS16⟩
  have hm := iteF hm hc13
  refine WP.skip ?_
  refine WQ.then_normal (hK2 _ _ _ ?_)
  refine WP.seq (fun K17 hK17 => ?_)
  refine WP.region ?_
  refine WL.runk 1 [0, 1, 22] [(0, .slice a0' rows_0.length c0'), (1, .int .i64 least_1), (22, .slice a0' rows_0.length c0')] (by kernel_rfl) ?_
  obtain ⟨x18, hx19, hm⟩ := bindE hm
  refine WL.st (.pointer (some (at_ a0' (Int.toNat 0 * 1)))) (ST.index (T := fStr.ty) (xs := rows_0) (Rd.below h0 hb9) hx19 rfl rfl rfl Try.underlying22 (info9).1 (info9).2.1) rfl rfl rfl ?_
  refine WL.st (.string (bs x18)) (ST.load (cell_ext (Rd.flat (F := fStr) (Rd.below h0 hb9) hx19 0 rfl)) rfl rfl Try.underlying9 rfl) rfl rfl rfl ?_
  refine WL.runk 2 [0, 1, 7] [(0, .slice a0' rows_0.length c0'), (1, .int .i64 least_1), (7, .int .i64 (x18.length : Int))] (by kernel_rfl) ?_
  refine WL.nil ?_
  refine WQ.then_normal (hK17 _ _ _ ?_)
  refine WP.seq (fun K20 hK20 => ?_)
  refine WP.region ?_
  refine WL.runk 7 [0, 1, 7, 8, 9, 10, 11] [(0, .slice a0' rows_0.length c0'), (1, .int .i64 least_1), (7, .int .i64 (x18.length : Int)), (8, .int .i64 (rows_0.length : Int)), (9, .int .i64 (x18.length : Int)), (10, .int .i64 (-1)), (11, .int .i64 (-1))] (by kernel_rfl) ?_
  refine WL.nil ?_
  refine WQ.then_normal (hK20 _ _ _ ?_)
  refine WP.seq (fun K21 hK21 => ?_)
  refine WP.seq (fun K22 hK22 => ?_)
  refine WP.region ?_
  refine WL.runk 1 [1, 7, 8, 9, 10, 11, 29] [(1, .int .i64 least_1), (7, .int .i64 (x18.length : Int)), (8, .int .i64 (rows_0.length : Int)), (9, .int .i64 (x18.length : Int)), (10, .int .i64 (-1)), (11, .int .i64 (-1)), (29, .slice a0' rows_0.length c0')] (by kernel_rfl) ?_
  obtain ⟨x23, hx24, hm⟩ := bindE hm
  refine WL.call 54 #[.slice a0' rows_0.length c0'] rfl rfl (by kernel_rfl) (c_54 n rows_0 a0' c0' w6 hx24 (Rd.below h0 hb9) hle0) ?_
  rintro _ w28 ⟨a25, c26, rfl, hE29, hR30⟩
  refine ⟨_, rfl, ?_⟩
  have hb31 : Ext w w28 := Ext.trans hb9 hE29
  have hL32 : w.heap.size ≤ w28.heap.size := Nat.le_trans hL10 hE29.size
  have hS33 : SH w28 w.heap.size [aOwn fInt 2 a25 c26 x23] := SH.add hS11 hE29 hL10 hR30
  refine WL.runk 2 [1, 7, 8, 9, 10, 11, 30, 31, 32] [(1, .int .i64 least_1), (7, .int .i64 (x18.length : Int)), (8, .int .i64 (rows_0.length : Int)), (9, .int .i64 (x18.length : Int)), (10, .int .i64 (-1)), (11, .int .i64 (-1)), (30, .slice a25 x23.length c26), (31, .int .i64 (x23.length : Int)), (32, .int .i64 0)] (by kernel_rfl) ?_
  refine WL.nil ?_
  refine WQ.then_normal (hK22 _ _ _ ?_)
  refine WP.block ?_
  obtain ⟨t45, ht46, hm⟩ := bindE hm
  have hmo40 := hm; clear hm
  refine WP.sub [(1, .int .i64 least_1), (7, .int .i64 (x18.length : Int)), (8, .int .i64 (rows_0.length : Int)), (9, .int .i64 (x18.length : Int)), (10, .int .i64 (-1)), (11, .int .i64 (-1)), (30, .slice a25 x23.length c26), (31, .int .i64 (x23.length : Int)), (32, .int .i64 0)] ⟨rfl, rfl, rfl, rfl, rfl, rfl, rfl, rfl, rfl, trivial⟩ ?_
  refine WP.loop (fun n' env' w' => ∃ (st34 : Int × Int × Int × Int × Int) , env' = [(1, .int .i64 least_1), (7, .int .i64 (x18.length : Int)), (8, .int .i64 st34.1), (9, .int .i64 st34.2.1), (10, .int .i64 st34.2.2.1), (11, .int .i64 st34.2.2.2.1), (30, .slice a25 x23.length c26), (31, .int .i64 (x23.length : Int)), (32, .int .i64 st34.2.2.2.2)] ∧ Ext w w' ∧ w.heap.size ≤ w'.heap.size ∧ SH w' w.heap.size [aOwn fInt 2 a25 c26 x23] ∧ loopN (m_impl_PatchFor_l1 n least_1 x18 x23) n' st34 = some t45) n ⟨((rows_0.length : Int), (x18.length : Int), (-1), (-1), 0), rfl, hb31, hL32, hS33, ht46⟩ ?_
  rintro n42 _ w35 ⟨st34, rfl, hb36, hL37, hS38, hl39⟩ K41 hK41
  obtain ⟨n43, s44, rfl, hm, hl39⟩ := loopN_some hl39
  unfold m_impl_PatchFor_l1 at hm
  refine WP.seq (fun K47 hK47 => ?_)
  refine WP.region ?_
  refine WL.runk 1 [1, 7, 8, 9, 10, 11, 30, 31, 32, 33] [(1, .int .i64 least_1), (7, .int .i64 (x18.length : Int)), (8, .int .i64 st34.1), (9, .int .i64 st34.2.1), (10, .int .i64 st34.2.2.1), (11, .int .i64 st34.2.2.2.1), (30, .slice a25 x23.length c26), (31, .int .i64 (x23.length : Int)), (32, .int .i64 st34.2.2.2.2), (33, .bool (decide (st34.2.2.2.2 < (x23.length : Int))))] (by kernel_rfl) ?_
  refine WL.nil ?_
  refine WQ.then_normal (hK47 _ _ _ ?_)
  refine WP.seq (fun K48 hK48 => ?_)
  refine WP.cond (decide (st34.2.2.2.2 < (x23.length : Int))) rfl rfl (fun hc49 => ?_) (fun hc49 => ?_)
  rotate_left
  · have hm := iteF hm hc49
    refine WP.exit ?_
    refine WQ.then_exit ?_
    refine WQ.then_exit ?_
    refine WQ.block_here ?_
    obtain rfl := Option.some.inj hm
    obtain rfl := afterN_done hl39
    have hm := hmo40
    refine WQ.then_normal (hK21 _ _ _ ?_)
    refine WP.seq (fun K82 hK82 => ?_)
    refine WP.seq (fun K83 hK83 => ?_)
    refine WP.region ?_
    refine WL.runk 2 [8, 9, 10, 11, 60] [(8, .int .i64 st34.1), (9, .int .i64 st34.2.1), (10, .int .i64 st34.2.2.1), (11, .int .i64 st34.2.2.2.1), (60, .bool (decide (st34.2.2.1 < 0)))] (by kernel_rfl) ?_
    refine WL.nil ?_
    refine WQ.then_normal (hK83 _ _ _ ?_)
    refine WP.cond (decide (st34.2.2.1 < 0)) rfl rfl (fun hc84 => ?_) (fun hc84 => ?_)
    · have hm := iteT hm hc84
      refine WP.seq (fun K85 hK85 => ?_)
      refine WP.region ?_
      refine WL.runk 2 [4, 5] [(4, .slice none 0 0), (5, .int .i64 3)] (by kernel_rfl) ?_
      refine WL.nil ?_
      refine WQ.then_normal (hK85 _ _ _ ?_)
      refine WP.ret ?_
      refine WQ.then_ret ?_
      obtain rfl := Option.some.inj hm
      have hS87 : SH w35 w.heap.size [aOwn fInt 2 none 0 ([] : List Int), aOwn fInt 2 a25 c26 x23] := SH.nilOwn hS38
      exact WQ.ret2 _ _ rfl rfl rfl ⟨_, _, rfl, hb36, (SH.take 1 hS87)⟩
    have hm := iteF hm hc84
    refine WP.skip ?_
    refine WQ.then_normal (hK82 _ _ _ ?_)
    refine WP.seq (fun K88 hK88 => ?_)
    refine WP.region ?_
    refine WL.runk 10 [61, 62, 66, 70] [(61, .int .i64 st34.1), (62, .int .i64 st34.2.1), (66, .int .i64 (wI64 ((wI64 (st34.2.2.1 - st34.1)) + 1))), (70, .int .i64 (wI64 ((wI64 (st34.2.2.2.1 - st34.2.1)) + 1)))] (by kernel_rfl) ?_
    refine WL.row fInt 2 ([st34.1, st34.2.1, (wI64 ((wI64 (st34.2.2.1 - st34.1)) + 1)), (wI64 ((wI64 (st34.2.2.2.1 - st34.2.1)) + 1))] : List Int) 4 #[.int .i64 st34.1, .int .i64 st34.2.1, .int .i64 (wI64 ((wI64 (st34.2.2.1 - st34.1)) + 1)), .int .i64 (wI64 ((wI64 (st34.2.2.2.1 - st34.2.1)) + 1))] 71 (by kernel_rfl) rfl rfl rfl rfl rfl rfl rfl ?_
    intro a89 c90 w91 hE92 hR93
    have hb95 : Ext w w91 := Ext.trans hb36 hE92
    have hL96 : w.heap.size ≤ w91.heap.size := Nat.le_trans hL37 hE92.size
    have hS97 : SH w91 w.heap.size [aOwn fInt 2 a89 c90 ([st34.1, st34.2.1, (wI64 ((wI64 (st34.2.2.1 - st34.1)) + 1)), (wI64 ((wI64 (st34.2.2.2.1 - st34.2.1)) + 1))] : List Int), aOwn fInt 2 a25 c26 x23] := SH.add hS38 hE92 hL37 hR93
    refine WL.runk 2 [4, 5] [(4, .slice a89 (([st34.1, st34.2.1, (wI64 ((wI64 (st34.2.2.1 - st34.1)) + 1)), (wI64 ((wI64 (st34.2.2.2.1 - st34.2.1)) + 1))] : List Int).length) c90), (5, .int .i64 0)] (by kernel_rfl) ?_
    refine WL.nil ?_
    refine WQ.then_normal (hK88 _ _ _ ?_)
    refine WP.ret ?_
    obtain rfl := Option.some.inj hm
    exact WQ.ret2 _ _ rfl rfl rfl ⟨_, _, rfl, hb95, (SH.take 1 hS97)⟩
  have hm := iteT hm hc49
  refine WP.skip ?_
  refine WQ.then_normal (hK48 _ _ _ ?_)
  refine WP.seq (fun K50 hK50 => ?_)
  refine WP.block ?_
  refine WP.seq (fun K51 hK51 => ?_)
  refine WP.region ?_
  refine WL.runk 1 [1, 7, 8, 9, 10, 11, 30, 31, 32, 34] [(1, .int .i64 least_1), (7, .int .i64 (x18.length : Int)), (8, .int .i64 st34.1), (9, .int .i64 st34.2.1), (10, .int .i64 st34.2.2.1), (11, .int .i64 st34.2.2.2.1), (30, .slice a25 x23.length c26), (31, .int .i64 (x23.length : Int)), (32, .int .i64 st34.2.2.2.2), (34, .int .i64 st34.2.2.2.2)] (by kernel_rfl) ?_
  obtain ⟨x52, hx53, hm⟩ := bindE hm
  refine WL.st (.pointer (some (at_ a25 (Int.toNat st34.2.2.2.2 * 1)))) (ST.index (T := fInt.ty) (xs := x23) (SH.rd (SH.front 0 hS38)) hx53 rfl rfl rfl Try.underlying40 (info2).1 (info2).2.1) rfl rfl rfl ?_
  refine WL.st (.int .i64 x52) (ST.load (cell_ext (Rd.flat (F := fInt) (SH.rd (SH.front 0 hS38)) hx53 0 rfl)) rfl rfl Try.underlying2 rfl) rfl rfl rfl ?_
  refine WL.runk 2 [1, 7, 8, 9, 10, 11, 12, 13, 30, 31, 32] [(1, .int .i64 least_1), (7, .int .i64 (x18.length : Int)), (8, .int .i64 st34.1), (9, .int .i64 st34.2.1), (10, .int .i64 st34.2.2.1), (11, .int .i64 st34.2.2.2.1), (30, .slice a25 x23.length c26), (31, .int .i64 (x23.length : Int)), (32, .int .i64 st34.2.2.2.2), (12, .int .i64 st34.2.2.2.2), (13, .int .i64 x52)] (by kernel_rfl) ?_
  refine WL.nil ?_
  refine WQ.then_normal (hK51 _ _ _ ?_)
  refine WP.seq (fun K54 hK54 => ?_)
  refine WP.region ?_
  refine WL.runk 3 [1, 7, 8, 9, 10, 11, 12, 30, 31, 32, 39] [(1, .int .i64 least_1), (7, .int .i64 (x18.length : Int)), (8, .int .i64 st34.1), (9, .int .i64 st34.2.1), (10, .int .i64 st34.2.2.1), (11, .int .i64 st34.2.2.2.1), (30, .slice a25 x23.length c26), (31, .int .i64 (x23.length : Int)), (32, .int .i64 st34.2.2.2.2), (12, .int .i64 st34.2.2.2.2), (39, .bool (decide (x52 ≥ least_1)))] (by kernel_rfl) ?_
  refine WL.nil ?_
  refine WQ.then_normal (hK54 _ _ _ ?_)
  obtain ⟨x66, hx67, hm⟩ := bindE hm
  refine WP.cut (fun env' w' => env' = [(1, .int .i64 least_1), (7, .int .i64 (x18.length : Int)), (8, .int .i64 x66.1), (9, .int .i64 x66.2.1), (10, .int .i64 x66.2.2.1), (11, .int .i64 x66.2.2.2), (30, .slice a25 x23.length c26), (31, .int .i64 (x23.length : Int)), (32, .int .i64 st34.2.2.2.2)] ∧ Ext w w' ∧ w.heap.size ≤ w'.heap.size ∧ SH w' w.heap.size [aOwn fInt 2 a25 c26 x23]) ?_ ?_
  rotate_left
  · clear hx67
    rintro _ w78 ⟨rfl, hb79, hL80, hS81⟩
    refine WQ.block_normal ?_
    refine WQ.then_normal (hK50 _ _ _ ?_)
    refine WP.region ?_
    refine WL.runk 2 [1, 7, 8, 9, 10, 11, 30, 31, 32] [(1, .int .i64 least_1), (7, .int .i64 (x18.length : Int)), (8, .int .i64 x66.1), (9, .int .i64 x66.2.1), (10, .int .i64 x66.2.2.1), (11, .int .i64 x66.2.2.2), (30, .slice a25 x23.length c26), (31, .int .i64 (x23.length : Int)), (32, .int .i64 (wI64 (st34.2.2.2.2 + 1)))] (by kernel_rfl) ?_
    refine WL.nil ?_
    obtain rfl := Option.some.inj hm
    exact WQ.round hK41 ⟨(x66.1, x66.2.1, x66.2.2.1, x66.2.2.2, (wI64 (st34.2.2.2.2 + 1))), rfl, hb79, hL80, hS81, hl39⟩ (Nat.lt_succ_self _) ⟨rfl, rfl, rfl, rfl, rfl, rfl, rfl, rfl, rfl, trivial⟩
  have hm := hx67; clear hx67
  refine WP.cond (decide (x52 ≥ least_1)) rfl rfl (fun hc55 => ?_) (fun hc55 => ?_)
  rotate_left
  · have hm := iteF hm hc55
    refine WP.skip ?_
    obtain rfl := Option.some.inj hm
    exact WQ.post' ⟨rfl, hb36, hL37, hS38⟩ ⟨rfl, rfl, rfl, rfl, rfl, rfl, rfl, rfl, rfl, trivial⟩
  have hm := iteT hm hc55
  refine WP.seq (fun K68 hK68 => ?_)
  refine WP.quiet (by kernel_rfl) (by kernel_rfl) ?_
  refine QL.step1v 40 (.int .i64 st34.2.2.2.2) rfl (fun _ => by kernel_rfl) ?_
  refine QL.step1v 41 (.int .i64 (x18.length : Int)) rfl (fun _ => by kernel_rfl) ?_
  refine QL.subk [1, 7, 8, 9, 10, 11, 30, 31, 32, 12, 40, 41] [(1, .int .i64 least_1), (7, .int .i64 (x18.length : Int)), (8, .int .i64 st34.1), (9, .int .i64 st34.2.1), (10, .int .i64 st34.2.2.1), (11, .int .i64 st34.2.2.2.1), (30, .slice a25 x23.length c26), (31, .int .i64 (x23.length : Int)), (32, .int .i64 st34.2.2.2.2), (12, .int .i64 st34.2.2.2.2), (40, .int .i64 st34.2.2.2.2), (41, .int .i64 (x18.length : Int))] (by kernel_rfl) ?_
  obtain ⟨x69, hx70, hm⟩ := bindE hm
  refine QL.st (.int .i64 x69) (ST.quo (k := .i64) hx70 rfl rfl rfl) rfl rfl rfl ?_
  refine QL.step1v 43 (.int .i64 st34.2.2.2.2) rfl (fun _ => by kernel_rfl) ?_
  refine QL.step1v 44 (.int .i64 (x18.length : Int)) rfl (fun _ => by kernel_rfl) ?_
  refine QL.subk [1, 7, 8, 9, 10, 11, 30, 31, 32, 42, 43, 44] [(1, .int .i64 least_1), (7, .int .i64 (x18.length : Int)), (8, .int .i64 st34.1), (9, .int .i64 st34.2.1), (10, .int .i64 st34.2.2.1), (11, .int .i64 st34.2.2.2.1), (30, .slice a25 x23.length c26), (31, .int .i64 (x23.length : Int)), (32, .int .i64 st34.2.2.2.2), (42, .int .i64 x69), (43, .int .i64 st34.2.2.2.2), (44, .int .i64 (x18.length : Int))] (by kernel_rfl) ?_
  obtain ⟨x71, hx72, hm⟩ := bindE hm
  refine QL.st (.int .i64 x71) (ST.rem (k := .i64) hx72 rfl rfl rfl) rfl rfl rfl ?_
  refine QL.step1v 14 (.int .i64 x69) rfl (fun _ => by kernel_rfl) ?_
  refine QL.step1v 15 (.int .i64 x71) rfl (fun _ => by kernel_rfl) ?_
  refine QL.subk [1, 7, 8, 9, 10, 11, 30, 31, 32, 14, 15] [(1, .int .i64 least_1), (7, .int .i64 (x18.length : Int)), (8, .int .i64 st34.1), (9, .int .i64 st34.2.1), (10, .int .i64 st34.2.2.1), (11, .int .i64 st34.2.2.2.1), (30, .slice a25 x23.length c26), (31, .int .i64 (x23.length : Int)), (32, .int .i64 st34.2.2.2.2), (14, .int .i64 x69), (15, .int .i64 x71)] (by kernel_rfl) ?_
  refine QL.nil ?_
  intro w73 hE74
  have hb75 : Ext w w73 := Ext.trans hb36 hE74
  have hL76 : w.heap.size ≤ w73.heap.size := Nat.le_trans hL37 hE74.size
  have hS77 : SH w73 w.heap.size [aOwn fInt 2 a25 c26 x23] := SH.ext hS38 hE74
  refine WQ.then_normal (hK68 _ _ _ ?_)
  refine WP.region ?_
  refine WL.runk 16 [1, 7, 8, 9, 10, 11, 30, 31, 32] [(1, .int .i64 least_1), (7, .int .i64 (x18.length : Int)), (8, .int .i64 (imin st34.1 x69)), (9, .int .i64 (imin st34.2.1 x71)), (10, .int .i64 (imax st34.2.2.1 x69)), (11, .int .i64 (imax st34.2.2.2.1 x71)), (30, .slice a25 x23.length c26), (31, .int .i64 (x23.length : Int)), (32, .int .i64 st34.2.2.2.2)] (by kernel_rfl) ?_
  refine WL.nil ?_
  obtain rfl := Option.some.inj hm
  exact WQ.post' ⟨rfl, hb75, hL76, hS77⟩ ⟨rfl, rfl, rfl, rfl, rfl, rfl, rfl, rfl, rfl, trivial⟩

theorem c_40 (n : Nat) (code_0 : List Int) (a0' : Option Addr) (c0' : Nat) (more_1 : List Int) (a1' : Option Addr) (c1' : Nat) (w : World) {r : Bool} (hm : m_laws_a2Long n code_0 more_1 = some r) (_h0 : Rd fU8.ty w a0' code_0) (_hle0 : code_0.length ≤ c0') (_h1 : Rd fU8.ty w a1' more_1) (_hle1 : more_1.length ≤ c1') :
    CallV Try.prog 40 #[.slice a0' code_0.length c0', .slice a1' more_1.length c1'] w (fun v w' => v = .bool r ∧ Ext w w') := by
  unfold m_laws_a2Long at hm
  refine CallV.enter Try.func40 rfl (by kernel_rfl) Try.ntmps40 (env := [(0, .slice a0' code_0.length c0'), (1, .slice a1' more_1.length c1')]) ⟨rfl, rfl, trivial⟩ ?_
  refine WP.seq (fun K1 hK1 => ?_)
  refine WP.region ?_
  refine WL.runk 1 [0, 1] [(0, .slice a0' code_0.length c0'), (1, .slice a1' more_1.length c1')] (by kernel_rfl) ?_
  refine WL.nil ?_
  refine WQ.then_normal (hK1 _ _ _ ?_)
  refine WP.seq (fun K2 hK2 => ?_)
  obtain ⟨x4, hx5, hm⟩ := bindE hm
  refine WP.cut (fun env' w' => env' = [(4, .bool x4)] ∧ Ext w w' ∧ w.heap.size ≤ w'.heap.size ∧ SH w' w.heap.size []) ?_ ?_
  rotate_left
  · clear hx5
    rintro _ w7 ⟨rfl, hb8, hL9, hS10⟩
    refine WQ.then_normal (hK2 _ _ _ ?_)
    refine WP.ret ?_
    obtain rfl := Option.some.inj hm
    exact WQ.ret1 _ rfl rfl ⟨rfl, hb8⟩
  have hm := hx5; clear hx5
  refine WP.region ?_
  refine WL.runk 4 [1, 8] [(1, .slice a1' more_1.length c1'), (8, .bool (decide ((code_0.length : Int) > 3000)))] (by kernel_rfl) ?_
  refine WL.case (decide ((code_0.length : Int) > 3000)) [8] ⟨rfl, trivial⟩ (fun hc6 => ?_) (fun hc6 => ?_)
  · have hm := iteT hm hc6
    refine WL.runk 5 [4] [(4, .bool true)] (by kernel_rfl) ?_
    refine WL.nil ?_
    obtain rfl := Option.some.inj hm
    exact WQ.post' ⟨rfl, (Ext.refl w), (Nat.le_refl _), (SH.nil _ _)⟩ ⟨rfl, trivial⟩
  have hm := iteF hm hc6
  refine WL.runk 5 [4] [(4, .bool (decide ((more_1.length : Int) > 3000)))] (by kernel_rfl) ?_
  refine WL.nil ?_
  obtain rfl := Option.some.inj hm
  exact WQ.post' ⟨rfl, (Ext.refl w), (Nat.le_refl _), (SH.nil _ _)⟩ ⟨rfl, trivial⟩

theorem c_84 (n : Nat) (s_0_code : List Int) (a0_code' : Option Addr) (c0_code' : Nat) (s_0_at_ : Int) (s_0_seed : Int) (b0' : Nat) (w : World) (w0 : World) (B : Nat) (L : List Asrt) {r : Int × Int × Int} (hm : m_spec_l00Src_next n s_0_code s_0_at_ s_0_seed = some r) (hE0 : Ext w0 w) (hW : w0.heap.size ≤ B) (hL : B ≤ w.heap.size) (h0_code : Rd fU8.ty w0 a0_code' s_0_code) (_hle0_code : s_0_code.length ≤ c0_code') (hS : SH w B (aBox 77 b0' [.slice a0_code' s_0_code.length c0_code', .int .i64 s_0_at_, .int .u64 s_0_seed] :: L)) :
    CallV Try.prog 84 #[.pointer (some ⟨b0', 0, none⟩)] w (fun v w' => v = .int .i64 r.1 ∧ Below B w w' ∧ SH w' B (aBox 77 b0' [.slice a0_code' s_0_code.length c0_code', .int .i64 r.2.1, .int .u64 r.2.2] :: L)) := by
  unfold m_spec_l00Src_next at hm
  refine CallV.enter Try.func84 rfl (by kernel_rfl) Try.ntmps84 (env := [(0, .pointer (some ⟨b0', 0, none⟩))]) ⟨rfl, trivial⟩ ?_
  refine WP.seq (fun K1 hK1 => ?_)
  refine WP.region ?_
  refine WL.runk 1 [0] [(0, .pointer (some ⟨b0', 0, none⟩))] (by kernel_rfl) ?_
  refine WL.nil ?_
  refine WQ.then_normal (hK1 _ _ _ ?_)
  refine WP.seq (fun K2 hK2 => ?_)
  refine WP.region ?_
  refine WL.runk 1 [0, 3] [(0, .pointer (some ⟨b0', 0, none⟩)), (3, .int .i64 0)] (by kernel_rfl) ?_
  refine WL.nil ?_
  refine WQ.then_normal (hK2 _ _ _ ?_)
  refine WP.seq (fun K3 hK3 => ?_)
  refine WP.seq (fun K4 hK4 => ?_)
  refine WP.quiet (by kernel_rfl) (by kernel_rfl) ?_
  refine QL.step1v 4 (.pointer (some ⟨b0', 0, none⟩)) rfl (fun _ => by kernel_rfl) ?_
  refine QL.step1v 5 (.pointer (some ⟨b0', 0, none⟩)) rfl (fun _ => by kernel_rfl) ?_
  refine QL.step1v 6 (.pointer (some ⟨b0', 1, none⟩)) rfl (fun _ => by kernel_rfl) ?_
  refine QL.subk [0, 3, 6] [(0, .pointer (some ⟨b0', 0, none⟩)), (3, .int .i64 0), (6, .pointer (some ⟨b0', 1, none⟩))] (by kernel_rfl) ?_
  refine QL.st (.int .i64 s_0_at_) (ST.load (cell_ext (SH.boxAt (SH.front 0 hS) 1 _ rfl)) rfl rfl Try.underlying3 rfl) rfl rfl rfl ?_
  refine QL.step1v 8 (.pointer (some ⟨b0', 0, none⟩)) rfl (fun _ => by kernel_rfl) ?_
  refine QL.step1v 9 (.pointer (some ⟨b0', 0, none⟩)) rfl (fun _ => by kernel_rfl) ?_
  refine QL.step1v 10 (.pointer (some ⟨b0', 0, none⟩)) rfl (fun _ => by kernel_rfl) ?_
  refine QL.subk [0, 3, 7, 10] [(0, .pointer (some ⟨b0', 0, none⟩)), (3, .int .i64 0), (7, .int .i64 s_0_at_), (10, .pointer (some ⟨b0', 0, none⟩))] (by kernel_rfl) ?_
  refine QL.st (.slice a0_code' s_0_code.length c0_code') (ST.load (cell_ext (SH.boxAt (SH.front 0 hS) 0 _ rfl)) rfl rfl Try.underlying46 rfl) rfl rfl rfl ?_
  refine QL.step1v 12 (.int .i64 (s_0_code.length : Int)) rfl (fun _ => by kernel_rfl) ?_
  refine QL.step1v 13 (.bool (decide (s_0_at_ < (s_0_code.length : Int)))) rfl (fun _ => by kernel_rfl) ?_
  refine QL.subk [0, 3, 13] [(0, .pointer (some ⟨b0', 0, none⟩)), (3, .int .i64 0), (13, .bool (decide (s_0_at_ < (s_0_code.length : Int))))] (by kernel_rfl) ?_
  refine QL.nil ?_
  intro w5 hE6
  have hb7 : Below B w w5 := Below.trans (Below.refl _ _) (Below.mono hE6 hL)
  have hL8 : B ≤ w5.heap.size := Nat.le_trans hL hE6.size
  have hS9 : SH w5 B (aBox 77 b0' [.slice a0_code' s_0_code.length c0_code', .int .i64 s_0_at_, .int .u64 s_0_seed] :: L) := SH.ext hS hE6
  refine WQ.then_normal (hK4 _ _ _ ?_)
  obtain ⟨x18, hx19, hm⟩ := bindE hm
  refine WP.cut (fun env' w' => env' = [(0, .pointer (some ⟨b0', 0, none⟩)), (3, .int .i64 x18)] ∧ Below B w w' ∧ B ≤ w'.heap.size ∧ SH w' B (aBox 77 b0' [.slice a0_code' s_0_code.length c0_code', .int .i64 s_0_at_, .int .u64 s_0_seed] :: L)) ?_ ?_
  · have hm := hx19; clear hx19
    refine WP.cond (decide (s_0_at_ < (s_0_code.length : Int))) rfl rfl (fun hc10 => ?_) (fun hc10 => ?_)
    rotate_left
    · have hm := iteF hm hc10
      refine WP.skip ?_
      obtain rfl := Option.some.inj hm
      exact WQ.post' ⟨rfl, hb7, hL8, hS9⟩ ⟨rfl, rfl, trivial⟩
    have hm := iteT hm hc10
    refine WP.quiet (by kernel_rfl) (by kernel_rfl) ?_
    refine QL.step1v 14 (.pointer (some ⟨b0', 0, none⟩)) rfl (fun _ => by kernel_rfl) ?_
    refine QL.step1v 15 (.pointer (some ⟨b0', 0, none⟩)) rfl (fun _ => by kernel_rfl) ?_
    refine QL.step1v 16 (.pointer (some ⟨b0', 0, none⟩)) rfl (fun _ => by kernel_rfl) ?_
    refine QL.subk [0, 16] [(0, .pointer (some ⟨b0', 0, none⟩)), (16, .pointer (some ⟨b0', 0, none⟩))] (by kernel_rfl) ?_
    refine QL.st (.slice a0_code' s_0_code.length c0_code') (ST.load (cell_ext (SH.boxAt (SH.front 0 hS9) 0 _ rfl)) rfl rfl Try.underlying46 rfl) rfl rfl rfl ?_
    refine QL.step1v 18 (.pointer (some ⟨b0', 0, none⟩)) rfl (fun _ => by kernel_rfl) ?_
    refine QL.step1v 19 (.pointer (some ⟨b0', 0, none⟩)) rfl (fun _ => by kernel_rfl) ?_
    refine QL.step1v 20 (.pointer (some ⟨b0', 1, none⟩)) rfl (fun _ => by kernel_rfl) ?_
    refine QL.subk [0, 17, 20] [(0, .pointer (some ⟨b0', 0, none⟩)), (17, .slice a0_code' s_0_code.length c0_code'), (20, .pointer (some ⟨b0', 1, none⟩))] (by kernel_rfl) ?_
    refine QL.st (.int .i64 s_0_at_) (ST.load (cell_ext (SH.boxAt (SH.front 0 hS9) 1 _ rfl)) rfl rfl Try.underlying3 rfl) rfl rfl rfl ?_
    obtain ⟨x20, hx21, hm⟩ := bindE hm
    refine QL.st (.pointer (some (at_ a0_code' (Int.toNat s_0_at_ * 1)))) (ST.index (T := fU8.ty) (xs := s_0_code) (Rd.below h0_code (Below.trans hE0 (Below.mono hb7 hW))) hx21 rfl rfl rfl Try.underlying46 (info5).1 (info5).2.1) rfl rfl rfl ?_
    refine QL.st (.int .u8 x20) (ST.load (cell_ext (Rd.flat (F := fU8) (Rd.below h0_code (Below.trans hE0 (Below.mono hb7 hW))) hx21 0 rfl)) rfl rfl Try.underlying5 rfl) rfl rfl rfl ?_
    refine QL.step1v 24 (.int .i64 (wI64 x20)) rfl (fun _ => by kernel_rfl) ?_
    refine QL.step1v 3 (.int .i64 (wI64 x20)) rfl (fun _ => by kernel_rfl) ?_
    refine QL.subk [0, 3] [(0, .pointer (some ⟨b0', 0, none⟩)), (3, .int .i64 (wI64 x20))] (by kernel_rfl) ?_
    refine QL.nil ?_
    intro w22 hE23
    have hb24 : Below B w w22 := Below.trans hb7 (Below.mono hE23 hL8)
    have hL25 : B ≤ w22.heap.size := Nat.le_trans hL8 hE23.size
    have hS26 : SH w22 B (aBox 77 b0' [.slice a0_code' s_0_code.length c0_code', .int .i64 s_0_at_, .int .u64 s_0_seed] :: L) := SH.ext hS9 hE23
    obtain rfl := Option.some.inj hm
    exact WQ.post' ⟨rfl, hb24, hL25, hS26⟩ ⟨rfl, rfl, trivial⟩
  clear hx19
  rintro _ w27 ⟨rfl, hb28, hL29, hS30⟩
  refine WQ.then_normal (hK3 _ _ _ ?_)
  refine WP.seq (fun K31 hK31 => ?_)
  refine WP.region ?_
  refine WL.runk 3 [0, 3, 25, 27] [(0, .pointer (some ⟨b0', 0, none⟩)), (3, .int .i64 x18), (25, .pointer (some ⟨b0', 0, none⟩)), (27, .pointer (some ⟨b0', 1, none⟩))] (by kernel_rfl) ?_
  refine WL.st (.int .i64 s_0_at_) (ST.load (cell_ext (SH.boxAt (SH.front 0 hS30) 1 _ rfl)) rfl rfl Try.underlying3 rfl) rfl rfl rfl ?_
  refine WL.runk 3 [0, 3, 29, 31] [(0, .pointer (some ⟨b0', 0, none⟩)), (3, .int .i64 x18), (29, .int .i64 (wI64 (s_0_at_ + 1))), (31, .pointer (some ⟨b0', 1, none⟩))] (by kernel_rfl) ?_
  refine WL.boxStore 1 [.int .i64 (wI64 (s_0_at_ + 1))] [.slice a0_code' s_0_code.length c0_code', .int .i64 (wI64 (s_0_at_ + 1)), .int .u64 s_0_seed] (SH.front 0 hS30) hL29 rfl rfl rfl rfl rfl rfl rfl (info3).1 (info3).2.1 rfl rfl rfl ?_
  intro w32 hB33 hS34
  have hb35 : Below B w w32 := Below.trans hb28 hB33
  have hL36 : B ≤ w32.heap.size := Nat.le_trans hL29 hB33.size
  refine WL.sub [(0, .pointer (some ⟨b0', 0, none⟩)), (3, .int .i64 x18)] ⟨rfl, rfl, trivial⟩ ?_
  refine WL.nil ?_
  refine WQ.then_normal (hK31 _ _ _ ?_)
  refine WP.seq (fun K37 hK37 => ?_)
  refine WP.region ?_
  refine WL.runk 4 [0, 3, 32, 35] [(0, .pointer (some ⟨b0', 0, none⟩)), (3, .int .i64 x18), (32, .pointer (some ⟨b0', 0, none⟩)), (35, .pointer (some ⟨b0', 2, none⟩))] (by kernel_rfl) ?_
  refine WL.st (.int .u64 s_0_seed) (ST.load (cell_ext (SH.boxAt (SH.front 0 hS34) 2 _ rfl)) rfl rfl Try.underlying75 rfl) rfl rfl rfl ?_
  refine WL.runk 7 [0, 3, 41, 43] [(0, .pointer (some ⟨b0', 0, none⟩)), (3, .int .i64 x18), (41, .int .u64 (IntKind.u64.wrap ((IntKind.u64.wrap ((IntKind.u64.wrap (s_0_seed * 6364136223846793005)) + (IntKind.u64.wrap x18))) + 1442695040888963407))), (43, .pointer (some ⟨b0', 2, none⟩))] (by kernel_rfl) ?_
  refine WL.boxStore 2 [.int .u64 (IntKind.u64.wrap ((IntKind.u64.wrap ((IntKind.u64.wrap (s_0_seed * 6364136223846793005)) + (IntKind.u64.wrap x18))) + 1442695040888963407))] [.slice a0_code' s_0_code.length c0_code', .int .i64 (wI64 (s_0_at_ + 1)), .int .u64 (IntKind.u64.wrap ((IntKind.u64.wrap ((IntKind.u64.wrap (s_0_seed * 6364136223846793005)) + (IntKind.u64.wrap x18))) + 1442695040888963407))] (SH.front 0 hS34) hL36 rfl rfl rfl rfl rfl rfl rfl (info75).1 (info75).2.1 rfl rfl rfl ?_
  intro w38 hB39 hS40
  have hb41 : Below B w w38 := Below.trans hb35 hB39
  have hL42 : B ≤ w38.heap.size := Nat.le_trans hL36 hB39.size
  refine WL.sub [(0, .pointer (some ⟨b0', 0, none⟩)), (3, .int .i64 x18)] ⟨rfl, rfl, trivial⟩ ?_
  refine WL.nil ?_
  refine WQ.then_normal (hK37 _ _ _ ?_)
  refine WP.seq (fun K43 hK43 => ?_)
  refine WP.seq (fun K44 hK44 => ?_)
  refine WP.quiet (by kernel_rfl) (by kernel_rfl) ?_
  refine QL.step1v 44 (.pointer (some ⟨b0', 0, none⟩)) rfl (fun _ => by kernel_rfl) ?_
  refine QL.step1v 45 (.pointer (some ⟨b0', 0, none⟩)) rfl (fun _ => by kernel_rfl) ?_
  refine QL.step1v 46 (.pointer (some ⟨b0', 1, none⟩)) rfl (fun _ => by kernel_rfl) ?_
  refine QL.subk [0, 3, 46] [(0, .pointer (some ⟨b0', 0, none⟩)), (3, .int .i64 x18), (46, .pointer (some ⟨b0', 1, none⟩))] (by kernel_rfl) ?_
  refine QL.st (.int .i64 (wI64 (s_0_at_ + 1))) (ST.load (cell_ext (SH.boxAt (SH.front 0 hS40) 1 _ rfl)) rfl rfl Try.underlying3 rfl) rfl rfl rfl ?_
  refine QL.step1v 48 (.pointer (some ⟨b0', 0, none⟩)) rfl (fun _ => by kernel_rfl) ?_
  refine QL.step1v 49 (.pointer (some ⟨b0', 0, none⟩)) rfl (fun _ => by kernel_rfl) ?_
  refine QL.step1v 50 (.pointer (some ⟨b0', 0, none⟩)) rfl (fun _ => by kernel_rfl) ?_
  refine QL.subk [0, 3, 47, 50] [(0, .pointer (some ⟨b0', 0, none⟩)), (3, .int .i64 x18), (47, .int .i64 (wI64 (s_0_at_ + 1))), (50, .pointer (some ⟨b0', 0, none⟩))] (by kernel_rfl) ?_
  refine QL.st (.slice a0_code' s_0_code.length c0_code') (ST.load (cell_ext (SH.boxAt (SH.front 0 hS40) 0 _ rfl)) rfl rfl Try.underlying46 rfl) rfl rfl rfl ?_
  refine QL.step1v 52 (.int .i64 (s_0_code.length : Int)) rfl (fun _ => by kernel_rfl) ?_
  refine QL.step1v 53 (.bool (decide ((wI64 (s_0_at_ + 1)) ≤ (s_0_code.length : Int)))) rfl (fun _ => by kernel_rfl) ?_
  refine QL.subk [0, 3, 53] [(0, .pointer (some ⟨b0', 0, none⟩)), (3, .int .i64 x18), (53, .bool (decide ((wI64 (s_0_at_ + 1)) ≤ (s_0_code.length : Int))))] (by kernel_rfl) ?_
  refine QL.nil ?_
  intro w45 hE46
  have hb47 : Below B w w45 := Below.trans hb41 (Below.mono hE46 hL42)
  have hL48 : B ≤ w45.heap.size := Nat.le_trans hL42 hE46.size
  have hS49 : SH w45 B (aBox 77 b0' [.slice a0_code' s_0_code.length c0_code', .int .i64 (wI64 (s_0_at_ + 1)), .int .u64 (IntKind.u64.wrap ((IntKind.u64.wrap ((IntKind.u64.wrap (s_0_seed * 6364136223846793005)) + (IntKind.u64.wrap x18))) + 1442695040888963407))] :: L) := SH.ext hS40 hE46
  refine WQ.then_normal (hK44 _ _ _ ?_)
  refine WP.cond (decide ((wI64 (s_0_at_ + 1)) ≤ (s_0_code.length : Int))) rfl rfl (fun hc50 => ?_) (fun hc50 => ?_)
  · have hm := iteT hm hc50
    refine WP.seq (fun K51 hK51 => ?_)
    refine WP.region ?_
    refine WL.runk 2 [2] [(2, .int .i64 x18)] (by kernel_rfl) ?_
    refine WL.nil ?_
    refine WQ.then_normal (hK51 _ _ _ ?_)
    refine WP.ret ?_
    refine WQ.then_ret ?_
    obtain rfl := Option.some.inj hm
    exact WQ.ret1 _ rfl rfl ⟨rfl, hb47, hS49⟩
  have hm := iteF hm hc50
  refine WP.skip ?_
  refine WQ.then_normal (hK43 _ _ _ ?_)
  refine WP.seq (fun K52 hK52 => ?_)
  refine WP.region ?_
  refine WL.runk 3 [57] [(57, .pointer (some ⟨b0', 2, none⟩))] (by kernel_rfl) ?_
  refine WL.st (.int .u64 (IntKind.u64.wrap ((IntKind.u64.wrap ((IntKind.u64.wrap (s_0_seed * 6364136223846793005)) + (IntKind.u64.wrap x18))) + 1442695040888963407))) (ST.load (cell_ext (SH.boxAt (SH.front 0 hS49) 2 _ rfl)) rfl rfl Try.underlying75 rfl) rfl rfl rfl ?_
  obtain ⟨x53, hx54, hm⟩ := bindE hm
  refine WL.st (.int .u64 x53) (ST.shr (k := .u64) hx54 rfl rfl rfl) rfl rfl rfl ?_
  refine WL.runk 3 [2] [(2, .int .i64 (wI64 (iand .u64 x53 255)))] (by kernel_rfl) ?_
  refine WL.nil ?_
  refine WQ.then_normal (hK52 _ _ _ ?_)
  refine WP.ret ?_
  obtain rfl := Option.some.inj hm
  exact WQ.ret1 _ rfl rfl ⟨rfl, hb47, hS49⟩

theorem c_82 (n : Nat) (s_0_code : List Int) (a0_code' : Option Addr) (c0_code' : Nat) (s_0_at_ : Int) (s_0_seed : Int) (b0' : Nat) (n_1 : Int) (w : World) (w0 : World) (B : Nat) (L : List Asrt) {r : Int × Int × Int} (hm : m_spec_l00Src_pick n s_0_code s_0_at_ s_0_seed n_1 = some r) (hE0 : Ext w0 w) (hW : w0.heap.size ≤ B) (hL : B ≤ w.heap.size) (h0_code : Rd fU8.ty w0 a0_code' s_0_code) (hle0_code : s_0_code.length ≤ c0_code') (hS : SH w B (aBox 77 b0' [.slice a0_code' s_0_code.length c0_code', .int .i64 s_0_at_, .int .u64 s_0_seed] :: L)) :
    CallV Try.prog 82 #[.pointer (some ⟨b0', 0, none⟩), .int .i64 n_1] w (fun v w' => v = .int .i64 r.1 ∧ Below B w w' ∧ SH w' B (aBox 77 b0' [.slice a0_code' s_0_code.length c0_code', .int .i64 r.2.1, .int .u64 r.2.2] :: L)) := by
  unfold m_spec_l00Src_pick at hm
  refine CallV.enter Try.func82 rfl (by kernel_rfl) Try.ntmps82 (env := [(0, .pointer (some ⟨b0', 0, none⟩)), (1, .int .i64 n_1)]) ⟨rfl, rfl, trivial⟩ ?_
  refine WP.seq (fun K1 hK1 => ?_)
  refine WP.region ?_
  refine WL.runk 1 [0, 1] [(0, .pointer (some ⟨b0', 0, none⟩)), (1, .int .i64 n_1)] (by kernel_rfl) ?_
  refine WL.nil ?_
  refine WQ.then_normal (hK1 _ _ _ ?_)
  refine WP.seq (fun K2 hK2 => ?_)
  refine WP.seq (fun K3 hK3 => ?_)
  refine WP.region ?_
  refine WL.runk 2 [0, 1, 7] [(0, .pointer (some ⟨b0', 0, none⟩)), (1, .int .i64 n_1), (7, .bool (decide (n_1 ≤ 1)))] (by kernel_rfl) ?_
  refine WL.nil ?_
  refine WQ.then_normal (hK3 _ _ _ ?_)
  refine WP.cond (decide (n_1 ≤ 1)) rfl rfl (fun hc4 => ?_) (fun hc4 => ?_)
  · have hm := iteT hm hc4
    refine WP.seq (fun K5 hK5 => ?_)
    refine WP.region ?_
    refine WL.runk 1 [4] [(4, .int .i64 0)] (by kernel_rfl) ?_
    refine WL.nil ?_
    refine WQ.then_normal (hK5 _ _ _ ?_)
    refine WP.ret ?_
    refine WQ.then_ret ?_
    obtain rfl := Option.some.inj hm
    exact WQ.ret1 _ rfl rfl ⟨rfl, (Below.refl _ _), hS⟩
  have hm := iteF hm hc4
  refine WP.skip ?_
  refine WQ.then_normal (hK2 _ _ _ ?_)
  refine WP.seq (fun K6 hK6 => ?_)
  refine WP.region ?_
  refine WL.runk 1 [0, 1, 8] [(0, .pointer (some ⟨b0', 0, none⟩)), (1, .int .i64 n_1), (8, .pointer (some ⟨b0', 0, none⟩))] (by kernel_rfl) ?_
  obtain ⟨x7, hx8, hm⟩ := bindE hm
  refine WL.call 84 #[.pointer (some ⟨b0', 0, none⟩)] rfl rfl (by kernel_rfl) (c_84 n s_0_code a0_code' c0_code' s_0_at_ s_0_seed b0' w w0 B (L) hx8 (Below.trans hE0 (Below.mono (Below.refl _ _) hW)) hW hL h0_code hle0_code hS) ?_
  rintro _ w9 ⟨rfl, hB13, hS12⟩
  refine ⟨_, rfl, ?_⟩
  have hb14 : Below B w w9 := Below.trans (Below.refl _ _) hB13
  have hL15 : B ≤ w9.heap.size := Nat.le_trans hL hB13.size
  refine WL.runk 1 [0, 1, 5] [(0, .pointer (some ⟨b0', 0, none⟩)), (1, .int .i64 n_1), (5, .int .i64 x7.1)] (by kernel_rfl) ?_
  refine WL.nil ?_
  refine WQ.then_normal (hK6 _ _ _ ?_)
  refine WP.seq (fun K16 hK16 => ?_)
  refine WP.seq (fun K17 hK17 => ?_)
  refine WP.region ?_
  refine WL.runk 2 [0, 1, 5, 11] [(0, .pointer (some ⟨b0', 0, none⟩)), (1, .int .i64 n_1), (5, .int .i64 x7.1), (11, .bool (decide (n_1 > 200)))] (by kernel_rfl) ?_
  refine WL.nil ?_
  refine WQ.then_normal (hK17 _ _ _ ?_)
  obtain ⟨x48, hx49, hm⟩ := bindE hm
  refine WP.cut (fun env' w' => env' = [(1, .int .i64 n_1), (5, .int .i64 x48.1)] ∧ Below B w w' ∧ B ≤ w'.heap.size ∧ SH w' B (aBox 77 b0' [.slice a0_code' s_0_code.length c0_code', .int .i64 x48.2.1, .int .u64 x48.2.2] :: L)) ?_ ?_
  rotate_left
  · clear hx49
    rintro _ w59 ⟨rfl, hb60, hL61, hS62⟩
    refine WQ.then_normal (hK16 _ _ _ ?_)
    refine WP.seq (fun K63 hK63 => ?_)
    refine WP.region ?_
    refine WL.runk 2 [17, 18] [(17, .int .i64 x48.1), (18, .int .i64 n_1)] (by kernel_rfl) ?_
    obtain ⟨x64, hx65, hm⟩ := bindE hm
    refine WL.st (.int .i64 x64) (ST.rem (k := .i64) hx65 rfl rfl rfl) rfl rfl rfl ?_
    refine WL.runk 1 [4] [(4, .int .i64 x64)] (by kernel_rfl) ?_
    refine WL.nil ?_
    refine WQ.then_normal (hK63 _ _ _ ?_)
    refine WP.ret ?_
    obtain rfl := Option.some.inj hm
    exact WQ.ret1 _ rfl rfl ⟨rfl, hb60, hS62⟩
  have hm := hx49; clear hx49
  refine WP.cond (decide (n_1 > 200)) rfl rfl (fun hc18 => ?_) (fun hc18 => ?_)
  rotate_left
  · have hm := iteF hm hc18
    refine WP.skip ?_
    obtain rfl := Option.some.inj hm
    exact WQ.post' ⟨rfl, hb14, hL15, hS12⟩ ⟨rfl, rfl, trivial⟩
  have hm := iteT hm hc18
  refine WP.region ?_
  refine WL.runk 3 [1, 13, 14] [(1, .int .i64 n_1), (13, .int .i64 (wI64 (x7.1 * 256))), (14, .pointer (some ⟨b0', 0, none⟩))] (by kernel_rfl) ?_
  obtain ⟨x50, hx51, hm⟩ := bindE hm
  refine WL.call 84 #[.pointer (some ⟨b0', 0, none⟩)] rfl rfl (by kernel_rfl) (c_84 n s_0_code a0_code' c0_code' x7.2.1 x7.2.2 b0' w9 w0 B (L) hx51 (Below.trans hE0 (Below.mono hb14 hW)) hW hL15 h0_code hle0_code hS12) ?_
  rintro _ w52 ⟨rfl, hB56, hS55⟩
  refine ⟨_, rfl, ?_⟩
  have hb57 : Below B w w52 := Below.trans hb14 hB56
  have hL58 : B ≤ w52.heap.size := Nat.le_trans hL15 hB56.size
  refine WL.runk 2 [1, 5] [(1, .int .i64 n_1), (5, .int .i64 (wI64 ((wI64 (x7.1 * 256)) + x50.1)))] (by kernel_rfl) ?_
  refine WL.nil ?_
  obtain rfl := Option.some.inj hm
  exact WQ.post' ⟨rfl, hb57, hL58, hS55⟩ ⟨rfl, rfl, trivial⟩

theorem c_83 (n : Nat) (s_0_code : List Int) (a0_code' : Option Addr) (c0_code' : Nat) (s_0_at_ : Int) (s_0_seed : Int) (b0' : Nat) (n_1 : Int) (w : World) (w0 : World) (B : Nat) (L : List Asrt) {r : Bool × Int × Int} (hm : m_spec_l00Src_one n s_0_code s_0_at_ s_0_seed n_1 = some r) (hE0 : Ext w0 w) (hW : w0.heap.size ≤ B) (hL : B ≤ w.heap.size) (h0_code : Rd fU8.ty w0 a0_code' s_0_code) (hle0_code : s_0_code.length ≤ c0_code') (hS : SH w B (aBox 77 b0' [.slice a0_code' s_0_code.length c0_code', .int .i64 s_0_at_, .int .u64 s_0_seed] :: L)) :
    CallV Try.prog 83 #[.pointer (some ⟨b0', 0, none⟩), .int .i64 n_1] w (fun v w' => v = .bool r.1 ∧ Below B w w' ∧ SH w' B (aBox 77 b0' [.slice a0_code' s_0_code.length c0_code', .int .i64 r.2.1, .int .u64 r.2.2] :: L)) := by
  unfold m_spec_l00Src_one at hm
  refine CallV.enter Try.func83 rfl (by kernel_rfl) Try.ntmps83 (env := [(0, .pointer (some ⟨b0', 0, none⟩)), (1, .int .i64 n_1)]) ⟨rfl, rfl, trivial⟩ ?_
  refine WP.seq (fun K1 hK1 => ?_)
  refine WP.region ?_
  refine WL.runk 1 [0, 1] [(0, .pointer (some ⟨b0', 0, none⟩)), (1, .int .i64 n_1)] (by kernel_rfl) ?_
  refine WL.nil ?_
  refine WQ.then_normal (hK1 _ _ _ ?_)
  refine WP.seq (fun K2 hK2 => ?_)
  refine WP.region ?_
  refine WL.runk 2 [5, 6] [(5, .pointer (some ⟨b0', 0, none⟩)), (6, .int .i64 n_1)] (by kernel_rfl) ?_
  obtain ⟨x3, hx4, hm⟩ := bindE hm
  refine WL.call 82 #[.pointer (some ⟨b0', 0, none⟩), .int .i64 n_1] rfl rfl (by kernel_rfl) (c_82 n s_0_code a0_code' c0_code' s_0_at_ s_0_seed b0' n_1 w w0 B (L) hx4 (Below.trans hE0 (Below.mono (Below.refl _ _) hW)) hW hL h0_code hle0_code hS) ?_
  rintro _ w5 ⟨rfl, hB9, hS8⟩
  refine ⟨_, rfl, ?_⟩
  have hb10 : Below B w w5 := Below.trans (Below.refl _ _) hB9
  have hL11 : B ≤ w5.heap.size := Nat.le_trans hL hB9.size
  refine WL.runk 2 [4] [(4, .bool (x3.1 == 0))] (by kernel_rfl) ?_
  refine WL.nil ?_
  refine WQ.then_normal (hK2 _ _ _ ?_)
  refine WP.ret ?_
  obtain rfl := Option.some.inj hm
  exact WQ.ret1 _ rfl rfl ⟨rfl, hb10, hS8⟩

theorem c_75 (n : Nat) (s_0_code : List Int) (a0_code' : Option Addr) (c0_code' : Nat) (s_0_at_ : Int) (s_0_seed : Int) (b0' : Nat) (rows_1 : Int) (columns_2 : Int) (w : World) (w0 : World) (B : Nat) (L : List Asrt) {r : List (List UInt8) × Int × Int} (hm : m_spec_l20Draw n s_0_code s_0_at_ s_0_seed rows_1 columns_2 = some r) (hE0 : Ext w0 w) (hW : w0.heap.size ≤ B) (hL : B ≤ w.heap.size) (h0_code : Rd fU8.ty w0 a0_code' s_0_code) (hle0_code : s_0_code.length ≤ c0_code') (hS : SH w B (aBox 77 b0' [.slice a0_code' s_0_code.length c0_code', .int .i64 s_0_at_, .int .u64 s_0_seed] :: L)) :
    CallV Try.prog 75 #[.pointer (some ⟨b0', 0, none⟩), .int .i64 rows_1, .int .i64 columns_2] w (fun v w' => ∃ (ra0 : Option Addr) (rc0 : Nat), v = .slice ra0 r.1.length rc0 ∧ Below B w w' ∧ SH w' B (aOwn fStr 9 ra0 rc0 r.1 :: aBox 77 b0' [.slice a0_code' s_0_code.length c0_code', .int .i64 r.2.1, .int .u64 r.2.2] :: L)) := by
  unfold m_spec_l20Draw at hm
  refine CallV.enter Try.func75 rfl (by kernel_rfl) Try.ntmps75 (env := [(0, .pointer (some ⟨b0', 0, none⟩)), (1, .int .i64 rows_1), (2, .int .i64 columns_2)]) ⟨rfl, rfl, rfl, trivial⟩ ?_
  refine WP.seq (fun K1 hK1 => ?_)
  refine WP.region ?_
  refine WL.runk 1 [0, 1, 2] [(0, .pointer (some ⟨b0', 0, none⟩)), (1, .int .i64 rows_1), (2, .int .i64 columns_2)] (by kernel_rfl) ?_
  refine WL.nil ?_
  refine WQ.then_normal (hK1 _ _ _ ?_)
  refine WP.seq (fun K2 hK2 => ?_)
  refine WP.region ?_
  refine WL.row fStr 9 ([] : List (List UInt8)) 0 #[] 13 (by kernel_rfl) rfl rfl rfl rfl rfl rfl rfl ?_
  intro a3 c4 w5 hE6 hR7
  have hb9 : Below B w w5 := Below.trans (Below.refl _ _) (Below.mono hE6 hL)
  have hL10 : B ≤ w5.heap.size := Nat.le_trans hL hE6.size
  have hS11 : SH w5 B (aOwn fStr 9 a3 c4 ([] : List (List UInt8)) :: aBox 77 b0' [.slice a0_code' s_0_code.length c0_code', .int .i64 s_0_at_, .int .u64 s_0_seed] :: L) := SH.add hS hE6 hL hR7
  refine WL.runk 1 [0, 1, 2, 7] [(0, .pointer (some ⟨b0', 0, none⟩)), (1, .int .i64 rows_1), (2, .int .i64 columns_2), (7, .slice a3 (([] : List (List UInt8)).length) c4)] (by kernel_rfl) ?_
  refine WL.nil ?_
  refine WQ.then_normal (hK2 _ _ _ ?_)
  refine WP.seq (fun K12 hK12 => ?_)
  refine WP.region ?_
  refine WL.runk 1 [0, 1, 2, 7, 14] [(0, .pointer (some ⟨b0', 0, none⟩)), (1, .int .i64 rows_1), (2, .int .i64 columns_2), (7, .slice a3 (([] : List (List UInt8)).length) c4), (14, .pointer (some ⟨b0', 0, none⟩))] (by kernel_rfl) ?_
  obtain ⟨x13, hx14, hm⟩ := bindE hm
  refine WL.call 83 #[.pointer (some ⟨b0', 0, none⟩), .int .i64 6] rfl rfl (by kernel_rfl) (c_83 n s_0_code a0_code' c0_code' s_0_at_ s_0_seed b0' 6 w5 w0 B (aOwn fStr 9 a3 c4 ([] : List (List UInt8)) :: L) hx14 (Below.trans hE0 (Below.mono hb9 hW)) hW hL10 h0_code hle0_code (SH.front 1 hS11)) ?_
  rintro _ w15 ⟨rfl, hB19, hS18⟩
  refine ⟨_, rfl, ?_⟩
  have hb20 : Below B w w15 := Below.trans hb9 hB19
  have hL21 : B ≤ w15.heap.size := Nat.le_trans hL10 hB19.size
  refine WL.runk 1 [0, 1, 2, 7, 8] [(0, .pointer (some ⟨b0', 0, none⟩)), (1, .int .i64 rows_1), (2, .int .i64 columns_2), (7, .slice a3 (([] : List (List UInt8)).length) c4), (8, .bool x13.1)] (by kernel_rfl) ?_
  refine WL.nil ?_
  refine WQ.then_normal (hK12 _ _ _ ?_)
  refine WP.seq (fun K22 hK22 => ?_)
  refine WP.seq (fun K23 hK23 => ?_)
  refine WP.region ?_
  refine WL.runk 1 [0, 1, 2, 7, 8, 9] [(0, .pointer (some ⟨b0', 0, none⟩)), (1, .int .i64 rows_1), (2, .int .i64 columns_2), (7, .slice a3 (([] : List (List UInt8)).length) c4), (8, .bool x13.1), (9, .int .i64 0)] (by kernel_rfl) ?_
  refine WL.nil ?_
  refine WQ.then_normal (hK23 _ _ _ ?_)
  refine WP.block ?_
  obtain ⟨t397, ht398, hm⟩ := bindE hm
  have hmo392 := hm; clear hm
  refine WP.sub [(0, .pointer (some ⟨b0', 0, none⟩)), (1, .int .i64 rows_1), (2, .int .i64 columns_2), (7, .slice a3 (([] : List (List UInt8)).length) c4), (8, .bool x13.1), (9, .int .i64 0)] ⟨rfl, rfl, rfl, rfl, rfl, rfl, trivial⟩ ?_
  refine WP.loop (fun n' env' w' => ∃ (st383 : List (List UInt8) × Int × Int × Int) (a384 : Option Addr) (c385 : Nat), env' = [(0, .pointer (some ⟨b0', 0, none⟩)), (1, .int .i64 rows_1), (2, .int .i64 columns_2), (7, .slice a384 st383.1.length c385), (8, .bool x13.1), (9, .int .i64 st383.2.1)] ∧ Below B w w' ∧ B ≤ w'.heap.size ∧ SH w' B (aOwn fStr 9 a384 c385 st383.1 :: aBox 77 b0' [.slice a0_code' s_0_code.length c0_code', .int .i64 st383.2.2.1, .int .u64 st383.2.2.2] :: L) ∧ loopN (m_spec_l20Draw_l1 n s_0_code rows_1 columns_2 x13) n' st383 = some t397) n ⟨(([] : List (List UInt8)), 0, x13.2.1, x13.2.2), _, _, rfl, hb20, hL21, (SH.front 1 hS18), ht398⟩ ?_
  rintro n394 _ w387 ⟨st383, a384, c385, rfl, hb388, hL389, hS390, hl391⟩ K393 hK393
  obtain ⟨n395, s396, rfl, hm, hl391⟩ := loopN_some hl391
  unfold m_spec_l20Draw_l1 at hm
  refine WP.seq (fun K399 hK399 => ?_)
  refine WP.seq (fun K400 hK400 => ?_)
  refine WP.region ?_
  refine WL.runk 3 [0, 1, 2, 7, 8, 9, 18] [(0, .pointer (some ⟨b0', 0, none⟩)), (1, .int .i64 rows_1), (2, .int .i64 columns_2), (7, .slice a384 st383.1.length c385), (8, .bool x13.1), (9, .int .i64 st383.2.1), (18, .bool (decide (st383.2.1 < rows_1)))] (by kernel_rfl) ?_
  refine WL.nil ?_
  refine WQ.then_normal (hK400 _ _ _ ?_)
  refine WP.cond (decide (st383.2.1 < rows_1)) rfl rfl (fun hc401 => ?_) (fun hc401 => ?_)
  rotate_left
  · have hm := iteF hm hc401
    refine WP.exit ?_
    refine WQ.then_exit ?_
    refine WQ.then_exit ?_
    refine WQ.block_here ?_
    obtain rfl := Option.some.inj hm
    obtain rfl := afterN_done hl391
    have hm := hmo392
    refine WQ.then_normal (hK22 _ _ _ ?_)
    refine WP.seq (fun K741 hK741 => ?_)
    refine WP.region ?_
    refine WL.runk 2 [6] [(6, .slice a384 st383.1.length c385)] (by kernel_rfl) ?_
    refine WL.nil ?_
    refine WQ.then_normal (hK741 _ _ _ ?_)
    refine WP.ret ?_
    obtain rfl := Option.some.inj hm
    exact WQ.ret1 _ rfl rfl ⟨_, _, rfl, hb388, hS390⟩
  have hm := iteT hm hc401
  refine WP.skip ?_
  refine WQ.then_normal (hK399 _ _ _ ?_)
  refine WP.seq (fun K402 hK402 => ?_)
  refine WP.block ?_
  refine WP.seq (fun K403 hK403 => ?_)
  refine WP.region ?_
  refine WL.row fU8 5 ([] : List Int) 0 #[] 21 (by kernel_rfl) rfl rfl rfl rfl rfl rfl rfl ?_
  intro a404 c405 w406 hE407 hR408
  have hb410 : Below B w w406 := Below.trans hb388 (Below.mono hE407 hL389)
  have hL411 : B ≤ w406.heap.size := Nat.le_trans hL389 hE407.size
  have hS412 : SH w406 B (aOwn fU8 5 a404 c405 ([] : List Int) :: aOwn fStr 9 a384 c385 st383.1 :: aBox 77 b0' [.slice a0_code' s_0_code.length c0_code', .int .i64 st383.2.2.1, .int .u64 st383.2.2.2] :: L) := SH.add hS390 hE407 hL389 hR408
  refine WL.runk 1 [0, 1, 2, 7, 8, 9, 10] [(0, .pointer (some ⟨b0', 0, none⟩)), (1, .int .i64 rows_1), (2, .int .i64 columns_2), (7, .slice a384 st383.1.length c385), (8, .bool x13.1), (9, .int .i64 st383.2.1), (10, .slice a404 (([] : List Int).length) c405)] (by kernel_rfl) ?_
  refine WL.nil ?_
  refine WQ.then_normal (hK403 _ _ _ ?_)
  refine WP.seq (fun K413 hK413 => ?_)
  refine WP.seq (fun K414 hK414 => ?_)
  refine WP.region ?_
  refine WL.runk 1 [0, 1, 2, 7, 8, 9, 10, 11] [(0, .pointer (some ⟨b0', 0, none⟩)), (1, .int .i64 rows_1), (2, .int .i64 columns_2), (7, .slice a384 st383.1.length c385), (8, .bool x13.1), (9, .int .i64 st383.2.1), (10, .slice a404 (([] : List Int).length) c405), (11, .int .i64 0)] (by kernel_rfl) ?_
  refine WL.nil ?_
  refine WQ.then_normal (hK414 _ _ _ ?_)
  refine WP.block ?_
  obtain ⟨t581, ht582, hm⟩ := bindE hm
  have hmo576 := hm; clear hm
  refine WP.sub [(0, .pointer (some ⟨b0', 0, none⟩)), (1, .int .i64 rows_1), (2, .int .i64 columns_2), (7, .slice a384 st383.1.length c385), (8, .bool x13.1), (9, .int .i64 st383.2.1), (10, .slice a404 (([] : List Int).length) c405), (11, .int .i64 0)] ⟨rfl, rfl, rfl, rfl, rfl, rfl, rfl, rfl, trivial⟩ ?_
  refine WP.loop (fun n' env' w' => ∃ (st567 : List Int × Int × Int × Int) (a568 : Option Addr) (c569 : Nat), env' = [(0, .pointer (some ⟨b0', 0, none⟩)), (1, .int .i64 rows_1), (2, .int .i64 columns_2), (7, .slice a384 st383.1.length c385), (8, .bool x13.1), (9, .int .i64 st383.2.1), (10, .slice a568 st567.1.length c569), (11, .int .i64 st567.2.1)] ∧ Below B w w' ∧ B ≤ w'.heap.size ∧ SH w' B (aOwn fU8 5 a568 c569 st567.1 :: aOwn fStr 9 a384 c385 st383.1 :: aBox 77 b0' [.slice a0_code' s_0_code.length c0_code', .int .i64 st567.2.2.1, .int .u64 st567.2.2.2] :: L) ∧ loopN (m_spec_l20Draw_l3 n s_0_code columns_2 x13) n' st567 = some t581) n ⟨(([] : List Int), 0, st383.2.2.1, st383.2.2.2), _, _, rfl, hb410, hL411, hS412, ht582⟩ ?_
  rintro n578 _ w571 ⟨st567, a568, c569, rfl, hb572, hL573, hS574, hl575⟩ K577 hK577
  obtain ⟨n579, s580, rfl, hm, hl575⟩ := loopN_some hl575
  unfold m_spec_l20Draw_l3 at hm
  refine WP.seq (fun K583 hK583 => ?_)
  refine WP.seq (fun K584 hK584 => ?_)
  refine WP.region ?_
  refine WL.runk 3 [0, 1, 2, 7, 8, 9, 10, 11, 24] [(0, .pointer (some ⟨b0', 0, none⟩)), (1, .int .i64 rows_1), (2, .int .i64 columns_2), (7, .slice a384 st383.1.length c385), (8, .bool x13.1), (9, .int .i64 st383.2.1), (10, .slice a568 st567.1.length c569), (11, .int .i64 st567.2.1), (24, .bool (decide (st567.2.1 < columns_2)))] (by kernel_rfl) ?_
  refine WL.nil ?_
  refine WQ.then_normal (hK584 _ _ _ ?_)
  refine WP.cond (decide (st567.2.1 < columns_2)) rfl rfl (fun hc585 => ?_) (fun hc585 => ?_)
  rotate_left
  · have hm := iteF hm hc585
    refine WP.exit ?_
    refine WQ.then_exit ?_
    refine WQ.then_exit ?_
    refine WQ.block_here ?_
    obtain rfl := Option.some.inj hm
    obtain rfl := afterN_done hl575
    have hm := hmo576
    refine WQ.then_normal (hK413 _ _ _ ?_)
    refine WP.region ?_
    refine WL.runk 2 [0, 1, 2, 8, 9, 42, 43] [(0, .pointer (some ⟨b0', 0, none⟩)), (1, .int .i64 rows_1), (2, .int .i64 columns_2), (8, .bool x13.1), (9, .int .i64 st383.2.1), (42, .slice a384 st383.1.length c385), (43, .slice a568 st567.1.length c569)] (by kernel_rfl) ?_
    refine WL.st (.string (bs (ofBytes st567.1))) (ST.b2s (SH.rd (SH.front 0 hS574)) (SH.le (SH.front 0 hS574)).2 rfl rfl Try.underlying46 Try.underlying9 Try.underlying5) rfl rfl rfl ?_
    refine WL.row fStr 9 ([(ofBytes st567.1)] : List (List UInt8)) 1 #[.string (bs (ofBytes st567.1))] 45 (by kernel_rfl) rfl rfl rfl rfl rfl rfl rfl ?_
    intro a701 c702 w703 hE704 hR705
    have hb707 : Below B w w703 := Below.trans hb572 (Below.mono hE704 hL573)
    have hL708 : B ≤ w703.heap.size := Nat.le_trans hL573 hE704.size
    have hS709 : SH w703 B (aOwn fStr 9 a701 c702 ([(ofBytes st567.1)] : List (List UInt8)) :: aOwn fU8 5 a568 c569 st567.1 :: aOwn fStr 9 a384 c385 st383.1 :: aBox 77 b0' [.slice a0_code' s_0_code.length c0_code', .int .i64 st567.2.2.1, .int .u64 st567.2.2.2] :: L) := SH.add hS574 hE704 hL573 hR705
    obtain ⟨x710, hx711, hm⟩ := bindE hm
    refine WL.append (F := fStr) (xs := st383.1) (ys := ([(ofBytes st567.1)] : List (List UInt8))) 46 (SH.front 2 hS709) hL708 (SH.rd (SH.front 0 hS709)) hx711 rfl rfl rfl Try.underlying22 (info9).1 (info9).2.2.1 (info9).2.1 (info9).2.2.2 rfl rfl rfl rfl rfl ?_
    intro a712 c713 w714 hB715 hS716
    have hb717 : Below B w w714 := Below.trans hb707 hB715
    have hL718 : B ≤ w714.heap.size := Nat.le_trans hL708 hB715.size
    refine WL.runk 1 [0, 1, 2, 7, 8, 9] [(0, .pointer (some ⟨b0', 0, none⟩)), (1, .int .i64 rows_1), (2, .int .i64 columns_2), (8, .bool x13.1), (9, .int .i64 st383.2.1), (7, .slice a712 x710.length c713)] (by kernel_rfl) ?_
    refine WL.nil ?_
    refine WQ.block_normal ?_
    refine WQ.then_normal (hK402 _ _ _ ?_)
    refine WP.region ?_
    refine WL.runk 3 [0, 1, 2, 7, 8, 9] [(0, .pointer (some ⟨b0', 0, none⟩)), (1, .int .i64 rows_1), (2, .int .i64 columns_2), (8, .bool x13.1), (9, .int .i64 (wI64 (st383.2.1 + 1))), (7, .slice a712 x710.length c713)] (by kernel_rfl) ?_
    refine WL.nil ?_
    obtain rfl := Option.some.inj hm
    exact WQ.round hK393 ⟨(x710, (wI64 (st383.2.1 + 1)), st567.2.2.1, st567.2.2.2), _, _, rfl, hb717, hL718, (SH.cutOut 2 2 (SH.front 1 (SH.front 3 hS716))), hl391⟩ (Nat.lt_succ_self _) ⟨rfl, rfl, rfl, rfl, rfl, rfl, trivial⟩
  have hm := iteT hm hc585
  refine WP.skip ?_
  refine WQ.then_normal (hK583 _ _ _ ?_)
  refine WP.seq (fun K586 hK586 => ?_)
  refine WP.block ?_
  refine WP.seq (fun K587 hK587 => ?_)
  refine WP.region ?_
  refine WL.runk 1 [0, 1, 2, 7, 8, 9, 10, 11, 12] [(0, .pointer (some ⟨b0', 0, none⟩)), (1, .int .i64 rows_1), (2, .int .i64 columns_2), (7, .slice a384 st383.1.length c385), (8, .bool x13.1), (9, .int .i64 st383.2.1), (10, .slice a568 st567.1.length c569), (11, .int .i64 st567.2.1), (12, .int .i64 0)] (by kernel_rfl) ?_
  refine WL.nil ?_
  refine WQ.then_normal (hK587 _ _ _ ?_)
  refine WP.seq (fun K588 hK588 => ?_)
  refine WP.seq (fun K589 hK589 => ?_)
  obtain ⟨x622, hx623, hm⟩ := bindE hm
  refine WP.cut (fun env' w' => env' = [(0, .pointer (some ⟨b0', 0, none⟩)), (1, .int .i64 rows_1), (2, .int .i64 columns_2), (7, .slice a384 st383.1.length c385), (8, .bool x13.1), (9, .int .i64 st383.2.1), (10, .slice a568 st567.1.length c569), (11, .int .i64 st567.2.1), (12, .int .i64 0), (33, .bool x622.1)] ∧ Below B w w' ∧ B ≤ w'.heap.size ∧ SH w' B (aOwn fU8 5 a568 c569 st567.1 :: aOwn fStr 9 a384 c385 st383.1 :: aBox 77 b0' [.slice a0_code' s_0_code.length c0_code', .int .i64 x622.2.1, .int .u64 x622.2.2] :: L)) ?_ ?_
  · have hm := hx623; clear hx623
    refine WP.region ?_
    refine WL.runk 3 [0, 1, 2, 7, 8, 9, 10, 11, 12, 29] [(0, .pointer (some ⟨b0', 0, none⟩)), (1, .int .i64 rows_1), (2, .int .i64 columns_2), (7, .slice a384 st383.1.length c385), (8, .bool x13.1), (9, .int .i64 st383.2.1), (10, .slice a568 st567.1.length c569), (11, .int .i64 st567.2.1), (12, .int .i64 0), (29, .bool (!x13.1))] (by kernel_rfl) ?_
    refine WL.case (!x13.1) [29] ⟨rfl, trivial⟩ (fun hc624 => ?_) (fun hc624 => ?_)
    rotate_left
    · have hm := iteF hm hc624
      refine WL.runk 4 [0, 1, 2, 7, 8, 9, 10, 11, 12, 33] [(0, .pointer (some ⟨b0', 0, none⟩)), (1, .int .i64 rows_1), (2, .int .i64 columns_2), (7, .slice a384 st383.1.length c385), (8, .bool x13.1), (9, .int .i64 st383.2.1), (10, .slice a568 st567.1.length c569), (11, .int .i64 st567.2.1), (12, .int .i64 0), (33, .bool false)] (by kernel_rfl) ?_
      refine WL.nil ?_
      obtain rfl := Option.some.inj hm
      exact WQ.post' ⟨rfl, hb572, hL573, hS574⟩ ⟨rfl, rfl, rfl, rfl, rfl, rfl, rfl, rfl, rfl, rfl, trivial⟩
    have hm := iteT hm hc624
    refine WL.runk 1 [0, 1, 2, 7, 8, 9, 10, 11, 12, 29, 30] [(0, .pointer (some ⟨b0', 0, none⟩)), (1, .int .i64 rows_1), (2, .int .i64 columns_2), (7, .slice a384 st383.1.length c385), (8, .bool x13.1), (9, .int .i64 st383.2.1), (10, .slice a568 st567.1.length c569), (11, .int .i64 st567.2.1), (12, .int .i64 0), (29, .bool true), (30, .pointer (some ⟨b0', 0, none⟩))] (by kernel_rfl) ?_
    obtain ⟨x625, hx626, hm⟩ := bindE hm
    refine WL.call 83 #[.pointer (some ⟨b0', 0, none⟩), .int .i64 2] rfl rfl (by kernel_rfl) (c_83 n s_0_code a0_code' c0_code' st567.2.2.1 st567.2.2.2 b0' 2 w571 w0 B (aOwn fU8 5 a568 c569 st567.1 :: aOwn fStr 9 a384 c385 st383.1 :: L) hx626 (Below.trans hE0 (Below.mono hb572 hW)) hW hL573 h0_code hle0_code (SH.front 2 (SH.front 1 (SH.front 1 hS574)))) ?_
    rintro _ w627 ⟨rfl, hB631, hS630⟩
    refine ⟨_, rfl, ?_⟩
    have hb632 : Below B w w627 := Below.trans hb572 hB631
    have hL633 : B ≤ w627.heap.size := Nat.le_trans hL573 hB631.size
    refine WL.runk 2 [0, 1, 2, 7, 8, 9, 10, 11, 12, 33] [(0, .pointer (some ⟨b0', 0, none⟩)), (1, .int .i64 rows_1), (2, .int .i64 columns_2), (7, .slice a384 st383.1.length c385), (8, .bool x13.1), (9, .int .i64 st383.2.1), (10, .slice a568 st567.1.length c569), (11, .int .i64 st567.2.1), (12, .int .i64 0), (33, .bool (!x625.1))] (by kernel_rfl) ?_
    refine WL.nil ?_
    obtain rfl := Option.some.inj hm
    exact WQ.post' ⟨rfl, hb632, hL633, (SH.front 2 (SH.front 2 hS630))⟩ ⟨rfl, rfl, rfl, rfl, rfl, rfl, rfl, rfl, rfl, rfl, trivial⟩
  clear hx623
  rintro _ w634 ⟨rfl, hb635, hL636, hS637⟩
  refine WQ.then_normal (hK589 _ _ _ ?_)
  obtain ⟨x668, hx669, hm⟩ := bindE hm
  refine WP.cut (fun env' w' => env' = [(0, .pointer (some ⟨b0', 0, none⟩)), (1, .int .i64 rows_1), (2, .int .i64 columns_2), (7, .slice a384 st383.1.length c385), (8, .bool x13.1), (9, .int .i64 st383.2.1), (10, .slice a568 st567.1.length c569), (11, .int .i64 st567.2.1), (12, .int .i64 x668.1)] ∧ Below B w w' ∧ B ≤ w'.heap.size ∧ SH w' B (aOwn fU8 5 a568 c569 st567.1 :: aOwn fStr 9 a384 c385 st383.1 :: aBox 77 b0' [.slice a0_code' s_0_code.length c0_code', .int .i64 x668.2.1, .int .u64 x668.2.2] :: L)) ?_ ?_
  · have hm := hx669; clear hx669
    refine WP.cond x622.1 rfl rfl (fun hc638 => ?_) (fun hc638 => ?_)
    rotate_left
    · have hm := iteF hm hc638
      refine WP.skip ?_
      obtain rfl := Option.some.inj hm
      exact WQ.post' ⟨rfl, hb635, hL636, hS637⟩ ⟨rfl, rfl, rfl, rfl, rfl, rfl, rfl, rfl, rfl, trivial⟩
    have hm := iteT hm hc638
    refine WP.region ?_
    refine WL.runk 1 [0, 1, 2, 7, 8, 9, 10, 11, 34] [(0, .pointer (some ⟨b0', 0, none⟩)), (1, .int .i64 rows_1), (2, .int .i64 columns_2), (7, .slice a384 st383.1.length c385), (8, .bool x13.1), (9, .int .i64 st383.2.1), (10, .slice a568 st567.1.length c569), (11, .int .i64 st567.2.1), (34, .pointer (some ⟨b0', 0, none⟩))] (by kernel_rfl) ?_
    obtain ⟨x670, hx671, hm⟩ := bindE hm
    refine WL.call 82 #[.pointer (some ⟨b0', 0, none⟩), .int .i64 10] rfl rfl (by kernel_rfl) (c_82 n s_0_code a0_code' c0_code' x622.2.1 x622.2.2 b0' 10 w634 w0 B (aOwn fU8 5 a568 c569 st567.1 :: aOwn fStr 9 a384 c385 st383.1 :: L) hx671 (Below.trans hE0 (Below.mono hb635 hW)) hW hL636 h0_code hle0_code (SH.front 2 (SH.front 1 (SH.front 1 hS637)))) ?_
    rintro _ w672 ⟨rfl, hB676, hS675⟩
    refine ⟨_, rfl, ?_⟩
    have hb677 : Below B w w672 := Below.trans hb635 hB676
    have hL678 : B ≤ w672.heap.size := Nat.le_trans hL636 hB676.size
    refine WL.runk 1 [0, 1, 2, 7, 8, 9, 10, 11, 12] [(0, .pointer (some ⟨b0', 0, none⟩)), (1, .int .i64 rows_1), (2, .int .i64 columns_2), (7, .slice a384 st383.1.length c385), (8, .bool x13.1), (9, .int .i64 st383.2.1), (10, .slice a568 st567.1.length c569), (11, .int .i64 st567.2.1), (12, .int .i64 x670.1)] (by kernel_rfl) ?_
    refine WL.nil ?_
    obtain rfl := Option.some.inj hm
    exact WQ.post' ⟨rfl, hb677, hL678, (SH.front 2 (SH.front 2 hS675))⟩ ⟨rfl, rfl, rfl, rfl, rfl, rfl, rfl, rfl, rfl, trivial⟩
  clear hx669
  rintro _ w679 ⟨rfl, hb680, hL681, hS682⟩
  refine WQ.then_normal (hK588 _ _ _ ?_)
  refine WP.region ?_
  refine WL.runk 4 [0, 1, 2, 7, 8, 9, 11, 36, 39] [(0, .pointer (some ⟨b0', 0, none⟩)), (1, .int .i64 rows_1), (2, .int .i64 columns_2), (7, .slice a384 st383.1.length c385), (8, .bool x13.1), (9, .int .i64 st383.2.1), (11, .int .i64 st567.2.1), (36, .slice a568 st567.1.length c569), (39, .int .u8 (IntKind.u8.wrap (wI64 (48 + x668.1))))] (by kernel_rfl) ?_
  refine WL.row fU8 5 ([(IntKind.u8.wrap (wI64 (48 + x668.1)))] : List Int) 1 #[.int .u8 (IntKind.u8.wrap (wI64 (48 + x668.1)))] 40 (by kernel_rfl) rfl rfl rfl rfl rfl rfl rfl ?_
  intro a683 c684 w685 hE686 hR687
  have hb689 : Below B w w685 := Below.trans hb680 (Below.mono hE686 hL681)
  have hL690 : B ≤ w685.heap.size := Nat.le_trans hL681 hE686.size
  have hS691 : SH w685 B (aOwn fU8 5 a683 c684 ([(IntKind.u8.wrap (wI64 (48 + x668.1)))] : List Int) :: aOwn fU8 5 a568 c569 st567.1 :: aOwn fStr 9 a384 c385 st383.1 :: aBox 77 b0' [.slice a0_code' s_0_code.length c0_code', .int .i64 x668.2.1, .int .u64 x668.2.2] :: L) := SH.add hS682 hE686 hL681 hR687
  obtain ⟨x692, hx693, hm⟩ := bindE hm
  refine WL.append (F := fU8) (xs := st567.1) (ys := ([(IntKind.u8.wrap (wI64 (48 + x668.1)))] : List Int)) 41 (SH.front 1 hS691) hL690 (SH.rd (SH.front 0 hS691)) hx693 rfl rfl rfl Try.underlying46 (info5).1 (info5).2.2.1 (info5).2.1 (info5).2.2.2 rfl rfl rfl rfl rfl ?_
  intro a694 c695 w696 hB697 hS698
  have hb699 : Below B w w696 := Below.trans hb689 hB697
  have hL700 : B ≤ w696.heap.size := Nat.le_trans hL690 hB697.size
  refine WL.runk 1 [0, 1, 2, 7, 8, 9, 10, 11] [(0, .pointer (some ⟨b0', 0, none⟩)), (1, .int .i64 rows_1), (2, .int .i64 columns_2), (7, .slice a384 st383.1.length c385), (8, .bool x13.1), (9, .int .i64 st383.2.1), (11, .int .i64 st567.2.1), (10, .slice a694 x692.length c695)] (by kernel_rfl) ?_
  refine WL.nil ?_
  refine WQ.block_normal ?_
  refine WQ.then_normal (hK586 _ _ _ ?_)
  refine WP.region ?_
  refine WL.runk 3 [0, 1, 2, 7, 8, 9, 10, 11] [(0, .pointer (some ⟨b0', 0, none⟩)), (1, .int .i64 rows_1), (2, .int .i64 columns_2), (7, .slice a384 st383.1.length c385), (8, .bool x13.1), (9, .int .i64 st383.2.1), (11, .int .i64 (wI64 (st567.2.1 + 1))), (10, .slice a694 x692.length c695)] (by kernel_rfl) ?_
  refine WL.nil ?_
  obtain rfl := Option.some.inj hm
  exact WQ.round hK577 ⟨(x692, (wI64 (st567.2.1 + 1)), x668.2.1, x668.2.2), _, _, rfl, hb699, hL700, (SH.cutOut 3 1 (SH.front 2 (SH.front 3 (SH.front 3 hS698)))), hl575⟩ (Nat.lt_succ_self _) ⟨rfl, rfl, rfl, rfl, rfl, rfl, rfl, rfl, trivial⟩

theorem c_68 (n : Nat) (s_0_code : List Int) (a0_code' : Option Addr) (c0_code' : Nat) (s_0_at_ : Int) (s_0_seed : Int) (b0' : Nat) (w : World) (w0 : World) (B : Nat) (L : List Asrt) {r : List (List UInt8) × Int × Int} (hm : m_spec_l20New n s_0_code s_0_at_ s_0_seed = some r) (hE0 : Ext w0 w) (hW : w0.heap.size ≤ B) (hL : B ≤ w.heap.size) (h0_code : Rd fU8.ty w0 a0_code' s_0_code) (hle0_code : s_0_code.length ≤ c0_code') (hS : SH w B (aBox 77 b0' [.slice a0_code' s_0_code.length c0_code', .int .i64 s_0_at_, .int .u64 s_0_seed] :: L)) :
    CallV Try.prog 68 #[.pointer (some ⟨b0', 0, none⟩)] w (fun v w' => ∃ (ra0 : Option Addr) (rc0 : Nat), v = .slice ra0 r.1.length rc0 ∧ Below B w w' ∧ SH w' B (aOwn fStr 9 ra0 rc0 r.1 :: aBox 77 b0' [.slice a0_code' s_0_code.length c0_code', .int .i64 r.2.1, .int .u64 r.2.2] :: L)) := by
  unfold m_spec_l20New at hm
  refine CallV.enter Try.func68 rfl (by kernel_rfl) Try.ntmps68 (env := [(0, .pointer (some ⟨b0', 0, none⟩))]) ⟨rfl, trivial⟩ ?_
  refine WP.seq (fun K1 hK1 => ?_)
  refine WP.region ?_
  refine WL.runk 1 [0] [(0, .pointer (some ⟨b0', 0, none⟩))] (by kernel_rfl) ?_
  refine WL.nil ?_
  refine WQ.then_normal (hK1 _ _ _ ?_)
  refine WP.seq (fun K2 hK2 => ?_)
  refine WP.region ?_
  refine WL.runk 1 [0, 5] [(0, .pointer (some ⟨b0', 0, none⟩)), (5, .pointer (some ⟨b0', 0, none⟩))] (by kernel_rfl) ?_
  obtain ⟨x3, hx4, hm⟩ := bindE hm
  refine WL.call 82 #[.pointer (some ⟨b0', 0, none⟩), .int .i64 6] rfl rfl (by kernel_rfl) (c_82 n s_0_code a0_code' c0_code' s_0_at_ s_0_seed b0' 6 w w0 B (L) hx4 (Below.trans hE0 (Below.mono (Below.refl _ _) hW)) hW hL h0_code hle0_code hS) ?_
  rintro _ w5 ⟨rfl, hB9, hS8⟩
  refine ⟨_, rfl, ?_⟩
  have hb10 : Below B w w5 := Below.trans (Below.refl _ _) hB9
  have hL11 : B ≤ w5.heap.size := Nat.le_trans hL hB9.size
  refine WL.runk 2 [0, 3] [(0, .pointer (some ⟨b0', 0, none⟩)), (3, .int .i64 (wI64 (2 + x3.1)))] (by kernel_rfl) ?_
  refine WL.nil ?_
  refine WQ.then_normal (hK2 _ _ _ ?_)
  refine WP.seq (fun K12 hK12 => ?_)
  refine WP.region ?_
  refine WL.runk 1 [0, 3, 8] [(0, .pointer (some ⟨b0', 0, none⟩)), (3, .int .i64 (wI64 (2 + x3.1))), (8, .pointer (some ⟨b0', 0, none⟩))] (by kernel_rfl) ?_
  obtain ⟨x13, hx14, hm⟩ := bindE hm
  refine WL.call 82 #[.pointer (some ⟨b0', 0, none⟩), .int .i64 5] rfl rfl (by kernel_rfl) (c_82 n s_0_code a0_code' c0_code' x3.2.1 x3.2.2 b0' 5 w5 w0 B (L) hx14 (Below.trans hE0 (Below.mono hb10 hW)) hW hL11 h0_code hle0_code hS8) ?_
  rintro _ w15 ⟨rfl, hB19, hS18⟩
  refine ⟨_, rfl, ?_⟩
  have hb20 : Below B w w15 := Below.trans hb10 hB19
  have hL21 : B ≤ w15.heap.size := Nat.le_trans hL11 hB19.size
  refine WL.runk 2 [0, 3, 4] [(0, .pointer (some ⟨b0', 0, none⟩)), (3, .int .i64 (wI64 (2 + x3.1))), (4, .int .i64 (wI64 (2 + x13.1)))] (by kernel_rfl) ?_
  refine WL.nil ?_
  refine WQ.then_normal (hK12 _ _ _ ?_)
  refine WP.seq (fun K22 hK22 => ?_)
  refine WP.region ?_
  refine WL.runk 3 [11, 12, 13] [(11, .pointer (some ⟨b0', 0, none⟩)), (12, .int .i64 (wI64 (2 + x3.1))), (13, .int .i64 (wI64 (2 + x13.1)))] (by kernel_rfl) ?_
  obtain ⟨x23, hx24, hm⟩ := bindE hm
  refine WL.call 75 #[.pointer (some ⟨b0', 0, none⟩), .int .i64 (wI64 (2 + x3.1)), .int .i64 (wI64 (2 + x13.1))] rfl rfl (by kernel_rfl) (c_75 n s_0_code a0_code' c0_code' x13.2.1 x13.2.2 b0' (wI64 (2 + x3.1)) (wI64 (2 + x13.1)) w15 w0 B (L) hx24 (Below.trans hE0 (Below.mono hb20 hW)) hW hL21 h0_code hle0_code hS18) ?_
  rintro _ w28 ⟨a25, c26, rfl, hB32, hS31⟩
  refine ⟨_, rfl, ?_⟩
  have hb33 : Below B w w28 := Below.trans hb20 hB32
  have hL34 : B ≤ w28.heap.size := Nat.le_trans hL21 hB32.size
  refine WL.runk 1 [2] [(2, .slice a25 x23.1.length c26)] (by kernel_rfl) ?_
  refine WL.nil ?_
  refine WQ.then_normal (hK22 _ _ _ ?_)
  refine WP.ret ?_
  obtain rfl := Option.some.inj hm
  exact WQ.ret1 _ rfl rfl ⟨_, _, rfl, hb33, hS31⟩

theorem c_69 (n : Nat) (code_0 : List Int) (a0' : Option Addr) (c0' : Nat) (w : World) {r : (Int × Int)} (hm : m_spec_l00From n code_0 = some r) (_h0 : Rd fU8.ty w a0' code_0) (_hle0 : code_0.length ≤ c0') :
    CallV Try.prog 69 #[.slice a0' code_0.length c0'] w (fun v w' => ∃ (rb0 : Nat), v = .pointer (some ⟨rb0, 0, none⟩) ∧ Ext w w' ∧ SH w' w.heap.size [aBox 77 rb0 [.slice a0' code_0.length c0', .int .i64 r.1, .int .u64 r.2]]) := by
  unfold m_spec_l00From at hm
  refine CallV.enter Try.func69 rfl (by kernel_rfl) Try.ntmps69 (env := [(0, .slice a0' code_0.length c0')]) ⟨rfl, trivial⟩ ?_
  refine WP.seq (fun K1 hK1 => ?_)
  refine WP.region ?_
  refine WL.runk 1 [0] [(0, .slice a0' code_0.length c0')] (by kernel_rfl) ?_
  refine WL.nil ?_
  refine WQ.then_normal (hK1 _ _ _ ?_)
  refine WP.seq (fun K2 hK2 => ?_)
  refine WP.region ?_
  refine WL.runk 2 [4] [(4, .agg #[.slice a0' code_0.length c0', .int .i64 0, .int .u64 0])] (by kernel_rfl) ?_
  refine WL.box 77 [.slice a0' code_0.length c0', .int .i64 0, .int .u64 0] 5 (by kernel_rfl) rfl rfl rfl rfl ?_
  intro b3 w4 hE5 hR6
  have hb8 : Ext w w4 := Ext.trans (Ext.refl w) hE5
  have hL9 : w.heap.size ≤ w4.heap.size := Nat.le_trans (Nat.le_refl _) hE5.size
  have hS10 : SH w4 w.heap.size [aBox 77 b3 [.slice a0' code_0.length c0', .int .i64 0, .int .u64 0]] := SH.add (SH.nil _ _) hE5 (Nat.le_refl _) hR6
  refine WL.runk 1 [2] [(2, .pointer (some ⟨b3, 0, none⟩))] (by kernel_rfl) ?_
  refine WL.nil ?_
  refine WQ.then_normal (hK2 _ _ _ ?_)
  refine WP.ret ?_
  obtain rfl := Option.some.inj hm
  exact WQ.ret1 _ rfl rfl ⟨_, rfl, hb8, hS10⟩

theorem c_41 (n : Nat) (code_0 : List Int) (a0' : Option Addr) (c0' : Nat) (w : World) {r : List (List UInt8)} (hm : m_spec_A2Wear n code_0 = some r) (h0 : Rd fU8.ty w a0' code_0) (hle0 : code_0.length ≤ c0') :
    CallV Try.prog 41 #[.slice a0' code_0.length c0'] w (fun v w' => ∃ (ra0 : Option Addr) (rc0 : Nat), v = .slice ra0 r.length rc0 ∧ Ext w w' ∧ SH w' w.heap.size [aOwn fStr 9 ra0 rc0 r]) := by
  unfold m_spec_A2Wear at hm
  refine CallV.enter Try.func41 rfl (by kernel_rfl) Try.ntmps41 (env := [(0, .slice a0' code_0.length c0')]) ⟨rfl, trivial⟩ ?_
  refine WP.seq (fun K1 hK1 => ?_)
  refine WP.region ?_
  refine WL.runk 1 [0] [(0, .slice a0' code_0.length c0')] (by kernel_rfl) ?_
  refine WL.nil ?_
  refine WQ.then_normal (hK1 _ _ _ ?_)
  refine WP.seq (fun K2 hK2 => ?_)
  refine WP.region ?_
  refine WL.runk 1 [3] [(3, .slice a0' code_0.length c0')] (by kernel_rfl) ?_
  obtain ⟨x3, hx4, hm⟩ := bindE hm
  refine WL.call 69 #[.slice a0' code_0.length c0'] rfl rfl (by kernel_rfl) (c_69 n code_0 a0' c0' w hx4 (Rd.below h0 (Ext.refl w)) hle0) ?_
  rintro _ w7 ⟨b5, rfl, hE8, hR9⟩
  refine ⟨_, rfl, ?_⟩
  have hb10 : Ext w w7 := Ext.trans (Ext.refl w) hE8
  have hL11 : w.heap.size ≤ w7.heap.size := Nat.le_trans (Nat.le_refl _) hE8.size
  have hS12 : SH w7 w.heap.size [aBox 77 b5 [.slice a0' code_0.length c0', .int .i64 x3.1, .int .u64 x3.2]] := SH.add (SH.nil _ _) hE8 (Nat.le_refl _) hR9
  obtain ⟨x13, hx14, hm⟩ := bindE hm
  refine WL.call 68 #[.pointer (some ⟨b5, 0, none⟩)] rfl rfl (by kernel_rfl) (c_68 n code_0 a0' c0' x3.1 x3.2 b5 w7 w w.heap.size [] hx14 hb10 (Nat.le_refl _) hL11 h0 hle0 hS12) ?_
  rintro _ w18 ⟨a15, c16, rfl, hB22, hS21⟩
  refine ⟨_, rfl, ?_⟩
  have hb23 : Ext w w18 := Below.trans hb10 hB22
  have hL24 : w.heap.size ≤ w18.heap.size := Nat.le_trans hL11 hB22.size
  refine WL.runk 1 [2] [(2, .slice a15 x13.1.length c16)] (by kernel_rfl) ?_
  refine WL.nil ?_
  refine WQ.then_normal (hK2 _ _ _ ?_)
  refine WP.ret ?_
  obtain rfl := Option.some.inj hm
  exact WQ.ret1 _ rfl rfl ⟨_, _, rfl, hb23, (SH.take 1 hS21)⟩

theorem c_43 (n : Nat) (list_0 : List Int) (a0' : Option Addr) (c0' : Nat) (w : World) {r : Int} (hm : m_laws_a2Sum n list_0 = some r) (h0 : Rd fInt.ty w a0' list_0) (_hle0 : list_0.length ≤ c0') :
    CallV Try.prog 43 #[.slice a0' list_0.length c0'] w (fun v w' => v = .int .i64 r ∧ Ext w w') := by
  unfold m_laws_a2Sum at hm
  refine CallV.enter Try.func43 rfl (by kernel_rfl) Try.ntmps43 (env := [(0, .slice a0' list_0.length c0')]) ⟨rfl, trivial⟩ ?_
  refine WP.seq (fun K1 hK1 => ?_)
  refine WP.region ?_
  refine WL.runk 1 [0] [(0, .slice a0' list_0.length c0')] (by kernel_rfl) ?_
  refine WL.nil ?_
  refine WQ.then_normal (hK1 _ _ _ ?_)
  refine WP.seq (fun K2 hK2 => ?_)
  refine WP.region ?_
  refine WL.runk 1 [0, 3] [(0, .slice a0' list_0.length c0'), (3, .int .i64 0)] (by kernel_rfl) ?_
  refine WL.nil ?_
  refine WQ.then_normal (hK2 _ _ _ ?_)
  refine WP.seq (fun K3 hK3 => ?_)
  refine WP.seq (fun K4 hK4 => ?_)
  refine WP.region ?_
  refine WL.runk 1 [0, 3, 4] [(0, .slice a0' list_0.length c0'), (3, .int .i64 0), (4, .int .i64 0)] (by kernel_rfl) ?_
  refine WL.nil ?_
  refine WQ.then_normal (hK4 _ _ _ ?_)
  refine WP.block ?_
  obtain ⟨t16, ht17, hm⟩ := bindE hm
  have hmo11 := hm; clear hm
  refine WP.sub [(0, .slice a0' list_0.length c0'), (3, .int .i64 0), (4, .int .i64 0)] ⟨rfl, rfl, rfl, trivial⟩ ?_
  refine WP.loop (fun n' env' w' => ∃ (st5 : Int × Int) , env' = [(0, .slice a0' list_0.length c0'), (3, .int .i64 st5.1), (4, .int .i64 st5.2)] ∧ Ext w w' ∧ w.heap.size ≤ w'.heap.size ∧ SH w' w.heap.size [] ∧ loopN (m_laws_a2Sum_l1 n list_0) n' st5 = some t16) n ⟨(0, 0), rfl, (Ext.refl w), (Nat.le_refl _), (SH.nil _ _), ht17⟩ ?_
  rintro n13 _ w6 ⟨st5, rfl, hb7, hL8, hS9, hl10⟩ K12 hK12
  obtain ⟨n14, s15, rfl, hm, hl10⟩ := loopN_some hl10
  unfold m_laws_a2Sum_l1 at hm
  refine WP.seq (fun K18 hK18 => ?_)
  refine WP.seq (fun K19 hK19 => ?_)
  refine WP.region ?_
  refine WL.runk 4 [0, 3, 4, 8] [(0, .slice a0' list_0.length c0'), (3, .int .i64 st5.1), (4, .int .i64 st5.2), (8, .bool (decide (st5.2 < (list_0.length : Int))))] (by kernel_rfl) ?_
  refine WL.nil ?_
  refine WQ.then_normal (hK19 _ _ _ ?_)
  refine WP.cond (decide (st5.2 < (list_0.length : Int))) rfl rfl (fun hc20 => ?_) (fun hc20 => ?_)
  rotate_left
  · have hm := iteF hm hc20
    refine WP.exit ?_
    refine WQ.then_exit ?_
    refine WQ.then_exit ?_
    refine WQ.block_here ?_
    obtain rfl := Option.some.inj hm
    obtain rfl := afterN_done hl10
    have hm := hmo11
    refine WQ.then_normal (hK3 _ _ _ ?_)
    refine WP.seq (fun K24 hK24 => ?_)
    refine WP.region ?_
    refine WL.runk 2 [2] [(2, .int .i64 st5.1)] (by kernel_rfl) ?_
    refine WL.nil ?_
    refine WQ.then_normal (hK24 _ _ _ ?_)
    refine WP.ret ?_
    obtain rfl := Option.some.inj hm
    exact WQ.ret1 _ rfl rfl ⟨rfl, hb7⟩
  have hm := iteT hm hc20
  refine WP.skip ?_
  refine WQ.then_normal (hK18 _ _ _ ?_)
  refine WP.seq (fun K21 hK21 => ?_)
  refine WP.block ?_
  refine WP.region ?_
  refine WL.runk 3 [0, 4, 11, 12, 13] [(0, .slice a0' list_0.length c0'), (4, .int .i64 st5.2), (11, .int .i64 st5.1), (12, .slice a0' list_0.length c0'), (13, .int .i64 st5.2)] (by kernel_rfl) ?_
  obtain ⟨x22, hx23, hm⟩ := bindE hm
  refine WL.st (.pointer (some (at_ a0' (Int.toNat st5.2 * 1)))) (ST.index (T := fInt.ty) (xs := list_0) (Rd.below h0 hb7) hx23 rfl rfl rfl Try.underlying40 (info2).1 (info2).2.1) rfl rfl rfl ?_
  refine WL.st (.int .i64 x22) (ST.load (cell_ext (Rd.flat (F := fInt) (Rd.below h0 hb7) hx23 0 rfl)) rfl rfl Try.underlying2 rfl) rfl rfl rfl ?_
  refine WL.runk 2 [0, 3, 4] [(0, .slice a0' list_0.length c0'), (4, .int .i64 st5.2), (3, .int .i64 (wI64 (st5.1 + x22)))] (by kernel_rfl) ?_
  refine WL.nil ?_
  refine WQ.block_normal ?_
  refine WQ.then_normal (hK21 _ _ _ ?_)
  refine WP.region ?_
  refine WL.runk 3 [0, 3, 4] [(0, .slice a0' list_0.length c0'), (4, .int .i64 (wI64 (st5.2 + 1))), (3, .int .i64 (wI64 (st5.1 + x22)))] (by kernel_rfl) ?_
  refine WL.nil ?_
  obtain rfl := Option.some.inj hm
  exact WQ.round hK12 ⟨((wI64 (st5.1 + x22)), (wI64 (st5.2 + 1))), rfl, hb7, hL8, hS9, hl10⟩ (Nat.lt_succ_self _) ⟨rfl, rfl, rfl, trivial⟩

theorem c_74 (n : Nat) : ∀ (worn_0 : List Bool) (a0' : Option Addr) (c0' : Nat) (columns_1 : Int) (field_2 : Int) (w : World) (w0 : World) (B : Nat) (L : List Asrt) {r : Int × List Bool} (hm : m_impl_area n worn_0 columns_1 field_2 = some r) (hE0 : Ext w0 w) (hW : w0.heap.size ≤ B) (hL : B ≤ w.heap.size) (hS : SH w B (aOwn fBool 4 a0' c0' worn_0 :: L)), CallV Try.prog 74 #[.slice a0' worn_0.length c0', .int .i64 columns_1, .int .i64 field_2] w (fun v w' => v = .int .i64 r.1 ∧ Below B w w' ∧ SH w' B (aOwn fBool 4 a0' c0' r.2 :: L) ∧ r.2.length = worn_0.length) := by
  induction n with
  | zero => intro worn_0 a0' c0' columns_1 field_2 w w0 B L r hm hE0 hW hL hS; cases hm
  | succ n ih =>
    intro worn_0 a0' c0' columns_1 field_2 w w0 B L r hm hE0 hW hL hS
    rw [m_impl_area] at hm
    refine CallV.enter Try.func74 rfl (by kernel_rfl) Try.ntmps74 (env := [(0, .slice a0' worn_0.length c0'), (1, .int .i64 columns_1), (2, .int .i64 field_2)]) ⟨rfl, rfl, rfl, trivial⟩ ?_
    refine WP.seq (fun K1 hK1 => ?_)
    refine WP.region ?_
    refine WL.runk 1 [0, 1, 2] [(0, .slice a0' worn_0.length c0'), (1, .int .i64 columns_1), (2, .int .i64 field_2)] (by kernel_rfl) ?_
    refine WL.nil ?_
    refine WQ.then_normal (hK1 _ _ _ ?_)
    refine WP.seq (fun K2 hK2 => ?_)
    refine WP.seq (fun K3 hK3 => ?_)
    obtain ⟨x8, hx9, hm⟩ := bindE hm
    refine WP.cut (fun env' w' => env' = [(0, .slice a0' worn_0.length c0'), (1, .int .i64 columns_1), (2, .int .i64 field_2), (22, .bool x8)] ∧ Below B w w' ∧ B ≤ w'.heap.size ∧ SH w' B (aOwn fBool 4 a0' c0' worn_0 :: L)) ?_ ?_
    · have hm := hx9; clear hx9
      refine WP.region ?_
      refine WL.runk 3 [0, 1, 2, 10] [(0, .slice a0' worn_0.length c0'), (1, .int .i64 columns_1), (2, .int .i64 field_2), (10, .bool (decide (field_2 < 0)))] (by kernel_rfl) ?_
      refine WL.case (decide (field_2 < 0)) [10] ⟨rfl, trivial⟩ (fun hc10 => ?_) (fun hc10 => ?_)
      · have hm := iteT hm hc10
        refine WL.runk 12 [0, 1, 2, 22] [(0, .slice a0' worn_0.length c0'), (1, .int .i64 columns_1), (2, .int .i64 field_2), (22, .bool true)] (by kernel_rfl) ?_
        refine WL.nil ?_
        obtain rfl := Option.some.inj hm
        exact WQ.post' ⟨rfl, (Below.refl _ _), hL, hS⟩ ⟨rfl, rfl, rfl, rfl, trivial⟩
      have hm := iteF hm hc10
      refine WL.runk 6 [0, 1, 2, 16] [(0, .slice a0' worn_0.length c0'), (1, .int .i64 columns_1), (2, .int .i64 field_2), (16, .bool (decide (field_2 ≥ (worn_0.length : Int))))] (by kernel_rfl) ?_
      refine WL.case (decide (field_2 ≥ (worn_0.length : Int))) [16] ⟨rfl, trivial⟩ (fun hc11 => ?_) (fun hc11 => ?_)
      · have hm := iteT hm hc11
        refine WL.runk 6 [0, 1, 2, 22] [(0, .slice a0' worn_0.length c0'), (1, .int .i64 columns_1), (2, .int .i64 field_2), (22, .bool true)] (by kernel_rfl) ?_
        refine WL.nil ?_
        obtain rfl := Option.some.inj hm
        exact WQ.post' ⟨rfl, (Below.refl _ _), hL, hS⟩ ⟨rfl, rfl, rfl, rfl, trivial⟩
      have hm := iteF hm hc11
      refine WL.runk 2 [0, 1, 2, 16, 17, 18] [(0, .slice a0' worn_0.length c0'), (1, .int .i64 columns_1), (2, .int .i64 field_2), (16, .bool false), (17, .slice a0' worn_0.length c0'), (18, .int .i64 field_2)] (by kernel_rfl) ?_
      obtain ⟨x12, hx13, hm⟩ := bindE hm
      refine WL.st (.pointer (some (at_ a0' (Int.toNat field_2 * 1)))) (ST.index (T := fBool.ty) (xs := worn_0) (SH.rd (SH.front 0 hS)) hx13 rfl rfl rfl Try.underlying68 (info4).1 (info4).2.1) rfl rfl rfl ?_
      refine WL.st (.bool x12) (ST.load (cell_ext (Rd.flat (F := fBool) (SH.rd (SH.front 0 hS)) hx13 0 rfl)) rfl rfl Try.underlying4 rfl) rfl rfl rfl ?_
      refine WL.runk 2 [0, 1, 2, 22] [(0, .slice a0' worn_0.length c0'), (1, .int .i64 columns_1), (2, .int .i64 field_2), (22, .bool (!x12))] (by kernel_rfl) ?_
      refine WL.nil ?_
      obtain rfl := Option.some.inj hm
      exact WQ.post' ⟨rfl, (Below.refl _ _), hL, hS⟩ ⟨rfl, rfl, rfl, rfl, trivial⟩
    clear hx9
    rintro _ w14 ⟨rfl, hb15, hL16, hS17⟩
    refine WQ.then_normal (hK3 _ _ _ ?_)
    refine WP.cond x8 rfl rfl (fun hc18 => ?_) (fun hc18 => ?_)
    · have hm := iteT hm hc18
      refine WP.seq (fun K19 hK19 => ?_)
      refine WP.region ?_
      refine WL.runk 1 [6] [(6, .int .i64 0)] (by kernel_rfl) ?_
      refine WL.nil ?_
      refine WQ.then_normal (hK19 _ _ _ ?_)
      refine WP.ret ?_
      refine WQ.then_ret ?_
      obtain rfl := Option.some.inj hm
      exact WQ.ret1 _ rfl rfl ⟨rfl, hb15, hS17, rfl⟩
    have hm := iteF hm hc18
    refine WP.skip ?_
    refine WQ.then_normal (hK2 _ _ _ ?_)
    refine WP.seq (fun K20 hK20 => ?_)
    refine WP.region ?_
    refine WL.runk 2 [0, 1, 2, 23, 24] [(0, .slice a0' worn_0.length c0'), (1, .int .i64 columns_1), (2, .int .i64 field_2), (23, .slice a0' worn_0.length c0'), (24, .int .i64 field_2)] (by kernel_rfl) ?_
    obtain ⟨x21, hx22, hm⟩ := bindE hm
    refine WL.st (.pointer (some (at_ a0' (Int.toNat field_2 * 1)))) (ST.index (T := fBool.ty) (xs := worn_0) (SH.rd (SH.front 0 hS17)) hx22 rfl rfl rfl Try.underlying68 (info4).1 (info4).2.1) rfl rfl rfl ?_
    refine WL.store (F := fBool) false 0 [.bool false] (SH.front 0 hS17) hL16 hx22 rfl rfl rfl rfl rfl rfl rfl (info4).1 (info4).2.1 rfl rfl rfl ?_
    intro w23 hB24 hS25
    have hb26 : Below B w w23 := Below.trans hb15 hB24
    have hL27 : B ≤ w23.heap.size := Nat.le_trans hL16 hB24.size
    refine WL.sub [(0, .slice a0' ((worn_0.set (Int.toNat field_2) false).length) c0'), (1, .int .i64 columns_1), (2, .int .i64 field_2), (23, .slice a0' ((worn_0.set (Int.toNat field_2) false).length) c0'), (24, .int .i64 field_2)] ⟨by first | (simp only [List.length_set]; done) | (simp only [List.length_set]; rfl), rfl, rfl, by first | (simp only [List.length_set]; done) | (simp only [List.length_set]; rfl), rfl, trivial⟩ ?_
    have hn28 : (worn_0.set (Int.toNat field_2) false).length = worn_0.length := List.length_set.trans rfl
    refine WL.sub [(0, .slice a0' ((worn_0.set (Int.toNat field_2) false).length) c0'), (1, .int .i64 columns_1), (2, .int .i64 field_2)] ⟨rfl, rfl, rfl, trivial⟩ ?_
    refine WL.nil ?_
    refine WQ.then_normal (hK20 _ _ _ ?_)
    refine WP.seq (fun K29 hK29 => ?_)
    refine WP.region ?_
    refine WL.runk 5 [0, 1, 2, 26, 27, 30] [(0, .slice a0' ((worn_0.set (Int.toNat field_2) false).length) c0'), (1, .int .i64 columns_1), (2, .int .i64 field_2), (26, .slice a0' ((worn_0.set (Int.toNat field_2) false).length) c0'), (27, .int .i64 columns_1), (30, .int .i64 (wI64 (field_2 - columns_1)))] (by kernel_rfl) ?_
    obtain ⟨x30, hx31, hm⟩ := bindE hm
    refine WL.call 74 #[.slice a0' ((worn_0.set (Int.toNat field_2) false).length) c0', .int .i64 columns_1, .int .i64 (wI64 (field_2 - columns_1))] rfl rfl (by kernel_rfl) (ih (worn_0.set (Int.toNat field_2) false) a0' c0' columns_1 (wI64 (field_2 - columns_1)) w23 w0 B (L) hx31 (Below.trans hE0 (Below.mono hb26 hW)) hW hL27  hS25) ?_
    rintro _ w32 ⟨rfl, hB36, hS35, hlen37⟩
    refine ⟨_, rfl, ?_⟩
    have hb38 : Below B w w32 := Below.trans hb26 hB36
    have hL39 : B ≤ w32.heap.size := Nat.le_trans hL27 hB36.size
    refine WL.sub [(0, .slice a0' x30.2.length c0'), (1, .int .i64 columns_1), (2, .int .i64 field_2), (26, .slice a0' x30.2.length c0'), (27, .int .i64 columns_1), (30, .int .i64 (wI64 (field_2 - columns_1))), (31, .int .i64 x30.1)] ⟨by rw [hlen37]; rfl, rfl, rfl, by rw [hlen37]; rfl, rfl, rfl, rfl, trivial⟩ ?_
    have hn40 := hlen37.trans hn28
    refine WL.runk 6 [0, 1, 2, 32, 33, 34, 37] [(0, .slice a0' x30.2.length c0'), (1, .int .i64 columns_1), (2, .int .i64 field_2), (32, .int .i64 (wI64 (1 + x30.1))), (33, .slice a0' x30.2.length c0'), (34, .int .i64 columns_1), (37, .int .i64 (wI64 (field_2 + columns_1)))] (by kernel_rfl) ?_
    obtain ⟨x41, hx42, hm⟩ := bindE hm
    refine WL.call 74 #[.slice a0' x30.2.length c0', .int .i64 columns_1, .int .i64 (wI64 (field_2 + columns_1))] rfl rfl (by kernel_rfl) (ih x30.2 a0' c0' columns_1 (wI64 (field_2 + columns_1)) w32 w0 B (L) hx42 (Below.trans hE0 (Below.mono hb38 hW)) hW hL39  hS35) ?_
    rintro _ w43 ⟨rfl, hB47, hS46, hlen48⟩
    refine ⟨_, rfl, ?_⟩
    have hb49 : Below B w w43 := Below.trans hb38 hB47
    have hL50 : B ≤ w43.heap.size := Nat.le_trans hL39 hB47.size
    refine WL.sub [(0, .slice a0' x41.2.length c0'), (1, .int .i64 columns_1), (2, .int .i64 field_2), (32, .int .i64 (wI64 (1 + x30.1))), (33, .slice a0' x41.2.length c0'), (34, .int .i64 columns_1), (37, .int .i64 (wI64 (field_2 + columns_1))), (38, .int .i64 x41.1)] ⟨by rw [hlen48]; rfl, rfl, rfl, rfl, by rw [hlen48]; rfl, rfl, rfl, rfl, trivial⟩ ?_
    have hn51 := hlen48.trans hn40
    refine WL.runk 2 [0, 1, 2, 7] [(0, .slice a0' x41.2.length c0'), (1, .int .i64 columns_1), (2, .int .i64 field_2), (7, .int .i64 (wI64 ((wI64 (1 + x30.1)) + x41.1)))] (by kernel_rfl) ?_
    refine WL.nil ?_
    refine WQ.then_normal (hK29 _ _ _ ?_)
    refine WP.seq (fun K52 hK52 => ?_)
    refine WP.seq (fun K53 hK53 => ?_)
    refine WP.region ?_
    refine WL.runk 2 [0, 1, 2, 7, 40, 41] [(0, .slice a0' x41.2.length c0'), (1, .int .i64 columns_1), (2, .int .i64 field_2), (7, .int .i64 (wI64 ((wI64 (1 + x30.1)) + x41.1))), (40, .int .i64 field_2), (41, .int .i64 columns_1)] (by kernel_rfl) ?_
    obtain ⟨x54, hx55, hm⟩ := bindE hm
    refine WL.st (.int .i64 x54) (ST.rem (k := .i64) hx55 rfl rfl rfl) rfl rfl rfl ?_
    refine WL.runk 1 [0, 1, 2, 7, 43] [(0, .slice a0' x41.2.length c0'), (1, .int .i64 columns_1), (2, .int .i64 field_2), (7, .int .i64 (wI64 ((wI64 (1 + x30.1)) + x41.1))), (43, .bool (decide (x54 > 0)))] (by kernel_rfl) ?_
    refine WL.nil ?_
    refine WQ.then_normal (hK53 _ _ _ ?_)
    obtain ⟨x92, hx93, hm⟩ := bindE hm
    refine WP.cut (fun env' w' => env' = [(0, .slice a0' x92.2.length c0'), (1, .int .i64 columns_1), (2, .int .i64 field_2), (7, .int .i64 x92.1)] ∧ Below B w w' ∧ B ≤ w'.heap.size ∧ SH w' B (aOwn fBool 4 a0' c0' x92.2 :: L) ∧ x92.2.length = worn_0.length) ?_ ?_
    · have hm := hx93; clear hx93
      refine WP.cond (decide (x54 > 0)) rfl rfl (fun hc56 => ?_) (fun hc56 => ?_)
      rotate_left
      · have hm := iteF hm hc56
        refine WP.skip ?_
        obtain rfl := Option.some.inj hm
        exact WQ.post' ⟨rfl, hb49, hL50, hS46, hn51⟩ ⟨rfl, rfl, rfl, rfl, trivial⟩
      have hm := iteT hm hc56
      refine WP.region ?_
      refine WL.runk 5 [0, 1, 2, 44, 45, 46, 48] [(0, .slice a0' x41.2.length c0'), (1, .int .i64 columns_1), (2, .int .i64 field_2), (44, .int .i64 (wI64 ((wI64 (1 + x30.1)) + x41.1))), (45, .slice a0' x41.2.length c0'), (46, .int .i64 columns_1), (48, .int .i64 (wI64 (field_2 - 1)))] (by kernel_rfl) ?_
      obtain ⟨x94, hx95, hm⟩ := bindE hm
      refine WL.call 74 #[.slice a0' x41.2.length c0', .int .i64 columns_1, .int .i64 (wI64 (field_2 - 1))] rfl rfl (by kernel_rfl) (ih x41.2 a0' c0' columns_1 (wI64 (field_2 - 1)) w43 w0 B (L) hx95 (Below.trans hE0 (Below.mono hb49 hW)) hW hL50  hS46) ?_
      rintro _ w96 ⟨rfl, hB100, hS99, hlen101⟩
      refine ⟨_, rfl, ?_⟩
      have hb102 : Below B w w96 := Below.trans hb49 hB100
      have hL103 : B ≤ w96.heap.size := Nat.le_trans hL50 hB100.size
      refine WL.sub [(0, .slice a0' x94.2.length c0'), (1, .int .i64 columns_1), (2, .int .i64 field_2), (44, .int .i64 (wI64 ((wI64 (1 + x30.1)) + x41.1))), (45, .slice a0' x94.2.length c0'), (46, .int .i64 columns_1), (48, .int .i64 (wI64 (field_2 - 1))), (49, .int .i64 x94.1)] ⟨by rw [hlen101]; rfl, rfl, rfl, rfl, by rw [hlen101]; rfl, rfl, rfl, rfl, trivial⟩ ?_
      have hn104 := hlen101.trans hn51
      refine WL.runk 2 [0, 1, 2, 7] [(0, .slice a0' x94.2.length c0'), (1, .int .i64 columns_1), (2, .int .i64 field_2), (7, .int .i64 (wI64 ((wI64 ((wI64 (1 + x30.1)) + x41.1)) + x94.1)))] (by kernel_rfl) ?_
      refine WL.nil ?_
      obtain rfl := Option.some.inj hm
      exact WQ.post' ⟨rfl, hb102, hL103, hS99, hn104⟩ ⟨rfl, rfl, rfl, rfl, trivial⟩
    clear hx93
    rintro _ w105 ⟨rfl, hb106, hL107, hS108, hn109⟩
    refine WQ.then_normal (hK52 _ _ _ ?_)
    refine WP.seq (fun K110 hK110 => ?_)
    refine WP.seq (fun K111 hK111 => ?_)
    refine WP.region ?_
    refine WL.runk 2 [0, 1, 2, 7, 51, 52] [(0, .slice a0' x92.2.length c0'), (1, .int .i64 columns_1), (2, .int .i64 field_2), (7, .int .i64 x92.1), (51, .int .i64 field_2), (52, .int .i64 columns_1)] (by kernel_rfl) ?_
    obtain ⟨x112, hx113, hm⟩ := bindE hm
    refine WL.st (.int .i64 x112) (ST.rem (k := .i64) hx113 rfl rfl rfl) rfl rfl rfl ?_
    refine WL.runk 3 [0, 1, 2, 7, 56] [(0, .slice a0' x92.2.length c0'), (1, .int .i64 columns_1), (2, .int .i64 field_2), (7, .int .i64 x92.1), (56, .bool (decide (x112 < (wI64 (columns_1 - 1)))))] (by kernel_rfl) ?_
    refine WL.nil ?_
    refine WQ.then_normal (hK111 _ _ _ ?_)
    obtain ⟨x150, hx151, hm⟩ := bindE hm
    refine WP.cut (fun env' w' => env' = [(7, .int .i64 x150.1)] ∧ Below B w w' ∧ B ≤ w'.heap.size ∧ SH w' B (aOwn fBool 4 a0' c0' x150.2 :: L) ∧ x150.2.length = worn_0.length) ?_ ?_
    rotate_left
    · clear hx151
      rintro _ w163 ⟨rfl, hb164, hL165, hS166, hn167⟩
      refine WQ.then_normal (hK110 _ _ _ ?_)
      refine WP.seq (fun K168 hK168 => ?_)
      refine WP.region ?_
      refine WL.runk 2 [6] [(6, .int .i64 x150.1)] (by kernel_rfl) ?_
      refine WL.nil ?_
      refine WQ.then_normal (hK168 _ _ _ ?_)
      refine WP.ret ?_
      obtain rfl := Option.some.inj hm
      exact WQ.ret1 _ rfl rfl ⟨rfl, hb164, hS166, hn167⟩
    have hm := hx151; clear hx151
    refine WP.cond (decide (x112 < (wI64 (columns_1 - 1)))) rfl rfl (fun hc114 => ?_) (fun hc114 => ?_)
    rotate_left
    · have hm := iteF hm hc114
      refine WP.skip ?_
      obtain rfl := Option.some.inj hm
      exact WQ.post' ⟨rfl, hb106, hL107, hS108, hn109⟩ ⟨rfl, trivial⟩
    have hm := iteT hm hc114
    refine WP.region ?_
    refine WL.runk 5 [57, 58, 59, 61] [(57, .int .i64 x92.1), (58, .slice a0' x92.2.length c0'), (59, .int .i64 columns_1), (61, .int .i64 (wI64 (field_2 + 1)))] (by kernel_rfl) ?_
    obtain ⟨x152, hx153, hm⟩ := bindE hm
    refine WL.call 74 #[.slice a0' x92.2.length c0', .int .i64 columns_1, .int .i64 (wI64 (field_2 + 1))] rfl rfl (by kernel_rfl) (ih x92.2 a0' c0' columns_1 (wI64 (field_2 + 1)) w105 w0 B (L) hx153 (Below.trans hE0 (Below.mono hb106 hW)) hW hL107  hS108) ?_
    rintro _ w154 ⟨rfl, hB158, hS157, hlen159⟩
    refine ⟨_, rfl, ?_⟩
    have hb160 : Below B w w154 := Below.trans hb106 hB158
    have hL161 : B ≤ w154.heap.size := Nat.le_trans hL107 hB158.size
    refine WL.sub [(57, .int .i64 x92.1), (58, .slice a0' x152.2.length c0'), (59, .int .i64 columns_1), (61, .int .i64 (wI64 (field_2 + 1))), (62, .int .i64 x152.1)] ⟨rfl, by rw [hlen159]; rfl, rfl, rfl, rfl, trivial⟩ ?_
    have hn162 := hlen159.trans hn109
    refine WL.runk 2 [7] [(7, .int .i64 (wI64 (x92.1 + x152.1)))] (by kernel_rfl) ?_
    refine WL.nil ?_
    obtain rfl := Option.some.inj hm
    exact WQ.post' ⟨rfl, hb160, hL161, hS157, hn162⟩ ⟨rfl, trivial⟩

theorem c_46 (n : Nat) (rows_0 : List (List UInt8)) (a0' : Option Addr) (c0' : Nat) (least_1 : Int) (w : World) {r : List Int × Int} (hm : m_impl_WornAreas n rows_0 least_1 = some r) (h0 : Rd fStr.ty w a0' rows_0) (hle0 : rows_0.length ≤ c0') :
    CallV Try.prog 46 #[.slice a0' rows_0.length c0', .int .i64 least_1] w (fun v w' => ∃ (ra0 : Option Addr) (rc0 : Nat), v = .tuple #[.slice ra0 r.1.length rc0, .int .i64 r.2] ∧ Ext w w' ∧ SH w' w.heap.size [aOwn fInt 2 ra0 rc0 r.1]) := by
  unfold m_impl_WornAreas at hm
  refine CallV.enter Try.func46 rfl (by kernel_rfl) Try.ntmps46 (env := [(0, .slice a0' rows_0.length c0'), (1, .int .i64 least_1)]) ⟨rfl, rfl, trivial⟩ ?_
  refine WP.seq (fun K1 hK1 => ?_)
  refine WP.region ?_
  refine WL.runk 2 [0, 1] [(0, .slice a0' rows_0.length c0'), (1, .int .i64 least_1)] (by kernel_rfl) ?_
  refine WL.nil ?_
  refine WQ.then_normal (hK1 _ _ _ ?_)
  refine WP.seq (fun K2 hK2 => ?_)
  refine WP.seq (fun K3 hK3 => ?_)
  refine WP.region ?_
  refine WL.runk 2 [0, 1, 13, 14] [(0, .slice a0' rows_0.length c0'), (1, .int .i64 least_1), (13, .slice a0' rows_0.length c0'), (14, .int .i64 least_1)] (by kernel_rfl) ?_
  obtain ⟨x4, hx5, hm⟩ := bindE hm
  refine WL.call 53 #[.slice a0' rows_0.length c0', .int .i64 least_1] rfl rfl (by kernel_rfl) (c_53 n rows_0 a0' c0' least_1 w hx5 (Rd.below h0 (Ext.refl w)) hle0) ?_
  rintro _ w6 ⟨rfl, hE7⟩
  refine ⟨_, rfl, ?_⟩
  have hb9 : Ext w w6 := Ext.trans (Ext.refl w) hE7
  have hL10 : w.heap.size ≤ w6.heap.size := Nat.le_trans (Nat.le_refl _) hE7.size
  have hS11 : SH w6 w.heap.size [] := SH.ext (SH.nil _ _) hE7
  refine WL.runk 1 [0, 1, 6] [(0, .slice a0' rows_0.length c0'), (1, .int .i64 least_1), (6, .int .i64 x4)] (by kernel_rfl) ?_
  refine WL.nil ?_
  refine WQ.then_normal (hK3 _ _ _ ?_)
  refine WP.seq (fun K12 hK12 => ?_)
  refine WP.region ?_
  refine WL.runk 2 [0, 1, 6, 17] [(0, .slice a0' rows_0.length c0'), (1, .int .i64 least_1), (6, .int .i64 x4), (17, .bool (x4 != 0))] (by kernel_rfl) ?_
  refine WL.nil ?_
  refine WQ.then_normal (hK12 _ _ _ ?_)
  refine WP.cond (x4 != 0) rfl rfl (fun hc13 => ?_) (fun hc13 => ?_)
  · have hm := iteT hm hc13
    refine WP.seq (fun K14 hK14 => ?_)
    refine WP.region ?_
    refine WL.runk 3 [4, 5] [(4, .slice none 0 0), (5, .int .i64 x4)] (by kernel_rfl) ?_
    refine WL.nil ?_
    refine WQ.then_normal (hK14 _ _ _ ?_)
    refine WP.ret ?_
    refine WQ.then_ret ?_
    obtain rfl := Option.some.inj hm
    have hS16 : SH w6 w.heap.size [aOwn fInt 2 none 0 ([] : List Int)] := SH.nilOwn hS11
    exact WQ.ret2 _ _ rfl rfl rfl ⟨_, _, rfl, hb9, hS16⟩
  have hm := iteF hm hc13
  refine WP.skip ?_
  refine WQ.then_normal (hK2 _ _ _ ?_)
  refine WP.seq (fun K17 hK17 => ?_)
  refine WP.region ?_
  refine WL.row fBool 4 ([] : List Bool) 0 #[] 19 (by kernel_rfl) rfl rfl rfl rfl rfl rfl rfl ?_
  intro a18 c19 w20 hE21 hR22
  have hb24 : Ext w w20 := Ext.trans hb9 hE21
  have hL25 : w.heap.size ≤ w20.heap.size := Nat.le_trans hL10 hE21.size
  have hS26 : SH w20 w.heap.size [aOwn fBool 4 a18 c19 ([] : List Bool)] := SH.add hS11 hE21 hL10 hR22
  refine WL.row fInt 2 ([] : List Int) 0 #[] 20 (by kernel_rfl) rfl rfl rfl rfl rfl rfl rfl ?_
  intro a27 c28 w29 hE30 hR31
  have hb33 : Ext w w29 := Ext.trans hb24 hE30
  have hL34 : w.heap.size ≤ w29.heap.size := Nat.le_trans hL25 hE30.size
  have hS35 : SH w29 w.heap.size [aOwn fInt 2 a27 c28 ([] : List Int), aOwn fBool 4 a18 c19 ([] : List Bool)] := SH.add hS26 hE30 hL25 hR31
  refine WL.runk 2 [0, 1, 7, 8] [(0, .slice a0' rows_0.length c0'), (1, .int .i64 least_1), (7, .slice a18 (([] : List Bool).length) c19), (8, .slice a27 (([] : List Int).length) c28)] (by kernel_rfl) ?_
  refine WL.nil ?_
  refine WQ.then_normal (hK17 _ _ _ ?_)
  refine WP.seq (fun K36 hK36 => ?_)
  refine WP.seq (fun K37 hK37 => ?_)
  refine WP.region ?_
  refine WL.runk 1 [0, 1, 7, 8, 21] [(0, .slice a0' rows_0.length c0'), (1, .int .i64 least_1), (7, .slice a18 (([] : List Bool).length) c19), (8, .slice a27 (([] : List Int).length) c28), (21, .slice a0' rows_0.length c0')] (by kernel_rfl) ?_
  obtain ⟨x38, hx39, hm⟩ := bindE hm
  refine WL.call 54 #[.slice a0' rows_0.length c0'] rfl rfl (by kernel_rfl) (c_54 n rows_0 a0' c0' w29 hx39 (Rd.below h0 hb33) hle0) ?_
  rintro _ w43 ⟨a40, c41, rfl, hE44, hR45⟩
  refine ⟨_, rfl, ?_⟩
  have hb46 : Ext w w43 := Ext.trans hb33 hE44
  have hL47 : w.heap.size ≤ w43.heap.size := Nat.le_trans hL34 hE44.size
  have hS48 : SH w43 w.heap.size [aOwn fInt 2 a40 c41 x38, aOwn fInt 2 a27 c28 ([] : List Int), aOwn fBool 4 a18 c19 ([] : List Bool)] := SH.add hS35 hE44 hL34 hR45
  refine WL.runk 2 [0, 1, 7, 8, 22, 23, 24] [(0, .slice a0' rows_0.length c0'), (1, .int .i64 least_1), (7, .slice a18 (([] : List Bool).length) c19), (8, .slice a27 (([] : List Int).length) c28), (22, .slice a40 x38.length c41), (23, .int .i64 (x38.length : Int)), (24, .int .i64 0)] (by kernel_rfl) ?_
  refine WL.nil ?_
  refine WQ.then_normal (hK37 _ _ _ ?_)
  refine WP.block ?_
  obtain ⟨t63, ht64, hm⟩ := bindE hm
  have hmo58 := hm; clear hm
  refine WP.sub [(0, .slice a0' rows_0.length c0'), (1, .int .i64 least_1), (7, .slice a18 (([] : List Bool).length) c19), (8, .slice a27 (([] : List Int).length) c28), (22, .slice a40 x38.length c41), (23, .int .i64 (x38.length : Int)), (24, .int .i64 0)] ⟨rfl, rfl, rfl, rfl, rfl, rfl, rfl, trivial⟩ ?_
  refine WP.loop (fun n' env' w' => ∃ (st49 : List Bool × Int) (a50 : Option Addr) (c51 : Nat), env' = [(0, .slice a0' rows_0.length c0'), (1, .int .i64 least_1), (7, .slice a50 st49.1.length c51), (8, .slice a27 (([] : List Int).length) c28), (22, .slice a40 x38.length c41), (23, .int .i64 (x38.length : Int)), (24, .int .i64 st49.2)] ∧ Ext w w' ∧ w.heap.size ≤ w'.heap.size ∧ SH w' w.heap.size [aOwn fBool 4 a50 c51 st49.1, aOwn fInt 2 a40 c41 x38, aOwn fInt 2 a27 c28 ([] : List Int)] ∧ loopN (m_impl_WornAreas_l1 n least_1 x38) n' st49 = some t63) n ⟨(([] : List Bool), 0), _, _, rfl, hb46, hL47, (SH.front 2 (SH.front 1 (SH.front 1 hS48))), ht64⟩ ?_
  rintro n60 _ w53 ⟨st49, a50, c51, rfl, hb54, hL55, hS56, hl57⟩ K59 hK59
  obtain ⟨n61, s62, rfl, hm, hl57⟩ := loopN_some hl57
  unfold m_impl_WornAreas_l1 at hm
  refine WP.seq (fun K65 hK65 => ?_)
  refine WP.region ?_
  refine WL.runk 1 [0, 1, 7, 8, 22, 23, 24, 25] [(0, .slice a0' rows_0.length c0'), (1, .int .i64 least_1), (7, .slice a50 st49.1.length c51), (8, .slice a27 (([] : List Int).length) c28), (22, .slice a40 x38.length c41), (23, .int .i64 (x38.length : Int)), (24, .int .i64 st49.2), (25, .bool (decide (st49.2 < (x38.length : Int))))] (by kernel_rfl) ?_
  refine WL.nil ?_
  refine WQ.then_normal (hK65 _ _ _ ?_)
  refine WP.seq (fun K66 hK66 => ?_)
  refine WP.cond (decide (st49.2 < (x38.length : Int))) rfl rfl (fun hc67 => ?_) (fun hc67 => ?_)
  · have hm := iteT hm hc67
    refine WP.skip ?_
    refine WQ.then_normal (hK66 _ _ _ ?_)
    refine WP.seq (fun K68 hK68 => ?_)
    refine WP.block ?_
    refine WP.seq (fun K69 hK69 => ?_)
    refine WP.region ?_
    obtain ⟨x70, hx71, hm⟩ := bindE hm
    refine WL.st (.pointer (some (at_ a40 (Int.toNat st49.2 * 1)))) (ST.index (T := fInt.ty) (xs := x38) (SH.rd (SH.front 1 hS56)) hx71 rfl rfl rfl Try.underlying40 (info2).1 (info2).2.1) rfl rfl rfl ?_
    refine WL.st (.int .i64 x70) (ST.load (cell_ext (Rd.flat (F := fInt) (SH.rd (SH.front 1 hS56)) hx71 0 rfl)) rfl rfl Try.underlying2 rfl) rfl rfl rfl ?_
    refine WL.runk 1 [0, 1, 7, 8, 10, 22, 23, 24] [(0, .slice a0' rows_0.length c0'), (1, .int .i64 least_1), (7, .slice a50 st49.1.length c51), (8, .slice a27 (([] : List Int).length) c28), (22, .slice a40 x38.length c41), (23, .int .i64 (x38.length : Int)), (24, .int .i64 st49.2), (10, .int .i64 x70)] (by kernel_rfl) ?_
    refine WL.nil ?_
    refine WQ.then_normal (hK69 _ _ _ ?_)
    refine WP.region ?_
    refine WL.runk 4 [0, 1, 8, 22, 23, 24, 28, 31] [(0, .slice a0' rows_0.length c0'), (1, .int .i64 least_1), (8, .slice a27 (([] : List Int).length) c28), (22, .slice a40 x38.length c41), (23, .int .i64 (x38.length : Int)), (24, .int .i64 st49.2), (28, .slice a50 st49.1.length c51), (31, .bool (decide (x70 ≥ least_1)))] (by kernel_rfl) ?_
    refine WL.row fBool 4 ([(decide (x70 ≥ least_1))] : List Bool) 1 #[.bool (decide (x70 ≥ least_1))] 32 (by kernel_rfl) rfl rfl rfl rfl rfl rfl rfl ?_
    intro a72 c73 w74 hE75 hR76
    have hb78 : Ext w w74 := Ext.trans hb54 hE75
    have hL79 : w.heap.size ≤ w74.heap.size := Nat.le_trans hL55 hE75.size
    have hS80 : SH w74 w.heap.size [aOwn fBool 4 a72 c73 ([(decide (x70 ≥ least_1))] : List Bool), aOwn fBool 4 a50 c51 st49.1, aOwn fInt 2 a40 c41 x38, aOwn fInt 2 a27 c28 ([] : List Int)] := SH.add hS56 hE75 hL55 hR76
    obtain ⟨x81, hx82, hm⟩ := bindE hm
    refine WL.append (F := fBool) (xs := st49.1) (ys := ([(decide (x70 ≥ least_1))] : List Bool)) 33 (SH.front 1 hS80) hL79 (SH.rd (SH.front 0 hS80)) hx82 rfl rfl rfl Try.underlying68 (info4).1 (info4).2.2.1 (info4).2.1 (info4).2.2.2 rfl rfl rfl rfl rfl ?_
    intro a83 c84 w85 hB86 hS87
    have hb88 : Ext w w85 := Below.trans hb78 hB86
    have hL89 : w.heap.size ≤ w85.heap.size := Nat.le_trans hL79 hB86.size
    refine WL.runk 1 [0, 1, 7, 8, 22, 23, 24] [(0, .slice a0' rows_0.length c0'), (1, .int .i64 least_1), (8, .slice a27 (([] : List Int).length) c28), (22, .slice a40 x38.length c41), (23, .int .i64 (x38.length : Int)), (24, .int .i64 st49.2), (7, .slice a83 x81.length c84)] (by kernel_rfl) ?_
    refine WL.nil ?_
    refine WQ.block_normal ?_
    refine WQ.then_normal (hK68 _ _ _ ?_)
    refine WP.region ?_
    refine WL.runk 2 [0, 1, 7, 8, 22, 23, 24] [(0, .slice a0' rows_0.length c0'), (1, .int .i64 least_1), (8, .slice a27 (([] : List Int).length) c28), (22, .slice a40 x38.length c41), (23, .int .i64 (x38.length : Int)), (24, .int .i64 (wI64 (st49.2 + 1))), (7, .slice a83 x81.length c84)] (by kernel_rfl) ?_
    refine WL.nil ?_
    obtain rfl := Option.some.inj hm
    exact WQ.round hK59 ⟨(x81, (wI64 (st49.2 + 1))), _, _, rfl, hb88, hL89, (SH.take 3 (SH.front 2 (SH.front 3 (SH.front 3 hS87)))), hl57⟩ (Nat.lt_succ_self _) ⟨rfl, rfl, rfl, rfl, rfl, rfl, rfl, trivial⟩
  have hm := iteF hm hc67
  refine WP.exit ?_
  refine WQ.then_exit ?_
  refine WQ.then_exit ?_
  refine WQ.block_here ?_
  obtain rfl := Option.some.inj hm
  obtain rfl := afterN_done hl57
  have hm := hmo58
  refine WQ.then_normal (hK36 _ _ _ ?_)
  refine WP.seq (fun K90 hK90 => ?_)
  refine WP.seq (fun K91 hK91 => ?_)
  refine WP.region ?_
  refine WL.runk 3 [0, 7, 8, 36, 37] [(0, .slice a0' rows_0.length c0'), (7, .slice a50 st49.1.length c51), (8, .slice a27 (([] : List Int).length) c28), (36, .int .i64 (st49.1.length : Int)), (37, .int .i64 0)] (by kernel_rfl) ?_
  refine WL.nil ?_
  refine WQ.then_normal (hK91 _ _ _ ?_)
  refine WP.block ?_
  obtain ⟨t188, ht189, hm⟩ := bindE hm
  have hmo183 := hm; clear hm
  refine WP.sub [(0, .slice a0' rows_0.length c0'), (7, .slice a50 st49.1.length c51), (8, .slice a27 (([] : List Int).length) c28), (36, .int .i64 (st49.1.length : Int)), (37, .int .i64 0)] ⟨rfl, rfl, rfl, rfl, rfl, trivial⟩ ?_
  refine WP.loop (fun n' env' w' => ∃ (st174 : List Int × Int × List Bool) (a175 : Option Addr) (c176 : Nat), env' = [(0, .slice a0' rows_0.length c0'), (7, .slice a50 st174.2.2.length c51), (8, .slice a175 st174.1.length c176), (36, .int .i64 (st49.1.length : Int)), (37, .int .i64 st174.2.1)] ∧ Ext w w' ∧ w.heap.size ≤ w'.heap.size ∧ SH w' w.heap.size [aOwn fInt 2 a175 c176 st174.1, aOwn fBool 4 a50 c51 st174.2.2, aOwn fInt 2 a40 c41 x38] ∧ loopN (m_impl_WornAreas_l2 n rows_0 st49) n' st174 = some t188) n ⟨(([] : List Int), 0, st49.1), _, _, rfl, hb54, hL55, (SH.front 2 (SH.front 1 (SH.front 1 hS56))), ht189⟩ ?_
  rintro n185 _ w178 ⟨st174, a175, c176, rfl, hb179, hL180, hS181, hl182⟩ K184 hK184
  obtain ⟨n186, s187, rfl, hm, hl182⟩ := loopN_some hl182
  unfold m_impl_WornAreas_l2 at hm
  refine WP.seq (fun K190 hK190 => ?_)
  refine WP.region ?_
  refine WL.runk 1 [0, 7, 8, 36, 37, 38] [(0, .slice a0' rows_0.length c0'), (7, .slice a50 st174.2.2.length c51), (8, .slice a175 st174.1.length c176), (36, .int .i64 (st49.1.length : Int)), (37, .int .i64 st174.2.1), (38, .bool (decide (st174.2.1 < (st49.1.length : Int))))] (by kernel_rfl) ?_
  refine WL.nil ?_
  refine WQ.then_normal (hK190 _ _ _ ?_)
  refine WP.seq (fun K191 hK191 => ?_)
  refine WP.cond (decide (st174.2.1 < (st49.1.length : Int))) rfl rfl (fun hc192 => ?_) (fun hc192 => ?_)
  rotate_left
  · have hm := iteF hm hc192
    refine WP.exit ?_
    refine WQ.then_exit ?_
    refine WQ.then_exit ?_
    refine WQ.block_here ?_
    obtain rfl := Option.some.inj hm
    obtain rfl := afterN_done hl182
    have hm := hmo183
    refine WQ.then_normal (hK90 _ _ _ ?_)
    refine WP.seq (fun K255 hK255 => ?_)
    refine WP.region ?_
    refine WL.runk 3 [4, 5] [(4, .slice a175 st174.1.length c176), (5, .int .i64 0)] (by kernel_rfl) ?_
    refine WL.nil ?_
    refine WQ.then_normal (hK255 _ _ _ ?_)
    refine WP.ret ?_
    obtain rfl := Option.some.inj hm
    exact WQ.ret2 _ _ rfl rfl rfl ⟨_, _, rfl, hb179, (SH.take 1 hS181)⟩
  have hm := iteT hm hc192
  refine WP.skip ?_
  refine WQ.then_normal (hK191 _ _ _ ?_)
  refine WP.seq (fun K193 hK193 => ?_)
  refine WP.block ?_
  refine WP.seq (fun K194 hK194 => ?_)
  refine WP.region ?_
  refine WL.runk 2 [0, 7, 8, 11, 36, 37] [(0, .slice a0' rows_0.length c0'), (7, .slice a50 st174.2.2.length c51), (8, .slice a175 st174.1.length c176), (36, .int .i64 (st49.1.length : Int)), (37, .int .i64 st174.2.1), (11, .int .i64 st174.2.1)] (by kernel_rfl) ?_
  refine WL.nil ?_
  refine WQ.then_normal (hK194 _ _ _ ?_)
  refine WP.seq (fun K195 hK195 => ?_)
  refine WP.region ?_
  refine WL.runk 2 [0, 7, 8, 11, 36, 37, 40, 41] [(0, .slice a0' rows_0.length c0'), (7, .slice a50 st174.2.2.length c51), (8, .slice a175 st174.1.length c176), (36, .int .i64 (st49.1.length : Int)), (37, .int .i64 st174.2.1), (11, .int .i64 st174.2.1), (40, .slice a50 st174.2.2.length c51), (41, .slice a0' rows_0.length c0')] (by kernel_rfl) ?_
  obtain ⟨x196, hx197, hm⟩ := bindE hm
  refine WL.st (.pointer (some (at_ a0' (Int.toNat 0 * 1)))) (ST.index (T := fStr.ty) (xs := rows_0) (Rd.below h0 hb179) hx197 rfl rfl rfl Try.underlying22 (info9).1 (info9).2.1) rfl rfl rfl ?_
  refine WL.st (.string (bs x196)) (ST.load (cell_ext (Rd.flat (F := fStr) (Rd.below h0 hb179) hx197 0 rfl)) rfl rfl Try.underlying9 rfl) rfl rfl rfl ?_
  refine WL.runk 2 [0, 7, 8, 36, 37, 40, 44, 45] [(0, .slice a0' rows_0.length c0'), (7, .slice a50 st174.2.2.length c51), (8, .slice a175 st174.1.length c176), (36, .int .i64 (st49.1.length : Int)), (37, .int .i64 st174.2.1), (40, .slice a50 st174.2.2.length c51), (44, .int .i64 (x196.length : Int)), (45, .int .i64 st174.2.1)] (by kernel_rfl) ?_
  obtain ⟨x198, hx199, hm⟩ := bindE hm
  refine WL.call 74 #[.slice a50 st174.2.2.length c51, .int .i64 (x196.length : Int), .int .i64 st174.2.1] rfl rfl (by kernel_rfl) (c_74 n st174.2.2 a50 c51 (x196.length : Int) st174.2.1 w178 w w.heap.size [aOwn fInt 2 a175 c176 st174.1, aOwn fInt 2 a40 c41 x38] hx199 hb179 (Nat.le_refl _) hL180  (SH.front 2 (SH.front 1 (SH.front 2 hS181)))) ?_
  rintro _ w200 ⟨rfl, hB204, hS203, hlen205⟩
  refine ⟨_, rfl, ?_⟩
  have hb206 : Ext w w200 := Below.trans hb179 hB204
  have hL207 : w.heap.size ≤ w200.heap.size := Nat.le_trans hL180 hB204.size
  refine WL.sub [(0, .slice a0' rows_0.length c0'), (7, .slice a50 x198.2.length c51), (8, .slice a175 st174.1.length c176), (36, .int .i64 (st49.1.length : Int)), (37, .int .i64 st174.2.1), (40, .slice a50 x198.2.length c51), (44, .int .i64 (x196.length : Int)), (45, .int .i64 st174.2.1), (46, .int .i64 x198.1)] ⟨rfl, by rw [hlen205]; rfl, rfl, rfl, rfl, by rw [hlen205]; rfl, rfl, rfl, rfl, trivial⟩ ?_
  refine WL.runk 1 [0, 7, 8, 12, 36, 37] [(0, .slice a0' rows_0.length c0'), (7, .slice a50 x198.2.length c51), (8, .slice a175 st174.1.length c176), (36, .int .i64 (st49.1.length : Int)), (37, .int .i64 st174.2.1), (12, .int .i64 x198.1)] (by kernel_rfl) ?_
  refine WL.nil ?_
  refine WQ.then_normal (hK195 _ _ _ ?_)
  refine WP.seq (fun K208 hK208 => ?_)
  refine WP.region ?_
  refine WL.runk 2 [0, 7, 8, 12, 36, 37, 48] [(0, .slice a0' rows_0.length c0'), (7, .slice a50 x198.2.length c51), (8, .slice a175 st174.1.length c176), (36, .int .i64 (st49.1.length : Int)), (37, .int .i64 st174.2.1), (12, .int .i64 x198.1), (48, .bool (decide (x198.1 > 0)))] (by kernel_rfl) ?_
  refine WL.nil ?_
  refine WQ.then_normal (hK208 _ _ _ ?_)
  obtain ⟨x228, hx229, hm⟩ := bindE hm
  refine WP.cut (fun env' w' => ∃ (a230 : Option Addr) (c231 : Nat), env' = [(0, .slice a0' rows_0.length c0'), (7, .slice a50 x198.2.length c51), (8, .slice a230 x228.length c231), (36, .int .i64 (st49.1.length : Int)), (37, .int .i64 st174.2.1)] ∧ Ext w w' ∧ w.heap.size ≤ w'.heap.size ∧ SH w' w.heap.size [aOwn fInt 2 a230 c231 x228, aOwn fBool 4 a50 c51 x198.2, aOwn fInt 2 a40 c41 x38]) ?_ ?_
  rotate_left
  · clear hx229
    rintro _ w251 ⟨a230, c231, rfl, hb252, hL253, hS254⟩
    refine WQ.block_normal ?_
    refine WQ.then_normal (hK193 _ _ _ ?_)
    refine WP.region ?_
    refine WL.runk 2 [0, 7, 8, 36, 37] [(0, .slice a0' rows_0.length c0'), (7, .slice a50 x198.2.length c51), (8, .slice a230 x228.length c231), (36, .int .i64 (st49.1.length : Int)), (37, .int .i64 (wI64 (st174.2.1 + 1)))] (by kernel_rfl) ?_
    refine WL.nil ?_
    obtain rfl := Option.some.inj hm
    exact WQ.round hK184 ⟨(x228, (wI64 (st174.2.1 + 1)), x198.2), _, _, rfl, hb252, hL253, hS254, hl182⟩ (Nat.lt_succ_self _) ⟨rfl, rfl, rfl, rfl, rfl, trivial⟩
  have hm := hx229; clear hx229
  refine WP.cond (decide (x198.1 > 0)) rfl rfl (fun hc209 => ?_) (fun hc209 => ?_)
  rotate_left
  · have hm := iteF hm hc209
    refine WP.skip ?_
    obtain rfl := Option.some.inj hm
    exact WQ.post' ⟨_, _, rfl, hb206, hL207, (SH.front 2 (SH.front 1 (SH.front 2 hS203)))⟩ ⟨rfl, rfl, rfl, rfl, rfl, trivial⟩
  have hm := iteT hm hc209
  refine WP.region ?_
  refine WL.runk 2 [0, 7, 36, 37, 49, 50] [(0, .slice a0' rows_0.length c0'), (7, .slice a50 x198.2.length c51), (36, .int .i64 (st49.1.length : Int)), (37, .int .i64 st174.2.1), (49, .slice a175 st174.1.length c176), (50, .int .i64 x198.1)] (by kernel_rfl) ?_
  refine WL.row fInt 2 ([x198.1] : List Int) 1 #[.int .i64 x198.1] 51 (by kernel_rfl) rfl rfl rfl rfl rfl rfl rfl ?_
  intro a233 c234 w235 hE236 hR237
  have hb239 : Ext w w235 := Ext.trans hb206 hE236
  have hL240 : w.heap.size ≤ w235.heap.size := Nat.le_trans hL207 hE236.size
  have hS241 : SH w235 w.heap.size [aOwn fInt 2 a233 c234 ([x198.1] : List Int), aOwn fBool 4 a50 c51 x198.2, aOwn fInt 2 a175 c176 st174.1, aOwn fInt 2 a40 c41 x38] := SH.add hS203 hE236 hL207 hR237
  obtain ⟨x242, hx243, hm⟩ := bindE hm
  refine WL.append (F := fInt) (xs := st174.1) (ys := ([x198.1] : List Int)) 52 (SH.front 2 hS241) hL240 (SH.rd (SH.front 0 hS241)) hx243 rfl rfl rfl Try.underlying40 (info2).1 (info2).2.2.1 (info2).2.1 (info2).2.2.2 rfl rfl rfl rfl rfl ?_
  intro a244 c245 w246 hB247 hS248
  have hb249 : Ext w w246 := Below.trans hb239 hB247
  have hL250 : w.heap.size ≤ w246.heap.size := Nat.le_trans hL240 hB247.size
  refine WL.runk 1 [0, 7, 8, 36, 37] [(0, .slice a0' rows_0.length c0'), (7, .slice a50 x198.2.length c51), (36, .int .i64 (st49.1.length : Int)), (37, .int .i64 st174.2.1), (8, .slice a244 x242.length c245)] (by kernel_rfl) ?_
  refine WL.nil ?_
  obtain rfl := Option.some.inj hm
  exact WQ.post' ⟨_, _, rfl, hb249, hL250, (SH.take 3 (SH.front 2 (SH.front 3 (SH.front 3 hS248))))⟩ ⟨rfl, rfl, rfl, rfl, rfl, trivial⟩

theorem c_47 (n : Nat) (code_0 : List Int) (a0' : Option Addr) (c0' : Nat) (at_1 : Int) (n_2 : Int) (w : World) {r : Int} (hm : m_laws_a2At n code_0 at_1 n_2 = some r) (h0 : Rd fU8.ty w a0' code_0) (_hle0 : code_0.length ≤ c0') :
    CallV Try.prog 47 #[.slice a0' code_0.length c0', .int .i64 at_1, .int .i64 n_2] w (fun v w' => v = .int .i64 r ∧ Ext w w') := by
  unfold m_laws_a2At at hm
  refine CallV.enter Try.func47 rfl (by kernel_rfl) Try.ntmps47 (env := [(0, .slice a0' code_0.length c0'), (1, .int .i64 at_1), (2, .int .i64 n_2)]) ⟨rfl, rfl, rfl, trivial⟩ ?_
  refine WP.seq (fun K1 hK1 => ?_)
  refine WP.region ?_
  refine WL.runk 1 [0, 1, 2] [(0, .slice a0' code_0.length c0'), (1, .int .i64 at_1), (2, .int .i64 n_2)] (by kernel_rfl) ?_
  refine WL.nil ?_
  refine WQ.then_normal (hK1 _ _ _ ?_)
  refine WP.seq (fun K2 hK2 => ?_)
  refine WP.seq (fun K3 hK3 => ?_)
  obtain ⟨x5, hx6, hm⟩ := bindE hm
  refine WP.cut (fun env' w' => env' = [(0, .slice a0' code_0.length c0'), (1, .int .i64 at_1), (2, .int .i64 n_2), (14, .bool x5)] ∧ Ext w w' ∧ w.heap.size ≤ w'.heap.size ∧ SH w' w.heap.size []) ?_ ?_
  · have hm := hx6; clear hx6
    refine WP.region ?_
    refine WL.runk 5 [0, 1, 2, 11] [(0, .slice a0' code_0.length c0'), (1, .int .i64 at_1), (2, .int .i64 n_2), (11, .bool (decide (at_1 ≥ (code_0.length : Int))))] (by kernel_rfl) ?_
    refine WL.case (decide (at_1 ≥ (code_0.length : Int))) [11] ⟨rfl, trivial⟩ (fun hc7 => ?_) (fun hc7 => ?_)
    · have hm := iteT hm hc7
      refine WL.runk 3 [0, 1, 2, 14] [(0, .slice a0' code_0.length c0'), (1, .int .i64 at_1), (2, .int .i64 n_2), (14, .bool true)] (by kernel_rfl) ?_
      refine WL.nil ?_
      obtain rfl := Option.some.inj hm
      exact WQ.post' ⟨rfl, (Ext.refl w), (Nat.le_refl _), (SH.nil _ _)⟩ ⟨rfl, rfl, rfl, rfl, trivial⟩
    have hm := iteF hm hc7
    refine WL.runk 3 [0, 1, 2, 14] [(0, .slice a0' code_0.length c0'), (1, .int .i64 at_1), (2, .int .i64 n_2), (14, .bool (decide (n_2 < 1)))] (by kernel_rfl) ?_
    refine WL.nil ?_
    obtain rfl := Option.some.inj hm
    exact WQ.post' ⟨rfl, (Ext.refl w), (Nat.le_refl _), (SH.nil _ _)⟩ ⟨rfl, rfl, rfl, rfl, trivial⟩
  clear hx6
  rintro _ w8 ⟨rfl, hb9, hL10, hS11⟩
  refine WQ.then_normal (hK3 _ _ _ ?_)
  refine WP.cond x5 rfl rfl (fun hc12 => ?_) (fun hc12 => ?_)
  · have hm := iteT hm hc12
    refine WP.seq (fun K13 hK13 => ?_)
    refine WP.region ?_
    refine WL.runk 1 [6] [(6, .int .i64 0)] (by kernel_rfl) ?_
    refine WL.nil ?_
    refine WQ.then_normal (hK13 _ _ _ ?_)
    refine WP.ret ?_
    refine WQ.then_ret ?_
    obtain rfl := Option.some.inj hm
    exact WQ.ret1 _ rfl rfl ⟨rfl, hb9⟩
  have hm := iteF hm hc12
  refine WP.skip ?_
  refine WQ.then_normal (hK2 _ _ _ ?_)
  refine WP.seq (fun K14 hK14 => ?_)
  refine WP.region ?_
  refine WL.runk 2 [2, 15, 16] [(2, .int .i64 n_2), (15, .slice a0' code_0.length c0'), (16, .int .i64 at_1)] (by kernel_rfl) ?_
  obtain ⟨x15, hx16, hm⟩ := bindE hm
  refine WL.st (.pointer (some (at_ a0' (Int.toNat at_1 * 1)))) (ST.index (T := fU8.ty) (xs := code_0) (Rd.below h0 hb9) hx16 rfl rfl rfl Try.underlying46 (info5).1 (info5).2.1) rfl rfl rfl ?_
  refine WL.st (.int .u8 x15) (ST.load (cell_ext (Rd.flat (F := fU8) (Rd.below h0 hb9) hx16 0 rfl)) rfl rfl Try.underlying5 rfl) rfl rfl rfl ?_
  refine WL.runk 2 [19, 20] [(19, .int .i64 (wI64 x15)), (20, .int .i64 n_2)] (by kernel_rfl) ?_
  obtain ⟨x17, hx18, hm⟩ := bindE hm
  refine WL.st (.int .i64 x17) (ST.rem (k := .i64) hx18 rfl rfl rfl) rfl rfl rfl ?_
  refine WL.runk 1 [6] [(6, .int .i64 x17)] (by kernel_rfl) ?_
  refine WL.nil ?_
  refine WQ.then_normal (hK14 _ _ _ ?_)
  refine WP.ret ?_
  obtain rfl := Option.some.inj hm
  exact WQ.ret1 _ rfl rfl ⟨rfl, hb9⟩

theorem c_48 (n : Nat) (code_0 : List Int) (a0' : Option Addr) (c0' : Nat) (rows_1 : List (List UInt8)) (a1' : Option Addr) (c1' : Nat) (w : World) {r : List (List UInt8)} (hm : m_spec_A2Like n code_0 rows_1 = some r) (h0 : Rd fU8.ty w a0' code_0) (hle0 : code_0.length ≤ c0') (h1 : Rd fStr.ty w a1' rows_1) (_hle1 : rows_1.length ≤ c1') :
    CallV Try.prog 48 #[.slice a0' code_0.length c0', .slice a1' rows_1.length c1'] w (fun v w' => ∃ (ra0 : Option Addr) (rc0 : Nat), v = .slice ra0 r.length rc0 ∧ Ext w w' ∧ SH w' w.heap.size [aOwn fStr 9 ra0 rc0 r]) := by
  unfold m_spec_A2Like at hm
  refine CallV.enter Try.func48 rfl (by kernel_rfl) Try.ntmps48 (env := [(0, .slice a0' code_0.length c0'), (1, .slice a1' rows_1.length c1')]) ⟨rfl, rfl, trivial⟩ ?_
  refine WP.seq (fun K1 hK1 => ?_)
  refine WP.region ?_
  refine WL.runk 1 [0, 1] [(0, .slice a0' code_0.length c0'), (1, .slice a1' rows_1.length c1')] (by kernel_rfl) ?_
  refine WL.nil ?_
  refine WQ.then_normal (hK1 _ _ _ ?_)
  refine WP.seq (fun K2 hK2 => ?_)
  refine WP.open (n := 10) (by kernel_rfl) rfl (fun w3 hE4 => ?_)
  have hb5 : Ext w w3 := Ext.trans (Ext.refl w) hE4
  have hL6 : w.heap.size ≤ w3.heap.size := Nat.le_trans (Nat.le_refl _) hE4.size
  have hS7 : SH w3 w.heap.size [] := SH.ext (SH.nil _ _) hE4
  refine WA.pre (i := 0) (D' := [0]) [(0, .slice a0' code_0.length c0'), (1, .slice a1' rows_1.length c1'), (5, .slice a0' code_0.length c0')] rfl (by kernel_rfl) rfl (fun _ => by kernel_rfl) rfl ?_
  obtain ⟨x13, hx14, hm⟩ := bindE hm
  refine WA.float (Φ := fun v w' => ∃ (b15 : Nat), v = .pointer (some ⟨b15, 0, none⟩) ∧ SH w' w3.heap.size [aBox 77 b15 [.slice a0' code_0.length c0', .int .i64 x13.1, .int .u64 x13.2]]) (f := 1) (f' := 2) (D1 := [0, 2, 3, 4, 5, 6, 7]) (D' := [0, 2, 3, 4, 5, 6, 7, 1]) [2, 3, 4, 5, 6, 7] [] (fun _ _ _ ⟨b15, e, h⟩ hE => ⟨b15, e, SH.ext h hE⟩) rfl rfl rfl rfl (by kernel_rfl) ?_
  refine QL.step1v 7 (.slice a1' rows_1.length c1') rfl (fun _ => by kernel_rfl) ?_
  refine QL.step1v 8 (.int .i64 (rows_1.length : Int)) rfl (fun _ => by kernel_rfl) ?_
  refine QL.step1v 9 (.slice a1' rows_1.length c1') rfl (fun _ => by kernel_rfl) ?_
  refine QL.subk [5, 8, 9] [(5, .slice a0' code_0.length c0'), (8, .int .i64 (rows_1.length : Int)), (9, .slice a1' rows_1.length c1')] (by kernel_rfl) ?_
  obtain ⟨x24, hx25, hm⟩ := bindE hm
  refine QL.st (.pointer (some (at_ a1' (Int.toNat 0 * 1)))) (ST.index (T := fStr.ty) (xs := rows_1) (Rd.below h1 hb5) hx25 rfl rfl rfl Try.underlying22 (info9).1 (info9).2.1) rfl rfl rfl ?_
  refine QL.st (.string (bs x24)) (ST.load (cell_ext (Rd.flat (F := fStr) (Rd.below h1 hb5) hx25 0 rfl)) rfl rfl Try.underlying9 rfl) rfl rfl rfl ?_
  refine QL.step1v 12 (.int .i64 (x24.length : Int)) rfl (fun _ => by kernel_rfl) ?_
  refine QL.subk [5, 8, 12] [(5, .slice a0' code_0.length c0'), (8, .int .i64 (rows_1.length : Int)), (12, .int .i64 (x24.length : Int))] (by kernel_rfl) ?_
  refine QL.nil ?_
  intro w26 hE27
  refine QF.make (f' := 2) (hs := [2, 3, 4, 5, 6, 7]) (D' := [0, 2, 3, 4, 5, 6, 7, 1]) (ex := []) (pre := [1, 0]) (D'' := [0, 2, 3, 4, 5, 6, 7, 1]) 6 (fun w8 hE9 => ?_) (fun v28 => ⟨[(5, .slice a0' code_0.length c0'), (8, .int .i64 (rows_1.length : Int)), (12, .int .i64 (x24.length : Int)), (6, v28)], runP_nil, fun w29 hE30 hR31 => ?_⟩) rfl rfl rfl rfl rfl (by kernel_rfl)
  · have hb10 : Ext w w8 := Ext.trans hb5 hE9
    have hL11 : w.heap.size ≤ w8.heap.size := Nat.le_trans hL6 hE9.size
    have hS12 : SH w8 w.heap.size [] := SH.ext hS7 hE9
    refine WL.call 69 #[.slice a0' code_0.length c0'] rfl rfl (by kernel_rfl) (c_69 n code_0 a0' c0' w8 hx14 (Rd.below h0 hb10) hle0) ?_
    rintro _ w17 ⟨b15, rfl, hE18, hR19⟩
    refine ⟨_, rfl, ?_⟩
    have hb20 : Ext w w17 := Ext.trans hb10 hE18
    have hL21 : w.heap.size ≤ w17.heap.size := Nat.le_trans hL11 hE18.size
    have hS22 : SH w17 w.heap.size [aBox 77 b15 [.slice a0' code_0.length c0', .int .i64 x13.1, .int .u64 x13.2]] := SH.add hS12 hE18 hL11 hR19
    have hx23 := hE18
    refine WL.nil ?_
    exact QΦ.intro (v := .pointer (some ⟨b15, 0, none⟩)) rfl hx23 ⟨b15, rfl, SH.low hR19 hE9.size⟩
  · obtain ⟨b15, rfl, hR31⟩ := hR31
    have hb32 : Ext w w29 := Ext.trans hb5 hE30
    have hL33 : w.heap.size ≤ w29.heap.size := Nat.le_trans hL6 hE30.size
    have hS34 : SH w29 w.heap.size [aBox 77 b15 [.slice a0' code_0.length c0', .int .i64 x13.1, .int .u64 x13.2]] := SH.add hS7 hE30 hL6 hR31
    refine WA.one (i := 8) (D' := [0, 2, 3, 4, 5, 6, 7, 1, 8]) rfl rfl (by kernel_rfl) ?_
    obtain ⟨x35, hx36, hm⟩ := bindE hm
    refine WL.call 75 #[.pointer (some ⟨b15, 0, none⟩), .int .i64 (rows_1.length : Int), .int .i64 (x24.length : Int)] rfl rfl (by kernel_rfl) (c_75 n code_0 a0' c0' x13.1 x13.2 b15 (rows_1.length : Int) (x24.length : Int) w29 w w.heap.size [] hx36 hb32 (Nat.le_refl _) hL33 h0 hle0 hS34) ?_
    rintro _ w40 ⟨a37, c38, rfl, hB44, hS43⟩
    refine ⟨_, rfl, ?_⟩
    have hb45 : Ext w w40 := Below.trans hb32 hB44
    have hL46 : w.heap.size ≤ w40.heap.size := Nat.le_trans hL33 hB44.size
    refine WL.sub [(13, .slice a37 x35.1.length c38)] ⟨rfl, trivial⟩ ?_
    refine WL.nil ?_
    refine WA.one (i := 9) (D' := [0, 2, 3, 4, 5, 6, 7, 1, 8, 9]) rfl rfl (by kernel_rfl) ?_
    refine WL.runk 1 [4] [(4, .slice a37 x35.1.length c38)] (by kernel_rfl) ?_
    refine WL.nil ?_
    refine WA.done (by kernel_rfl) ?_
    refine WQ.then_normal (hK2 _ _ _ ?_)
    refine WP.ret ?_
    obtain rfl := Option.some.inj hm
    exact WQ.ret1 _ rfl rfl ⟨_, _, rfl, hb45, (SH.take 1 hS43)⟩

end Go.Proofs.Ytoljnpoiclklpaa
