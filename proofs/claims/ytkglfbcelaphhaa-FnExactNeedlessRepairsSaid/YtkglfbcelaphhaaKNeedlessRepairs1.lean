/- Each call does what its Lean function says. -/
import Derived.Test.YtkglfbcelaphhaaTi
import Derived.Test.YtkglfbcelaphhaaEq
import Derived.Test.YtkglfbcelaphhaaMo
set_option maxRecDepth 20000
set_option maxHeartbeats 40000000
namespace Go.Proofs.Ytkglfbcelaphhaa
open Go Go.Gv Go.RowKit

theorem c_65 (n : Nat) (n_0 : Int) (low_1 : Int) (high_2 : Int) (w : World) {r : Bool} (hm : m_spec_l00In n n_0 low_1 high_2 = some r)  :
    CallV Try.prog 65 #[.int .i64 n_0, .int .i64 low_1, .int .i64 high_2] w (fun v w' => v = .bool r ∧ Ext w w') := by
  unfold m_spec_l00In at hm
  refine CallV.enter Try.func65 rfl (by kernel_rfl) Try.ntmps65 (env := [(0, .int .i64 n_0), (1, .int .i64 low_1), (2, .int .i64 high_2)]) ⟨rfl, rfl, rfl, trivial⟩ ?_
  refine WP.seq (fun K1 hK1 => ?_)
  refine WP.region ?_
  refine WL.runk 1 [0, 1, 2] [(0, .int .i64 n_0), (1, .int .i64 low_1), (2, .int .i64 high_2)] (by kernel_rfl) ?_
  refine WL.nil ?_
  refine WQ.then_normal (hK1 _ _ _ ?_)
  refine WP.seq (fun K2 hK2 => ?_)
  obtain ⟨x4, hx5, hm⟩ := bindE hm
  refine WP.cut (fun env' w' => env' = [(6, .bool x4)] ∧ Ext w w' ∧ w.heap.size ≤ w'.heap.size ∧ SH w' w.heap.size []) ?_ ?_
  rotate_left
  · clear hx5
    rintro _ w7 ⟨rfl, hb8, hL9, hS10⟩
    refine WQ.then_normal (hK2 _ _ _ ?_)
    refine WP.ret ?_
    obtain rfl := Option.some.inj hm
    exact WQ.ret1 _ rfl rfl ⟨rfl, hb8⟩
  have hm := hx5; clear hx5
  refine WP.region ?_
  refine WL.runk 4 [0, 2, 10] [(0, .int .i64 n_0), (2, .int .i64 high_2), (10, .bool (decide (n_0 ≥ low_1)))] (by kernel_rfl) ?_
  refine WL.case (decide (n_0 ≥ low_1)) [10] ⟨rfl, trivial⟩ (fun hc6 => ?_) (fun hc6 => ?_)
  · have hm := iteT hm hc6
    refine WL.runk 5 [6] [(6, .bool (decide (n_0 ≤ high_2)))] (by kernel_rfl) ?_
    refine WL.nil ?_
    obtain rfl := Option.some.inj hm
    exact WQ.post' ⟨rfl, (Ext.refl w), (Nat.le_refl _), (SH.nil _ _)⟩ ⟨rfl, trivial⟩
  have hm := iteF hm hc6
  refine WL.runk 5 [6] [(6, .bool false)] (by kernel_rfl) ?_
  refine WL.nil ?_
  obtain rfl := Option.some.inj hm
  exact WQ.post' ⟨rfl, (Ext.refl w), (Nat.le_refl _), (SH.nil _ _)⟩ ⟨rfl, trivial⟩

theorem c_98 (n : Nat) (list_0 : List Int) (a0' : Option Addr) (c0' : Nat) (low_1 : Int) (high_2 : Int) (w : World) {r : Bool} (hm : m_spec_l00Rises n list_0 low_1 high_2 = some r) (h0 : Rd fInt.ty w a0' list_0) (_hle0 : list_0.length ≤ c0') :
    CallV Try.prog 98 #[.slice a0' list_0.length c0', .int .i64 low_1, .int .i64 high_2] w (fun v w' => v = .bool r ∧ Ext w w') := by
  unfold m_spec_l00Rises at hm
  refine CallV.enter Try.func98 rfl (by kernel_rfl) Try.ntmps98 (env := [(0, .slice a0' list_0.length c0'), (1, .int .i64 low_1), (2, .int .i64 high_2)]) ⟨rfl, rfl, rfl, trivial⟩ ?_
  refine WP.seq (fun K1 hK1 => ?_)
  refine WP.region ?_
  refine WL.runk 1 [0, 1, 2] [(0, .slice a0' list_0.length c0'), (1, .int .i64 low_1), (2, .int .i64 high_2)] (by kernel_rfl) ?_
  refine WL.nil ?_
  refine WQ.then_normal (hK1 _ _ _ ?_)
  refine WP.seq (fun K2 hK2 => ?_)
  refine WP.seq (fun K3 hK3 => ?_)
  refine WP.region ?_
  refine WL.runk 1 [0, 1, 2, 7] [(0, .slice a0' list_0.length c0'), (1, .int .i64 low_1), (2, .int .i64 high_2), (7, .int .i64 0)] (by kernel_rfl) ?_
  refine WL.nil ?_
  refine WQ.then_normal (hK3 _ _ _ ?_)
  refine WP.block ?_
  obtain ⟨t15, ht16, hm⟩ := bindE hm
  have hmo10 := hm; clear hm
  refine WP.sub [(0, .slice a0' list_0.length c0'), (1, .int .i64 low_1), (2, .int .i64 high_2), (7, .int .i64 0)] ⟨rfl, rfl, rfl, rfl, trivial⟩ ?_
  refine WP.loop (fun n' env' w' => ∃ (st4 : Int) , env' = [(0, .slice a0' list_0.length c0'), (1, .int .i64 low_1), (2, .int .i64 high_2), (7, .int .i64 st4)] ∧ Ext w w' ∧ w.heap.size ≤ w'.heap.size ∧ SH w' w.heap.size [] ∧ loopN (m_spec_l00Rises_l1 n list_0 low_1 high_2) n' st4 = some t15) n ⟨0, rfl, (Ext.refl w), (Nat.le_refl _), (SH.nil _ _), ht16⟩ ?_
  rintro n12 _ w5 ⟨st4, rfl, hb6, hL7, hS8, hl9⟩ K11 hK11
  obtain ⟨n13, s14, rfl, hm, hl9⟩ := loopN_some hl9
  unfold m_spec_l00Rises_l1 at hm
  refine WP.seq (fun K17 hK17 => ?_)
  refine WP.seq (fun K18 hK18 => ?_)
  refine WP.region ?_
  refine WL.runk 4 [0, 1, 2, 7, 11] [(0, .slice a0' list_0.length c0'), (1, .int .i64 low_1), (2, .int .i64 high_2), (7, .int .i64 st4), (11, .bool (decide (st4 < (list_0.length : Int))))] (by kernel_rfl) ?_
  refine WL.nil ?_
  refine WQ.then_normal (hK18 _ _ _ ?_)
  refine WP.cond (decide (st4 < (list_0.length : Int))) rfl rfl (fun hc19 => ?_) (fun hc19 => ?_)
  rotate_left
  · have hm := iteF hm hc19
    refine WP.exit ?_
    refine WQ.then_exit ?_
    refine WQ.then_exit ?_
    refine WQ.block_here ?_
    obtain rfl := Option.some.inj hm
    obtain rfl := afterN_done hl9
    have hm := hmo10
    refine WQ.then_normal (hK2 _ _ _ ?_)
    refine WP.seq (fun K84 hK84 => ?_)
    refine WP.region ?_
    refine WL.runk 1 [6] [(6, .bool true)] (by kernel_rfl) ?_
    refine WL.nil ?_
    refine WQ.then_normal (hK84 _ _ _ ?_)
    refine WP.ret ?_
    obtain rfl := Option.some.inj hm
    exact WQ.ret1 _ rfl rfl ⟨rfl, hb6⟩
  have hm := iteT hm hc19
  refine WP.skip ?_
  refine WQ.then_normal (hK17 _ _ _ ?_)
  refine WP.seq (fun K20 hK20 => ?_)
  refine WP.block ?_
  refine WP.seq (fun K21 hK21 => ?_)
  obtain ⟨x49, hx50, hm⟩ := bindE hm
  refine WP.cut (fun env' w' => env' = [(0, .slice a0' list_0.length c0'), (1, .int .i64 low_1), (2, .int .i64 high_2), (7, .int .i64 st4), (37, .bool x49)] ∧ Ext w w' ∧ w.heap.size ≤ w'.heap.size ∧ SH w' w.heap.size []) ?_ ?_
  rotate_left
  · clear hx50
    rintro _ w78 ⟨rfl, hb79, hL80, hS81⟩
    refine WQ.then_normal (hK21 _ _ _ ?_)
    refine WP.cond x49 rfl rfl (fun hc82 => ?_) (fun hc82 => ?_)
    rotate_left
    · have hm := iteF hm hc82
      refine WP.skip ?_
      refine WQ.block_normal ?_
      refine WQ.then_normal (hK20 _ _ _ ?_)
      refine WP.region ?_
      refine WL.runk 3 [0, 1, 2, 7] [(0, .slice a0' list_0.length c0'), (1, .int .i64 low_1), (2, .int .i64 high_2), (7, .int .i64 (wI64 (st4 + 1)))] (by kernel_rfl) ?_
      refine WL.nil ?_
      obtain rfl := Option.some.inj hm
      exact WQ.round hK11 ⟨(wI64 (st4 + 1)), rfl, hb79, hL80, hS81, hl9⟩ (Nat.lt_succ_self _) ⟨rfl, rfl, rfl, rfl, trivial⟩
    have hm := iteT hm hc82
    refine WP.seq (fun K83 hK83 => ?_)
    refine WP.region ?_
    refine WL.runk 1 [6] [(6, .bool false)] (by kernel_rfl) ?_
    refine WL.nil ?_
    refine WQ.then_normal (hK83 _ _ _ ?_)
    refine WP.ret ?_
    refine WQ.block_ret ?_
    refine WQ.then_ret ?_
    refine WQ.then_ret ?_
    refine WQ.block_ret ?_
    refine WQ.then_ret ?_
    obtain rfl := Option.some.inj hm
    obtain rfl := afterN_done hl9
    have hm := hmo10
    obtain rfl := Option.some.inj hm
    exact WQ.ret1 _ rfl rfl ⟨rfl, hb79⟩
  have hm := hx50; clear hx50
  refine WP.quiet (by kernel_rfl) (by kernel_rfl) ?_
  refine QL.step1v 14 (.slice a0' list_0.length c0') rfl (fun _ => by kernel_rfl) ?_
  refine QL.step1v 15 (.int .i64 st4) rfl (fun _ => by kernel_rfl) ?_
  refine QL.subk [0, 1, 2, 7, 14, 15] [(0, .slice a0' list_0.length c0'), (1, .int .i64 low_1), (2, .int .i64 high_2), (7, .int .i64 st4), (14, .slice a0' list_0.length c0'), (15, .int .i64 st4)] (by kernel_rfl) ?_
  obtain ⟨x51, hx52, hm⟩ := bindE hm
  refine QL.st (.pointer (some (at_ a0' (Int.toNat st4 * 1)))) (ST.index (T := fInt.ty) (xs := list_0) (Rd.below h0 hb6) hx52 rfl rfl rfl Try.underlying25 (info2).1 (info2).2.1) rfl rfl rfl ?_
  refine QL.st (.int .i64 x51) (ST.load (cell_ext (Rd.flat (F := fInt) (Rd.below h0 hb6) hx52 0 rfl)) rfl rfl Try.underlying2 rfl) rfl rfl rfl ?_
  refine QL.step1v 18 (.int .i64 low_1) rfl (fun _ => by kernel_rfl) ?_
  refine QL.step1v 19 (.int .i64 high_2) rfl (fun _ => by kernel_rfl) ?_
  refine QL.subk [0, 1, 2, 7, 17, 18, 19] [(0, .slice a0' list_0.length c0'), (1, .int .i64 low_1), (2, .int .i64 high_2), (7, .int .i64 st4), (17, .int .i64 x51), (18, .int .i64 low_1), (19, .int .i64 high_2)] (by kernel_rfl) ?_
  obtain ⟨x53, hx54, hm⟩ := bindE hm
  refine QL.call 65 #[.int .i64 x51, .int .i64 low_1, .int .i64 high_2] (.bool x53) (fun _ => by kernel_rfl) (fun w55 hE56 => c_65 n x51 low_1 high_2 w55 hx54 ) rfl rfl rfl ?_
  refine QL.step1v 21 (.bool (!x53)) rfl (fun _ => by kernel_rfl) ?_
  refine QL.step1v 22 (.bool (!x53)) rfl (fun _ => by kernel_rfl) ?_
  refine QL.subk [0, 1, 2, 7, 22] [(0, .slice a0' list_0.length c0'), (1, .int .i64 low_1), (2, .int .i64 high_2), (7, .int .i64 st4), (22, .bool (!x53))] (by kernel_rfl) ?_
  refine QL.case (!x53) [22] ⟨rfl, trivial⟩ (fun hc57 => ?_) (fun hc57 => ?_)
  · have hm := iteT hm hc57
    refine QL.step1v 23 undef rfl (fun _ => by kernel_rfl) ?_
    refine QL.step1v 24 undef rfl (fun _ => by kernel_rfl) ?_
    refine QL.step1v 25 undef rfl (fun _ => by kernel_rfl) ?_
    refine QL.step1v 26 undef rfl (fun _ => by kernel_rfl) ?_
    refine QL.step1v 27 undef rfl (fun _ => by kernel_rfl) ?_
    refine QL.step1v 28 undef rfl (fun _ => by kernel_rfl) ?_
    refine QL.step1v 29 undef rfl (fun _ => by kernel_rfl) ?_
    refine QL.step1v 30 undef rfl (fun _ => by kernel_rfl) ?_
    refine QL.step1v 31 undef rfl (fun _ => by kernel_rfl) ?_
    refine QL.step1v 32 undef rfl (fun _ => by kernel_rfl) ?_
    refine QL.step1v 33 undef rfl (fun _ => by kernel_rfl) ?_
    refine QL.step1v 34 undef rfl (fun _ => by kernel_rfl) ?_
    refine QL.step1v 35 undef rfl (fun _ => by kernel_rfl) ?_
    refine QL.step1v 36 undef rfl (fun _ => by kernel_rfl) ?_
    refine QL.step1v 37 (.bool true) rfl (fun _ => by kernel_rfl) ?_
    refine QL.subk [0, 1, 2, 7, 37] [(0, .slice a0' list_0.length c0'), (1, .int .i64 low_1), (2, .int .i64 high_2), (7, .int .i64 st4), (37, .bool true)] (by kernel_rfl) ?_
    refine QL.nil ?_
    intro w58 hE59
    have hb60 : Ext w w58 := Ext.trans hb6 hE59
    have hL61 : w.heap.size ≤ w58.heap.size := Nat.le_trans hL7 hE59.size
    have hS62 : SH w58 w.heap.size [] := SH.ext hS8 hE59
    obtain rfl := Option.some.inj hm
    exact WQ.post' ⟨rfl, hb60, hL61, hS62⟩ ⟨rfl, rfl, rfl, rfl, rfl, trivial⟩
  have hm := iteF hm hc57
  refine QL.step1v 23 (.int .i64 st4) rfl (fun _ => by kernel_rfl) ?_
  refine QL.step1v 24 (.bool (decide (st4 > 0))) rfl (fun _ => by kernel_rfl) ?_
  refine QL.step1v 25 (.bool (decide (st4 > 0))) rfl (fun _ => by kernel_rfl) ?_
  refine QL.subk [0, 1, 2, 7, 22, 25] [(0, .slice a0' list_0.length c0'), (1, .int .i64 low_1), (2, .int .i64 high_2), (7, .int .i64 st4), (22, .bool false), (25, .bool (decide (st4 > 0)))] (by kernel_rfl) ?_
  refine QL.case (decide (st4 > 0)) [25] ⟨rfl, trivial⟩ (fun hc63 => ?_) (fun hc63 => ?_)
  rotate_left
  · have hm := iteF hm hc63
    refine QL.step1v 26 undef rfl (fun _ => by kernel_rfl) ?_
    refine QL.step1v 27 undef rfl (fun _ => by kernel_rfl) ?_
    refine QL.step1v 28 undef rfl (fun _ => by kernel_rfl) ?_
    refine QL.step1v 29 undef rfl (fun _ => by kernel_rfl) ?_
    refine QL.step1v 30 undef rfl (fun _ => by kernel_rfl) ?_
    refine QL.step1v 31 undef rfl (fun _ => by kernel_rfl) ?_
    refine QL.step1v 32 undef rfl (fun _ => by kernel_rfl) ?_
    refine QL.step1v 33 undef rfl (fun _ => by kernel_rfl) ?_
    refine QL.step1v 34 undef rfl (fun _ => by kernel_rfl) ?_
    refine QL.step1v 35 undef rfl (fun _ => by kernel_rfl) ?_
    refine QL.step1v 36 (.bool false) rfl (fun _ => by kernel_rfl) ?_
    refine QL.step1v 37 (.bool false) rfl (fun _ => by kernel_rfl) ?_
    refine QL.subk [0, 1, 2, 7, 37] [(0, .slice a0' list_0.length c0'), (1, .int .i64 low_1), (2, .int .i64 high_2), (7, .int .i64 st4), (37, .bool false)] (by kernel_rfl) ?_
    refine QL.nil ?_
    intro w73 hE74
    have hb75 : Ext w w73 := Ext.trans hb6 hE74
    have hL76 : w.heap.size ≤ w73.heap.size := Nat.le_trans hL7 hE74.size
    have hS77 : SH w73 w.heap.size [] := SH.ext hS8 hE74
    obtain rfl := Option.some.inj hm
    exact WQ.post' ⟨rfl, hb75, hL76, hS77⟩ ⟨rfl, rfl, rfl, rfl, rfl, trivial⟩
  have hm := iteT hm hc63
  refine QL.step1v 26 (.slice a0' list_0.length c0') rfl (fun _ => by kernel_rfl) ?_
  refine QL.step1v 27 (.int .i64 st4) rfl (fun _ => by kernel_rfl) ?_
  refine QL.step1v 28 (.int .i64 (wI64 (st4 - 1))) rfl (fun _ => by kernel_rfl) ?_
  refine QL.subk [0, 1, 2, 7, 22, 25, 26, 28] [(0, .slice a0' list_0.length c0'), (1, .int .i64 low_1), (2, .int .i64 high_2), (7, .int .i64 st4), (22, .bool false), (25, .bool true), (26, .slice a0' list_0.length c0'), (28, .int .i64 (wI64 (st4 - 1)))] (by kernel_rfl) ?_
  obtain ⟨x64, hx65, hm⟩ := bindE hm
  refine QL.st (.pointer (some (at_ a0' (Int.toNat (wI64 (st4 - 1)) * 1)))) (ST.index (T := fInt.ty) (xs := list_0) (Rd.below h0 hb6) hx65 rfl rfl rfl Try.underlying25 (info2).1 (info2).2.1) rfl rfl rfl ?_
  refine QL.st (.int .i64 x64) (ST.load (cell_ext (Rd.flat (F := fInt) (Rd.below h0 hb6) hx65 0 rfl)) rfl rfl Try.underlying2 rfl) rfl rfl rfl ?_
  refine QL.step1v 31 (.slice a0' list_0.length c0') rfl (fun _ => by kernel_rfl) ?_
  refine QL.step1v 32 (.int .i64 st4) rfl (fun _ => by kernel_rfl) ?_
  refine QL.subk [0, 1, 2, 7, 22, 25, 30, 31, 32] [(0, .slice a0' list_0.length c0'), (1, .int .i64 low_1), (2, .int .i64 high_2), (7, .int .i64 st4), (22, .bool false), (25, .bool true), (30, .int .i64 x64), (31, .slice a0' list_0.length c0'), (32, .int .i64 st4)] (by kernel_rfl) ?_
  obtain ⟨x66, hx67, hm⟩ := bindE hm
  refine QL.st (.pointer (some (at_ a0' (Int.toNat st4 * 1)))) (ST.index (T := fInt.ty) (xs := list_0) (Rd.below h0 hb6) hx67 rfl rfl rfl Try.underlying25 (info2).1 (info2).2.1) rfl rfl rfl ?_
  refine QL.st (.int .i64 x66) (ST.load (cell_ext (Rd.flat (F := fInt) (Rd.below h0 hb6) hx67 0 rfl)) rfl rfl Try.underlying2 rfl) rfl rfl rfl ?_
  refine QL.step1v 35 (.bool (decide (x64 ≥ x66))) rfl (fun _ => by kernel_rfl) ?_
  refine QL.step1v 36 (.bool (decide (x64 ≥ x66))) rfl (fun _ => by kernel_rfl) ?_
  refine QL.step1v 37 (.bool (decide (x64 ≥ x66))) rfl (fun _ => by kernel_rfl) ?_
  refine QL.subk [0, 1, 2, 7, 37] [(0, .slice a0' list_0.length c0'), (1, .int .i64 low_1), (2, .int .i64 high_2), (7, .int .i64 st4), (37, .bool (decide (x64 ≥ x66)))] (by kernel_rfl) ?_
  refine QL.nil ?_
  intro w68 hE69
  have hb70 : Ext w w68 := Ext.trans hb6 hE69
  have hL71 : w.heap.size ≤ w68.heap.size := Nat.le_trans hL7 hE69.size
  have hS72 : SH w68 w.heap.size [] := SH.ext hS8 hE69
  obtain rfl := Option.some.inj hm
  exact WQ.post' ⟨rfl, hb70, hL71, hS72⟩ ⟨rfl, rfl, rfl, rfl, rfl, trivial⟩

theorem c_112 (n : Nat) (c_0 : Int) (w : World) {r : Bool} (hm : m_spec_l01Small n c_0 = some r)  :
    CallV Try.prog 112 #[.int .u8 c_0] w (fun v w' => v = .bool r ∧ Ext w w') := by
  unfold m_spec_l01Small at hm
  refine CallV.enter Try.func112 rfl (by kernel_rfl) Try.ntmps112 (env := [(0, .int .u8 c_0)]) ⟨rfl, trivial⟩ ?_
  refine WP.seq (fun K1 hK1 => ?_)
  refine WP.region ?_
  refine WL.runk 1 [0] [(0, .int .u8 c_0)] (by kernel_rfl) ?_
  refine WL.nil ?_
  refine WQ.then_normal (hK1 _ _ _ ?_)
  refine WP.seq (fun K2 hK2 => ?_)
  obtain ⟨x4, hx5, hm⟩ := bindE hm
  refine WP.cut (fun env' w' => env' = [(2, .bool x4)] ∧ Ext w w' ∧ w.heap.size ≤ w'.heap.size ∧ SH w' w.heap.size []) ?_ ?_
  rotate_left
  · clear hx5
    rintro _ w7 ⟨rfl, hb8, hL9, hS10⟩
    refine WQ.then_normal (hK2 _ _ _ ?_)
    refine WP.ret ?_
    obtain rfl := Option.some.inj hm
    exact WQ.ret1 _ rfl rfl ⟨rfl, hb8⟩
  have hm := hx5; clear hx5
  refine WP.region ?_
  refine WL.runk 3 [0, 5] [(0, .int .u8 c_0), (5, .bool (decide (c_0 ≥ 97)))] (by kernel_rfl) ?_
  refine WL.case (decide (c_0 ≥ 97)) [5] ⟨rfl, trivial⟩ (fun hc6 => ?_) (fun hc6 => ?_)
  · have hm := iteT hm hc6
    refine WL.runk 4 [2] [(2, .bool (decide (c_0 ≤ 122)))] (by kernel_rfl) ?_
    refine WL.nil ?_
    obtain rfl := Option.some.inj hm
    exact WQ.post' ⟨rfl, (Ext.refl w), (Nat.le_refl _), (SH.nil _ _)⟩ ⟨rfl, trivial⟩
  have hm := iteF hm hc6
  refine WL.runk 4 [2] [(2, .bool false)] (by kernel_rfl) ?_
  refine WL.nil ?_
  obtain rfl := Option.some.inj hm
  exact WQ.post' ⟨rfl, (Ext.refl w), (Nat.le_refl _), (SH.nil _ _)⟩ ⟨rfl, trivial⟩

theorem c_113 (n : Nat) (c_0 : Int) (w : World) {r : Bool} (hm : m_spec_l01Digit n c_0 = some r)  :
    CallV Try.prog 113 #[.int .u8 c_0] w (fun v w' => v = .bool r ∧ Ext w w') := by
  unfold m_spec_l01Digit at hm
  refine CallV.enter Try.func113 rfl (by kernel_rfl) Try.ntmps113 (env := [(0, .int .u8 c_0)]) ⟨rfl, trivial⟩ ?_
  refine WP.seq (fun K1 hK1 => ?_)
  refine WP.region ?_
  refine WL.runk 1 [0] [(0, .int .u8 c_0)] (by kernel_rfl) ?_
  refine WL.nil ?_
  refine WQ.then_normal (hK1 _ _ _ ?_)
  refine WP.seq (fun K2 hK2 => ?_)
  obtain ⟨x4, hx5, hm⟩ := bindE hm
  refine WP.cut (fun env' w' => env' = [(2, .bool x4)] ∧ Ext w w' ∧ w.heap.size ≤ w'.heap.size ∧ SH w' w.heap.size []) ?_ ?_
  rotate_left
  · clear hx5
    rintro _ w7 ⟨rfl, hb8, hL9, hS10⟩
    refine WQ.then_normal (hK2 _ _ _ ?_)
    refine WP.ret ?_
    obtain rfl := Option.some.inj hm
    exact WQ.ret1 _ rfl rfl ⟨rfl, hb8⟩
  have hm := hx5; clear hx5
  refine WP.region ?_
  refine WL.runk 3 [0, 5] [(0, .int .u8 c_0), (5, .bool (decide (c_0 ≥ 48)))] (by kernel_rfl) ?_
  refine WL.case (decide (c_0 ≥ 48)) [5] ⟨rfl, trivial⟩ (fun hc6 => ?_) (fun hc6 => ?_)
  · have hm := iteT hm hc6
    refine WL.runk 4 [2] [(2, .bool (decide (c_0 ≤ 57)))] (by kernel_rfl) ?_
    refine WL.nil ?_
    obtain rfl := Option.some.inj hm
    exact WQ.post' ⟨rfl, (Ext.refl w), (Nat.le_refl _), (SH.nil _ _)⟩ ⟨rfl, trivial⟩
  have hm := iteF hm hc6
  refine WL.runk 4 [2] [(2, .bool false)] (by kernel_rfl) ?_
  refine WL.nil ?_
  obtain rfl := Option.some.inj hm
  exact WQ.post' ⟨rfl, (Ext.refl w), (Nat.le_refl _), (SH.nil _ _)⟩ ⟨rfl, trivial⟩

theorem c_104 (n : Nat) (s_0 : List UInt8) (w : World) {r : Bool} (hm : m_spec_IsName n s_0 = some r)  :
    CallV Try.prog 104 #[.string (bs s_0)] w (fun v w' => v = .bool r ∧ Ext w w') := by
  unfold m_spec_IsName at hm
  refine CallV.enter Try.func104 rfl (by kernel_rfl) Try.ntmps104 (env := [(0, .string (bs s_0))]) ⟨rfl, trivial⟩ ?_
  refine WP.seq (fun K1 hK1 => ?_)
  refine WP.region ?_
  refine WL.runk 1 [0] [(0, .string (bs s_0))] (by kernel_rfl) ?_
  refine WL.nil ?_
  refine WQ.then_normal (hK1 _ _ _ ?_)
  refine WP.seq (fun K2 hK2 => ?_)
  refine WP.seq (fun K3 hK3 => ?_)
  obtain ⟨x16, hx17, hm⟩ := bindE hm
  refine WP.cut (fun env' w' => env' = [(0, .string (bs s_0)), (16, .bool x16)] ∧ Ext w w' ∧ w.heap.size ≤ w'.heap.size ∧ SH w' w.heap.size []) ?_ ?_
  · have hm := hx17; clear hx17
    refine WP.region ?_
    refine WL.runk 1 [0, 4] [(0, .string (bs s_0)), (4, .string (bs s_0))] (by kernel_rfl) ?_
    refine WL.st (.bool (s_0 == [])) (ST.streq (x := s_0) (y := []) rfl rfl rfl) rfl rfl rfl ?_
    refine WL.runk 1 [0, 6] [(0, .string (bs s_0)), (6, .bool (s_0 == []))] (by kernel_rfl) ?_
    refine WL.case (s_0 == []) [6] ⟨rfl, trivial⟩ (fun hc18 => ?_) (fun hc18 => ?_)
    · have hm := iteT hm hc18
      refine WL.runk 10 [0, 16] [(0, .string (bs s_0)), (16, .bool true)] (by kernel_rfl) ?_
      refine WL.nil ?_
      obtain rfl := Option.some.inj hm
      exact WQ.post' ⟨rfl, (Ext.refl w), (Nat.le_refl _), (SH.nil _ _)⟩ ⟨rfl, rfl, trivial⟩
    have hm := iteF hm hc18
    refine WL.runk 5 [0, 11] [(0, .string (bs s_0)), (11, .bool (decide ((s_0.length : Int) > 12)))] (by kernel_rfl) ?_
    refine WL.case (decide ((s_0.length : Int) > 12)) [11] ⟨rfl, trivial⟩ (fun hc19 => ?_) (fun hc19 => ?_)
    · have hm := iteT hm hc19
      refine WL.runk 5 [0, 16] [(0, .string (bs s_0)), (16, .bool true)] (by kernel_rfl) ?_
      refine WL.nil ?_
      obtain rfl := Option.some.inj hm
      exact WQ.post' ⟨rfl, (Ext.refl w), (Nat.le_refl _), (SH.nil _ _)⟩ ⟨rfl, rfl, trivial⟩
    have hm := iteF hm hc19
    refine WL.runk 1 [0, 11, 12] [(0, .string (bs s_0)), (11, .bool false), (12, .string (bs s_0))] (by kernel_rfl) ?_
    obtain ⟨x20, hx21, hm⟩ := bindE hm
    refine WL.st (.int .u8 (x20.toNat : Int)) (ST.sindex hx21 rfl rfl rfl Try.underlying9) rfl rfl rfl ?_
    obtain ⟨x22, hx23, hm⟩ := bindE hm
    refine WL.call 112 #[.int .u8 (x20.toNat : Int)] rfl rfl (by kernel_rfl) (c_112 n (x20.toNat : Int) w hx23 ) ?_
    rintro _ w24 ⟨rfl, hE25⟩
    refine ⟨_, rfl, ?_⟩
    have hb27 : Ext w w24 := Ext.trans (Ext.refl w) hE25
    have hL28 : w.heap.size ≤ w24.heap.size := Nat.le_trans (Nat.le_refl _) hE25.size
    have hS29 : SH w24 w.heap.size [] := SH.ext (SH.nil _ _) hE25
    refine WL.runk 2 [0, 16] [(0, .string (bs s_0)), (16, .bool (!x22))] (by kernel_rfl) ?_
    refine WL.nil ?_
    obtain rfl := Option.some.inj hm
    exact WQ.post' ⟨rfl, hb27, hL28, hS29⟩ ⟨rfl, rfl, trivial⟩
  clear hx17
  rintro _ w30 ⟨rfl, hb31, hL32, hS33⟩
  refine WQ.then_normal (hK3 _ _ _ ?_)
  refine WP.cond x16 rfl rfl (fun hc34 => ?_) (fun hc34 => ?_)
  · have hm := iteT hm hc34
    refine WP.seq (fun K35 hK35 => ?_)
    refine WP.region ?_
    refine WL.runk 1 [2] [(2, .bool false)] (by kernel_rfl) ?_
    refine WL.nil ?_
    refine WQ.then_normal (hK35 _ _ _ ?_)
    refine WP.ret ?_
    refine WQ.then_ret ?_
    obtain rfl := Option.some.inj hm
    exact WQ.ret1 _ rfl rfl ⟨rfl, hb31⟩
  have hm := iteF hm hc34
  refine WP.skip ?_
  refine WQ.then_normal (hK2 _ _ _ ?_)
  refine WP.seq (fun K36 hK36 => ?_)
  refine WP.seq (fun K37 hK37 => ?_)
  refine WP.region ?_
  refine WL.runk 1 [0, 3] [(0, .string (bs s_0)), (3, .int .i64 0)] (by kernel_rfl) ?_
  refine WL.nil ?_
  refine WQ.then_normal (hK37 _ _ _ ?_)
  refine WP.block ?_
  obtain ⟨t49, ht50, hm⟩ := bindE hm
  have hmo44 := hm; clear hm
  refine WP.sub [(0, .string (bs s_0)), (3, .int .i64 0)] ⟨rfl, rfl, trivial⟩ ?_
  refine WP.loop (fun n' env' w' => ∃ (st38 : Int) , env' = [(0, .string (bs s_0)), (3, .int .i64 st38)] ∧ Ext w w' ∧ w.heap.size ≤ w'.heap.size ∧ SH w' w.heap.size [] ∧ loopN (m_spec_IsName_l1 n s_0) n' st38 = some t49) n ⟨0, rfl, hb31, hL32, hS33, ht50⟩ ?_
  rintro n46 _ w39 ⟨st38, rfl, hb40, hL41, hS42, hl43⟩ K45 hK45
  obtain ⟨n47, s48, rfl, hm, hl43⟩ := loopN_some hl43
  unfold m_spec_IsName_l1 at hm
  refine WP.seq (fun K51 hK51 => ?_)
  refine WP.seq (fun K52 hK52 => ?_)
  refine WP.region ?_
  refine WL.runk 4 [0, 3, 20] [(0, .string (bs s_0)), (3, .int .i64 st38), (20, .bool (decide (st38 < (s_0.length : Int))))] (by kernel_rfl) ?_
  refine WL.nil ?_
  refine WQ.then_normal (hK52 _ _ _ ?_)
  refine WP.cond (decide (st38 < (s_0.length : Int))) rfl rfl (fun hc53 => ?_) (fun hc53 => ?_)
  rotate_left
  · have hm := iteF hm hc53
    refine WP.exit ?_
    refine WQ.then_exit ?_
    refine WQ.then_exit ?_
    refine WQ.block_here ?_
    obtain rfl := Option.some.inj hm
    obtain rfl := afterN_done hl43
    have hm := hmo44
    refine WQ.then_normal (hK36 _ _ _ ?_)
    refine WP.seq (fun K112 hK112 => ?_)
    refine WP.region ?_
    refine WL.runk 1 [2] [(2, .bool true)] (by kernel_rfl) ?_
    refine WL.nil ?_
    refine WQ.then_normal (hK112 _ _ _ ?_)
    refine WP.ret ?_
    obtain rfl := Option.some.inj hm
    exact WQ.ret1 _ rfl rfl ⟨rfl, hb40⟩
  have hm := iteT hm hc53
  refine WP.skip ?_
  refine WQ.then_normal (hK51 _ _ _ ?_)
  refine WP.seq (fun K54 hK54 => ?_)
  refine WP.block ?_
  refine WP.seq (fun K55 hK55 => ?_)
  obtain ⟨x80, hx81, hm⟩ := bindE hm
  refine WP.cut (fun env' w' => env' = [(0, .string (bs s_0)), (3, .int .i64 st38), (40, .bool x80)] ∧ Ext w w' ∧ w.heap.size ≤ w'.heap.size ∧ SH w' w.heap.size []) ?_ ?_
  rotate_left
  · clear hx81
    rintro _ w106 ⟨rfl, hb107, hL108, hS109⟩
    refine WQ.then_normal (hK55 _ _ _ ?_)
    refine WP.cond x80 rfl rfl (fun hc110 => ?_) (fun hc110 => ?_)
    rotate_left
    · have hm := iteF hm hc110
      refine WP.skip ?_
      refine WQ.block_normal ?_
      refine WQ.then_normal (hK54 _ _ _ ?_)
      refine WP.region ?_
      refine WL.runk 3 [0, 3] [(0, .string (bs s_0)), (3, .int .i64 (wI64 (st38 + 1)))] (by kernel_rfl) ?_
      refine WL.nil ?_
      obtain rfl := Option.some.inj hm
      exact WQ.round hK45 ⟨(wI64 (st38 + 1)), rfl, hb107, hL108, hS109, hl43⟩ (Nat.lt_succ_self _) ⟨rfl, rfl, trivial⟩
    have hm := iteT hm hc110
    refine WP.seq (fun K111 hK111 => ?_)
    refine WP.region ?_
    refine WL.runk 1 [2] [(2, .bool false)] (by kernel_rfl) ?_
    refine WL.nil ?_
    refine WQ.then_normal (hK111 _ _ _ ?_)
    refine WP.ret ?_
    refine WQ.block_ret ?_
    refine WQ.then_ret ?_
    refine WQ.then_ret ?_
    refine WQ.block_ret ?_
    refine WQ.then_ret ?_
    obtain rfl := Option.some.inj hm
    obtain rfl := afterN_done hl43
    have hm := hmo44
    obtain rfl := Option.some.inj hm
    exact WQ.ret1 _ rfl rfl ⟨rfl, hb107⟩
  have hm := hx81; clear hx81
  refine WP.region ?_
  refine WL.runk 2 [0, 3, 23, 24] [(0, .string (bs s_0)), (3, .int .i64 st38), (23, .string (bs s_0)), (24, .int .i64 st38)] (by kernel_rfl) ?_
  obtain ⟨x82, hx83, hm⟩ := bindE hm
  refine WL.st (.int .u8 (x82.toNat : Int)) (ST.sindex hx83 rfl rfl rfl Try.underlying9) rfl rfl rfl ?_
  obtain ⟨x84, hx85, hm⟩ := bindE hm
  refine WL.call 112 #[.int .u8 (x82.toNat : Int)] rfl rfl (by kernel_rfl) (c_112 n (x82.toNat : Int) w39 hx85 ) ?_
  rintro _ w86 ⟨rfl, hE87⟩
  refine ⟨_, rfl, ?_⟩
  have hb89 : Ext w w86 := Ext.trans hb40 hE87
  have hL90 : w.heap.size ≤ w86.heap.size := Nat.le_trans hL41 hE87.size
  have hS91 : SH w86 w.heap.size [] := SH.ext hS42 hE87
  refine WL.runk 2 [0, 3, 28] [(0, .string (bs s_0)), (3, .int .i64 st38), (28, .bool (!x84))] (by kernel_rfl) ?_
  refine WL.case (!x84) [28] ⟨rfl, trivial⟩ (fun hc92 => ?_) (fun hc92 => ?_)
  rotate_left
  · have hm := iteF hm hc92
    refine WL.runk 12 [0, 3, 40] [(0, .string (bs s_0)), (3, .int .i64 st38), (40, .bool false)] (by kernel_rfl) ?_
    refine WL.nil ?_
    obtain rfl := Option.some.inj hm
    exact WQ.post' ⟨rfl, hb89, hL90, hS91⟩ ⟨rfl, rfl, rfl, trivial⟩
  have hm := iteT hm hc92
  refine WL.runk 2 [0, 3, 28, 29, 30] [(0, .string (bs s_0)), (3, .int .i64 st38), (28, .bool true), (29, .string (bs s_0)), (30, .int .i64 st38)] (by kernel_rfl) ?_
  obtain ⟨x93, hx94, hm⟩ := bindE hm
  refine WL.st (.int .u8 (x93.toNat : Int)) (ST.sindex hx94 rfl rfl rfl Try.underlying9) rfl rfl rfl ?_
  obtain ⟨x95, hx96, hm⟩ := bindE hm
  refine WL.call 113 #[.int .u8 (x93.toNat : Int)] rfl rfl (by kernel_rfl) (c_113 n (x93.toNat : Int) w86 hx96 ) ?_
  rintro _ w97 ⟨rfl, hE98⟩
  refine ⟨_, rfl, ?_⟩
  have hb100 : Ext w w97 := Ext.trans hb89 hE98
  have hL101 : w.heap.size ≤ w97.heap.size := Nat.le_trans hL90 hE98.size
  have hS102 : SH w97 w.heap.size [] := SH.ext hS91 hE98
  refine WL.runk 3 [0, 3, 35] [(0, .string (bs s_0)), (3, .int .i64 st38), (35, .bool (!x95))] (by kernel_rfl) ?_
  refine WL.case (!x95) [35] ⟨rfl, trivial⟩ (fun hc103 => ?_) (fun hc103 => ?_)
  rotate_left
  · have hm := iteF hm hc103
    refine WL.runk 5 [0, 3, 40] [(0, .string (bs s_0)), (3, .int .i64 st38), (40, .bool false)] (by kernel_rfl) ?_
    refine WL.nil ?_
    obtain rfl := Option.some.inj hm
    exact WQ.post' ⟨rfl, hb100, hL101, hS102⟩ ⟨rfl, rfl, rfl, trivial⟩
  have hm := iteT hm hc103
  refine WL.runk 2 [0, 3, 35, 36, 37] [(0, .string (bs s_0)), (3, .int .i64 st38), (35, .bool true), (36, .string (bs s_0)), (37, .int .i64 st38)] (by kernel_rfl) ?_
  obtain ⟨x104, hx105, hm⟩ := bindE hm
  refine WL.st (.int .u8 (x104.toNat : Int)) (ST.sindex hx105 rfl rfl rfl Try.underlying9) rfl rfl rfl ?_
  refine WL.runk 2 [0, 3, 40] [(0, .string (bs s_0)), (3, .int .i64 st38), (40, .bool ((x104.toNat : Int) != 45))] (by kernel_rfl) ?_
  refine WL.nil ?_
  obtain rfl := Option.some.inj hm
  exact WQ.post' ⟨rfl, hb100, hL101, hS102⟩ ⟨rfl, rfl, rfl, trivial⟩

theorem c_74 (n : Nat) (list_0 : List SRepair) (a0' : Option Addr) (c0' : Nat) (w : World) {r : Bool} (hm : m_spec_l21Ok n list_0 = some r) (h0 : Rd fRepair.ty w a0' list_0) (_hle0 : list_0.length ≤ c0') :
    CallV Try.prog 74 #[.slice a0' list_0.length c0'] w (fun v w' => v = .bool r ∧ Ext w w') := by
  unfold m_spec_l21Ok at hm
  refine CallV.enter Try.func74 rfl (by kernel_rfl) Try.ntmps74 (env := [(0, .slice a0' list_0.length c0')]) ⟨rfl, trivial⟩ ?_
  refine WP.seq (fun K1 hK1 => ?_)
  refine WP.region ?_
  refine WL.runk 1 [0] [(0, .slice a0' list_0.length c0')] (by kernel_rfl) ?_
  refine WL.nil ?_
  refine WQ.then_normal (hK1 _ _ _ ?_)
  refine WP.seq (fun K2 hK2 => ?_)
  refine WP.seq (fun K3 hK3 => ?_)
  refine WP.region ?_
  refine WL.runk 1 [0, 3] [(0, .slice a0' list_0.length c0'), (3, .int .i64 0)] (by kernel_rfl) ?_
  refine WL.nil ?_
  refine WQ.then_normal (hK3 _ _ _ ?_)
  refine WP.block ?_
  obtain ⟨t15, ht16, hm⟩ := bindE hm
  have hmo10 := hm; clear hm
  refine WP.sub [(0, .slice a0' list_0.length c0'), (3, .int .i64 0)] ⟨rfl, rfl, trivial⟩ ?_
  refine WP.loop (fun n' env' w' => ∃ (st4 : Int) , env' = [(0, .slice a0' list_0.length c0'), (3, .int .i64 st4)] ∧ Ext w w' ∧ w.heap.size ≤ w'.heap.size ∧ SH w' w.heap.size [] ∧ loopN (m_spec_l21Ok_l1 n list_0) n' st4 = some t15) n ⟨0, rfl, (Ext.refl w), (Nat.le_refl _), (SH.nil _ _), ht16⟩ ?_
  rintro n12 _ w5 ⟨st4, rfl, hb6, hL7, hS8, hl9⟩ K11 hK11
  obtain ⟨n13, s14, rfl, hm, hl9⟩ := loopN_some hl9
  unfold m_spec_l21Ok_l1 at hm
  refine WP.seq (fun K17 hK17 => ?_)
  refine WP.seq (fun K18 hK18 => ?_)
  refine WP.region ?_
  refine WL.runk 4 [0, 3, 9] [(0, .slice a0' list_0.length c0'), (3, .int .i64 st4), (9, .bool (decide (st4 < (list_0.length : Int))))] (by kernel_rfl) ?_
  refine WL.nil ?_
  refine WQ.then_normal (hK18 _ _ _ ?_)
  refine WP.cond (decide (st4 < (list_0.length : Int))) rfl rfl (fun hc19 => ?_) (fun hc19 => ?_)
  rotate_left
  · have hm := iteF hm hc19
    refine WP.exit ?_
    refine WQ.then_exit ?_
    refine WQ.then_exit ?_
    refine WQ.block_here ?_
    obtain rfl := Option.some.inj hm
    obtain rfl := afterN_done hl9
    have hm := hmo10
    refine WQ.then_normal (hK2 _ _ _ ?_)
    refine WP.seq (fun K173 hK173 => ?_)
    refine WP.region ?_
    refine WL.runk 4 [2] [(2, .bool (decide ((list_0.length : Int) ≤ 10)))] (by kernel_rfl) ?_
    refine WL.nil ?_
    refine WQ.then_normal (hK173 _ _ _ ?_)
    refine WP.ret ?_
    obtain rfl := Option.some.inj hm
    exact WQ.ret1 _ rfl rfl ⟨rfl, hb6⟩
  have hm := iteT hm hc19
  refine WP.skip ?_
  refine WQ.then_normal (hK17 _ _ _ ?_)
  refine WP.seq (fun K20 hK20 => ?_)
  refine WP.block ?_
  refine WP.seq (fun K21 hK21 => ?_)
  refine WP.region ?_
  refine WL.runk 2 [0, 3, 12, 13] [(0, .slice a0' list_0.length c0'), (3, .int .i64 st4), (12, .slice a0' list_0.length c0'), (13, .int .i64 st4)] (by kernel_rfl) ?_
  obtain ⟨x22, hx23, hm⟩ := bindE hm
  obtain ⟨a24, c25, a29, c30, hc34, hR26, hle27, hR31, hle32⟩ := nest_Repair h0 hx23
  refine WL.st (.pointer (some (at_ a0' (Int.toNat st4 * 5)))) (ST.index (T := fRepair.ty) (xs := list_0) (Rd.below h0 hb6) hx23 rfl rfl rfl Try.underlying24 (info73).1 (info73).2.1) rfl rfl rfl ?_
  refine WL.runk 1 [0, 3, 4] [(0, .slice a0' list_0.length c0'), (3, .int .i64 st4), (4, .pointer (some (at_ a0' (Int.toNat st4 * 5))))] (by kernel_rfl) ?_
  refine WL.nil ?_
  refine WQ.then_normal (hK21 _ _ _ ?_)
  refine WP.seq (fun K35 hK35 => ?_)
  refine WP.seq (fun K36 hK36 => ?_)
  obtain ⟨x81, hx82, hm⟩ := bindE hm
  refine WP.cut (fun env' w' => env' = [(0, .slice a0' list_0.length c0'), (3, .int .i64 st4), (4, .pointer (some (at_ a0' (Int.toNat st4 * 5)))), (54, .bool x81)] ∧ Ext w w' ∧ w.heap.size ≤ w'.heap.size ∧ SH w' w.heap.size []) ?_ ?_
  · have hm := hx82; clear hx82
    refine WP.region ?_
    refine WL.runk 3 [0, 3, 4, 17] [(0, .slice a0' list_0.length c0'), (3, .int .i64 st4), (4, .pointer (some (at_ a0' (Int.toNat st4 * 5)))), (17, .pointer (some (at_ a0' (Int.toNat st4 * 5))))] (by kernel_rfl) ?_
    refine WL.st (.string (bs x22.Name)) (ST.load (cell_ext ((cells_ext hc34 hb6) 0 _ rfl)) rfl rfl Try.underlying9 rfl) rfl rfl rfl ?_
    obtain ⟨x83, hx84, hm⟩ := bindE hm
    refine WL.call 104 #[.string (bs x22.Name)] rfl rfl (by kernel_rfl) (c_104 n x22.Name w5 hx84 ) ?_
    rintro _ w85 ⟨rfl, hE86⟩
    refine ⟨_, rfl, ?_⟩
    have hb88 : Ext w w85 := Ext.trans hb6 hE86
    have hL89 : w.heap.size ≤ w85.heap.size := Nat.le_trans hL7 hE86.size
    have hS90 : SH w85 w.heap.size [] := SH.ext hS8 hE86
    refine WL.runk 2 [0, 3, 4, 21] [(0, .slice a0' list_0.length c0'), (3, .int .i64 st4), (4, .pointer (some (at_ a0' (Int.toNat st4 * 5)))), (21, .bool (!x83))] (by kernel_rfl) ?_
    refine WL.case (!x83) [21] ⟨rfl, trivial⟩ (fun hc91 => ?_) (fun hc91 => ?_)
    · have hm := iteT hm hc91
      refine WL.runk 33 [0, 3, 4, 54] [(0, .slice a0' list_0.length c0'), (3, .int .i64 st4), (4, .pointer (some (at_ a0' (Int.toNat st4 * 5)))), (54, .bool true)] (by kernel_rfl) ?_
      refine WL.nil ?_
      obtain rfl := Option.some.inj hm
      exact WQ.post' ⟨rfl, hb88, hL89, hS90⟩ ⟨rfl, rfl, rfl, rfl, trivial⟩
    have hm := iteF hm hc91
    refine WL.runk 3 [0, 3, 4, 21, 24] [(0, .slice a0' list_0.length c0'), (3, .int .i64 st4), (4, .pointer (some (at_ a0' (Int.toNat st4 * 5)))), (21, .bool false), (24, .pointer (some (at_ a0' (Int.toNat st4 * 5 + 1))))] (by kernel_rfl) ?_
    refine WL.st (.slice a24 x22.Mends.length c25) (ST.load (cell_ext ((cells_ext hc34 hb88) 1 _ rfl)) rfl rfl Try.underlying25 rfl) rfl rfl rfl ?_
    obtain ⟨x92, hx93, hm⟩ := bindE hm
    refine WL.call 98 #[.slice a24 x22.Mends.length c25, .int .i64 0, .int .i64 9] rfl rfl (by kernel_rfl) (c_98 n x22.Mends a24 c25 0 9 w85 hx93 (Rd.below hR26 hb88) hle27) ?_
    rintro _ w94 ⟨rfl, hE95⟩
    refine ⟨_, rfl, ?_⟩
    have hb97 : Ext w w94 := Ext.trans hb88 hE95
    have hL98 : w.heap.size ≤ w94.heap.size := Nat.le_trans hL89 hE95.size
    have hS99 : SH w94 w.heap.size [] := SH.ext hS90 hE95
    refine WL.runk 3 [0, 3, 4, 29] [(0, .slice a0' list_0.length c0'), (3, .int .i64 st4), (4, .pointer (some (at_ a0' (Int.toNat st4 * 5)))), (29, .bool (!x92))] (by kernel_rfl) ?_
    refine WL.case (!x92) [29] ⟨rfl, trivial⟩ (fun hc100 => ?_) (fun hc100 => ?_)
    · have hm := iteT hm hc100
      refine WL.runk 25 [0, 3, 4, 54] [(0, .slice a0' list_0.length c0'), (3, .int .i64 st4), (4, .pointer (some (at_ a0' (Int.toNat st4 * 5)))), (54, .bool true)] (by kernel_rfl) ?_
      refine WL.nil ?_
      obtain rfl := Option.some.inj hm
      exact WQ.post' ⟨rfl, hb97, hL98, hS99⟩ ⟨rfl, rfl, rfl, rfl, trivial⟩
    have hm := iteF hm hc100
    refine WL.runk 3 [0, 3, 4, 29, 32] [(0, .slice a0' list_0.length c0'), (3, .int .i64 st4), (4, .pointer (some (at_ a0' (Int.toNat st4 * 5)))), (29, .bool false), (32, .pointer (some (at_ a0' (Int.toNat st4 * 5 + 2))))] (by kernel_rfl) ?_
    refine WL.st (.slice a29 x22.First.length c30) (ST.load (cell_ext ((cells_ext hc34 hb97) 2 _ rfl)) rfl rfl Try.underlying25 rfl) rfl rfl rfl ?_
    refine WL.runk 2 [0, 3, 4, 29, 33, 35] [(0, .slice a0' list_0.length c0'), (3, .int .i64 st4), (4, .pointer (some (at_ a0' (Int.toNat st4 * 5)))), (29, .bool false), (33, .slice a29 x22.First.length c30), (35, .int .i64 (wI64 (st4 - 1)))] (by kernel_rfl) ?_
    obtain ⟨x101, hx102, hm⟩ := bindE hm
    refine WL.call 98 #[.slice a29 x22.First.length c30, .int .i64 0, .int .i64 (wI64 (st4 - 1))] rfl rfl (by kernel_rfl) (c_98 n x22.First a29 c30 0 (wI64 (st4 - 1)) w94 hx102 (Rd.below hR31 hb97) hle32) ?_
    rintro _ w103 ⟨rfl, hE104⟩
    refine ⟨_, rfl, ?_⟩
    have hb106 : Ext w w103 := Ext.trans hb97 hE104
    have hL107 : w.heap.size ≤ w103.heap.size := Nat.le_trans hL98 hE104.size
    have hS108 : SH w103 w.heap.size [] := SH.ext hS99 hE104
    refine WL.runk 3 [0, 3, 4, 39] [(0, .slice a0' list_0.length c0'), (3, .int .i64 st4), (4, .pointer (some (at_ a0' (Int.toNat st4 * 5)))), (39, .bool (!x101))] (by kernel_rfl) ?_
    refine WL.case (!x101) [39] ⟨rfl, trivial⟩ (fun hc109 => ?_) (fun hc109 => ?_)
    · have hm := iteT hm hc109
      refine WL.runk 15 [0, 3, 4, 54] [(0, .slice a0' list_0.length c0'), (3, .int .i64 st4), (4, .pointer (some (at_ a0' (Int.toNat st4 * 5)))), (54, .bool true)] (by kernel_rfl) ?_
      refine WL.nil ?_
      obtain rfl := Option.some.inj hm
      exact WQ.post' ⟨rfl, hb106, hL107, hS108⟩ ⟨rfl, rfl, rfl, rfl, trivial⟩
    have hm := iteF hm hc109
    refine WL.runk 3 [0, 3, 4, 39, 42] [(0, .slice a0' list_0.length c0'), (3, .int .i64 st4), (4, .pointer (some (at_ a0' (Int.toNat st4 * 5)))), (39, .bool false), (42, .pointer (some (at_ a0' (Int.toNat st4 * 5 + 3))))] (by kernel_rfl) ?_
    refine WL.st (.int .i64 x22.Price) (ST.load (cell_ext ((cells_ext hc34 hb106) 3 _ rfl)) rfl rfl Try.underlying2 rfl) rfl rfl rfl ?_
    obtain ⟨x110, hx111, hm⟩ := bindE hm
    refine WL.call 65 #[.int .i64 x22.Price, .int .i64 0, .int .i64 100000] rfl rfl (by kernel_rfl) (c_65 n x22.Price 0 100000 w103 hx111 ) ?_
    rintro _ w112 ⟨rfl, hE113⟩
    refine ⟨_, rfl, ?_⟩
    have hb115 : Ext w w112 := Ext.trans hb106 hE113
    have hL116 : w.heap.size ≤ w112.heap.size := Nat.le_trans hL107 hE113.size
    have hS117 : SH w112 w.heap.size [] := SH.ext hS108 hE113
    refine WL.runk 3 [0, 3, 4, 47] [(0, .slice a0' list_0.length c0'), (3, .int .i64 st4), (4, .pointer (some (at_ a0' (Int.toNat st4 * 5)))), (47, .bool (!x110))] (by kernel_rfl) ?_
    refine WL.case (!x110) [47] ⟨rfl, trivial⟩ (fun hc118 => ?_) (fun hc118 => ?_)
    · have hm := iteT hm hc118
      refine WL.runk 7 [0, 3, 4, 54] [(0, .slice a0' list_0.length c0'), (3, .int .i64 st4), (4, .pointer (some (at_ a0' (Int.toNat st4 * 5)))), (54, .bool true)] (by kernel_rfl) ?_
      refine WL.nil ?_
      obtain rfl := Option.some.inj hm
      exact WQ.post' ⟨rfl, hb115, hL116, hS117⟩ ⟨rfl, rfl, rfl, rfl, trivial⟩
    have hm := iteF hm hc118
    refine WL.runk 3 [0, 3, 4, 47, 50] [(0, .slice a0' list_0.length c0'), (3, .int .i64 st4), (4, .pointer (some (at_ a0' (Int.toNat st4 * 5)))), (47, .bool false), (50, .pointer (some (at_ a0' (Int.toNat st4 * 5 + 4))))] (by kernel_rfl) ?_
    refine WL.st (.int .i64 x22.Hours) (ST.load (cell_ext ((cells_ext hc34 hb115) 4 _ rfl)) rfl rfl Try.underlying2 rfl) rfl rfl rfl ?_
    obtain ⟨x119, hx120, hm⟩ := bindE hm
    refine WL.call 65 #[.int .i64 x22.Hours, .int .i64 0, .int .i64 1000] rfl rfl (by kernel_rfl) (c_65 n x22.Hours 0 1000 w112 hx120 ) ?_
    rintro _ w121 ⟨rfl, hE122⟩
    refine ⟨_, rfl, ?_⟩
    have hb124 : Ext w w121 := Ext.trans hb115 hE122
    have hL125 : w.heap.size ≤ w121.heap.size := Nat.le_trans hL116 hE122.size
    have hS126 : SH w121 w.heap.size [] := SH.ext hS117 hE122
    refine WL.runk 2 [0, 3, 4, 54] [(0, .slice a0' list_0.length c0'), (3, .int .i64 st4), (4, .pointer (some (at_ a0' (Int.toNat st4 * 5)))), (54, .bool (!x119))] (by kernel_rfl) ?_
    refine WL.nil ?_
    obtain rfl := Option.some.inj hm
    exact WQ.post' ⟨rfl, hb124, hL125, hS126⟩ ⟨rfl, rfl, rfl, rfl, trivial⟩
  clear hx82
  rintro _ w127 ⟨rfl, hb128, hL129, hS130⟩
  refine WQ.then_normal (hK36 _ _ _ ?_)
  refine WP.cond x81 rfl rfl (fun hc131 => ?_) (fun hc131 => ?_)
  · have hm := iteT hm hc131
    refine WP.seq (fun K132 hK132 => ?_)
    refine WP.region ?_
    refine WL.runk 1 [2] [(2, .bool false)] (by kernel_rfl) ?_
    refine WL.nil ?_
    refine WQ.then_normal (hK132 _ _ _ ?_)
    refine WP.ret ?_
    refine WQ.then_ret ?_
    refine WQ.block_ret ?_
    refine WQ.then_ret ?_
    refine WQ.then_ret ?_
    refine WQ.block_ret ?_
    refine WQ.then_ret ?_
    obtain rfl := Option.some.inj hm
    obtain rfl := afterN_done hl9
    have hm := hmo10
    obtain rfl := Option.some.inj hm
    exact WQ.ret1 _ rfl rfl ⟨rfl, hb128⟩
  have hm := iteF hm hc131
  refine WP.skip ?_
  refine WQ.then_normal (hK35 _ _ _ ?_)
  refine WP.seq (fun K133 hK133 => ?_)
  refine WP.region ?_
  refine WL.runk 1 [0, 3, 4, 5] [(0, .slice a0' list_0.length c0'), (3, .int .i64 st4), (4, .pointer (some (at_ a0' (Int.toNat st4 * 5)))), (5, .int .i64 0)] (by kernel_rfl) ?_
  refine WL.nil ?_
  refine WQ.then_normal (hK133 _ _ _ ?_)
  refine WP.block ?_
  obtain ⟨t145, ht146, hm⟩ := bindE hm
  have hmo140 := hm; clear hm
  refine WP.sub [(0, .slice a0' list_0.length c0'), (3, .int .i64 st4), (4, .pointer (some (at_ a0' (Int.toNat st4 * 5)))), (5, .int .i64 0)] ⟨rfl, rfl, rfl, rfl, trivial⟩ ?_
  refine WP.loop (fun n' env' w' => ∃ (st134 : Int) , env' = [(0, .slice a0' list_0.length c0'), (3, .int .i64 st4), (4, .pointer (some (at_ a0' (Int.toNat st4 * 5)))), (5, .int .i64 st134)] ∧ Ext w w' ∧ w.heap.size ≤ w'.heap.size ∧ SH w' w.heap.size [] ∧ loopN (m_spec_l21Ok_l2 n list_0 st4 x22) n' st134 = some t145) n ⟨0, rfl, hb128, hL129, hS130, ht146⟩ ?_
  rintro n142 _ w135 ⟨st134, rfl, hb136, hL137, hS138, hl139⟩ K141 hK141
  obtain ⟨n143, s144, rfl, hm, hl139⟩ := loopN_some hl139
  unfold m_spec_l21Ok_l2 at hm
  refine WP.seq (fun K147 hK147 => ?_)
  refine WP.seq (fun K148 hK148 => ?_)
  refine WP.region ?_
  refine WL.runk 3 [0, 3, 4, 5, 57] [(0, .slice a0' list_0.length c0'), (3, .int .i64 st4), (4, .pointer (some (at_ a0' (Int.toNat st4 * 5)))), (5, .int .i64 st134), (57, .bool (decide (st134 < st4)))] (by kernel_rfl) ?_
  refine WL.nil ?_
  refine WQ.then_normal (hK148 _ _ _ ?_)
  refine WP.cond (decide (st134 < st4)) rfl rfl (fun hc149 => ?_) (fun hc149 => ?_)
  rotate_left
  · have hm := iteF hm hc149
    refine WP.exit ?_
    refine WQ.then_exit ?_
    refine WQ.then_exit ?_
    refine WQ.block_here ?_
    obtain rfl := Option.some.inj hm
    obtain rfl := afterN_done hl139
    have hm := hmo140
    refine WQ.block_normal ?_
    refine WQ.then_normal (hK20 _ _ _ ?_)
    refine WP.region ?_
    refine WL.runk 3 [0, 3] [(0, .slice a0' list_0.length c0'), (3, .int .i64 (wI64 (st4 + 1)))] (by kernel_rfl) ?_
    refine WL.nil ?_
    obtain rfl := Option.some.inj hm
    exact WQ.round hK11 ⟨(wI64 (st4 + 1)), rfl, hb136, hL137, hS138, hl9⟩ (Nat.lt_succ_self _) ⟨rfl, rfl, trivial⟩
  have hm := iteT hm hc149
  refine WP.skip ?_
  refine WQ.then_normal (hK147 _ _ _ ?_)
  refine WP.seq (fun K150 hK150 => ?_)
  refine WP.block ?_
  refine WP.seq (fun K151 hK151 => ?_)
  refine WP.quiet (by kernel_rfl) (by kernel_rfl) ?_
  refine QL.step1v 60 (.slice a0' list_0.length c0') rfl (fun _ => by kernel_rfl) ?_
  refine QL.step1v 61 (.int .i64 st134) rfl (fun _ => by kernel_rfl) ?_
  refine QL.subk [0, 3, 4, 5, 60, 61] [(0, .slice a0' list_0.length c0'), (3, .int .i64 st4), (4, .pointer (some (at_ a0' (Int.toNat st4 * 5)))), (5, .int .i64 st134), (60, .slice a0' list_0.length c0'), (61, .int .i64 st134)] (by kernel_rfl) ?_
  obtain ⟨x152, hx153, hm⟩ := bindE hm
  obtain ⟨a154, c155, a159, c160, hc164, hR156, hle157, hR161, hle162⟩ := nest_Repair h0 hx153
  refine QL.st (.pointer (some (at_ a0' (Int.toNat st134 * 5)))) (ST.index (T := fRepair.ty) (xs := list_0) (Rd.below h0 hb136) hx153 rfl rfl rfl Try.underlying24 (info73).1 (info73).2.1) rfl rfl rfl ?_
  refine QL.step1v 63 (.pointer (some (at_ a0' (Int.toNat st134 * 5)))) rfl (fun _ => by kernel_rfl) ?_
  refine QL.subk [0, 3, 4, 5, 63] [(0, .slice a0' list_0.length c0'), (3, .int .i64 st4), (4, .pointer (some (at_ a0' (Int.toNat st4 * 5)))), (5, .int .i64 st134), (63, .pointer (some (at_ a0' (Int.toNat st134 * 5))))] (by kernel_rfl) ?_
  refine QL.st (.string (bs x152.Name)) (ST.load (cell_ext ((cells_ext hc164 hb136) 0 _ rfl)) rfl rfl Try.underlying9 rfl) rfl rfl rfl ?_
  refine QL.step1v 65 (.pointer (some (at_ a0' (Int.toNat st4 * 5)))) rfl (fun _ => by kernel_rfl) ?_
  refine QL.step1v 66 (.pointer (some (at_ a0' (Int.toNat st4 * 5)))) rfl (fun _ => by kernel_rfl) ?_
  refine QL.step1v 67 (.pointer (some (at_ a0' (Int.toNat st4 * 5)))) rfl (fun _ => by kernel_rfl) ?_
  refine QL.subk [0, 3, 4, 5, 64, 67] [(0, .slice a0' list_0.length c0'), (3, .int .i64 st4), (4, .pointer (some (at_ a0' (Int.toNat st4 * 5)))), (5, .int .i64 st134), (64, .string (bs x152.Name)), (67, .pointer (some (at_ a0' (Int.toNat st4 * 5))))] (by kernel_rfl) ?_
  refine QL.st (.string (bs x22.Name)) (ST.load (cell_ext ((cells_ext hc34 hb136) 0 _ rfl)) rfl rfl Try.underlying9 rfl) rfl rfl rfl ?_
  refine QL.st (.bool (x152.Name == x22.Name)) (ST.streq (x := x152.Name) (y := x22.Name) rfl rfl rfl) rfl rfl rfl ?_
  refine QL.subk [0, 3, 4, 5, 69] [(0, .slice a0' list_0.length c0'), (3, .int .i64 st4), (4, .pointer (some (at_ a0' (Int.toNat st4 * 5)))), (5, .int .i64 st134), (69, .bool (x152.Name == x22.Name))] (by kernel_rfl) ?_
  refine QL.nil ?_
  intro w165 hE166
  have hb167 : Ext w w165 := Ext.trans hb136 hE166
  have hL168 : w.heap.size ≤ w165.heap.size := Nat.le_trans hL137 hE166.size
  have hS169 : SH w165 w.heap.size [] := SH.ext hS138 hE166
  refine WQ.then_normal (hK151 _ _ _ ?_)
  refine WP.cond (x152.Name == x22.Name) rfl rfl (fun hc170 => ?_) (fun hc170 => ?_)
  rotate_left
  · have hm := iteF hm hc170
    refine WP.skip ?_
    refine WQ.block_normal ?_
    refine WQ.then_normal (hK150 _ _ _ ?_)
    refine WP.region ?_
    refine WL.runk 3 [0, 3, 4, 5] [(0, .slice a0' list_0.length c0'), (3, .int .i64 st4), (4, .pointer (some (at_ a0' (Int.toNat st4 * 5)))), (5, .int .i64 (wI64 (st134 + 1)))] (by kernel_rfl) ?_
    refine WL.nil ?_
    obtain rfl := Option.some.inj hm
    exact WQ.round hK141 ⟨(wI64 (st134 + 1)), rfl, hb167, hL168, hS169, hl139⟩ (Nat.lt_succ_self _) ⟨rfl, rfl, rfl, rfl, trivial⟩
  have hm := iteT hm hc170
  refine WP.seq (fun K171 hK171 => ?_)
  refine WP.region ?_
  refine WL.runk 1 [2] [(2, .bool false)] (by kernel_rfl) ?_
  refine WL.nil ?_
  refine WQ.then_normal (hK171 _ _ _ ?_)
  refine WP.ret ?_
  refine WQ.block_ret ?_
  refine WQ.then_ret ?_
  refine WQ.then_ret ?_
  refine WQ.block_ret ?_
  refine WQ.block_ret ?_
  refine WQ.then_ret ?_
  refine WQ.then_ret ?_
  refine WQ.block_ret ?_
  refine WQ.then_ret ?_
  obtain rfl := Option.some.inj hm
  obtain rfl := afterN_done hl139
  have hm := hmo140
  obtain rfl := Option.some.inj hm
  obtain rfl := afterN_done hl9
  have hm := hmo10
  obtain rfl := Option.some.inj hm
  exact WQ.ret1 _ rfl rfl ⟨rfl, hb167⟩

theorem c_80 (n : Nat) (list_0 : List SRepair) (a0' : Option Addr) (c0' : Nat) (some_1 : List Int) (a1' : Option Addr) (c1' : Nat) (w : World) {r : Int} (hm : m_spec_l21Some n list_0 some_1 = some r) (h0 : Rd fRepair.ty w a0' list_0) (hle0 : list_0.length ≤ c0') (h1 : Rd fInt.ty w a1' some_1) (hle1 : some_1.length ≤ c1') :
    CallV Try.prog 80 #[.slice a0' list_0.length c0', .slice a1' some_1.length c1'] w (fun v w' => v = .int .i64 r ∧ Ext w w') := by
  unfold m_spec_l21Some at hm
  refine CallV.enter Try.func80 rfl (by kernel_rfl) Try.ntmps80 (env := [(0, .slice a0' list_0.length c0'), (1, .slice a1' some_1.length c1')]) ⟨rfl, rfl, trivial⟩ ?_
  refine WP.seq (fun K1 hK1 => ?_)
  refine WP.region ?_
  refine WL.runk 1 [0, 1] [(0, .slice a0' list_0.length c0'), (1, .slice a1' some_1.length c1')] (by kernel_rfl) ?_
  refine WL.nil ?_
  refine WQ.then_normal (hK1 _ _ _ ?_)
  refine WP.seq (fun K2 hK2 => ?_)
  refine WP.seq (fun K3 hK3 => ?_)
  refine WP.region ?_
  refine WL.runk 1 [0, 1, 5] [(0, .slice a0' list_0.length c0'), (1, .slice a1' some_1.length c1'), (5, .slice a0' list_0.length c0')] (by kernel_rfl) ?_
  obtain ⟨x4, hx5, hm⟩ := bindE hm
  refine WL.call 74 #[.slice a0' list_0.length c0'] rfl rfl (by kernel_rfl) (c_74 n list_0 a0' c0' w hx5 (Rd.below h0 (Ext.refl w)) hle0) ?_
  rintro _ w6 ⟨rfl, hE7⟩
  refine ⟨_, rfl, ?_⟩
  have hb9 : Ext w w6 := Ext.trans (Ext.refl w) hE7
  have hL10 : w.heap.size ≤ w6.heap.size := Nat.le_trans (Nat.le_refl _) hE7.size
  have hS11 : SH w6 w.heap.size [] := SH.ext (SH.nil _ _) hE7
  refine WL.runk 1 [0, 1, 7] [(0, .slice a0' list_0.length c0'), (1, .slice a1' some_1.length c1'), (7, .bool (!x4))] (by kernel_rfl) ?_
  refine WL.nil ?_
  refine WQ.then_normal (hK3 _ _ _ ?_)
  refine WP.cond (!x4) rfl rfl (fun hc12 => ?_) (fun hc12 => ?_)
  · have hm := iteT hm hc12
    refine WP.seq (fun K13 hK13 => ?_)
    refine WP.region ?_
    refine WL.runk 1 [4] [(4, .int .i64 1)] (by kernel_rfl) ?_
    refine WL.nil ?_
    refine WQ.then_normal (hK13 _ _ _ ?_)
    refine WP.ret ?_
    refine WQ.then_ret ?_
    obtain rfl := Option.some.inj hm
    exact WQ.ret1 _ rfl rfl ⟨rfl, hb9⟩
  have hm := iteF hm hc12
  refine WP.skip ?_
  refine WQ.then_normal (hK2 _ _ _ ?_)
  refine WP.seq (fun K14 hK14 => ?_)
  refine WP.seq (fun K15 hK15 => ?_)
  refine WP.region ?_
  refine WL.runk 4 [8, 11] [(8, .slice a1' some_1.length c1'), (11, .int .i64 (wI64 ((list_0.length : Int) - 1)))] (by kernel_rfl) ?_
  obtain ⟨x16, hx17, hm⟩ := bindE hm
  refine WL.call 98 #[.slice a1' some_1.length c1', .int .i64 0, .int .i64 (wI64 ((list_0.length : Int) - 1))] rfl rfl (by kernel_rfl) (c_98 n some_1 a1' c1' 0 (wI64 ((list_0.length : Int) - 1)) w6 hx17 (Rd.below h1 hb9) hle1) ?_
  rintro _ w18 ⟨rfl, hE19⟩
  refine ⟨_, rfl, ?_⟩
  have hb21 : Ext w w18 := Ext.trans hb9 hE19
  have hL22 : w.heap.size ≤ w18.heap.size := Nat.le_trans hL10 hE19.size
  have hS23 : SH w18 w.heap.size [] := SH.ext hS11 hE19
  refine WL.runk 1 [13] [(13, .bool (!x16))] (by kernel_rfl) ?_
  refine WL.nil ?_
  refine WQ.then_normal (hK15 _ _ _ ?_)
  refine WP.cond (!x16) rfl rfl (fun hc24 => ?_) (fun hc24 => ?_)
  · have hm := iteT hm hc24
    refine WP.seq (fun K25 hK25 => ?_)
    refine WP.region ?_
    refine WL.runk 1 [4] [(4, .int .i64 2)] (by kernel_rfl) ?_
    refine WL.nil ?_
    refine WQ.then_normal (hK25 _ _ _ ?_)
    refine WP.ret ?_
    refine WQ.then_ret ?_
    obtain rfl := Option.some.inj hm
    exact WQ.ret1 _ rfl rfl ⟨rfl, hb21⟩
  have hm := iteF hm hc24
  refine WP.skip ?_
  refine WQ.then_normal (hK14 _ _ _ ?_)
  refine WP.seq (fun K26 hK26 => ?_)
  refine WP.region ?_
  refine WL.runk 1 [4] [(4, .int .i64 0)] (by kernel_rfl) ?_
  refine WL.nil ?_
  refine WQ.then_normal (hK26 _ _ _ ?_)
  refine WP.ret ?_
  obtain rfl := Option.some.inj hm
  exact WQ.ret1 _ rfl rfl ⟨rfl, hb21⟩

theorem c_59 (n : Nat) (list_0 : List Int) (a0' : Option Addr) (c0' : Nat) (w : World) {r : List Int} (hm : m_spec_l00Own n list_0 = some r) (h0 : Rd fInt.ty w a0' list_0) (_hle0 : list_0.length ≤ c0') :
    CallV Try.prog 59 #[.slice a0' list_0.length c0'] w (fun v w' => ∃ (ra0 : Option Addr) (rc0 : Nat), v = .slice ra0 r.length rc0 ∧ Ext w w' ∧ SH w' w.heap.size [aOwn fInt 2 ra0 rc0 r]) := by
  unfold m_spec_l00Own at hm
  refine CallV.enter Try.func59 rfl (by kernel_rfl) Try.ntmps59 (env := [(0, .slice a0' list_0.length c0')]) ⟨rfl, trivial⟩ ?_
  refine WP.seq (fun K1 hK1 => ?_)
  refine WP.region ?_
  refine WL.runk 1 [0] [(0, .slice a0' list_0.length c0')] (by kernel_rfl) ?_
  refine WL.nil ?_
  refine WQ.then_normal (hK1 _ _ _ ?_)
  refine WP.seq (fun K2 hK2 => ?_)
  refine WP.region ?_
  refine WL.row fInt 2 ([] : List Int) 0 #[] 3 (by kernel_rfl) rfl rfl rfl rfl rfl rfl rfl ?_
  intro a3 c4 w5 hE6 hR7
  have hb9 : Ext w w5 := Ext.trans (Ext.refl w) hE6
  have hL10 : w.heap.size ≤ w5.heap.size := Nat.le_trans (Nat.le_refl _) hE6.size
  have hS11 : SH w5 w.heap.size [aOwn fInt 2 a3 c4 ([] : List Int)] := SH.add (SH.nil _ _) hE6 (Nat.le_refl _) hR7
  refine WL.runk 1 [3, 4] [(3, .slice a3 (([] : List Int).length) c4), (4, .slice a0' list_0.length c0')] (by kernel_rfl) ?_
  obtain ⟨x12, hx13, hm⟩ := bindE hm
  refine WL.append (F := fInt) (xs := ([] : List Int)) (ys := list_0) 5 (SH.front 0 hS11) hL10 (Rd.below h0 hb9) hx13 rfl rfl rfl Try.underlying25 (info2).1 (info2).2.2.1 (info2).2.1 (info2).2.2.2 rfl rfl rfl rfl rfl ?_
  intro a14 c15 w16 hB17 hS18
  have hb19 : Ext w w16 := Below.trans hb9 hB17
  have hL20 : w.heap.size ≤ w16.heap.size := Nat.le_trans hL10 hB17.size
  refine WL.runk 1 [2] [(2, .slice a14 x12.length c15)] (by kernel_rfl) ?_
  refine WL.nil ?_
  refine WQ.then_normal (hK2 _ _ _ ?_)
  refine WP.ret ?_
  obtain rfl := Option.some.inj hm
  exact WQ.ret1 _ rfl rfl ⟨_, _, rfl, hb19, hS18⟩

theorem c_81 (n : Nat) (list_0 : List Int) (a0' : Option Addr) (c0' : Nat) (n_1 : Int) (w : World) {r : Bool} (hm : m_spec_l00Has n list_0 n_1 = some r) (h0 : Rd fInt.ty w a0' list_0) (_hle0 : list_0.length ≤ c0') :
    CallV Try.prog 81 #[.slice a0' list_0.length c0', .int .i64 n_1] w (fun v w' => v = .bool r ∧ Ext w w') := by
  unfold m_spec_l00Has at hm
  refine CallV.enter Try.func81 rfl (by kernel_rfl) Try.ntmps81 (env := [(0, .slice a0' list_0.length c0'), (1, .int .i64 n_1)]) ⟨rfl, rfl, trivial⟩ ?_
  refine WP.seq (fun K1 hK1 => ?_)
  refine WP.region ?_
  refine WL.runk 1 [0, 1] [(0, .slice a0' list_0.length c0'), (1, .int .i64 n_1)] (by kernel_rfl) ?_
  refine WL.nil ?_
  refine WQ.then_normal (hK1 _ _ _ ?_)
  refine WP.seq (fun K2 hK2 => ?_)
  refine WP.seq (fun K3 hK3 => ?_)
  refine WP.region ?_
  refine WL.runk 1 [0, 1, 5] [(0, .slice a0' list_0.length c0'), (1, .int .i64 n_1), (5, .int .i64 0)] (by kernel_rfl) ?_
  refine WL.nil ?_
  refine WQ.then_normal (hK3 _ _ _ ?_)
  refine WP.block ?_
  obtain ⟨t15, ht16, hm⟩ := bindE hm
  have hmo10 := hm; clear hm
  refine WP.sub [(0, .slice a0' list_0.length c0'), (1, .int .i64 n_1), (5, .int .i64 0)] ⟨rfl, rfl, rfl, trivial⟩ ?_
  refine WP.loop (fun n' env' w' => ∃ (st4 : Int) , env' = [(0, .slice a0' list_0.length c0'), (1, .int .i64 n_1), (5, .int .i64 st4)] ∧ Ext w w' ∧ w.heap.size ≤ w'.heap.size ∧ SH w' w.heap.size [] ∧ loopN (m_spec_l00Has_l1 n list_0 n_1) n' st4 = some t15) n ⟨0, rfl, (Ext.refl w), (Nat.le_refl _), (SH.nil _ _), ht16⟩ ?_
  rintro n12 _ w5 ⟨st4, rfl, hb6, hL7, hS8, hl9⟩ K11 hK11
  obtain ⟨n13, s14, rfl, hm, hl9⟩ := loopN_some hl9
  unfold m_spec_l00Has_l1 at hm
  refine WP.seq (fun K17 hK17 => ?_)
  refine WP.seq (fun K18 hK18 => ?_)
  refine WP.region ?_
  refine WL.runk 4 [0, 1, 5, 9] [(0, .slice a0' list_0.length c0'), (1, .int .i64 n_1), (5, .int .i64 st4), (9, .bool (decide (st4 < (list_0.length : Int))))] (by kernel_rfl) ?_
  refine WL.nil ?_
  refine WQ.then_normal (hK18 _ _ _ ?_)
  refine WP.cond (decide (st4 < (list_0.length : Int))) rfl rfl (fun hc19 => ?_) (fun hc19 => ?_)
  rotate_left
  · have hm := iteF hm hc19
    refine WP.exit ?_
    refine WQ.then_exit ?_
    refine WQ.then_exit ?_
    refine WQ.block_here ?_
    obtain rfl := Option.some.inj hm
    obtain rfl := afterN_done hl9
    have hm := hmo10
    refine WQ.then_normal (hK2 _ _ _ ?_)
    refine WP.seq (fun K26 hK26 => ?_)
    refine WP.region ?_
    refine WL.runk 1 [4] [(4, .bool false)] (by kernel_rfl) ?_
    refine WL.nil ?_
    refine WQ.then_normal (hK26 _ _ _ ?_)
    refine WP.ret ?_
    obtain rfl := Option.some.inj hm
    exact WQ.ret1 _ rfl rfl ⟨rfl, hb6⟩
  have hm := iteT hm hc19
  refine WP.skip ?_
  refine WQ.then_normal (hK17 _ _ _ ?_)
  refine WP.seq (fun K20 hK20 => ?_)
  refine WP.block ?_
  refine WP.seq (fun K21 hK21 => ?_)
  refine WP.region ?_
  refine WL.runk 2 [0, 1, 5, 12, 13] [(0, .slice a0' list_0.length c0'), (1, .int .i64 n_1), (5, .int .i64 st4), (12, .slice a0' list_0.length c0'), (13, .int .i64 st4)] (by kernel_rfl) ?_
  obtain ⟨x22, hx23, hm⟩ := bindE hm
  refine WL.st (.pointer (some (at_ a0' (Int.toNat st4 * 1)))) (ST.index (T := fInt.ty) (xs := list_0) (Rd.below h0 hb6) hx23 rfl rfl rfl Try.underlying25 (info2).1 (info2).2.1) rfl rfl rfl ?_
  refine WL.st (.int .i64 x22) (ST.load (cell_ext (Rd.flat (F := fInt) (Rd.below h0 hb6) hx23 0 rfl)) rfl rfl Try.underlying2 rfl) rfl rfl rfl ?_
  refine WL.runk 2 [0, 1, 5, 17] [(0, .slice a0' list_0.length c0'), (1, .int .i64 n_1), (5, .int .i64 st4), (17, .bool (x22 == n_1))] (by kernel_rfl) ?_
  refine WL.nil ?_
  refine WQ.then_normal (hK21 _ _ _ ?_)
  refine WP.cond (x22 == n_1) rfl rfl (fun hc24 => ?_) (fun hc24 => ?_)
  rotate_left
  · have hm := iteF hm hc24
    refine WP.skip ?_
    refine WQ.block_normal ?_
    refine WQ.then_normal (hK20 _ _ _ ?_)
    refine WP.region ?_
    refine WL.runk 3 [0, 1, 5] [(0, .slice a0' list_0.length c0'), (1, .int .i64 n_1), (5, .int .i64 (wI64 (st4 + 1)))] (by kernel_rfl) ?_
    refine WL.nil ?_
    obtain rfl := Option.some.inj hm
    exact WQ.round hK11 ⟨(wI64 (st4 + 1)), rfl, hb6, hL7, hS8, hl9⟩ (Nat.lt_succ_self _) ⟨rfl, rfl, rfl, trivial⟩
  have hm := iteT hm hc24
  refine WP.seq (fun K25 hK25 => ?_)
  refine WP.region ?_
  refine WL.runk 1 [4] [(4, .bool true)] (by kernel_rfl) ?_
  refine WL.nil ?_
  refine WQ.then_normal (hK25 _ _ _ ?_)
  refine WP.ret ?_
  refine WQ.block_ret ?_
  refine WQ.then_ret ?_
  refine WQ.then_ret ?_
  refine WQ.block_ret ?_
  refine WQ.then_ret ?_
  obtain rfl := Option.some.inj hm
  obtain rfl := afterN_done hl9
  have hm := hmo10
  obtain rfl := Option.some.inj hm
  exact WQ.ret1 _ rfl rfl ⟨rfl, hb6⟩

theorem c_107 (n : Nat) (list_0 : List Int) (a0' : Option Addr) (c0' : Nat) (n_1 : Int) (w : World) {r : List Int} (hm : m_spec_l00Put n list_0 n_1 = some r) (h0 : Rd fInt.ty w a0' list_0) (_hle0 : list_0.length ≤ c0') :
    CallV Try.prog 107 #[.slice a0' list_0.length c0', .int .i64 n_1] w (fun v w' => ∃ (ra0 : Option Addr) (rc0 : Nat), v = .slice ra0 r.length rc0 ∧ Ext w w' ∧ SH w' w.heap.size [aOwn fInt 2 ra0 rc0 r]) := by
  unfold m_spec_l00Put at hm
  refine CallV.enter Try.func107 rfl (by kernel_rfl) Try.ntmps107 (env := [(0, .slice a0' list_0.length c0'), (1, .int .i64 n_1)]) ⟨rfl, rfl, trivial⟩ ?_
  refine WP.seq (fun K1 hK1 => ?_)
  refine WP.region ?_
  refine WL.runk 1 [0, 1] [(0, .slice a0' list_0.length c0'), (1, .int .i64 n_1)] (by kernel_rfl) ?_
  refine WL.nil ?_
  refine WQ.then_normal (hK1 _ _ _ ?_)
  refine WP.seq (fun K2 hK2 => ?_)
  refine WP.region ?_
  refine WL.row fInt 2 ([] : List Int) 0 #[] 8 (by kernel_rfl) rfl rfl rfl rfl rfl rfl rfl ?_
  intro a3 c4 w5 hE6 hR7
  have hb9 : Ext w w5 := Ext.trans (Ext.refl w) hE6
  have hL10 : w.heap.size ≤ w5.heap.size := Nat.le_trans (Nat.le_refl _) hE6.size
  have hS11 : SH w5 w.heap.size [aOwn fInt 2 a3 c4 ([] : List Int)] := SH.add (SH.nil _ _) hE6 (Nat.le_refl _) hR7
  refine WL.runk 1 [0, 1, 5] [(0, .slice a0' list_0.length c0'), (1, .int .i64 n_1), (5, .slice a3 (([] : List Int).length) c4)] (by kernel_rfl) ?_
  refine WL.nil ?_
  refine WQ.then_normal (hK2 _ _ _ ?_)
  refine WP.seq (fun K12 hK12 => ?_)
  refine WP.region ?_
  refine WL.runk 1 [0, 1, 5, 6] [(0, .slice a0' list_0.length c0'), (1, .int .i64 n_1), (5, .slice a3 (([] : List Int).length) c4), (6, .bool false)] (by kernel_rfl) ?_
  refine WL.nil ?_
  refine WQ.then_normal (hK12 _ _ _ ?_)
  refine WP.seq (fun K13 hK13 => ?_)
  refine WP.seq (fun K14 hK14 => ?_)
  refine WP.region ?_
  refine WL.runk 1 [0, 1, 5, 6, 7] [(0, .slice a0' list_0.length c0'), (1, .int .i64 n_1), (5, .slice a3 (([] : List Int).length) c4), (6, .bool false), (7, .int .i64 0)] (by kernel_rfl) ?_
  refine WL.nil ?_
  refine WQ.then_normal (hK14 _ _ _ ?_)
  refine WP.block ?_
  obtain ⟨t29, ht30, hm⟩ := bindE hm
  have hmo24 := hm; clear hm
  refine WP.sub [(0, .slice a0' list_0.length c0'), (1, .int .i64 n_1), (5, .slice a3 (([] : List Int).length) c4), (6, .bool false), (7, .int .i64 0)] ⟨rfl, rfl, rfl, rfl, rfl, trivial⟩ ?_
  refine WP.loop (fun n' env' w' => ∃ (st15 : List Int × Bool × Int) (a16 : Option Addr) (c17 : Nat), env' = [(0, .slice a0' list_0.length c0'), (1, .int .i64 n_1), (5, .slice a16 st15.1.length c17), (6, .bool st15.2.1), (7, .int .i64 st15.2.2)] ∧ Ext w w' ∧ w.heap.size ≤ w'.heap.size ∧ SH w' w.heap.size [aOwn fInt 2 a16 c17 st15.1] ∧ loopN (m_spec_l00Put_l1 n list_0 n_1) n' st15 = some t29) n ⟨(([] : List Int), false, 0), _, _, rfl, hb9, hL10, hS11, ht30⟩ ?_
  rintro n26 _ w19 ⟨st15, a16, c17, rfl, hb20, hL21, hS22, hl23⟩ K25 hK25
  obtain ⟨n27, s28, rfl, hm, hl23⟩ := loopN_some hl23
  unfold m_spec_l00Put_l1 at hm
  refine WP.seq (fun K31 hK31 => ?_)
  refine WP.seq (fun K32 hK32 => ?_)
  refine WP.region ?_
  refine WL.runk 4 [0, 1, 5, 6, 7, 12] [(0, .slice a0' list_0.length c0'), (1, .int .i64 n_1), (5, .slice a16 st15.1.length c17), (6, .bool st15.2.1), (7, .int .i64 st15.2.2), (12, .bool (decide (st15.2.2 < (list_0.length : Int))))] (by kernel_rfl) ?_
  refine WL.nil ?_
  refine WQ.then_normal (hK32 _ _ _ ?_)
  refine WP.cond (decide (st15.2.2 < (list_0.length : Int))) rfl rfl (fun hc33 => ?_) (fun hc33 => ?_)
  rotate_left
  · have hm := iteF hm hc33
    refine WP.exit ?_
    refine WQ.then_exit ?_
    refine WQ.then_exit ?_
    refine WQ.block_here ?_
    obtain rfl := Option.some.inj hm
    obtain rfl := afterN_done hl23
    have hm := hmo24
    refine WQ.then_normal (hK13 _ _ _ ?_)
    refine WP.seq (fun K179 hK179 => ?_)
    refine WP.seq (fun K180 hK180 => ?_)
    refine WP.region ?_
    refine WL.runk 2 [1, 5, 43] [(1, .int .i64 n_1), (5, .slice a16 st15.1.length c17), (43, .bool (!st15.2.1))] (by kernel_rfl) ?_
    refine WL.nil ?_
    refine WQ.then_normal (hK180 _ _ _ ?_)
    obtain ⟨x200, hx201, hm⟩ := bindE hm
    refine WP.cut (fun env' w' => ∃ (a202 : Option Addr) (c203 : Nat), env' = [(5, .slice a202 x200.length c203)] ∧ Ext w w' ∧ w.heap.size ≤ w'.heap.size ∧ SH w' w.heap.size [aOwn fInt 2 a202 c203 x200]) ?_ ?_
    rotate_left
    · clear hx201
      rintro _ w223 ⟨a202, c203, rfl, hb224, hL225, hS226⟩
      refine WQ.then_normal (hK179 _ _ _ ?_)
      refine WP.seq (fun K227 hK227 => ?_)
      refine WP.region ?_
      refine WL.runk 2 [4] [(4, .slice a202 x200.length c203)] (by kernel_rfl) ?_
      refine WL.nil ?_
      refine WQ.then_normal (hK227 _ _ _ ?_)
      refine WP.ret ?_
      obtain rfl := Option.some.inj hm
      exact WQ.ret1 _ rfl rfl ⟨_, _, rfl, hb224, hS226⟩
    have hm := hx201; clear hx201
    refine WP.cond (!st15.2.1) rfl rfl (fun hc181 => ?_) (fun hc181 => ?_)
    rotate_left
    · have hm := iteF hm hc181
      refine WP.skip ?_
      obtain rfl := Option.some.inj hm
      exact WQ.post' ⟨_, _, rfl, hb20, hL21, hS22⟩ ⟨rfl, trivial⟩
    have hm := iteT hm hc181
    refine WP.region ?_
    refine WL.runk 2 [44, 45] [(44, .slice a16 st15.1.length c17), (45, .int .i64 n_1)] (by kernel_rfl) ?_
    refine WL.row fInt 2 ([n_1] : List Int) 1 #[.int .i64 n_1] 46 (by kernel_rfl) rfl rfl rfl rfl rfl rfl rfl ?_
    intro a205 c206 w207 hE208 hR209
    have hb211 : Ext w w207 := Ext.trans hb20 hE208
    have hL212 : w.heap.size ≤ w207.heap.size := Nat.le_trans hL21 hE208.size
    have hS213 : SH w207 w.heap.size [aOwn fInt 2 a205 c206 ([n_1] : List Int), aOwn fInt 2 a16 c17 st15.1] := SH.add hS22 hE208 hL21 hR209
    obtain ⟨x214, hx215, hm⟩ := bindE hm
    refine WL.append (F := fInt) (xs := st15.1) (ys := ([n_1] : List Int)) 47 (SH.front 1 hS213) hL212 (SH.rd (SH.front 0 hS213)) hx215 rfl rfl rfl Try.underlying25 (info2).1 (info2).2.2.1 (info2).2.1 (info2).2.2.2 rfl rfl rfl rfl rfl ?_
    intro a216 c217 w218 hB219 hS220
    have hb221 : Ext w w218 := Below.trans hb211 hB219
    have hL222 : w.heap.size ≤ w218.heap.size := Nat.le_trans hL212 hB219.size
    refine WL.runk 1 [5] [(5, .slice a216 x214.length c217)] (by kernel_rfl) ?_
    refine WL.nil ?_
    obtain rfl := Option.some.inj hm
    exact WQ.post' ⟨_, _, rfl, hb221, hL222, (SH.take 1 hS220)⟩ ⟨rfl, trivial⟩
  have hm := iteT hm hc33
  refine WP.skip ?_
  refine WQ.then_normal (hK31 _ _ _ ?_)
  refine WP.seq (fun K34 hK34 => ?_)
  refine WP.block ?_
  refine WP.seq (fun K35 hK35 => ?_)
  refine WP.seq (fun K36 hK36 => ?_)
  obtain ⟨x40, hx41, hm⟩ := bindE hm
  refine WP.cut (fun env' w' => env' = [(0, .slice a0' list_0.length c0'), (1, .int .i64 n_1), (5, .slice a16 st15.1.length c17), (6, .bool st15.2.1), (7, .int .i64 st15.2.2), (24, .bool x40)] ∧ Ext w w' ∧ w.heap.size ≤ w'.heap.size ∧ SH w' w.heap.size [aOwn fInt 2 a16 c17 st15.1]) ?_ ?_
  · have hm := hx41; clear hx41
    refine WP.region ?_
    refine WL.runk 3 [0, 1, 5, 6, 7, 17] [(0, .slice a0' list_0.length c0'), (1, .int .i64 n_1), (5, .slice a16 st15.1.length c17), (6, .bool st15.2.1), (7, .int .i64 st15.2.2), (17, .bool (!st15.2.1))] (by kernel_rfl) ?_
    refine WL.case (!st15.2.1) [17] ⟨rfl, trivial⟩ (fun hc42 => ?_) (fun hc42 => ?_)
    rotate_left
    · have hm := iteF hm hc42
      refine WL.runk 7 [0, 1, 5, 6, 7, 24] [(0, .slice a0' list_0.length c0'), (1, .int .i64 n_1), (5, .slice a16 st15.1.length c17), (6, .bool st15.2.1), (7, .int .i64 st15.2.2), (24, .bool false)] (by kernel_rfl) ?_
      refine WL.nil ?_
      obtain rfl := Option.some.inj hm
      exact WQ.post' ⟨rfl, hb20, hL21, hS22⟩ ⟨rfl, rfl, rfl, rfl, rfl, rfl, trivial⟩
    have hm := iteT hm hc42
    refine WL.runk 2 [0, 1, 5, 6, 7, 17, 18, 19] [(0, .slice a0' list_0.length c0'), (1, .int .i64 n_1), (5, .slice a16 st15.1.length c17), (6, .bool st15.2.1), (7, .int .i64 st15.2.2), (17, .bool true), (18, .slice a0' list_0.length c0'), (19, .int .i64 st15.2.2)] (by kernel_rfl) ?_
    obtain ⟨x43, hx44, hm⟩ := bindE hm
    refine WL.st (.pointer (some (at_ a0' (Int.toNat st15.2.2 * 1)))) (ST.index (T := fInt.ty) (xs := list_0) (Rd.below h0 hb20) hx44 rfl rfl rfl Try.underlying25 (info2).1 (info2).2.1) rfl rfl rfl ?_
    refine WL.st (.int .i64 x43) (ST.load (cell_ext (Rd.flat (F := fInt) (Rd.below h0 hb20) hx44 0 rfl)) rfl rfl Try.underlying2 rfl) rfl rfl rfl ?_
    refine WL.runk 3 [0, 1, 5, 6, 7, 24] [(0, .slice a0' list_0.length c0'), (1, .int .i64 n_1), (5, .slice a16 st15.1.length c17), (6, .bool st15.2.1), (7, .int .i64 st15.2.2), (24, .bool (decide (x43 ≥ n_1)))] (by kernel_rfl) ?_
    refine WL.nil ?_
    obtain rfl := Option.some.inj hm
    exact WQ.post' ⟨rfl, hb20, hL21, hS22⟩ ⟨rfl, rfl, rfl, rfl, rfl, rfl, trivial⟩
  clear hx41
  rintro _ w45 ⟨rfl, hb46, hL47, hS48⟩
  refine WQ.then_normal (hK36 _ _ _ ?_)
  obtain ⟨x100, hx101, hm⟩ := bindE hm
  refine WP.cut (fun env' w' => ∃ (a102 : Option Addr) (c103 : Nat), env' = [(0, .slice a0' list_0.length c0'), (1, .int .i64 n_1), (5, .slice a102 x100.1.length c103), (6, .bool x100.2), (7, .int .i64 st15.2.2)] ∧ Ext w w' ∧ w.heap.size ≤ w'.heap.size ∧ SH w' w.heap.size [aOwn fInt 2 a102 c103 x100.1]) ?_ ?_
  rotate_left
  · clear hx101
    rintro _ w155 ⟨a102, c103, rfl, hb156, hL157, hS158⟩
    refine WQ.then_normal (hK35 _ _ _ ?_)
    refine WP.region ?_
    refine WL.runk 3 [0, 1, 6, 7, 35, 36, 37] [(0, .slice a0' list_0.length c0'), (1, .int .i64 n_1), (6, .bool x100.2), (7, .int .i64 st15.2.2), (35, .slice a102 x100.1.length c103), (36, .slice a0' list_0.length c0'), (37, .int .i64 st15.2.2)] (by kernel_rfl) ?_
    obtain ⟨x159, hx160, hm⟩ := bindE hm
    refine WL.st (.pointer (some (at_ a0' (Int.toNat st15.2.2 * 1)))) (ST.index (T := fInt.ty) (xs := list_0) (Rd.below h0 hb156) hx160 rfl rfl rfl Try.underlying25 (info2).1 (info2).2.1) rfl rfl rfl ?_
    refine WL.st (.int .i64 x159) (ST.load (cell_ext (Rd.flat (F := fInt) (Rd.below h0 hb156) hx160 0 rfl)) rfl rfl Try.underlying2 rfl) rfl rfl rfl ?_
    refine WL.row fInt 2 ([x159] : List Int) 1 #[.int .i64 x159] 40 (by kernel_rfl) rfl rfl rfl rfl rfl rfl rfl ?_
    intro a161 c162 w163 hE164 hR165
    have hb167 : Ext w w163 := Ext.trans hb156 hE164
    have hL168 : w.heap.size ≤ w163.heap.size := Nat.le_trans hL157 hE164.size
    have hS169 : SH w163 w.heap.size [aOwn fInt 2 a161 c162 ([x159] : List Int), aOwn fInt 2 a102 c103 x100.1] := SH.add hS158 hE164 hL157 hR165
    obtain ⟨x170, hx171, hm⟩ := bindE hm
    refine WL.append (F := fInt) (xs := x100.1) (ys := ([x159] : List Int)) 41 (SH.front 1 hS169) hL168 (SH.rd (SH.front 0 hS169)) hx171 rfl rfl rfl Try.underlying25 (info2).1 (info2).2.2.1 (info2).2.1 (info2).2.2.2 rfl rfl rfl rfl rfl ?_
    intro a172 c173 w174 hB175 hS176
    have hb177 : Ext w w174 := Below.trans hb167 hB175
    have hL178 : w.heap.size ≤ w174.heap.size := Nat.le_trans hL168 hB175.size
    refine WL.runk 1 [0, 1, 5, 6, 7] [(0, .slice a0' list_0.length c0'), (1, .int .i64 n_1), (6, .bool x100.2), (7, .int .i64 st15.2.2), (5, .slice a172 x170.length c173)] (by kernel_rfl) ?_
    refine WL.nil ?_
    refine WQ.block_normal ?_
    refine WQ.then_normal (hK34 _ _ _ ?_)
    refine WP.region ?_
    refine WL.runk 3 [0, 1, 5, 6, 7] [(0, .slice a0' list_0.length c0'), (1, .int .i64 n_1), (6, .bool x100.2), (7, .int .i64 (wI64 (st15.2.2 + 1))), (5, .slice a172 x170.length c173)] (by kernel_rfl) ?_
    refine WL.nil ?_
    obtain rfl := Option.some.inj hm
    exact WQ.round hK25 ⟨(x170, x100.2, (wI64 (st15.2.2 + 1))), _, _, rfl, hb177, hL178, (SH.take 1 hS176), hl23⟩ (Nat.lt_succ_self _) ⟨rfl, rfl, rfl, rfl, rfl, trivial⟩
  have hm := hx101; clear hx101
  refine WP.cond x40 rfl rfl (fun hc49 => ?_) (fun hc49 => ?_)
  rotate_left
  · have hm := iteF hm hc49
    refine WP.skip ?_
    obtain rfl := Option.some.inj hm
    exact WQ.post' ⟨_, _, rfl, hb46, hL47, hS48⟩ ⟨rfl, rfl, rfl, rfl, rfl, trivial⟩
  have hm := iteT hm hc49
  refine WP.seq (fun K105 hK105 => ?_)
  refine WP.region ?_
  refine WL.runk 1 [0, 1, 5, 6, 7] [(0, .slice a0' list_0.length c0'), (1, .int .i64 n_1), (5, .slice a16 st15.1.length c17), (6, .bool true), (7, .int .i64 st15.2.2)] (by kernel_rfl) ?_
  refine WL.nil ?_
  refine WQ.then_normal (hK105 _ _ _ ?_)
  refine WP.seq (fun K106 hK106 => ?_)
  refine WP.region ?_
  refine WL.runk 2 [0, 1, 5, 6, 7, 25, 26] [(0, .slice a0' list_0.length c0'), (1, .int .i64 n_1), (5, .slice a16 st15.1.length c17), (6, .bool true), (7, .int .i64 st15.2.2), (25, .slice a0' list_0.length c0'), (26, .int .i64 st15.2.2)] (by kernel_rfl) ?_
  obtain ⟨x107, hx108, hm⟩ := bindE hm
  refine WL.st (.pointer (some (at_ a0' (Int.toNat st15.2.2 * 1)))) (ST.index (T := fInt.ty) (xs := list_0) (Rd.below h0 hb46) hx108 rfl rfl rfl Try.underlying25 (info2).1 (info2).2.1) rfl rfl rfl ?_
  refine WL.st (.int .i64 x107) (ST.load (cell_ext (Rd.flat (F := fInt) (Rd.below h0 hb46) hx108 0 rfl)) rfl rfl Try.underlying2 rfl) rfl rfl rfl ?_
  refine WL.runk 2 [0, 1, 5, 6, 7, 30] [(0, .slice a0' list_0.length c0'), (1, .int .i64 n_1), (5, .slice a16 st15.1.length c17), (6, .bool true), (7, .int .i64 st15.2.2), (30, .bool (decide (x107 > n_1)))] (by kernel_rfl) ?_
  refine WL.nil ?_
  refine WQ.then_normal (hK106 _ _ _ ?_)
  obtain ⟨x128, hx129, hm⟩ := bindE hm
  refine WP.cut (fun env' w' => ∃ (a130 : Option Addr) (c131 : Nat), env' = [(0, .slice a0' list_0.length c0'), (1, .int .i64 n_1), (5, .slice a130 x128.length c131), (6, .bool true), (7, .int .i64 st15.2.2)] ∧ Ext w w' ∧ w.heap.size ≤ w'.heap.size ∧ SH w' w.heap.size [aOwn fInt 2 a130 c131 x128]) ?_ ?_
  rotate_left
  · clear hx129
    rintro _ w151 ⟨a130, c131, rfl, hb152, hL153, hS154⟩
    obtain rfl := Option.some.inj hm
    exact WQ.post' ⟨_, _, rfl, hb152, hL153, hS154⟩ ⟨rfl, rfl, rfl, rfl, rfl, trivial⟩
  have hm := hx129; clear hx129
  refine WP.cond (decide (x107 > n_1)) rfl rfl (fun hc109 => ?_) (fun hc109 => ?_)
  rotate_left
  · have hm := iteF hm hc109
    refine WP.skip ?_
    obtain rfl := Option.some.inj hm
    exact WQ.post' ⟨_, _, rfl, hb46, hL47, hS48⟩ ⟨rfl, rfl, rfl, rfl, rfl, trivial⟩
  have hm := iteT hm hc109
  refine WP.region ?_
  refine WL.runk 2 [0, 1, 6, 7, 31, 32] [(0, .slice a0' list_0.length c0'), (1, .int .i64 n_1), (6, .bool true), (7, .int .i64 st15.2.2), (31, .slice a16 st15.1.length c17), (32, .int .i64 n_1)] (by kernel_rfl) ?_
  refine WL.row fInt 2 ([n_1] : List Int) 1 #[.int .i64 n_1] 33 (by kernel_rfl) rfl rfl rfl rfl rfl rfl rfl ?_
  intro a133 c134 w135 hE136 hR137
  have hb139 : Ext w w135 := Ext.trans hb46 hE136
  have hL140 : w.heap.size ≤ w135.heap.size := Nat.le_trans hL47 hE136.size
  have hS141 : SH w135 w.heap.size [aOwn fInt 2 a133 c134 ([n_1] : List Int), aOwn fInt 2 a16 c17 st15.1] := SH.add hS48 hE136 hL47 hR137
  obtain ⟨x142, hx143, hm⟩ := bindE hm
  refine WL.append (F := fInt) (xs := st15.1) (ys := ([n_1] : List Int)) 34 (SH.front 1 hS141) hL140 (SH.rd (SH.front 0 hS141)) hx143 rfl rfl rfl Try.underlying25 (info2).1 (info2).2.2.1 (info2).2.1 (info2).2.2.2 rfl rfl rfl rfl rfl ?_
  intro a144 c145 w146 hB147 hS148
  have hb149 : Ext w w146 := Below.trans hb139 hB147
  have hL150 : w.heap.size ≤ w146.heap.size := Nat.le_trans hL140 hB147.size
  refine WL.runk 1 [0, 1, 5, 6, 7] [(0, .slice a0' list_0.length c0'), (1, .int .i64 n_1), (6, .bool true), (7, .int .i64 st15.2.2), (5, .slice a144 x142.length c145)] (by kernel_rfl) ?_
  refine WL.nil ?_
  obtain rfl := Option.some.inj hm
  exact WQ.post' ⟨_, _, rfl, hb149, hL150, (SH.take 1 hS148)⟩ ⟨rfl, rfl, rfl, rfl, rfl, trivial⟩

theorem c_84 (n : Nat) (list_0 : List SRepair) (a0' : Option Addr) (c0' : Nat) (some_1 : List Int) (a1' : Option Addr) (c1' : Nat) (w : World) {r : List Int} (hm : m_spec_l21With n list_0 some_1 = some r) (h0 : Rd fRepair.ty w a0' list_0) (_hle0 : list_0.length ≤ c0') (h1 : Rd fInt.ty w a1' some_1) (hle1 : some_1.length ≤ c1') :
    CallV Try.prog 84 #[.slice a0' list_0.length c0', .slice a1' some_1.length c1'] w (fun v w' => ∃ (ra0 : Option Addr) (rc0 : Nat), v = .slice ra0 r.length rc0 ∧ Ext w w' ∧ SH w' w.heap.size [aOwn fInt 2 ra0 rc0 r]) := by
  unfold m_spec_l21With at hm
  refine CallV.enter Try.func84 rfl (by kernel_rfl) Try.ntmps84 (env := [(0, .slice a0' list_0.length c0'), (1, .slice a1' some_1.length c1')]) ⟨rfl, rfl, trivial⟩ ?_
  refine WP.seq (fun K1 hK1 => ?_)
  refine WP.region ?_
  refine WL.runk 1 [0, 1] [(0, .slice a0' list_0.length c0'), (1, .slice a1' some_1.length c1')] (by kernel_rfl) ?_
  refine WL.nil ?_
  refine WQ.then_normal (hK1 _ _ _ ?_)
  refine WP.seq (fun K2 hK2 => ?_)
  refine WP.region ?_
  refine WL.runk 1 [0, 8] [(0, .slice a0' list_0.length c0'), (8, .slice a1' some_1.length c1')] (by kernel_rfl) ?_
  obtain ⟨x3, hx4, hm⟩ := bindE hm
  refine WL.call 59 #[.slice a1' some_1.length c1'] rfl rfl (by kernel_rfl) (c_59 n some_1 a1' c1' w hx4 (Rd.below h1 (Ext.refl w)) hle1) ?_
  rintro _ w8 ⟨a5, c6, rfl, hE9, hR10⟩
  refine ⟨_, rfl, ?_⟩
  have hb11 : Ext w w8 := Ext.trans (Ext.refl w) hE9
  have hL12 : w.heap.size ≤ w8.heap.size := Nat.le_trans (Nat.le_refl _) hE9.size
  have hS13 : SH w8 w.heap.size [aOwn fInt 2 a5 c6 x3] := SH.add (SH.nil _ _) hE9 (Nat.le_refl _) hR10
  refine WL.runk 1 [0, 5] [(0, .slice a0' list_0.length c0'), (5, .slice a5 x3.length c6)] (by kernel_rfl) ?_
  refine WL.nil ?_
  refine WQ.then_normal (hK2 _ _ _ ?_)
  refine WP.seq (fun K14 hK14 => ?_)
  refine WP.seq (fun K15 hK15 => ?_)
  refine WP.region ?_
  refine WL.runk 4 [0, 5, 6] [(0, .slice a0' list_0.length c0'), (5, .slice a5 x3.length c6), (6, .int .i64 (wI64 ((list_0.length : Int) - 1)))] (by kernel_rfl) ?_
  refine WL.nil ?_
  refine WQ.then_normal (hK15 _ _ _ ?_)
  refine WP.block ?_
  obtain ⟨t30, ht31, hm⟩ := bindE hm
  have hmo25 := hm; clear hm
  refine WP.sub [(0, .slice a0' list_0.length c0'), (5, .slice a5 x3.length c6), (6, .int .i64 (wI64 ((list_0.length : Int) - 1)))] ⟨rfl, rfl, rfl, trivial⟩ ?_
  refine WP.loop (fun n' env' w' => ∃ (st16 : List Int × Int) (a17 : Option Addr) (c18 : Nat), env' = [(0, .slice a0' list_0.length c0'), (5, .slice a17 st16.1.length c18), (6, .int .i64 st16.2)] ∧ Ext w w' ∧ w.heap.size ≤ w'.heap.size ∧ SH w' w.heap.size [aOwn fInt 2 a17 c18 st16.1] ∧ loopN (m_spec_l21With_l1 n list_0) n' st16 = some t30) n ⟨(x3, (wI64 ((list_0.length : Int) - 1))), _, _, rfl, hb11, hL12, hS13, ht31⟩ ?_
  rintro n27 _ w20 ⟨st16, a17, c18, rfl, hb21, hL22, hS23, hl24⟩ K26 hK26
  obtain ⟨n28, s29, rfl, hm, hl24⟩ := loopN_some hl24
  unfold m_spec_l21With_l1 at hm
  refine WP.seq (fun K32 hK32 => ?_)
  refine WP.seq (fun K33 hK33 => ?_)
  refine WP.region ?_
  refine WL.runk 2 [0, 5, 6, 14] [(0, .slice a0' list_0.length c0'), (5, .slice a17 st16.1.length c18), (6, .int .i64 st16.2), (14, .bool (decide (st16.2 ≥ 0)))] (by kernel_rfl) ?_
  refine WL.nil ?_
  refine WQ.then_normal (hK33 _ _ _ ?_)
  refine WP.cond (decide (st16.2 ≥ 0)) rfl rfl (fun hc34 => ?_) (fun hc34 => ?_)
  rotate_left
  · have hm := iteF hm hc34
    refine WP.exit ?_
    refine WQ.then_exit ?_
    refine WQ.then_exit ?_
    refine WQ.block_here ?_
    obtain rfl := Option.some.inj hm
    obtain rfl := afterN_done hl24
    have hm := hmo25
    refine WQ.then_normal (hK14 _ _ _ ?_)
    refine WP.seq (fun K183 hK183 => ?_)
    refine WP.region ?_
    refine WL.runk 2 [4] [(4, .slice a17 st16.1.length c18)] (by kernel_rfl) ?_
    refine WL.nil ?_
    refine WQ.then_normal (hK183 _ _ _ ?_)
    refine WP.ret ?_
    obtain rfl := Option.some.inj hm
    exact WQ.ret1 _ rfl rfl ⟨_, _, rfl, hb21, hS23⟩
  have hm := iteT hm hc34
  refine WP.skip ?_
  refine WQ.then_normal (hK32 _ _ _ ?_)
  refine WP.seq (fun K35 hK35 => ?_)
  refine WP.block ?_
  refine WP.seq (fun K36 hK36 => ?_)
  refine WP.region ?_
  refine WL.runk 2 [0, 5, 6, 17, 18] [(0, .slice a0' list_0.length c0'), (5, .slice a17 st16.1.length c18), (6, .int .i64 st16.2), (17, .slice a17 st16.1.length c18), (18, .int .i64 st16.2)] (by kernel_rfl) ?_
  obtain ⟨x37, hx38, hm⟩ := bindE hm
  refine WL.call 81 #[.slice a17 st16.1.length c18, .int .i64 st16.2] rfl rfl (by kernel_rfl) (c_81 n st16.1 a17 c18 st16.2 w20 hx38 (SH.rd (SH.front 0 hS23)) (SH.le (SH.front 0 hS23)).1) ?_
  rintro _ w39 ⟨rfl, hE40⟩
  refine ⟨_, rfl, ?_⟩
  have hb42 : Ext w w39 := Ext.trans hb21 hE40
  have hL43 : w.heap.size ≤ w39.heap.size := Nat.le_trans hL22 hE40.size
  have hS44 : SH w39 w.heap.size [aOwn fInt 2 a17 c18 st16.1] := SH.ext hS23 hE40
  refine WL.sub [(0, .slice a0' list_0.length c0'), (5, .slice a17 st16.1.length c18), (6, .int .i64 st16.2), (19, .bool x37)] ⟨rfl, rfl, rfl, rfl, trivial⟩ ?_
  refine WL.nil ?_
  refine WQ.then_normal (hK36 _ _ _ ?_)
  obtain ⟨x110, hx111, hm⟩ := bindE hm
  refine WP.cut (fun env' w' => ∃ (a112 : Option Addr) (c113 : Nat), env' = [(0, .slice a0' list_0.length c0'), (5, .slice a112 x110.length c113), (6, .int .i64 st16.2)] ∧ Ext w w' ∧ w.heap.size ≤ w'.heap.size ∧ SH w' w.heap.size [aOwn fInt 2 a112 c113 x110]) ?_ ?_
  rotate_left
  · clear hx111
    rintro _ w179 ⟨a112, c113, rfl, hb180, hL181, hS182⟩
    refine WQ.block_normal ?_
    refine WQ.then_normal (hK35 _ _ _ ?_)
    refine WP.region ?_
    refine WL.runk 3 [0, 5, 6] [(0, .slice a0' list_0.length c0'), (5, .slice a112 x110.length c113), (6, .int .i64 (wI64 (st16.2 - 1)))] (by kernel_rfl) ?_
    refine WL.nil ?_
    obtain rfl := Option.some.inj hm
    exact WQ.round hK26 ⟨(x110, (wI64 (st16.2 - 1))), _, _, rfl, hb180, hL181, hS182, hl24⟩ (Nat.lt_succ_self _) ⟨rfl, rfl, rfl, trivial⟩
  have hm := hx111; clear hx111
  refine WP.cond x37 rfl rfl (fun hc45 => ?_) (fun hc45 => ?_)
  rotate_left
  · have hm := iteF hm hc45
    refine WP.skip ?_
    obtain rfl := Option.some.inj hm
    exact WQ.post' ⟨_, _, rfl, hb42, hL43, hS44⟩ ⟨rfl, rfl, rfl, trivial⟩
  have hm := iteT hm hc45
  refine WP.seq (fun K115 hK115 => ?_)
  refine WP.region ?_
  refine WL.runk 1 [0, 5, 6, 7] [(0, .slice a0' list_0.length c0'), (5, .slice a17 st16.1.length c18), (6, .int .i64 st16.2), (7, .int .i64 0)] (by kernel_rfl) ?_
  refine WL.nil ?_
  refine WQ.then_normal (hK115 _ _ _ ?_)
  refine WP.block ?_
  obtain ⟨t130, ht131, hm⟩ := bindE hm
  have hmo125 := hm; clear hm
  refine WP.sub [(0, .slice a0' list_0.length c0'), (5, .slice a17 st16.1.length c18), (6, .int .i64 st16.2), (7, .int .i64 0)] ⟨rfl, rfl, rfl, rfl, trivial⟩ ?_
  refine WP.loop (fun n' env' w' => ∃ (st116 : List Int × Int) (a117 : Option Addr) (c118 : Nat), env' = [(0, .slice a0' list_0.length c0'), (5, .slice a117 st116.1.length c118), (6, .int .i64 st16.2), (7, .int .i64 st116.2)] ∧ Ext w w' ∧ w.heap.size ≤ w'.heap.size ∧ SH w' w.heap.size [aOwn fInt 2 a117 c118 st116.1] ∧ loopN (m_spec_l21With_l3 n list_0 st16) n' st116 = some t130) n ⟨(st16.1, 0), _, _, rfl, hb42, hL43, hS44, ht131⟩ ?_
  rintro n127 _ w120 ⟨st116, a117, c118, rfl, hb121, hL122, hS123, hl124⟩ K126 hK126
  obtain ⟨n128, s129, rfl, hm, hl124⟩ := loopN_some hl124
  unfold m_spec_l21With_l3 at hm
  refine WP.seq (fun K132 hK132 => ?_)
  refine WP.seq (fun K133 hK133 => ?_)
  refine WP.region ?_
  refine WL.runk 3 [0, 5, 6, 7, 20, 21, 22] [(0, .slice a0' list_0.length c0'), (5, .slice a117 st116.1.length c118), (6, .int .i64 st16.2), (7, .int .i64 st116.2), (20, .int .i64 st116.2), (21, .slice a0' list_0.length c0'), (22, .int .i64 st16.2)] (by kernel_rfl) ?_
  obtain ⟨x134, hx135, hm⟩ := bindE hm
  obtain ⟨a136, c137, a141, c142, hc146, hR138, hle139, hR143, hle144⟩ := nest_Repair h0 hx135
  refine WL.st (.pointer (some (at_ a0' (Int.toNat st16.2 * 5)))) (ST.index (T := fRepair.ty) (xs := list_0) (Rd.below h0 hb121) hx135 rfl rfl rfl Try.underlying24 (info73).1 (info73).2.1) rfl rfl rfl ?_
  refine WL.runk 1 [0, 5, 6, 7, 20, 24] [(0, .slice a0' list_0.length c0'), (5, .slice a117 st116.1.length c118), (6, .int .i64 st16.2), (7, .int .i64 st116.2), (20, .int .i64 st116.2), (24, .pointer (some (at_ a0' (Int.toNat st16.2 * 5 + 2))))] (by kernel_rfl) ?_
  refine WL.st (.slice a141 x134.First.length c142) (ST.load (cell_ext ((cells_ext hc146 hb121) 2 _ rfl)) rfl rfl Try.underlying25 rfl) rfl rfl rfl ?_
  refine WL.runk 2 [0, 5, 6, 7, 27] [(0, .slice a0' list_0.length c0'), (5, .slice a117 st116.1.length c118), (6, .int .i64 st16.2), (7, .int .i64 st116.2), (27, .bool (decide (st116.2 < (x134.First.length : Int))))] (by kernel_rfl) ?_
  refine WL.nil ?_
  refine WQ.then_normal (hK133 _ _ _ ?_)
  refine WP.cond (decide (st116.2 < (x134.First.length : Int))) rfl rfl (fun hc147 => ?_) (fun hc147 => ?_)
  rotate_left
  · have hm := iteF hm hc147
    refine WP.exit ?_
    refine WQ.then_exit ?_
    refine WQ.then_exit ?_
    refine WQ.block_here ?_
    obtain rfl := Option.some.inj hm
    obtain rfl := afterN_done hl124
    have hm := hmo125
    obtain rfl := Option.some.inj hm
    exact WQ.post' ⟨_, _, rfl, hb121, hL122, hS123⟩ ⟨rfl, rfl, rfl, trivial⟩
  have hm := iteT hm hc147
  refine WP.skip ?_
  refine WQ.then_normal (hK132 _ _ _ ?_)
  refine WP.seq (fun K148 hK148 => ?_)
  refine WP.block ?_
  refine WP.region ?_
  refine WL.runk 3 [0, 6, 7, 30, 31, 32] [(0, .slice a0' list_0.length c0'), (6, .int .i64 st16.2), (7, .int .i64 st116.2), (30, .slice a117 st116.1.length c118), (31, .slice a0' list_0.length c0'), (32, .int .i64 st16.2)] (by kernel_rfl) ?_
  obtain ⟨x149, hx150, hm⟩ := bindE hm
  obtain ⟨a151, c152, a156, c157, hc161, hR153, hle154, hR158, hle159⟩ := nest_Repair h0 hx150
  refine WL.st (.pointer (some (at_ a0' (Int.toNat st16.2 * 5)))) (ST.index (T := fRepair.ty) (xs := list_0) (Rd.below h0 hb121) hx150 rfl rfl rfl Try.underlying24 (info73).1 (info73).2.1) rfl rfl rfl ?_
  refine WL.runk 1 [0, 6, 7, 30, 34] [(0, .slice a0' list_0.length c0'), (6, .int .i64 st16.2), (7, .int .i64 st116.2), (30, .slice a117 st116.1.length c118), (34, .pointer (some (at_ a0' (Int.toNat st16.2 * 5 + 2))))] (by kernel_rfl) ?_
  refine WL.st (.slice a156 x149.First.length c157) (ST.load (cell_ext ((cells_ext hc161 hb121) 2 _ rfl)) rfl rfl Try.underlying25 rfl) rfl rfl rfl ?_
  refine WL.runk 1 [0, 6, 7, 30, 35, 36] [(0, .slice a0' list_0.length c0'), (6, .int .i64 st16.2), (7, .int .i64 st116.2), (30, .slice a117 st116.1.length c118), (35, .slice a156 x149.First.length c157), (36, .int .i64 st116.2)] (by kernel_rfl) ?_
  obtain ⟨x162, hx163, hm⟩ := bindE hm
  refine WL.st (.pointer (some (at_ a156 (Int.toNat st116.2 * 1)))) (ST.index (T := fInt.ty) (xs := x149.First) (Rd.below hR158 hb121) hx163 rfl rfl rfl Try.underlying25 (info2).1 (info2).2.1) rfl rfl rfl ?_
  refine WL.st (.int .i64 x162) (ST.load (cell_ext (Rd.flat (F := fInt) (Rd.below hR158 hb121) hx163 0 rfl)) rfl rfl Try.underlying2 rfl) rfl rfl rfl ?_
  obtain ⟨x164, hx165, hm⟩ := bindE hm
  refine WL.call 107 #[.slice a117 st116.1.length c118, .int .i64 x162] rfl rfl (by kernel_rfl) (c_107 n st116.1 a117 c118 x162 w120 hx165 (SH.rd (SH.front 0 hS123)) (SH.le (SH.front 0 hS123)).1) ?_
  rintro _ w169 ⟨a166, c167, rfl, hE170, hR171⟩
  refine ⟨_, rfl, ?_⟩
  have hb172 : Ext w w169 := Ext.trans hb121 hE170
  have hL173 : w.heap.size ≤ w169.heap.size := Nat.le_trans hL122 hE170.size
  have hS174 : SH w169 w.heap.size [aOwn fInt 2 a166 c167 x164, aOwn fInt 2 a117 c118 st116.1] := SH.add hS123 hE170 hL122 hR171
  refine WL.runk 1 [0, 5, 6, 7] [(0, .slice a0' list_0.length c0'), (6, .int .i64 st16.2), (7, .int .i64 st116.2), (5, .slice a166 x164.length c167)] (by kernel_rfl) ?_
  refine WL.nil ?_
  refine WQ.block_normal ?_
  refine WQ.then_normal (hK148 _ _ _ ?_)
  refine WP.region ?_
  refine WL.runk 3 [0, 5, 6, 7] [(0, .slice a0' list_0.length c0'), (6, .int .i64 st16.2), (7, .int .i64 (wI64 (st116.2 + 1))), (5, .slice a166 x164.length c167)] (by kernel_rfl) ?_
  refine WL.nil ?_
  obtain rfl := Option.some.inj hm
  exact WQ.round hK126 ⟨(x164, (wI64 (st116.2 + 1))), _, _, rfl, hb172, hL173, (SH.take 1 hS174), hl124⟩ (Nat.lt_succ_self _) ⟨rfl, rfl, rfl, rfl, trivial⟩

theorem c_64 (n : Nat) (n_0 : Int) (low_1 : Int) (high_2 : Int) (w : World) {r : Bool} (hm : m_impl_within n n_0 low_1 high_2 = some r)  :
    CallV Try.prog 64 #[.int .i64 n_0, .int .i64 low_1, .int .i64 high_2] w (fun v w' => v = .bool r ∧ Ext w w') := by
  unfold m_impl_within at hm
  refine CallV.enter Try.func64 rfl (by kernel_rfl) Try.ntmps64 (env := [(0, .int .i64 n_0), (1, .int .i64 low_1), (2, .int .i64 high_2)]) ⟨rfl, rfl, rfl, trivial⟩ ?_
  refine WP.seq (fun K1 hK1 => ?_)
  refine WP.region ?_
  refine WL.runk 1 [0, 1, 2] [(0, .int .i64 n_0), (1, .int .i64 low_1), (2, .int .i64 high_2)] (by kernel_rfl) ?_
  refine WL.nil ?_
  refine WQ.then_normal (hK1 _ _ _ ?_)
  refine WP.seq (fun K2 hK2 => ?_)
  obtain ⟨x4, hx5, hm⟩ := bindE hm
  refine WP.cut (fun env' w' => env' = [(6, .bool x4)] ∧ Ext w w' ∧ w.heap.size ≤ w'.heap.size ∧ SH w' w.heap.size []) ?_ ?_
  rotate_left
  · clear hx5
    rintro _ w7 ⟨rfl, hb8, hL9, hS10⟩
    refine WQ.then_normal (hK2 _ _ _ ?_)
    refine WP.ret ?_
    obtain rfl := Option.some.inj hm
    exact WQ.ret1 _ rfl rfl ⟨rfl, hb8⟩
  have hm := hx5; clear hx5
  refine WP.region ?_
  refine WL.runk 4 [0, 2, 10] [(0, .int .i64 n_0), (2, .int .i64 high_2), (10, .bool (decide (n_0 ≥ low_1)))] (by kernel_rfl) ?_
  refine WL.case (decide (n_0 ≥ low_1)) [10] ⟨rfl, trivial⟩ (fun hc6 => ?_) (fun hc6 => ?_)
  · have hm := iteT hm hc6
    refine WL.runk 5 [6] [(6, .bool (decide (n_0 ≤ high_2)))] (by kernel_rfl) ?_
    refine WL.nil ?_
    obtain rfl := Option.some.inj hm
    exact WQ.post' ⟨rfl, (Ext.refl w), (Nat.le_refl _), (SH.nil _ _)⟩ ⟨rfl, trivial⟩
  have hm := iteF hm hc6
  refine WL.runk 5 [6] [(6, .bool false)] (by kernel_rfl) ?_
  refine WL.nil ?_
  obtain rfl := Option.some.inj hm
  exact WQ.post' ⟨rfl, (Ext.refl w), (Nat.le_refl _), (SH.nil _ _)⟩ ⟨rfl, trivial⟩

theorem c_75 (n : Nat) (s_0 : List UInt8) (w : World) {r : Bool} (hm : m_impl_IsName n s_0 = some r)  :
    CallV Try.prog 75 #[.string (bs s_0)] w (fun v w' => v = .bool r ∧ Ext w w') := by
  unfold m_impl_IsName at hm
  refine CallV.enter Try.func75 rfl (by kernel_rfl) Try.ntmps75 (env := [(0, .string (bs s_0))]) ⟨rfl, trivial⟩ ?_
  refine WP.seq (fun K1 hK1 => ?_)
  refine WP.region ?_
  refine WL.runk 1 [0] [(0, .string (bs s_0))] (by kernel_rfl) ?_
  refine WL.nil ?_
  refine WQ.then_normal (hK1 _ _ _ ?_)
  refine WP.seq (fun K2 hK2 => ?_)
  refine WP.seq (fun K3 hK3 => ?_)
  obtain ⟨x11, hx12, hm⟩ := bindE hm
  refine WP.cut (fun env' w' => env' = [(0, .string (bs s_0)), (21, .bool x11)] ∧ Ext w w' ∧ w.heap.size ≤ w'.heap.size ∧ SH w' w.heap.size []) ?_ ?_
  · have hm := hx12; clear hx12
    refine WP.region ?_
    refine WL.runk 4 [0, 7] [(0, .string (bs s_0)), (7, .bool (decide ((s_0.length : Int) < 1)))] (by kernel_rfl) ?_
    refine WL.case (decide ((s_0.length : Int) < 1)) [7] ⟨rfl, trivial⟩ (fun hc13 => ?_) (fun hc13 => ?_)
    · have hm := iteT hm hc13
      refine WL.runk 14 [0, 21] [(0, .string (bs s_0)), (21, .bool true)] (by kernel_rfl) ?_
      refine WL.nil ?_
      obtain rfl := Option.some.inj hm
      exact WQ.post' ⟨rfl, (Ext.refl w), (Nat.le_refl _), (SH.nil _ _)⟩ ⟨rfl, rfl, trivial⟩
    have hm := iteF hm hc13
    refine WL.runk 5 [0, 12] [(0, .string (bs s_0)), (12, .bool (decide ((s_0.length : Int) > 12)))] (by kernel_rfl) ?_
    refine WL.case (decide ((s_0.length : Int) > 12)) [12] ⟨rfl, trivial⟩ (fun hc14 => ?_) (fun hc14 => ?_)
    · have hm := iteT hm hc14
      refine WL.runk 9 [0, 21] [(0, .string (bs s_0)), (21, .bool true)] (by kernel_rfl) ?_
      refine WL.nil ?_
      obtain rfl := Option.some.inj hm
      exact WQ.post' ⟨rfl, (Ext.refl w), (Nat.le_refl _), (SH.nil _ _)⟩ ⟨rfl, rfl, trivial⟩
    have hm := iteF hm hc14
    refine WL.runk 1 [0, 12, 13] [(0, .string (bs s_0)), (12, .bool false), (13, .string (bs s_0))] (by kernel_rfl) ?_
    obtain ⟨x15, hx16, hm⟩ := bindE hm
    refine WL.st (.int .u8 (x15.toNat : Int)) (ST.sindex hx16 rfl rfl rfl Try.underlying9) rfl rfl rfl ?_
    refine WL.runk 3 [0, 17] [(0, .string (bs s_0)), (17, .bool (decide ((x15.toNat : Int) < 97)))] (by kernel_rfl) ?_
    refine WL.case (decide ((x15.toNat : Int) < 97)) [17] ⟨rfl, trivial⟩ (fun hc17 => ?_) (fun hc17 => ?_)
    · have hm := iteT hm hc17
      refine WL.runk 4 [0, 21] [(0, .string (bs s_0)), (21, .bool true)] (by kernel_rfl) ?_
      refine WL.nil ?_
      obtain rfl := Option.some.inj hm
      exact WQ.post' ⟨rfl, (Ext.refl w), (Nat.le_refl _), (SH.nil _ _)⟩ ⟨rfl, rfl, trivial⟩
    have hm := iteF hm hc17
    refine WL.runk 1 [0, 17, 18] [(0, .string (bs s_0)), (17, .bool false), (18, .string (bs s_0))] (by kernel_rfl) ?_
    obtain ⟨x18, hx19, hm⟩ := bindE hm
    refine WL.st (.int .u8 (x18.toNat : Int)) (ST.sindex hx19 rfl rfl rfl Try.underlying9) rfl rfl rfl ?_
    refine WL.runk 2 [0, 21] [(0, .string (bs s_0)), (21, .bool (decide ((x18.toNat : Int) > 122)))] (by kernel_rfl) ?_
    refine WL.nil ?_
    obtain rfl := Option.some.inj hm
    exact WQ.post' ⟨rfl, (Ext.refl w), (Nat.le_refl _), (SH.nil _ _)⟩ ⟨rfl, rfl, trivial⟩
  clear hx12
  rintro _ w20 ⟨rfl, hb21, hL22, hS23⟩
  refine WQ.then_normal (hK3 _ _ _ ?_)
  refine WP.cond x11 rfl rfl (fun hc24 => ?_) (fun hc24 => ?_)
  · have hm := iteT hm hc24
    refine WP.seq (fun K25 hK25 => ?_)
    refine WP.region ?_
    refine WL.runk 1 [2] [(2, .bool false)] (by kernel_rfl) ?_
    refine WL.nil ?_
    refine WQ.then_normal (hK25 _ _ _ ?_)
    refine WP.ret ?_
    refine WQ.then_ret ?_
    obtain rfl := Option.some.inj hm
    exact WQ.ret1 _ rfl rfl ⟨rfl, hb21⟩
  have hm := iteF hm hc24
  refine WP.skip ?_
  refine WQ.then_normal (hK2 _ _ _ ?_)
  refine WP.seq (fun K26 hK26 => ?_)
  refine WP.seq (fun K27 hK27 => ?_)
  refine WP.region ?_
  refine WL.runk 1 [0, 3] [(0, .string (bs s_0)), (3, .int .i64 1)] (by kernel_rfl) ?_
  refine WL.nil ?_
  refine WQ.then_normal (hK27 _ _ _ ?_)
  refine WP.block ?_
  obtain ⟨t39, ht40, hm⟩ := bindE hm
  have hmo34 := hm; clear hm
  refine WP.sub [(0, .string (bs s_0)), (3, .int .i64 1)] ⟨rfl, rfl, trivial⟩ ?_
  refine WP.loop (fun n' env' w' => ∃ (st28 : Int) , env' = [(0, .string (bs s_0)), (3, .int .i64 st28)] ∧ Ext w w' ∧ w.heap.size ≤ w'.heap.size ∧ SH w' w.heap.size [] ∧ loopN (m_impl_IsName_l1 n s_0) n' st28 = some t39) n ⟨1, rfl, hb21, hL22, hS23, ht40⟩ ?_
  rintro n36 _ w29 ⟨st28, rfl, hb30, hL31, hS32, hl33⟩ K35 hK35
  obtain ⟨n37, s38, rfl, hm, hl33⟩ := loopN_some hl33
  unfold m_impl_IsName_l1 at hm
  refine WP.seq (fun K41 hK41 => ?_)
  refine WP.seq (fun K42 hK42 => ?_)
  refine WP.region ?_
  refine WL.runk 4 [0, 3, 25] [(0, .string (bs s_0)), (3, .int .i64 st28), (25, .bool (decide (st28 < (s_0.length : Int))))] (by kernel_rfl) ?_
  refine WL.nil ?_
  refine WQ.then_normal (hK42 _ _ _ ?_)
  refine WP.cond (decide (st28 < (s_0.length : Int))) rfl rfl (fun hc43 => ?_) (fun hc43 => ?_)
  rotate_left
  · have hm := iteF hm hc43
    refine WP.exit ?_
    refine WQ.then_exit ?_
    refine WQ.then_exit ?_
    refine WQ.block_here ?_
    obtain rfl := Option.some.inj hm
    obtain rfl := afterN_done hl33
    have hm := hmo34
    refine WQ.then_normal (hK26 _ _ _ ?_)
    refine WP.seq (fun K106 hK106 => ?_)
    refine WP.region ?_
    refine WL.runk 1 [2] [(2, .bool true)] (by kernel_rfl) ?_
    refine WL.nil ?_
    refine WQ.then_normal (hK106 _ _ _ ?_)
    refine WP.ret ?_
    obtain rfl := Option.some.inj hm
    exact WQ.ret1 _ rfl rfl ⟨rfl, hb30⟩
  have hm := iteT hm hc43
  refine WP.skip ?_
  refine WQ.then_normal (hK41 _ _ _ ?_)
  refine WP.seq (fun K44 hK44 => ?_)
  refine WP.block ?_
  refine WP.seq (fun K45 hK45 => ?_)
  obtain ⟨x72, hx73, hm⟩ := bindE hm
  refine WP.cut (fun env' w' => env' = [(0, .string (bs s_0)), (3, .int .i64 st28), (55, .bool x72)] ∧ Ext w w' ∧ w.heap.size ≤ w'.heap.size ∧ SH w' w.heap.size []) ?_ ?_
  rotate_left
  · clear hx73
    rintro _ w100 ⟨rfl, hb101, hL102, hS103⟩
    refine WQ.then_normal (hK45 _ _ _ ?_)
    refine WP.cond x72 rfl rfl (fun hc104 => ?_) (fun hc104 => ?_)
    rotate_left
    · have hm := iteF hm hc104
      refine WP.skip ?_
      refine WQ.block_normal ?_
      refine WQ.then_normal (hK44 _ _ _ ?_)
      refine WP.region ?_
      refine WL.runk 3 [0, 3] [(0, .string (bs s_0)), (3, .int .i64 (wI64 (st28 + 1)))] (by kernel_rfl) ?_
      refine WL.nil ?_
      obtain rfl := Option.some.inj hm
      exact WQ.round hK35 ⟨(wI64 (st28 + 1)), rfl, hb101, hL102, hS103, hl33⟩ (Nat.lt_succ_self _) ⟨rfl, rfl, trivial⟩
    have hm := iteT hm hc104
    refine WP.seq (fun K105 hK105 => ?_)
    refine WP.region ?_
    refine WL.runk 1 [2] [(2, .bool false)] (by kernel_rfl) ?_
    refine WL.nil ?_
    refine WQ.then_normal (hK105 _ _ _ ?_)
    refine WP.ret ?_
    refine WQ.block_ret ?_
    refine WQ.then_ret ?_
    refine WQ.then_ret ?_
    refine WQ.block_ret ?_
    refine WQ.then_ret ?_
    obtain rfl := Option.some.inj hm
    obtain rfl := afterN_done hl33
    have hm := hmo34
    obtain rfl := Option.some.inj hm
    exact WQ.ret1 _ rfl rfl ⟨rfl, hb101⟩
  have hm := hx73; clear hx73
  refine WP.region ?_
  refine WL.runk 2 [0, 3, 28, 29] [(0, .string (bs s_0)), (3, .int .i64 st28), (28, .string (bs s_0)), (29, .int .i64 st28)] (by kernel_rfl) ?_
  obtain ⟨x74, hx75, hm⟩ := bindE hm
  refine WL.st (.int .u8 (x74.toNat : Int)) (ST.sindex hx75 rfl rfl rfl Try.underlying9) rfl rfl rfl ?_
  refine WL.runk 2 [0, 3, 32] [(0, .string (bs s_0)), (3, .int .i64 st28), (32, .bool (decide ((x74.toNat : Int) < 97)))] (by kernel_rfl) ?_
  refine WL.case (decide ((x74.toNat : Int) < 97)) [32] ⟨rfl, trivial⟩ (fun hc76 => ?_) (fun hc76 => ?_)
  · have hm := iteT hm hc76
    refine WL.runk 8 [0, 3, 38, 39, 40] [(0, .string (bs s_0)), (3, .int .i64 st28), (38, .bool true), (39, .string (bs s_0)), (40, .int .i64 st28)] (by kernel_rfl) ?_
    obtain ⟨x77, hx78, hm⟩ := bindE hm
    refine WL.st (.int .u8 (x77.toNat : Int)) (ST.sindex hx78 rfl rfl rfl Try.underlying9) rfl rfl rfl ?_
    refine WL.runk 2 [0, 3, 38, 43] [(0, .string (bs s_0)), (3, .int .i64 st28), (38, .bool true), (43, .bool (decide ((x77.toNat : Int) < 48)))] (by kernel_rfl) ?_
    refine WL.case (decide ((x77.toNat : Int) < 48)) [43] ⟨rfl, trivial⟩ (fun hc79 => ?_) (fun hc79 => ?_)
    · have hm := iteT hm hc79
      refine WL.runk 9 [0, 3, 50, 51, 52] [(0, .string (bs s_0)), (3, .int .i64 st28), (50, .bool true), (51, .string (bs s_0)), (52, .int .i64 st28)] (by kernel_rfl) ?_
      obtain ⟨x80, hx81, hm⟩ := bindE hm
      refine WL.st (.int .u8 (x80.toNat : Int)) (ST.sindex hx81 rfl rfl rfl Try.underlying9) rfl rfl rfl ?_
      refine WL.runk 2 [0, 3, 55] [(0, .string (bs s_0)), (3, .int .i64 st28), (55, .bool ((x80.toNat : Int) != 45))] (by kernel_rfl) ?_
      refine WL.nil ?_
      obtain rfl := Option.some.inj hm
      exact WQ.post' ⟨rfl, hb30, hL31, hS32⟩ ⟨rfl, rfl, rfl, trivial⟩
    have hm := iteF hm hc79
    refine WL.runk 2 [0, 3, 38, 43, 44, 45] [(0, .string (bs s_0)), (3, .int .i64 st28), (38, .bool true), (43, .bool false), (44, .string (bs s_0)), (45, .int .i64 st28)] (by kernel_rfl) ?_
    obtain ⟨x82, hx83, hm⟩ := bindE hm
    refine WL.st (.int .u8 (x82.toNat : Int)) (ST.sindex hx83 rfl rfl rfl Try.underlying9) rfl rfl rfl ?_
    refine WL.runk 4 [0, 3, 50] [(0, .string (bs s_0)), (3, .int .i64 st28), (50, .bool (decide ((x82.toNat : Int) > 57)))] (by kernel_rfl) ?_
    refine WL.case (decide ((x82.toNat : Int) > 57)) [50] ⟨rfl, trivial⟩ (fun hc84 => ?_) (fun hc84 => ?_)
    rotate_left
    · have hm := iteF hm hc84
      refine WL.runk 5 [0, 3, 55] [(0, .string (bs s_0)), (3, .int .i64 st28), (55, .bool false)] (by kernel_rfl) ?_
      refine WL.nil ?_
      obtain rfl := Option.some.inj hm
      exact WQ.post' ⟨rfl, hb30, hL31, hS32⟩ ⟨rfl, rfl, rfl, trivial⟩
    have hm := iteT hm hc84
    refine WL.runk 2 [0, 3, 50, 51, 52] [(0, .string (bs s_0)), (3, .int .i64 st28), (50, .bool true), (51, .string (bs s_0)), (52, .int .i64 st28)] (by kernel_rfl) ?_
    obtain ⟨x85, hx86, hm⟩ := bindE hm
    refine WL.st (.int .u8 (x85.toNat : Int)) (ST.sindex hx86 rfl rfl rfl Try.underlying9) rfl rfl rfl ?_
    refine WL.runk 2 [0, 3, 55] [(0, .string (bs s_0)), (3, .int .i64 st28), (55, .bool ((x85.toNat : Int) != 45))] (by kernel_rfl) ?_
    refine WL.nil ?_
    obtain rfl := Option.some.inj hm
    exact WQ.post' ⟨rfl, hb30, hL31, hS32⟩ ⟨rfl, rfl, rfl, trivial⟩
  have hm := iteF hm hc76
  refine WL.runk 2 [0, 3, 32, 33, 34] [(0, .string (bs s_0)), (3, .int .i64 st28), (32, .bool false), (33, .string (bs s_0)), (34, .int .i64 st28)] (by kernel_rfl) ?_
  obtain ⟨x87, hx88, hm⟩ := bindE hm
  refine WL.st (.int .u8 (x87.toNat : Int)) (ST.sindex hx88 rfl rfl rfl Try.underlying9) rfl rfl rfl ?_
  refine WL.runk 3 [0, 3, 38] [(0, .string (bs s_0)), (3, .int .i64 st28), (38, .bool (decide ((x87.toNat : Int) > 122)))] (by kernel_rfl) ?_
  refine WL.case (decide ((x87.toNat : Int) > 122)) [38] ⟨rfl, trivial⟩ (fun hc89 => ?_) (fun hc89 => ?_)
  rotate_left
  · have hm := iteF hm hc89
    refine WL.runk 17 [0, 3, 55] [(0, .string (bs s_0)), (3, .int .i64 st28), (55, .bool false)] (by kernel_rfl) ?_
    refine WL.nil ?_
    obtain rfl := Option.some.inj hm
    exact WQ.post' ⟨rfl, hb30, hL31, hS32⟩ ⟨rfl, rfl, rfl, trivial⟩
  have hm := iteT hm hc89
  refine WL.runk 2 [0, 3, 38, 39, 40] [(0, .string (bs s_0)), (3, .int .i64 st28), (38, .bool true), (39, .string (bs s_0)), (40, .int .i64 st28)] (by kernel_rfl) ?_
  obtain ⟨x90, hx91, hm⟩ := bindE hm
  refine WL.st (.int .u8 (x90.toNat : Int)) (ST.sindex hx91 rfl rfl rfl Try.underlying9) rfl rfl rfl ?_
  refine WL.runk 2 [0, 3, 38, 43] [(0, .string (bs s_0)), (3, .int .i64 st28), (38, .bool true), (43, .bool (decide ((x90.toNat : Int) < 48)))] (by kernel_rfl) ?_
  refine WL.case (decide ((x90.toNat : Int) < 48)) [43] ⟨rfl, trivial⟩ (fun hc92 => ?_) (fun hc92 => ?_)
  · have hm := iteT hm hc92
    refine WL.runk 9 [0, 3, 50, 51, 52] [(0, .string (bs s_0)), (3, .int .i64 st28), (50, .bool true), (51, .string (bs s_0)), (52, .int .i64 st28)] (by kernel_rfl) ?_
    obtain ⟨x93, hx94, hm⟩ := bindE hm
    refine WL.st (.int .u8 (x93.toNat : Int)) (ST.sindex hx94 rfl rfl rfl Try.underlying9) rfl rfl rfl ?_
    refine WL.runk 2 [0, 3, 55] [(0, .string (bs s_0)), (3, .int .i64 st28), (55, .bool ((x93.toNat : Int) != 45))] (by kernel_rfl) ?_
    refine WL.nil ?_
    obtain rfl := Option.some.inj hm
    exact WQ.post' ⟨rfl, hb30, hL31, hS32⟩ ⟨rfl, rfl, rfl, trivial⟩
  have hm := iteF hm hc92
  refine WL.runk 2 [0, 3, 38, 43, 44, 45] [(0, .string (bs s_0)), (3, .int .i64 st28), (38, .bool true), (43, .bool false), (44, .string (bs s_0)), (45, .int .i64 st28)] (by kernel_rfl) ?_
  obtain ⟨x95, hx96, hm⟩ := bindE hm
  refine WL.st (.int .u8 (x95.toNat : Int)) (ST.sindex hx96 rfl rfl rfl Try.underlying9) rfl rfl rfl ?_
  refine WL.runk 4 [0, 3, 50] [(0, .string (bs s_0)), (3, .int .i64 st28), (50, .bool (decide ((x95.toNat : Int) > 57)))] (by kernel_rfl) ?_
  refine WL.case (decide ((x95.toNat : Int) > 57)) [50] ⟨rfl, trivial⟩ (fun hc97 => ?_) (fun hc97 => ?_)
  rotate_left
  · have hm := iteF hm hc97
    refine WL.runk 5 [0, 3, 55] [(0, .string (bs s_0)), (3, .int .i64 st28), (55, .bool false)] (by kernel_rfl) ?_
    refine WL.nil ?_
    obtain rfl := Option.some.inj hm
    exact WQ.post' ⟨rfl, hb30, hL31, hS32⟩ ⟨rfl, rfl, rfl, trivial⟩
  have hm := iteT hm hc97
  refine WL.runk 2 [0, 3, 50, 51, 52] [(0, .string (bs s_0)), (3, .int .i64 st28), (50, .bool true), (51, .string (bs s_0)), (52, .int .i64 st28)] (by kernel_rfl) ?_
  obtain ⟨x98, hx99, hm⟩ := bindE hm
  refine WL.st (.int .u8 (x98.toNat : Int)) (ST.sindex hx99 rfl rfl rfl Try.underlying9) rfl rfl rfl ?_
  refine WL.runk 2 [0, 3, 55] [(0, .string (bs s_0)), (3, .int .i64 st28), (55, .bool ((x98.toNat : Int) != 45))] (by kernel_rfl) ?_
  refine WL.nil ?_
  obtain rfl := Option.some.inj hm
  exact WQ.post' ⟨rfl, hb30, hL31, hS32⟩ ⟨rfl, rfl, rfl, trivial⟩

theorem c_77 (n : Nat) (list_0 : List Int) (a0' : Option Addr) (c0' : Nat) (low_1 : Int) (high_2 : Int) (w : World) {r : Bool} (hm : m_impl_isIncreasing n list_0 low_1 high_2 = some r) (h0 : Rd fInt.ty w a0' list_0) (_hle0 : list_0.length ≤ c0') :
    CallV Try.prog 77 #[.slice a0' list_0.length c0', .int .i64 low_1, .int .i64 high_2] w (fun v w' => v = .bool r ∧ Ext w w') := by
  unfold m_impl_isIncreasing at hm
  refine CallV.enter Try.func77 rfl (by kernel_rfl) Try.ntmps77 (env := [(0, .slice a0' list_0.length c0'), (1, .int .i64 low_1), (2, .int .i64 high_2)]) ⟨rfl, rfl, rfl, trivial⟩ ?_
  refine WP.seq (fun K1 hK1 => ?_)
  refine WP.region ?_
  refine WL.runk 1 [0, 1, 2] [(0, .slice a0' list_0.length c0'), (1, .int .i64 low_1), (2, .int .i64 high_2)] (by kernel_rfl) ?_
  refine WL.nil ?_
  refine WQ.then_normal (hK1 _ _ _ ?_)
  refine WP.seq (fun K2 hK2 => ?_)
  refine WP.seq (fun K3 hK3 => ?_)
  refine WP.region ?_
  refine WL.runk 3 [0, 1, 2, 9, 10, 11] [(0, .slice a0' list_0.length c0'), (1, .int .i64 low_1), (2, .int .i64 high_2), (9, .slice a0' list_0.length c0'), (10, .int .i64 (list_0.length : Int)), (11, .int .i64 0)] (by kernel_rfl) ?_
  refine WL.nil ?_
  refine WQ.then_normal (hK3 _ _ _ ?_)
  refine WP.block ?_
  obtain ⟨t15, ht16, hm⟩ := bindE hm
  have hmo10 := hm; clear hm
  refine WP.sub [(0, .slice a0' list_0.length c0'), (1, .int .i64 low_1), (2, .int .i64 high_2), (9, .slice a0' list_0.length c0'), (10, .int .i64 (list_0.length : Int)), (11, .int .i64 0)] ⟨rfl, rfl, rfl, rfl, rfl, rfl, trivial⟩ ?_
  refine WP.loop (fun n' env' w' => ∃ (st4 : Int) , env' = [(0, .slice a0' list_0.length c0'), (1, .int .i64 low_1), (2, .int .i64 high_2), (9, .slice a0' list_0.length c0'), (10, .int .i64 (list_0.length : Int)), (11, .int .i64 st4)] ∧ Ext w w' ∧ w.heap.size ≤ w'.heap.size ∧ SH w' w.heap.size [] ∧ loopN (m_impl_isIncreasing_l1 n list_0 low_1 high_2) n' st4 = some t15) n ⟨0, rfl, (Ext.refl w), (Nat.le_refl _), (SH.nil _ _), ht16⟩ ?_
  rintro n12 _ w5 ⟨st4, rfl, hb6, hL7, hS8, hl9⟩ K11 hK11
  obtain ⟨n13, s14, rfl, hm, hl9⟩ := loopN_some hl9
  unfold m_impl_isIncreasing_l1 at hm
  refine WP.seq (fun K17 hK17 => ?_)
  refine WP.region ?_
  refine WL.runk 1 [0, 1, 2, 9, 10, 11, 12] [(0, .slice a0' list_0.length c0'), (1, .int .i64 low_1), (2, .int .i64 high_2), (9, .slice a0' list_0.length c0'), (10, .int .i64 (list_0.length : Int)), (11, .int .i64 st4), (12, .bool (decide (st4 < (list_0.length : Int))))] (by kernel_rfl) ?_
  refine WL.nil ?_
  refine WQ.then_normal (hK17 _ _ _ ?_)
  refine WP.seq (fun K18 hK18 => ?_)
  refine WP.cond (decide (st4 < (list_0.length : Int))) rfl rfl (fun hc19 => ?_) (fun hc19 => ?_)
  rotate_left
  · have hm := iteF hm hc19
    refine WP.exit ?_
    refine WQ.then_exit ?_
    refine WQ.then_exit ?_
    refine WQ.block_here ?_
    obtain rfl := Option.some.inj hm
    obtain rfl := afterN_done hl9
    have hm := hmo10
    refine WQ.then_normal (hK2 _ _ _ ?_)
    refine WP.seq (fun K57 hK57 => ?_)
    refine WP.region ?_
    refine WL.runk 1 [6] [(6, .bool true)] (by kernel_rfl) ?_
    refine WL.nil ?_
    refine WQ.then_normal (hK57 _ _ _ ?_)
    refine WP.ret ?_
    obtain rfl := Option.some.inj hm
    exact WQ.ret1 _ rfl rfl ⟨rfl, hb6⟩
  have hm := iteT hm hc19
  refine WP.skip ?_
  refine WQ.then_normal (hK18 _ _ _ ?_)
  refine WP.seq (fun K20 hK20 => ?_)
  refine WP.block ?_
  refine WP.seq (fun K21 hK21 => ?_)
  refine WP.region ?_
  refine WL.runk 1 [0, 1, 2, 9, 10, 11, 13] [(0, .slice a0' list_0.length c0'), (1, .int .i64 low_1), (2, .int .i64 high_2), (9, .slice a0' list_0.length c0'), (10, .int .i64 (list_0.length : Int)), (11, .int .i64 st4), (13, .int .i64 st4)] (by kernel_rfl) ?_
  obtain ⟨x22, hx23, hm⟩ := bindE hm
  refine WL.st (.pointer (some (at_ a0' (Int.toNat st4 * 1)))) (ST.index (T := fInt.ty) (xs := list_0) (Rd.below h0 hb6) hx23 rfl rfl rfl Try.underlying25 (info2).1 (info2).2.1) rfl rfl rfl ?_
  refine WL.st (.int .i64 x22) (ST.load (cell_ext (Rd.flat (F := fInt) (Rd.below h0 hb6) hx23 0 rfl)) rfl rfl Try.underlying2 rfl) rfl rfl rfl ?_
  refine WL.runk 2 [0, 1, 2, 7, 8, 9, 10, 11] [(0, .slice a0' list_0.length c0'), (1, .int .i64 low_1), (2, .int .i64 high_2), (9, .slice a0' list_0.length c0'), (10, .int .i64 (list_0.length : Int)), (11, .int .i64 st4), (7, .int .i64 st4), (8, .int .i64 x22)] (by kernel_rfl) ?_
  refine WL.nil ?_
  refine WQ.then_normal (hK21 _ _ _ ?_)
  refine WP.seq (fun K24 hK24 => ?_)
  obtain ⟨x37, hx38, hm⟩ := bindE hm
  refine WP.cut (fun env' w' => env' = [(0, .slice a0' list_0.length c0'), (1, .int .i64 low_1), (2, .int .i64 high_2), (9, .slice a0' list_0.length c0'), (10, .int .i64 (list_0.length : Int)), (11, .int .i64 st4), (33, .bool x37)] ∧ Ext w w' ∧ w.heap.size ≤ w'.heap.size ∧ SH w' w.heap.size []) ?_ ?_
  rotate_left
  · clear hx38
    rintro _ w51 ⟨rfl, hb52, hL53, hS54⟩
    refine WQ.then_normal (hK24 _ _ _ ?_)
    refine WP.cond x37 rfl rfl (fun hc55 => ?_) (fun hc55 => ?_)
    rotate_left
    · have hm := iteF hm hc55
      refine WP.skip ?_
      refine WQ.block_normal ?_
      refine WQ.then_normal (hK20 _ _ _ ?_)
      refine WP.region ?_
      refine WL.runk 2 [0, 1, 2, 9, 10, 11] [(0, .slice a0' list_0.length c0'), (1, .int .i64 low_1), (2, .int .i64 high_2), (9, .slice a0' list_0.length c0'), (10, .int .i64 (list_0.length : Int)), (11, .int .i64 (wI64 (st4 + 1)))] (by kernel_rfl) ?_
      refine WL.nil ?_
      obtain rfl := Option.some.inj hm
      exact WQ.round hK11 ⟨(wI64 (st4 + 1)), rfl, hb52, hL53, hS54, hl9⟩ (Nat.lt_succ_self _) ⟨rfl, rfl, rfl, rfl, rfl, rfl, trivial⟩
    have hm := iteT hm hc55
    refine WP.seq (fun K56 hK56 => ?_)
    refine WP.region ?_
    refine WL.runk 1 [6] [(6, .bool false)] (by kernel_rfl) ?_
    refine WL.nil ?_
    refine WQ.then_normal (hK56 _ _ _ ?_)
    refine WP.ret ?_
    refine WQ.block_ret ?_
    refine WQ.then_ret ?_
    refine WQ.then_ret ?_
    refine WQ.block_ret ?_
    refine WQ.then_ret ?_
    obtain rfl := Option.some.inj hm
    obtain rfl := afterN_done hl9
    have hm := hmo10
    obtain rfl := Option.some.inj hm
    exact WQ.ret1 _ rfl rfl ⟨rfl, hb52⟩
  have hm := hx38; clear hx38
  refine WP.region ?_
  refine WL.runk 3 [0, 1, 2, 7, 8, 9, 10, 11, 16, 17, 18] [(0, .slice a0' list_0.length c0'), (1, .int .i64 low_1), (2, .int .i64 high_2), (9, .slice a0' list_0.length c0'), (10, .int .i64 (list_0.length : Int)), (11, .int .i64 st4), (7, .int .i64 st4), (8, .int .i64 x22), (16, .int .i64 x22), (17, .int .i64 low_1), (18, .int .i64 high_2)] (by kernel_rfl) ?_
  obtain ⟨x39, hx40, hm⟩ := bindE hm
  refine WL.call 64 #[.int .i64 x22, .int .i64 low_1, .int .i64 high_2] rfl rfl (by kernel_rfl) (c_64 n x22 low_1 high_2 w5 hx40 ) ?_
  rintro _ w41 ⟨rfl, hE42⟩
  refine ⟨_, rfl, ?_⟩
  have hb44 : Ext w w41 := Ext.trans hb6 hE42
  have hL45 : w.heap.size ≤ w41.heap.size := Nat.le_trans hL7 hE42.size
  have hS46 : SH w41 w.heap.size [] := SH.ext hS8 hE42
  refine WL.runk 2 [0, 1, 2, 7, 8, 9, 10, 11, 21] [(0, .slice a0' list_0.length c0'), (1, .int .i64 low_1), (2, .int .i64 high_2), (9, .slice a0' list_0.length c0'), (10, .int .i64 (list_0.length : Int)), (11, .int .i64 st4), (7, .int .i64 st4), (8, .int .i64 x22), (21, .bool (!x39))] (by kernel_rfl) ?_
  refine WL.case (!x39) [21] ⟨rfl, trivial⟩ (fun hc47 => ?_) (fun hc47 => ?_)
  · have hm := iteT hm hc47
    refine WL.runk 12 [0, 1, 2, 9, 10, 11, 33] [(0, .slice a0' list_0.length c0'), (1, .int .i64 low_1), (2, .int .i64 high_2), (9, .slice a0' list_0.length c0'), (10, .int .i64 (list_0.length : Int)), (11, .int .i64 st4), (33, .bool true)] (by kernel_rfl) ?_
    refine WL.nil ?_
    obtain rfl := Option.some.inj hm
    exact WQ.post' ⟨rfl, hb44, hL45, hS46⟩ ⟨rfl, rfl, rfl, rfl, rfl, rfl, rfl, trivial⟩
  have hm := iteF hm hc47
  refine WL.runk 3 [0, 1, 2, 7, 8, 9, 10, 11, 21, 24] [(0, .slice a0' list_0.length c0'), (1, .int .i64 low_1), (2, .int .i64 high_2), (9, .slice a0' list_0.length c0'), (10, .int .i64 (list_0.length : Int)), (11, .int .i64 st4), (7, .int .i64 st4), (8, .int .i64 x22), (21, .bool false), (24, .bool (decide (st4 > 0)))] (by kernel_rfl) ?_
  refine WL.case (decide (st4 > 0)) [24] ⟨rfl, trivial⟩ (fun hc48 => ?_) (fun hc48 => ?_)
  rotate_left
  · have hm := iteF hm hc48
    refine WL.runk 9 [0, 1, 2, 9, 10, 11, 33] [(0, .slice a0' list_0.length c0'), (1, .int .i64 low_1), (2, .int .i64 high_2), (9, .slice a0' list_0.length c0'), (10, .int .i64 (list_0.length : Int)), (11, .int .i64 st4), (33, .bool false)] (by kernel_rfl) ?_
    refine WL.nil ?_
    obtain rfl := Option.some.inj hm
    exact WQ.post' ⟨rfl, hb44, hL45, hS46⟩ ⟨rfl, rfl, rfl, rfl, rfl, rfl, rfl, trivial⟩
  have hm := iteT hm hc48
  refine WL.runk 3 [0, 1, 2, 8, 9, 10, 11, 21, 24, 25, 27] [(0, .slice a0' list_0.length c0'), (1, .int .i64 low_1), (2, .int .i64 high_2), (9, .slice a0' list_0.length c0'), (10, .int .i64 (list_0.length : Int)), (11, .int .i64 st4), (8, .int .i64 x22), (21, .bool false), (24, .bool true), (25, .slice a0' list_0.length c0'), (27, .int .i64 (wI64 (st4 - 1)))] (by kernel_rfl) ?_
  obtain ⟨x49, hx50, hm⟩ := bindE hm
  refine WL.st (.pointer (some (at_ a0' (Int.toNat (wI64 (st4 - 1)) * 1)))) (ST.index (T := fInt.ty) (xs := list_0) (Rd.below h0 hb44) hx50 rfl rfl rfl Try.underlying25 (info2).1 (info2).2.1) rfl rfl rfl ?_
  refine WL.st (.int .i64 x49) (ST.load (cell_ext (Rd.flat (F := fInt) (Rd.below h0 hb44) hx50 0 rfl)) rfl rfl Try.underlying2 rfl) rfl rfl rfl ?_
  refine WL.runk 4 [0, 1, 2, 9, 10, 11, 33] [(0, .slice a0' list_0.length c0'), (1, .int .i64 low_1), (2, .int .i64 high_2), (9, .slice a0' list_0.length c0'), (10, .int .i64 (list_0.length : Int)), (11, .int .i64 st4), (33, .bool (decide (x49 ≥ x22)))] (by kernel_rfl) ?_
  refine WL.nil ?_
  obtain rfl := Option.some.inj hm
  exact WQ.post' ⟨rfl, hb44, hL45, hS46⟩ ⟨rfl, rfl, rfl, rfl, rfl, rfl, rfl, trivial⟩

theorem c_76 (n : Nat) (faults_0 : List Int) (a0' : Option Addr) (c0' : Nat) (w : World) {r : Bool} (hm : m_impl_areFaults n faults_0 = some r) (h0 : Rd fInt.ty w a0' faults_0) (hle0 : faults_0.length ≤ c0') :
    CallV Try.prog 76 #[.slice a0' faults_0.length c0'] w (fun v w' => v = .bool r ∧ Ext w w') := by
  unfold m_impl_areFaults at hm
  refine CallV.enter Try.func76 rfl (by kernel_rfl) Try.ntmps76 (env := [(0, .slice a0' faults_0.length c0')]) ⟨rfl, trivial⟩ ?_
  refine WP.seq (fun K1 hK1 => ?_)
  refine WP.region ?_
  refine WL.runk 1 [0] [(0, .slice a0' faults_0.length c0')] (by kernel_rfl) ?_
  refine WL.nil ?_
  refine WQ.then_normal (hK1 _ _ _ ?_)
  refine WP.seq (fun K2 hK2 => ?_)
  refine WP.region ?_
  refine WL.runk 1 [3] [(3, .slice a0' faults_0.length c0')] (by kernel_rfl) ?_
  obtain ⟨x3, hx4, hm⟩ := bindE hm
  refine WL.call 77 #[.slice a0' faults_0.length c0', .int .i64 0, .int .i64 9] rfl rfl (by kernel_rfl) (c_77 n faults_0 a0' c0' 0 9 w hx4 (Rd.below h0 (Ext.refl w)) hle0) ?_
  rintro _ w5 ⟨rfl, hE6⟩
  refine ⟨_, rfl, ?_⟩
  have hb8 : Ext w w5 := Ext.trans (Ext.refl w) hE6
  have hL9 : w.heap.size ≤ w5.heap.size := Nat.le_trans (Nat.le_refl _) hE6.size
  have hS10 : SH w5 w.heap.size [] := SH.ext (SH.nil _ _) hE6
  refine WL.runk 1 [2] [(2, .bool x3)] (by kernel_rfl) ?_
  refine WL.nil ?_
  refine WQ.then_normal (hK2 _ _ _ ?_)
  refine WP.ret ?_
  obtain rfl := Option.some.inj hm
  exact WQ.ret1 _ rfl rfl ⟨rfl, hb8⟩

theorem c_79 (n : Nat) (o_0 : SRepair) (a0_1' : Option Addr) (c0_1' : Nat) (a0_2' : Option Addr) (c0_2' : Nat) (cap_1 : SRepair) (b1' o1' : Nat) (aB1_1' : Option Addr) (cB1_1' : Nat) (aB1_2' : Option Addr) (cB1_2' : Nat) (w : World) {r : Bool} (hm : m_impl_ValidRepairs_1 n o_0 cap_1 = some r) (_hr0_1 : Rd fInt.ty w a0_1' o_0.Mends) (_hle0_1 : o_0.Mends.length ≤ c0_1') (_hr0_2 : Rd fInt.ty w a0_2' o_0.First) (_hle0_2 : o_0.First.length ≤ c0_2') (h1 : RdB w b1' o1' [.string (bs cap_1.Name), .slice aB1_1' cap_1.Mends.length cB1_1', .slice aB1_2' cap_1.First.length cB1_2', .int .i64 cap_1.Price, .int .i64 cap_1.Hours]) (_hrB1_1 : Rd fInt.ty w aB1_1' cap_1.Mends) (_hleB1_1 : cap_1.Mends.length ≤ cB1_1') (_hrB1_2 : Rd fInt.ty w aB1_2' cap_1.First) (_hleB1_2 : cap_1.First.length ≤ cB1_2') :
    CallV Try.prog 79 #[.agg #[.string (bs o_0.Name), .slice a0_1' o_0.Mends.length c0_1', .slice a0_2' o_0.First.length c0_2', .int .i64 o_0.Price, .int .i64 o_0.Hours], .pointer (some ⟨b1', o1', none⟩)] w (fun v w' => v = .bool r ∧ Ext w w') := by
  unfold m_impl_ValidRepairs_1 at hm
  refine CallV.enter Try.func79 rfl (by kernel_rfl) Try.ntmps79 (env := [(0, .agg #[.string (bs o_0.Name), .slice a0_1' o_0.Mends.length c0_1', .slice a0_2' o_0.First.length c0_2', .int .i64 o_0.Price, .int .i64 o_0.Hours]), (1, .pointer (some ⟨b1', o1', none⟩))]) ⟨rfl, rfl, trivial⟩ ?_
  refine WP.seq (fun K1 hK1 => ?_)
  refine WP.region ?_
  refine WL.box 73 [.string (bs o_0.Name), .slice a0_1' o_0.Mends.length c0_1', .slice a0_2' o_0.First.length c0_2', .int .i64 o_0.Price, .int .i64 o_0.Hours] 2 (by kernel_rfl) rfl rfl rfl rfl ?_
  intro b2 w3 hE4 hR5
  have hb7 : Ext w w3 := Ext.trans (Ext.refl w) hE4
  have hL8 : w.heap.size ≤ w3.heap.size := Nat.le_trans (Nat.le_refl _) hE4.size
  have hS9 : SH w3 w.heap.size [aBox 73 b2 [.string (bs o_0.Name), .slice a0_1' o_0.Mends.length c0_1', .slice a0_2' o_0.First.length c0_2', .int .i64 o_0.Price, .int .i64 o_0.Hours]] := SH.add (SH.nil _ _) hE4 (Nat.le_refl _) hR5
  refine WL.runk 1 [1, 2] [(1, .pointer (some ⟨b1', o1', none⟩)), (2, .pointer (some ⟨b2, 0, none⟩))] (by kernel_rfl) ?_
  refine WL.nil ?_
  refine WQ.then_normal (hK1 _ _ _ ?_)
  refine WP.seq (fun K10 hK10 => ?_)
  refine WP.region ?_
  refine WL.runk 1 [1, 4] [(1, .pointer (some ⟨b1', o1', none⟩)), (4, .pointer (some ⟨b2, 0, none⟩))] (by kernel_rfl) ?_
  refine WL.st (.string (bs o_0.Name)) (ST.load (cell_ext (SH.boxAt (SH.front 0 hS9) 0 _ rfl)) rfl rfl Try.underlying9 rfl) rfl rfl rfl ?_
  refine WL.runk 1 [5, 6] [(5, .string (bs o_0.Name)), (6, .pointer (some ⟨b1', o1', none⟩))] (by kernel_rfl) ?_
  refine WL.st (.string (bs cap_1.Name)) (ST.load (cell_ext (RdB.at (RdB.below h1 hb7) 0 _ rfl)) rfl rfl Try.underlying9 rfl) rfl rfl rfl ?_
  refine WL.st (.bool (o_0.Name == cap_1.Name)) (ST.streq (x := o_0.Name) (y := cap_1.Name) rfl rfl rfl) rfl rfl rfl ?_
  refine WL.runk 1 [3] [(3, .bool (o_0.Name == cap_1.Name))] (by kernel_rfl) ?_
  refine WL.nil ?_
  refine WQ.then_normal (hK10 _ _ _ ?_)
  refine WP.ret ?_
  obtain rfl := Option.some.inj hm
  exact WQ.ret1 _ rfl rfl ⟨rfl, hb7⟩

theorem c_105_79 (n : Nat) (s_0 : List SRepair) (a0' : Option Addr) (c0' : Nat) (cap_1_0 : SRepair) (b1_0' o1_0' : Nat) (aB1_0_1' : Option Addr) (cB1_0_1' : Nat) (aB1_0_2' : Option Addr) (cB1_0_2' : Nat) (w : World) {r : Int} (hm : m_slices_IndexFunc_impl_Repair_impl_Repair_f79 n s_0 cap_1_0 = some r) (h0 : Rd fRepair.ty w a0' s_0) (_hle0 : s_0.length ≤ c0') (h1_0 : RdB w b1_0' o1_0' [.string (bs cap_1_0.Name), .slice aB1_0_1' cap_1_0.Mends.length cB1_0_1', .slice aB1_0_2' cap_1_0.First.length cB1_0_2', .int .i64 cap_1_0.Price, .int .i64 cap_1_0.Hours]) (hrB1_0_1 : Rd fInt.ty w aB1_0_1' cap_1_0.Mends) (hleB1_0_1 : cap_1_0.Mends.length ≤ cB1_0_1') (hrB1_0_2 : Rd fInt.ty w aB1_0_2' cap_1_0.First) (hleB1_0_2 : cap_1_0.First.length ≤ cB1_0_2') :
    CallV Try.prog 105 #[.slice a0' s_0.length c0', .func (.func 79) #[] #[.pointer (some ⟨b1_0', o1_0', none⟩)]] w (fun v w' => v = .int .i64 r ∧ Ext w w') := by
  unfold m_slices_IndexFunc_impl_Repair_impl_Repair_f79 at hm
  refine CallV.enter Try.func105 rfl (by kernel_rfl) Try.ntmps105 (env := [(0, .slice a0' s_0.length c0'), (1, .func (.func 79) #[] #[.pointer (some ⟨b1_0', o1_0', none⟩)])]) ⟨rfl, rfl, trivial⟩ ?_
  refine WP.seq (fun K1 hK1 => ?_)
  refine WP.region ?_
  refine WL.runk 1 [0, 1] [(0, .slice a0' s_0.length c0'), (1, .func (.func 79) #[] #[.pointer (some ⟨b1_0', o1_0', none⟩)])] (by kernel_rfl) ?_
  refine WL.nil ?_
  refine WQ.then_normal (hK1 _ _ _ ?_)
  refine WP.seq (fun K2 hK2 => ?_)
  refine WP.seq (fun K3 hK3 => ?_)
  refine WP.region ?_
  refine WL.runk 3 [0, 1, 7, 8] [(0, .slice a0' s_0.length c0'), (1, .func (.func 79) #[] #[.pointer (some ⟨b1_0', o1_0', none⟩)]), (7, .int .i64 (s_0.length : Int)), (8, .int .i64 0)] (by kernel_rfl) ?_
  refine WL.nil ?_
  refine WQ.then_normal (hK3 _ _ _ ?_)
  refine WP.block ?_
  obtain ⟨t15, ht16, hm⟩ := bindE hm
  have hmo10 := hm; clear hm
  refine WP.sub [(0, .slice a0' s_0.length c0'), (1, .func (.func 79) #[] #[.pointer (some ⟨b1_0', o1_0', none⟩)]), (7, .int .i64 (s_0.length : Int)), (8, .int .i64 0)] ⟨rfl, rfl, rfl, rfl, trivial⟩ ?_
  refine WP.loop (fun n' env' w' => ∃ (st4 : Int) , env' = [(0, .slice a0' s_0.length c0'), (1, .func (.func 79) #[] #[.pointer (some ⟨b1_0', o1_0', none⟩)]), (7, .int .i64 (s_0.length : Int)), (8, .int .i64 st4)] ∧ Ext w w' ∧ w.heap.size ≤ w'.heap.size ∧ SH w' w.heap.size [] ∧ loopN (m_slices_IndexFunc_impl_Repair_impl_Repair_f79_l1 n s_0 cap_1_0) n' st4 = some t15) n ⟨0, rfl, (Ext.refl w), (Nat.le_refl _), (SH.nil _ _), ht16⟩ ?_
  rintro n12 _ w5 ⟨st4, rfl, hb6, hL7, hS8, hl9⟩ K11 hK11
  obtain ⟨n13, s14, rfl, hm, hl9⟩ := loopN_some hl9
  unfold m_slices_IndexFunc_impl_Repair_impl_Repair_f79_l1 at hm
  refine WP.seq (fun K17 hK17 => ?_)
  refine WP.region ?_
  refine WL.runk 1 [0, 1, 7, 8, 9] [(0, .slice a0' s_0.length c0'), (1, .func (.func 79) #[] #[.pointer (some ⟨b1_0', o1_0', none⟩)]), (7, .int .i64 (s_0.length : Int)), (8, .int .i64 st4), (9, .bool (decide (st4 < (s_0.length : Int))))] (by kernel_rfl) ?_
  refine WL.nil ?_
  refine WQ.then_normal (hK17 _ _ _ ?_)
  refine WP.seq (fun K18 hK18 => ?_)
  refine WP.cond (decide (st4 < (s_0.length : Int))) rfl rfl (fun hc19 => ?_) (fun hc19 => ?_)
  rotate_left
  · have hm := iteF hm hc19
    refine WP.exit ?_
    refine WQ.then_exit ?_
    refine WQ.then_exit ?_
    refine WQ.block_here ?_
    obtain rfl := Option.some.inj hm
    obtain rfl := afterN_done hl9
    have hm := hmo10
    refine WQ.then_normal (hK2 _ _ _ ?_)
    refine WP.seq (fun K46 hK46 => ?_)
    refine WP.region ?_
    refine WL.runk 1 [4] [(4, .int .i64 (-1))] (by kernel_rfl) ?_
    refine WL.nil ?_
    refine WQ.then_normal (hK46 _ _ _ ?_)
    refine WP.ret ?_
    obtain rfl := Option.some.inj hm
    exact WQ.ret1 _ rfl rfl ⟨rfl, hb6⟩
  have hm := iteT hm hc19
  refine WP.skip ?_
  refine WQ.then_normal (hK18 _ _ _ ?_)
  refine WP.seq (fun K20 hK20 => ?_)
  refine WP.block ?_
  refine WP.seq (fun K21 hK21 => ?_)
  refine WP.region ?_
  refine WL.runk 2 [0, 1, 5, 7, 8] [(0, .slice a0' s_0.length c0'), (1, .func (.func 79) #[] #[.pointer (some ⟨b1_0', o1_0', none⟩)]), (7, .int .i64 (s_0.length : Int)), (8, .int .i64 st4), (5, .int .i64 st4)] (by kernel_rfl) ?_
  refine WL.nil ?_
  refine WQ.then_normal (hK21 _ _ _ ?_)
  refine WP.seq (fun K22 hK22 => ?_)
  refine WP.region ?_
  refine WL.runk 3 [0, 1, 5, 7, 8, 11, 12, 13] [(0, .slice a0' s_0.length c0'), (1, .func (.func 79) #[] #[.pointer (some ⟨b1_0', o1_0', none⟩)]), (7, .int .i64 (s_0.length : Int)), (8, .int .i64 st4), (5, .int .i64 st4), (11, .func (.func 79) #[] #[.pointer (some ⟨b1_0', o1_0', none⟩)]), (12, .slice a0' s_0.length c0'), (13, .int .i64 st4)] (by kernel_rfl) ?_
  obtain ⟨x23, hx24, hm⟩ := bindE hm
  obtain ⟨a25, c26, a30, c31, hc35, hR27, hle28, hR32, hle33⟩ := nest_Repair h0 hx24
  refine WL.st (.pointer (some (at_ a0' (Int.toNat st4 * 5)))) (ST.index (T := fRepair.ty) (xs := s_0) (Rd.below h0 hb6) hx24 rfl rfl rfl Try.underlying24 (info73).1 (info73).2.1) rfl rfl rfl ?_
  refine WL.st (.agg #[.string (bs x23.Name), .slice a25 x23.Mends.length c26, .slice a30 x23.First.length c31, .int .i64 x23.Price, .int .i64 x23.Hours]) (ST.loadAgg (vs := [.string (bs x23.Name), .slice a25 x23.Mends.length c26, .slice a30 x23.First.length c31, .int .i64 x23.Price, .int .i64 x23.Hours]) (at_agg (cells_ext hc35 hb6)) rfl rfl rfl Try.underlying73 rfl (info73).1 (info73).2.1) rfl rfl rfl ?_
  obtain ⟨x36, hx37, hm⟩ := bindE hm
  refine WL.call 79 #[.agg #[.string (bs x23.Name), .slice a25 x23.Mends.length c26, .slice a30 x23.First.length c31, .int .i64 x23.Price, .int .i64 x23.Hours], .pointer (some ⟨b1_0', o1_0', none⟩)] rfl rfl (by kernel_rfl) (c_79 n x23 a25 c26 a30 c31 cap_1_0 b1_0' o1_0' aB1_0_1' cB1_0_1' aB1_0_2' cB1_0_2' w5 hx37 (Rd.below hR27 hb6) hle28 (Rd.below hR32 hb6) hle33 (RdB.below h1_0 hb6) (Rd.below hrB1_0_1 hb6) hleB1_0_1 (Rd.below hrB1_0_2 hb6) hleB1_0_2) ?_
  rintro _ w38 ⟨rfl, hE39⟩
  refine ⟨_, rfl, ?_⟩
  have hb41 : Ext w w38 := Ext.trans hb6 hE39
  have hL42 : w.heap.size ≤ w38.heap.size := Nat.le_trans hL7 hE39.size
  have hS43 : SH w38 w.heap.size [] := SH.ext hS8 hE39
  refine WL.sub [(0, .slice a0' s_0.length c0'), (1, .func (.func 79) #[] #[.pointer (some ⟨b1_0', o1_0', none⟩)]), (7, .int .i64 (s_0.length : Int)), (8, .int .i64 st4), (5, .int .i64 st4), (16, .bool x36)] ⟨rfl, rfl, rfl, rfl, rfl, rfl, trivial⟩ ?_
  refine WL.nil ?_
  refine WQ.then_normal (hK22 _ _ _ ?_)
  refine WP.cond x36 rfl rfl (fun hc44 => ?_) (fun hc44 => ?_)
  rotate_left
  · have hm := iteF hm hc44
    refine WP.skip ?_
    refine WQ.block_normal ?_
    refine WQ.then_normal (hK20 _ _ _ ?_)
    refine WP.region ?_
    refine WL.runk 2 [0, 1, 7, 8] [(0, .slice a0' s_0.length c0'), (1, .func (.func 79) #[] #[.pointer (some ⟨b1_0', o1_0', none⟩)]), (7, .int .i64 (s_0.length : Int)), (8, .int .i64 (wI64 (st4 + 1)))] (by kernel_rfl) ?_
    refine WL.nil ?_
    obtain rfl := Option.some.inj hm
    exact WQ.round hK11 ⟨(wI64 (st4 + 1)), rfl, hb41, hL42, hS43, hl9⟩ (Nat.lt_succ_self _) ⟨rfl, rfl, rfl, rfl, trivial⟩
  have hm := iteT hm hc44
  refine WP.seq (fun K45 hK45 => ?_)
  refine WP.region ?_
  refine WL.runk 2 [4] [(4, .int .i64 st4)] (by kernel_rfl) ?_
  refine WL.nil ?_
  refine WQ.then_normal (hK45 _ _ _ ?_)
  refine WP.ret ?_
  refine WQ.block_ret ?_
  refine WQ.then_ret ?_
  refine WQ.then_ret ?_
  refine WQ.block_ret ?_
  refine WQ.then_ret ?_
  obtain rfl := Option.some.inj hm
  obtain rfl := afterN_done hl9
  have hm := hmo10
  obtain rfl := Option.some.inj hm
  exact WQ.ret1 _ rfl rfl ⟨rfl, hb41⟩

theorem c_78_79 (n : Nat) (s_0 : List SRepair) (a0' : Option Addr) (c0' : Nat) (cap_1_0 : SRepair) (b1_0' o1_0' : Nat) (aB1_0_1' : Option Addr) (cB1_0_1' : Nat) (aB1_0_2' : Option Addr) (cB1_0_2' : Nat) (w : World) {r : Bool} (hm : m_slices_ContainsFunc_impl_Repair_impl_Repair_f79 n s_0 cap_1_0 = some r) (h0 : Rd fRepair.ty w a0' s_0) (hle0 : s_0.length ≤ c0') (h1_0 : RdB w b1_0' o1_0' [.string (bs cap_1_0.Name), .slice aB1_0_1' cap_1_0.Mends.length cB1_0_1', .slice aB1_0_2' cap_1_0.First.length cB1_0_2', .int .i64 cap_1_0.Price, .int .i64 cap_1_0.Hours]) (hrB1_0_1 : Rd fInt.ty w aB1_0_1' cap_1_0.Mends) (hleB1_0_1 : cap_1_0.Mends.length ≤ cB1_0_1') (hrB1_0_2 : Rd fInt.ty w aB1_0_2' cap_1_0.First) (hleB1_0_2 : cap_1_0.First.length ≤ cB1_0_2') :
    CallV Try.prog 78 #[.slice a0' s_0.length c0', .func (.func 79) #[] #[.pointer (some ⟨b1_0', o1_0', none⟩)]] w (fun v w' => v = .bool r ∧ Ext w w') := by
  unfold m_slices_ContainsFunc_impl_Repair_impl_Repair_f79 at hm
  refine CallV.enter Try.func78 rfl (by kernel_rfl) Try.ntmps78 (env := [(0, .slice a0' s_0.length c0'), (1, .func (.func 79) #[] #[.pointer (some ⟨b1_0', o1_0', none⟩)])]) ⟨rfl, rfl, trivial⟩ ?_
  refine WP.seq (fun K1 hK1 => ?_)
  refine WP.region ?_
  refine WL.runk 1 [0, 1] [(0, .slice a0' s_0.length c0'), (1, .func (.func 79) #[] #[.pointer (some ⟨b1_0', o1_0', none⟩)])] (by kernel_rfl) ?_
  refine WL.nil ?_
  refine WQ.then_normal (hK1 _ _ _ ?_)
  refine WP.seq (fun K2 hK2 => ?_)
  refine WP.region ?_
  refine WL.runk 2 [5, 6] [(5, .slice a0' s_0.length c0'), (6, .func (.func 79) #[] #[.pointer (some ⟨b1_0', o1_0', none⟩)])] (by kernel_rfl) ?_
  obtain ⟨x3, hx4, hm⟩ := bindE hm
  refine WL.call 105 #[.slice a0' s_0.length c0', .func (.func 79) #[] #[.pointer (some ⟨b1_0', o1_0', none⟩)]] rfl rfl (by kernel_rfl) (c_105_79 n s_0 a0' c0' cap_1_0 b1_0' o1_0' aB1_0_1' cB1_0_1' aB1_0_2' cB1_0_2' w hx4 (Rd.below h0 (Ext.refl w)) hle0 (RdB.below h1_0 (Ext.refl w)) (Rd.below hrB1_0_1 (Ext.refl w)) hleB1_0_1 (Rd.below hrB1_0_2 (Ext.refl w)) hleB1_0_2) ?_
  rintro _ w5 ⟨rfl, hE6⟩
  refine ⟨_, rfl, ?_⟩
  have hb8 : Ext w w5 := Ext.trans (Ext.refl w) hE6
  have hL9 : w.heap.size ≤ w5.heap.size := Nat.le_trans (Nat.le_refl _) hE6.size
  have hS10 : SH w5 w.heap.size [] := SH.ext (SH.nil _ _) hE6
  refine WL.runk 2 [4] [(4, .bool (decide (x3 ≥ 0)))] (by kernel_rfl) ?_
  refine WL.nil ?_
  refine WQ.then_normal (hK2 _ _ _ ?_)
  refine WP.ret ?_
  obtain rfl := Option.some.inj hm
  exact WQ.ret1 _ rfl rfl ⟨rfl, hb8⟩

theorem c_34 (n : Nat) (list_0 : List SRepair) (a0' : Option Addr) (c0' : Nat) (w : World) {r : Bool} (hm : m_impl_ValidRepairs n list_0 = some r) (h0 : Rd fRepair.ty w a0' list_0) (hle0 : list_0.length ≤ c0') :
    CallV Try.prog 34 #[.slice a0' list_0.length c0'] w (fun v w' => v = .bool r ∧ Ext w w') := by
  unfold m_impl_ValidRepairs at hm
  refine CallV.enter Try.func34 rfl (by kernel_rfl) Try.ntmps34 (env := [(0, .slice a0' list_0.length c0')]) ⟨rfl, trivial⟩ ?_
  refine WP.seq (fun K1 hK1 => ?_)
  refine WP.region ?_
  refine WL.runk 1 [0] [(0, .slice a0' list_0.length c0')] (by kernel_rfl) ?_
  refine WL.nil ?_
  refine WQ.then_normal (hK1 _ _ _ ?_)
  refine WP.seq (fun K2 hK2 => ?_)
  refine WP.seq (fun K3 hK3 => ?_)
  refine WP.region ?_
  refine WL.runk 3 [0, 5, 6, 7] [(0, .slice a0' list_0.length c0'), (5, .slice a0' list_0.length c0'), (6, .int .i64 (list_0.length : Int)), (7, .int .i64 0)] (by kernel_rfl) ?_
  refine WL.nil ?_
  refine WQ.then_normal (hK3 _ _ _ ?_)
  refine WP.block ?_
  obtain ⟨t15, ht16, hm⟩ := bindE hm
  have hmo10 := hm; clear hm
  refine WP.sub [(0, .slice a0' list_0.length c0'), (5, .slice a0' list_0.length c0'), (6, .int .i64 (list_0.length : Int)), (7, .int .i64 0)] ⟨rfl, rfl, rfl, rfl, trivial⟩ ?_
  refine WP.loop (fun n' env' w' => ∃ (st4 : Int) , env' = [(0, .slice a0' list_0.length c0'), (5, .slice a0' list_0.length c0'), (6, .int .i64 (list_0.length : Int)), (7, .int .i64 st4)] ∧ Ext w w' ∧ w.heap.size ≤ w'.heap.size ∧ SH w' w.heap.size [] ∧ loopN (m_impl_ValidRepairs_l1 n list_0) n' st4 = some t15) n ⟨0, rfl, (Ext.refl w), (Nat.le_refl _), (SH.nil _ _), ht16⟩ ?_
  rintro n12 _ w5 ⟨st4, rfl, hb6, hL7, hS8, hl9⟩ K11 hK11
  obtain ⟨n13, s14, rfl, hm, hl9⟩ := loopN_some hl9
  unfold m_impl_ValidRepairs_l1 at hm
  refine WP.seq (fun K17 hK17 => ?_)
  refine WP.region ?_
  refine WL.runk 1 [0, 5, 6, 7, 8] [(0, .slice a0' list_0.length c0'), (5, .slice a0' list_0.length c0'), (6, .int .i64 (list_0.length : Int)), (7, .int .i64 st4), (8, .bool (decide (st4 < (list_0.length : Int))))] (by kernel_rfl) ?_
  refine WL.nil ?_
  refine WQ.then_normal (hK17 _ _ _ ?_)
  refine WP.seq (fun K18 hK18 => ?_)
  refine WP.cond (decide (st4 < (list_0.length : Int))) rfl rfl (fun hc19 => ?_) (fun hc19 => ?_)
  rotate_left
  · have hm := iteF hm hc19
    refine WP.exit ?_
    refine WQ.then_exit ?_
    refine WQ.then_exit ?_
    refine WQ.block_here ?_
    obtain rfl := Option.some.inj hm
    obtain rfl := afterN_done hl9
    have hm := hmo10
    refine WQ.then_normal (hK2 _ _ _ ?_)
    refine WP.seq (fun K179 hK179 => ?_)
    refine WP.region ?_
    refine WL.runk 4 [2] [(2, .bool (decide ((list_0.length : Int) ≤ 10)))] (by kernel_rfl) ?_
    refine WL.nil ?_
    refine WQ.then_normal (hK179 _ _ _ ?_)
    refine WP.ret ?_
    obtain rfl := Option.some.inj hm
    exact WQ.ret1 _ rfl rfl ⟨rfl, hb6⟩
  have hm := iteT hm hc19
  refine WP.skip ?_
  refine WQ.then_normal (hK18 _ _ _ ?_)
  refine WP.seq (fun K20 hK20 => ?_)
  refine WP.block ?_
  refine WP.seq (fun K21 hK21 => ?_)
  refine WP.region ?_
  refine WL.runk 1 [0, 5, 6, 7, 9] [(0, .slice a0' list_0.length c0'), (5, .slice a0' list_0.length c0'), (6, .int .i64 (list_0.length : Int)), (7, .int .i64 st4), (9, .int .i64 st4)] (by kernel_rfl) ?_
  obtain ⟨x22, hx23, hm⟩ := bindE hm
  obtain ⟨a24, c25, a29, c30, hc34, hR26, hle27, hR31, hle32⟩ := nest_Repair h0 hx23
  refine WL.st (.pointer (some (at_ a0' (Int.toNat st4 * 5)))) (ST.index (T := fRepair.ty) (xs := list_0) (Rd.below h0 hb6) hx23 rfl rfl rfl Try.underlying24 (info73).1 (info73).2.1) rfl rfl rfl ?_
  refine WL.st (.agg #[.string (bs x22.Name), .slice a24 x22.Mends.length c25, .slice a29 x22.First.length c30, .int .i64 x22.Price, .int .i64 x22.Hours]) (ST.loadAgg (vs := [.string (bs x22.Name), .slice a24 x22.Mends.length c25, .slice a29 x22.First.length c30, .int .i64 x22.Price, .int .i64 x22.Hours]) (at_agg (cells_ext hc34 hb6)) rfl rfl rfl Try.underlying73 rfl (info73).1 (info73).2.1) rfl rfl rfl ?_
  refine WL.box 73 [.string (bs []), .slice none 0 0, .slice none 0 0, .int .i64 0, .int .i64 0] 4 (by kernel_rfl) rfl rfl rfl rfl ?_
  intro b35 w36 hE37 hR38
  have hb40 : Ext w w36 := Ext.trans hb6 hE37
  have hL41 : w.heap.size ≤ w36.heap.size := Nat.le_trans hL7 hE37.size
  have hS42 : SH w36 w.heap.size [aBox 73 b35 [.string (bs []), .slice none 0 0, .slice none 0 0, .int .i64 0, .int .i64 0]] := SH.add hS8 hE37 hL7 hR38
  refine WL.runk 1 [0, 3, 4, 5, 6, 7, 11] [(0, .slice a0' list_0.length c0'), (5, .slice a0' list_0.length c0'), (6, .int .i64 (list_0.length : Int)), (7, .int .i64 st4), (11, .agg #[.string (bs x22.Name), .slice a24 x22.Mends.length c25, .slice a29 x22.First.length c30, .int .i64 x22.Price, .int .i64 x22.Hours]), (4, .pointer (some ⟨b35, 0, none⟩)), (3, .int .i64 st4)] (by kernel_rfl) ?_
  refine WL.boxStore 0 [.string (bs x22.Name), .slice a24 x22.Mends.length c25, .slice a29 x22.First.length c30, .int .i64 x22.Price, .int .i64 x22.Hours] [.string (bs x22.Name), .slice a24 x22.Mends.length c25, .slice a29 x22.First.length c30, .int .i64 x22.Price, .int .i64 x22.Hours] (SH.front 0 hS42) hL41 rfl rfl rfl rfl rfl rfl rfl (info73).1 (info73).2.1 rfl rfl rfl ?_
  intro w43 hB44 hS45
  have hb46 : Ext w w43 := Below.trans hb40 hB44
  have hL47 : w.heap.size ≤ w43.heap.size := Nat.le_trans hL41 hB44.size
  refine WL.sub [(0, .slice a0' list_0.length c0'), (5, .slice a0' list_0.length c0'), (6, .int .i64 (list_0.length : Int)), (7, .int .i64 st4), (4, .pointer (some ⟨b35, 0, none⟩)), (3, .int .i64 st4)] ⟨rfl, rfl, rfl, rfl, rfl, rfl, trivial⟩ ?_
  refine WL.nil ?_
  refine WQ.then_normal (hK21 _ _ _ ?_)
  refine WP.seq (fun K48 hK48 => ?_)
  obtain ⟨x110, hx111, hm⟩ := bindE hm
  refine WP.cut (fun env' w' => env' = [(0, .slice a0' list_0.length c0'), (5, .slice a0' list_0.length c0'), (6, .int .i64 (list_0.length : Int)), (7, .int .i64 st4), (48, .bool x110)] ∧ Ext w w' ∧ w.heap.size ≤ w'.heap.size ∧ SH w' w.heap.size [aBox 73 b35 [.string (bs x22.Name), .slice a24 x22.Mends.length c25, .slice a29 x22.First.length c30, .int .i64 x22.Price, .int .i64 x22.Hours]]) ?_ ?_
  rotate_left
  · clear hx111
    rintro _ w173 ⟨rfl, hb174, hL175, hS176⟩
    refine WQ.then_normal (hK48 _ _ _ ?_)
    refine WP.cond x110 rfl rfl (fun hc177 => ?_) (fun hc177 => ?_)
    rotate_left
    · have hm := iteF hm hc177
      refine WP.skip ?_
      refine WQ.block_normal ?_
      refine WQ.then_normal (hK20 _ _ _ ?_)
      refine WP.region ?_
      refine WL.runk 2 [0, 5, 6, 7] [(0, .slice a0' list_0.length c0'), (5, .slice a0' list_0.length c0'), (6, .int .i64 (list_0.length : Int)), (7, .int .i64 (wI64 (st4 + 1)))] (by kernel_rfl) ?_
      refine WL.nil ?_
      obtain rfl := Option.some.inj hm
      exact WQ.round hK11 ⟨(wI64 (st4 + 1)), rfl, hb174, hL175, (SH.take 0 hS176), hl9⟩ (Nat.lt_succ_self _) ⟨rfl, rfl, rfl, rfl, trivial⟩
    have hm := iteT hm hc177
    refine WP.seq (fun K178 hK178 => ?_)
    refine WP.region ?_
    refine WL.runk 1 [2] [(2, .bool false)] (by kernel_rfl) ?_
    refine WL.nil ?_
    refine WQ.then_normal (hK178 _ _ _ ?_)
    refine WP.ret ?_
    refine WQ.block_ret ?_
    refine WQ.then_ret ?_
    refine WQ.then_ret ?_
    refine WQ.block_ret ?_
    refine WQ.then_ret ?_
    obtain rfl := Option.some.inj hm
    obtain rfl := afterN_done hl9
    have hm := hmo10
    obtain rfl := Option.some.inj hm
    exact WQ.ret1 _ rfl rfl ⟨rfl, hb174⟩
  have hm := hx111; clear hx111
  refine WP.region ?_
  refine WL.runk 1 [0, 3, 4, 5, 6, 7, 12] [(0, .slice a0' list_0.length c0'), (5, .slice a0' list_0.length c0'), (6, .int .i64 (list_0.length : Int)), (7, .int .i64 st4), (4, .pointer (some ⟨b35, 0, none⟩)), (3, .int .i64 st4), (12, .pointer (some ⟨b35, 0, none⟩))] (by kernel_rfl) ?_
  refine WL.st (.string (bs x22.Name)) (ST.load (cell_ext (SH.boxAt (SH.front 0 hS45) 0 _ rfl)) rfl rfl Try.underlying9 rfl) rfl rfl rfl ?_
  obtain ⟨x112, hx113, hm⟩ := bindE hm
  refine WL.call 75 #[.string (bs x22.Name)] rfl rfl (by kernel_rfl) (c_75 n x22.Name w43 hx113 ) ?_
  rintro _ w114 ⟨rfl, hE115⟩
  refine ⟨_, rfl, ?_⟩
  have hb117 : Ext w w114 := Ext.trans hb46 hE115
  have hL118 : w.heap.size ≤ w114.heap.size := Nat.le_trans hL47 hE115.size
  have hS119 : SH w114 w.heap.size [aBox 73 b35 [.string (bs x22.Name), .slice a24 x22.Mends.length c25, .slice a29 x22.First.length c30, .int .i64 x22.Price, .int .i64 x22.Hours]] := SH.ext hS45 hE115
  refine WL.runk 2 [0, 3, 4, 5, 6, 7, 16] [(0, .slice a0' list_0.length c0'), (5, .slice a0' list_0.length c0'), (6, .int .i64 (list_0.length : Int)), (7, .int .i64 st4), (4, .pointer (some ⟨b35, 0, none⟩)), (3, .int .i64 st4), (16, .bool (!x112))] (by kernel_rfl) ?_
  refine WL.case (!x112) [16] ⟨rfl, trivial⟩ (fun hc120 => ?_) (fun hc120 => ?_)
  · have hm := iteT hm hc120
    refine WL.runk 32 [0, 5, 6, 7, 48] [(0, .slice a0' list_0.length c0'), (5, .slice a0' list_0.length c0'), (6, .int .i64 (list_0.length : Int)), (7, .int .i64 st4), (48, .bool true)] (by kernel_rfl) ?_
    refine WL.nil ?_
    obtain rfl := Option.some.inj hm
    exact WQ.post' ⟨rfl, hb117, hL118, hS119⟩ ⟨rfl, rfl, rfl, rfl, rfl, trivial⟩
  have hm := iteF hm hc120
  refine WL.runk 1 [0, 3, 4, 5, 6, 7, 16, 17] [(0, .slice a0' list_0.length c0'), (5, .slice a0' list_0.length c0'), (6, .int .i64 (list_0.length : Int)), (7, .int .i64 st4), (4, .pointer (some ⟨b35, 0, none⟩)), (3, .int .i64 st4), (16, .bool false), (17, .pointer (some ⟨b35, 1, none⟩))] (by kernel_rfl) ?_
  refine WL.st (.slice a24 x22.Mends.length c25) (ST.load (cell_ext (SH.boxAt (SH.front 0 hS119) 1 _ rfl)) rfl rfl Try.underlying25 rfl) rfl rfl rfl ?_
  obtain ⟨x121, hx122, hm⟩ := bindE hm
  refine WL.call 76 #[.slice a24 x22.Mends.length c25] rfl rfl (by kernel_rfl) (c_76 n x22.Mends a24 c25 w114 hx122 (Rd.below hR26 hb117) hle27) ?_
  rintro _ w123 ⟨rfl, hE124⟩
  refine ⟨_, rfl, ?_⟩
  have hb126 : Ext w w123 := Ext.trans hb117 hE124
  have hL127 : w.heap.size ≤ w123.heap.size := Nat.le_trans hL118 hE124.size
  have hS128 : SH w123 w.heap.size [aBox 73 b35 [.string (bs x22.Name), .slice a24 x22.Mends.length c25, .slice a29 x22.First.length c30, .int .i64 x22.Price, .int .i64 x22.Hours]] := SH.ext hS119 hE124
  refine WL.runk 3 [0, 3, 4, 5, 6, 7, 22] [(0, .slice a0' list_0.length c0'), (5, .slice a0' list_0.length c0'), (6, .int .i64 (list_0.length : Int)), (7, .int .i64 st4), (4, .pointer (some ⟨b35, 0, none⟩)), (3, .int .i64 st4), (22, .bool (!x121))] (by kernel_rfl) ?_
  refine WL.case (!x121) [22] ⟨rfl, trivial⟩ (fun hc129 => ?_) (fun hc129 => ?_)
  · have hm := iteT hm hc129
    refine WL.runk 26 [0, 5, 6, 7, 48] [(0, .slice a0' list_0.length c0'), (5, .slice a0' list_0.length c0'), (6, .int .i64 (list_0.length : Int)), (7, .int .i64 st4), (48, .bool true)] (by kernel_rfl) ?_
    refine WL.nil ?_
    obtain rfl := Option.some.inj hm
    exact WQ.post' ⟨rfl, hb126, hL127, hS128⟩ ⟨rfl, rfl, rfl, rfl, rfl, trivial⟩
  have hm := iteF hm hc129
  refine WL.runk 1 [0, 3, 4, 5, 6, 7, 22, 23] [(0, .slice a0' list_0.length c0'), (5, .slice a0' list_0.length c0'), (6, .int .i64 (list_0.length : Int)), (7, .int .i64 st4), (4, .pointer (some ⟨b35, 0, none⟩)), (3, .int .i64 st4), (22, .bool false), (23, .pointer (some ⟨b35, 2, none⟩))] (by kernel_rfl) ?_
  refine WL.st (.slice a29 x22.First.length c30) (ST.load (cell_ext (SH.boxAt (SH.front 0 hS128) 2 _ rfl)) rfl rfl Try.underlying25 rfl) rfl rfl rfl ?_
  refine WL.runk 2 [0, 3, 4, 5, 6, 7, 22, 24, 26] [(0, .slice a0' list_0.length c0'), (5, .slice a0' list_0.length c0'), (6, .int .i64 (list_0.length : Int)), (7, .int .i64 st4), (4, .pointer (some ⟨b35, 0, none⟩)), (3, .int .i64 st4), (22, .bool false), (24, .slice a29 x22.First.length c30), (26, .int .i64 (wI64 (st4 - 1)))] (by kernel_rfl) ?_
  obtain ⟨x130, hx131, hm⟩ := bindE hm
  refine WL.call 77 #[.slice a29 x22.First.length c30, .int .i64 0, .int .i64 (wI64 (st4 - 1))] rfl rfl (by kernel_rfl) (c_77 n x22.First a29 c30 0 (wI64 (st4 - 1)) w123 hx131 (Rd.below hR31 hb126) hle32) ?_
  rintro _ w132 ⟨rfl, hE133⟩
  refine ⟨_, rfl, ?_⟩
  have hb135 : Ext w w132 := Ext.trans hb126 hE133
  have hL136 : w.heap.size ≤ w132.heap.size := Nat.le_trans hL127 hE133.size
  have hS137 : SH w132 w.heap.size [aBox 73 b35 [.string (bs x22.Name), .slice a24 x22.Mends.length c25, .slice a29 x22.First.length c30, .int .i64 x22.Price, .int .i64 x22.Hours]] := SH.ext hS128 hE133
  refine WL.runk 3 [0, 3, 4, 5, 6, 7, 30] [(0, .slice a0' list_0.length c0'), (5, .slice a0' list_0.length c0'), (6, .int .i64 (list_0.length : Int)), (7, .int .i64 st4), (4, .pointer (some ⟨b35, 0, none⟩)), (3, .int .i64 st4), (30, .bool (!x130))] (by kernel_rfl) ?_
  refine WL.case (!x130) [30] ⟨rfl, trivial⟩ (fun hc138 => ?_) (fun hc138 => ?_)
  · have hm := iteT hm hc138
    refine WL.runk 18 [0, 5, 6, 7, 48] [(0, .slice a0' list_0.length c0'), (5, .slice a0' list_0.length c0'), (6, .int .i64 (list_0.length : Int)), (7, .int .i64 st4), (48, .bool true)] (by kernel_rfl) ?_
    refine WL.nil ?_
    obtain rfl := Option.some.inj hm
    exact WQ.post' ⟨rfl, hb135, hL136, hS137⟩ ⟨rfl, rfl, rfl, rfl, rfl, trivial⟩
  have hm := iteF hm hc138
  refine WL.runk 1 [0, 3, 4, 5, 6, 7, 30, 31] [(0, .slice a0' list_0.length c0'), (5, .slice a0' list_0.length c0'), (6, .int .i64 (list_0.length : Int)), (7, .int .i64 st4), (4, .pointer (some ⟨b35, 0, none⟩)), (3, .int .i64 st4), (30, .bool false), (31, .pointer (some ⟨b35, 3, none⟩))] (by kernel_rfl) ?_
  refine WL.st (.int .i64 x22.Price) (ST.load (cell_ext (SH.boxAt (SH.front 0 hS137) 3 _ rfl)) rfl rfl Try.underlying2 rfl) rfl rfl rfl ?_
  obtain ⟨x139, hx140, hm⟩ := bindE hm
  refine WL.call 64 #[.int .i64 x22.Price, .int .i64 0, .int .i64 100000] rfl rfl (by kernel_rfl) (c_64 n x22.Price 0 100000 w132 hx140 ) ?_
  rintro _ w141 ⟨rfl, hE142⟩
  refine ⟨_, rfl, ?_⟩
  have hb144 : Ext w w141 := Ext.trans hb135 hE142
  have hL145 : w.heap.size ≤ w141.heap.size := Nat.le_trans hL136 hE142.size
  have hS146 : SH w141 w.heap.size [aBox 73 b35 [.string (bs x22.Name), .slice a24 x22.Mends.length c25, .slice a29 x22.First.length c30, .int .i64 x22.Price, .int .i64 x22.Hours]] := SH.ext hS137 hE142
  refine WL.runk 3 [0, 3, 4, 5, 6, 7, 36] [(0, .slice a0' list_0.length c0'), (5, .slice a0' list_0.length c0'), (6, .int .i64 (list_0.length : Int)), (7, .int .i64 st4), (4, .pointer (some ⟨b35, 0, none⟩)), (3, .int .i64 st4), (36, .bool (!x139))] (by kernel_rfl) ?_
  refine WL.case (!x139) [36] ⟨rfl, trivial⟩ (fun hc147 => ?_) (fun hc147 => ?_)
  · have hm := iteT hm hc147
    refine WL.runk 12 [0, 5, 6, 7, 48] [(0, .slice a0' list_0.length c0'), (5, .slice a0' list_0.length c0'), (6, .int .i64 (list_0.length : Int)), (7, .int .i64 st4), (48, .bool true)] (by kernel_rfl) ?_
    refine WL.nil ?_
    obtain rfl := Option.some.inj hm
    exact WQ.post' ⟨rfl, hb144, hL145, hS146⟩ ⟨rfl, rfl, rfl, rfl, rfl, trivial⟩
  have hm := iteF hm hc147
  refine WL.runk 1 [0, 3, 4, 5, 6, 7, 36, 37] [(0, .slice a0' list_0.length c0'), (5, .slice a0' list_0.length c0'), (6, .int .i64 (list_0.length : Int)), (7, .int .i64 st4), (4, .pointer (some ⟨b35, 0, none⟩)), (3, .int .i64 st4), (36, .bool false), (37, .pointer (some ⟨b35, 4, none⟩))] (by kernel_rfl) ?_
  refine WL.st (.int .i64 x22.Hours) (ST.load (cell_ext (SH.boxAt (SH.front 0 hS146) 4 _ rfl)) rfl rfl Try.underlying2 rfl) rfl rfl rfl ?_
  obtain ⟨x148, hx149, hm⟩ := bindE hm
  refine WL.call 64 #[.int .i64 x22.Hours, .int .i64 0, .int .i64 1000] rfl rfl (by kernel_rfl) (c_64 n x22.Hours 0 1000 w141 hx149 ) ?_
  rintro _ w150 ⟨rfl, hE151⟩
  refine ⟨_, rfl, ?_⟩
  have hb153 : Ext w w150 := Ext.trans hb144 hE151
  have hL154 : w.heap.size ≤ w150.heap.size := Nat.le_trans hL145 hE151.size
  have hS155 : SH w150 w.heap.size [aBox 73 b35 [.string (bs x22.Name), .slice a24 x22.Mends.length c25, .slice a29 x22.First.length c30, .int .i64 x22.Price, .int .i64 x22.Hours]] := SH.ext hS146 hE151
  refine WL.runk 3 [0, 3, 4, 5, 6, 7, 42] [(0, .slice a0' list_0.length c0'), (5, .slice a0' list_0.length c0'), (6, .int .i64 (list_0.length : Int)), (7, .int .i64 st4), (4, .pointer (some ⟨b35, 0, none⟩)), (3, .int .i64 st4), (42, .bool (!x148))] (by kernel_rfl) ?_
  refine WL.case (!x148) [42] ⟨rfl, trivial⟩ (fun hc156 => ?_) (fun hc156 => ?_)
  · have hm := iteT hm hc156
    refine WL.runk 6 [0, 5, 6, 7, 48] [(0, .slice a0' list_0.length c0'), (5, .slice a0' list_0.length c0'), (6, .int .i64 (list_0.length : Int)), (7, .int .i64 st4), (48, .bool true)] (by kernel_rfl) ?_
    refine WL.nil ?_
    obtain rfl := Option.some.inj hm
    exact WQ.post' ⟨rfl, hb153, hL154, hS155⟩ ⟨rfl, rfl, rfl, rfl, rfl, trivial⟩
  have hm := iteF hm hc156
  refine WL.runk 2 [0, 4, 5, 6, 7, 42, 43, 44] [(0, .slice a0' list_0.length c0'), (5, .slice a0' list_0.length c0'), (6, .int .i64 (list_0.length : Int)), (7, .int .i64 st4), (4, .pointer (some ⟨b35, 0, none⟩)), (42, .bool false), (43, .slice a0' list_0.length c0'), (44, .int .i64 st4)] (by kernel_rfl) ?_
  obtain ⟨x157, hx158, hm⟩ := bindE hm
  refine WL.rsub (T := fRepair.ty) 45 h0 hb153 hle0 hx158 rfl rfl Try.underlying24 (info73).1 (info73).2.1 rfl ⟨_, rfl⟩ rfl rfl rfl rfl ?_
  intro a159 c160 hR162 hle163
  refine WL.runk 1 [0, 5, 6, 7, 42, 45, 46] [(0, .slice a0' list_0.length c0'), (5, .slice a0' list_0.length c0'), (6, .int .i64 (list_0.length : Int)), (7, .int .i64 st4), (42, .bool false), (45, .slice a159 x157.length c160), (46, .func (.func 79) #[] #[.pointer (some ⟨b35, 0, none⟩)])] (by kernel_rfl) ?_
  obtain ⟨x165, hx166, hm⟩ := bindE hm
  refine WL.call 78 #[.slice a159 x157.length c160, .func (.func 79) #[] #[.pointer (some ⟨b35, 0, none⟩)]] rfl rfl (by kernel_rfl) (c_78_79 n x157 a159 c160 x22 b35 0 a24 c25 a29 c30 w150 hx166 (Rd.below hR162 hb153) hle163 (SH.boxRd (SH.front 0 hS155)) (Rd.below hR26 hb153) hle27 (Rd.below hR31 hb153) hle32) ?_
  rintro _ w167 ⟨rfl, hE168⟩
  refine ⟨_, rfl, ?_⟩
  have hb170 : Ext w w167 := Ext.trans hb153 hE168
  have hL171 : w.heap.size ≤ w167.heap.size := Nat.le_trans hL154 hE168.size
  have hS172 : SH w167 w.heap.size [aBox 73 b35 [.string (bs x22.Name), .slice a24 x22.Mends.length c25, .slice a29 x22.First.length c30, .int .i64 x22.Price, .int .i64 x22.Hours]] := SH.ext hS155 hE168
  refine WL.runk 1 [0, 5, 6, 7, 48] [(0, .slice a0' list_0.length c0'), (5, .slice a0' list_0.length c0'), (6, .int .i64 (list_0.length : Int)), (7, .int .i64 st4), (48, .bool x165)] (by kernel_rfl) ?_
  refine WL.nil ?_
  obtain rfl := Option.some.inj hm
  exact WQ.post' ⟨rfl, hb170, hL171, hS172⟩ ⟨rfl, rfl, rfl, rfl, rfl, trivial⟩

theorem c_50 (n : Nat) (list_0 : List SRepair) (a0' : Option Addr) (c0' : Nat) (some_1 : List Int) (a1' : Option Addr) (c1' : Nat) (faults_2 : List Int) (a2' : Option Addr) (c2' : Nat) (w : World) {r : Int} (hm : m_impl_someCode n list_0 some_1 faults_2 = some r) (h0 : Rd fRepair.ty w a0' list_0) (hle0 : list_0.length ≤ c0') (h1 : Rd fInt.ty w a1' some_1) (hle1 : some_1.length ≤ c1') (h2 : Rd fInt.ty w a2' faults_2) (hle2 : faults_2.length ≤ c2') :
    CallV Try.prog 50 #[.slice a0' list_0.length c0', .slice a1' some_1.length c1', .slice a2' faults_2.length c2'] w (fun v w' => v = .int .i64 r ∧ Ext w w') := by
  unfold m_impl_someCode at hm
  refine CallV.enter Try.func50 rfl (by kernel_rfl) Try.ntmps50 (env := [(0, .slice a0' list_0.length c0'), (1, .slice a1' some_1.length c1'), (2, .slice a2' faults_2.length c2')]) ⟨rfl, rfl, rfl, trivial⟩ ?_
  refine WP.seq (fun K1 hK1 => ?_)
  refine WP.region ?_
  refine WL.runk 1 [0, 1, 2] [(0, .slice a0' list_0.length c0'), (1, .slice a1' some_1.length c1'), (2, .slice a2' faults_2.length c2')] (by kernel_rfl) ?_
  refine WL.nil ?_
  refine WQ.then_normal (hK1 _ _ _ ?_)
  refine WP.seq (fun K2 hK2 => ?_)
  refine WP.block ?_
  refine WP.seq (fun K3 hK3 => ?_)
  refine WP.region ?_
  refine WL.runk 1 [0, 1, 2, 8] [(0, .slice a0' list_0.length c0'), (1, .slice a1' some_1.length c1'), (2, .slice a2' faults_2.length c2'), (8, .slice a0' list_0.length c0')] (by kernel_rfl) ?_
  obtain ⟨x4, hx5, hm⟩ := bindE hm
  refine WL.call 34 #[.slice a0' list_0.length c0'] rfl rfl (by kernel_rfl) (c_34 n list_0 a0' c0' w hx5 (Rd.below h0 (Ext.refl w)) hle0) ?_
  rintro _ w6 ⟨rfl, hE7⟩
  refine ⟨_, rfl, ?_⟩
  have hb9 : Ext w w6 := Ext.trans (Ext.refl w) hE7
  have hL10 : w.heap.size ≤ w6.heap.size := Nat.le_trans (Nat.le_refl _) hE7.size
  have hS11 : SH w6 w.heap.size [] := SH.ext (SH.nil _ _) hE7
  refine WL.runk 2 [0, 1, 2, 7] [(0, .slice a0' list_0.length c0'), (1, .slice a1' some_1.length c1'), (2, .slice a2' faults_2.length c2'), (7, .bool (!x4))] (by kernel_rfl) ?_
  refine WL.nil ?_
  refine WQ.then_normal (hK3 _ _ _ ?_)
  refine WP.cond (!x4) rfl rfl (fun hc12 => ?_) (fun hc12 => ?_)
  · have hm := iteT hm hc12
    refine WP.seq (fun K13 hK13 => ?_)
    refine WP.region ?_
    refine WL.runk 1 [6] [(6, .int .i64 1)] (by kernel_rfl) ?_
    refine WL.nil ?_
    refine WQ.then_normal (hK13 _ _ _ ?_)
    refine WP.ret ?_
    refine WQ.block_ret ?_
    refine WQ.then_ret ?_
    obtain rfl := Option.some.inj hm
    exact WQ.ret1 _ rfl rfl ⟨rfl, hb9⟩
  have hm := iteF hm hc12
  refine WP.seq (fun K14 hK14 => ?_)
  obtain ⟨x32, hx33, hm⟩ := bindE hm
  refine WP.cut (fun env' w' => env' = [(11, .bool x32)] ∧ Ext w w' ∧ w.heap.size ≤ w'.heap.size ∧ SH w' w.heap.size []) ?_ ?_
  rotate_left
  · clear hx33
    rintro _ w51 ⟨rfl, hb52, hL53, hS54⟩
    refine WQ.then_normal (hK14 _ _ _ ?_)
    refine WP.cond x32 rfl rfl (fun hc55 => ?_) (fun hc55 => ?_)
    · have hm := iteT hm hc55
      refine WP.seq (fun K56 hK56 => ?_)
      refine WP.region ?_
      refine WL.runk 1 [6] [(6, .int .i64 2)] (by kernel_rfl) ?_
      refine WL.nil ?_
      refine WQ.then_normal (hK56 _ _ _ ?_)
      refine WP.ret ?_
      refine WQ.block_ret ?_
      refine WQ.then_ret ?_
      obtain rfl := Option.some.inj hm
      exact WQ.ret1 _ rfl rfl ⟨rfl, hb52⟩
    have hm := iteF hm hc55
    refine WP.skip ?_
    refine WQ.block_normal ?_
    refine WQ.then_normal (hK2 _ _ _ ?_)
    refine WP.seq (fun K57 hK57 => ?_)
    refine WP.region ?_
    refine WL.runk 1 [6] [(6, .int .i64 0)] (by kernel_rfl) ?_
    refine WL.nil ?_
    refine WQ.then_normal (hK57 _ _ _ ?_)
    refine WP.ret ?_
    obtain rfl := Option.some.inj hm
    exact WQ.ret1 _ rfl rfl ⟨rfl, hb52⟩
  have hm := hx33; clear hx33
  refine WP.region ?_
  refine WL.runk 4 [2, 12, 15] [(2, .slice a2' faults_2.length c2'), (12, .slice a1' some_1.length c1'), (15, .int .i64 (wI64 ((list_0.length : Int) - 1)))] (by kernel_rfl) ?_
  obtain ⟨x34, hx35, hm⟩ := bindE hm
  refine WL.call 77 #[.slice a1' some_1.length c1', .int .i64 0, .int .i64 (wI64 ((list_0.length : Int) - 1))] rfl rfl (by kernel_rfl) (c_77 n some_1 a1' c1' 0 (wI64 ((list_0.length : Int) - 1)) w6 hx35 (Rd.below h1 hb9) hle1) ?_
  rintro _ w36 ⟨rfl, hE37⟩
  refine ⟨_, rfl, ?_⟩
  have hb39 : Ext w w36 := Ext.trans hb9 hE37
  have hL40 : w.heap.size ≤ w36.heap.size := Nat.le_trans hL10 hE37.size
  have hS41 : SH w36 w.heap.size [] := SH.ext hS11 hE37
  refine WL.runk 2 [2, 18] [(2, .slice a2' faults_2.length c2'), (18, .bool (!x34))] (by kernel_rfl) ?_
  refine WL.case (!x34) [18] ⟨rfl, trivial⟩ (fun hc42 => ?_) (fun hc42 => ?_)
  · have hm := iteT hm hc42
    refine WL.runk 5 [11] [(11, .bool true)] (by kernel_rfl) ?_
    refine WL.nil ?_
    obtain rfl := Option.some.inj hm
    exact WQ.post' ⟨rfl, hb39, hL40, hS41⟩ ⟨rfl, trivial⟩
  have hm := iteF hm hc42
  refine WL.runk 1 [18, 19] [(18, .bool false), (19, .slice a2' faults_2.length c2')] (by kernel_rfl) ?_
  obtain ⟨x43, hx44, hm⟩ := bindE hm
  refine WL.call 76 #[.slice a2' faults_2.length c2'] rfl rfl (by kernel_rfl) (c_76 n faults_2 a2' c2' w36 hx44 (Rd.below h2 hb39) hle2) ?_
  rintro _ w45 ⟨rfl, hE46⟩
  refine ⟨_, rfl, ?_⟩
  have hb48 : Ext w w45 := Ext.trans hb39 hE46
  have hL49 : w.heap.size ≤ w45.heap.size := Nat.le_trans hL40 hE46.size
  have hS50 : SH w45 w.heap.size [] := SH.ext hS41 hE46
  refine WL.runk 3 [11] [(11, .bool (!x43))] (by kernel_rfl) ?_
  refine WL.nil ?_
  obtain rfl := Option.some.inj hm
  exact WQ.post' ⟨rfl, hb48, hL49, hS50⟩ ⟨rfl, trivial⟩

theorem c_106 (n : Nat) (s_0 : List Int) (a0' : Option Addr) (c0' : Nat) (v_1 : Int) (w : World) {r : Int} (hm : m_slices_Index_int64_int64 n s_0 v_1 = some r) (h0 : Rd fInt.ty w a0' s_0) (_hle0 : s_0.length ≤ c0') :
    CallV Try.prog 106 #[.slice a0' s_0.length c0', .int .i64 v_1] w (fun v w' => v = .int .i64 r ∧ Ext w w') := by
  unfold m_slices_Index_int64_int64 at hm
  refine CallV.enter Try.func106 rfl (by kernel_rfl) Try.ntmps106 (env := [(0, .slice a0' s_0.length c0'), (1, .int .i64 v_1)]) ⟨rfl, rfl, trivial⟩ ?_
  refine WP.seq (fun K1 hK1 => ?_)
  refine WP.region ?_
  refine WL.runk 1 [0, 1] [(0, .slice a0' s_0.length c0'), (1, .int .i64 v_1)] (by kernel_rfl) ?_
  refine WL.nil ?_
  refine WQ.then_normal (hK1 _ _ _ ?_)
  refine WP.seq (fun K2 hK2 => ?_)
  refine WP.seq (fun K3 hK3 => ?_)
  refine WP.region ?_
  refine WL.runk 3 [0, 1, 7, 8] [(0, .slice a0' s_0.length c0'), (1, .int .i64 v_1), (7, .int .i64 (s_0.length : Int)), (8, .int .i64 0)] (by kernel_rfl) ?_
  refine WL.nil ?_
  refine WQ.then_normal (hK3 _ _ _ ?_)
  refine WP.block ?_
  obtain ⟨t15, ht16, hm⟩ := bindE hm
  have hmo10 := hm; clear hm
  refine WP.sub [(0, .slice a0' s_0.length c0'), (1, .int .i64 v_1), (7, .int .i64 (s_0.length : Int)), (8, .int .i64 0)] ⟨rfl, rfl, rfl, rfl, trivial⟩ ?_
  refine WP.loop (fun n' env' w' => ∃ (st4 : Int) , env' = [(0, .slice a0' s_0.length c0'), (1, .int .i64 v_1), (7, .int .i64 (s_0.length : Int)), (8, .int .i64 st4)] ∧ Ext w w' ∧ w.heap.size ≤ w'.heap.size ∧ SH w' w.heap.size [] ∧ loopN (m_slices_Index_int64_int64_l1 n s_0 v_1) n' st4 = some t15) n ⟨0, rfl, (Ext.refl w), (Nat.le_refl _), (SH.nil _ _), ht16⟩ ?_
  rintro n12 _ w5 ⟨st4, rfl, hb6, hL7, hS8, hl9⟩ K11 hK11
  obtain ⟨n13, s14, rfl, hm, hl9⟩ := loopN_some hl9
  unfold m_slices_Index_int64_int64_l1 at hm
  refine WP.seq (fun K17 hK17 => ?_)
  refine WP.region ?_
  refine WL.runk 1 [0, 1, 7, 8, 9] [(0, .slice a0' s_0.length c0'), (1, .int .i64 v_1), (7, .int .i64 (s_0.length : Int)), (8, .int .i64 st4), (9, .bool (decide (st4 < (s_0.length : Int))))] (by kernel_rfl) ?_
  refine WL.nil ?_
  refine WQ.then_normal (hK17 _ _ _ ?_)
  refine WP.seq (fun K18 hK18 => ?_)
  refine WP.cond (decide (st4 < (s_0.length : Int))) rfl rfl (fun hc19 => ?_) (fun hc19 => ?_)
  rotate_left
  · have hm := iteF hm hc19
    refine WP.exit ?_
    refine WQ.then_exit ?_
    refine WQ.then_exit ?_
    refine WQ.block_here ?_
    obtain rfl := Option.some.inj hm
    obtain rfl := afterN_done hl9
    have hm := hmo10
    refine WQ.then_normal (hK2 _ _ _ ?_)
    refine WP.seq (fun K27 hK27 => ?_)
    refine WP.region ?_
    refine WL.runk 1 [4] [(4, .int .i64 (-1))] (by kernel_rfl) ?_
    refine WL.nil ?_
    refine WQ.then_normal (hK27 _ _ _ ?_)
    refine WP.ret ?_
    obtain rfl := Option.some.inj hm
    exact WQ.ret1 _ rfl rfl ⟨rfl, hb6⟩
  have hm := iteT hm hc19
  refine WP.skip ?_
  refine WQ.then_normal (hK18 _ _ _ ?_)
  refine WP.seq (fun K20 hK20 => ?_)
  refine WP.block ?_
  refine WP.seq (fun K21 hK21 => ?_)
  refine WP.region ?_
  refine WL.runk 2 [0, 1, 5, 7, 8] [(0, .slice a0' s_0.length c0'), (1, .int .i64 v_1), (7, .int .i64 (s_0.length : Int)), (8, .int .i64 st4), (5, .int .i64 st4)] (by kernel_rfl) ?_
  refine WL.nil ?_
  refine WQ.then_normal (hK21 _ _ _ ?_)
  refine WP.seq (fun K22 hK22 => ?_)
  refine WP.region ?_
  refine WL.runk 3 [0, 1, 5, 7, 8, 11, 12, 13] [(0, .slice a0' s_0.length c0'), (1, .int .i64 v_1), (7, .int .i64 (s_0.length : Int)), (8, .int .i64 st4), (5, .int .i64 st4), (11, .int .i64 v_1), (12, .slice a0' s_0.length c0'), (13, .int .i64 st4)] (by kernel_rfl) ?_
  obtain ⟨x23, hx24, hm⟩ := bindE hm
  refine WL.st (.pointer (some (at_ a0' (Int.toNat st4 * 1)))) (ST.index (T := fInt.ty) (xs := s_0) (Rd.below h0 hb6) hx24 rfl rfl rfl Try.underlying25 (info2).1 (info2).2.1) rfl rfl rfl ?_
  refine WL.st (.int .i64 x23) (ST.load (cell_ext (Rd.flat (F := fInt) (Rd.below h0 hb6) hx24 0 rfl)) rfl rfl Try.underlying2 rfl) rfl rfl rfl ?_
  refine WL.runk 1 [0, 1, 5, 7, 8, 16] [(0, .slice a0' s_0.length c0'), (1, .int .i64 v_1), (7, .int .i64 (s_0.length : Int)), (8, .int .i64 st4), (5, .int .i64 st4), (16, .bool (v_1 == x23))] (by kernel_rfl) ?_
  refine WL.nil ?_
  refine WQ.then_normal (hK22 _ _ _ ?_)
  refine WP.cond (v_1 == x23) rfl rfl (fun hc25 => ?_) (fun hc25 => ?_)
  rotate_left
  · have hm := iteF hm hc25
    refine WP.skip ?_
    refine WQ.block_normal ?_
    refine WQ.then_normal (hK20 _ _ _ ?_)
    refine WP.region ?_
    refine WL.runk 2 [0, 1, 7, 8] [(0, .slice a0' s_0.length c0'), (1, .int .i64 v_1), (7, .int .i64 (s_0.length : Int)), (8, .int .i64 (wI64 (st4 + 1)))] (by kernel_rfl) ?_
    refine WL.nil ?_
    obtain rfl := Option.some.inj hm
    exact WQ.round hK11 ⟨(wI64 (st4 + 1)), rfl, hb6, hL7, hS8, hl9⟩ (Nat.lt_succ_self _) ⟨rfl, rfl, rfl, rfl, trivial⟩
  have hm := iteT hm hc25
  refine WP.seq (fun K26 hK26 => ?_)
  refine WP.region ?_
  refine WL.runk 2 [4] [(4, .int .i64 st4)] (by kernel_rfl) ?_
  refine WL.nil ?_
  refine WQ.then_normal (hK26 _ _ _ ?_)
  refine WP.ret ?_
  refine WQ.block_ret ?_
  refine WQ.then_ret ?_
  refine WQ.then_ret ?_
  refine WQ.block_ret ?_
  refine WQ.then_ret ?_
  obtain rfl := Option.some.inj hm
  obtain rfl := afterN_done hl9
  have hm := hmo10
  obtain rfl := Option.some.inj hm
  exact WQ.ret1 _ rfl rfl ⟨rfl, hb6⟩

theorem c_82 (n : Nat) (s_0 : List Int) (a0' : Option Addr) (c0' : Nat) (v_1 : Int) (w : World) {r : Bool} (hm : m_slices_Contains_int64_int64 n s_0 v_1 = some r) (h0 : Rd fInt.ty w a0' s_0) (hle0 : s_0.length ≤ c0') :
    CallV Try.prog 82 #[.slice a0' s_0.length c0', .int .i64 v_1] w (fun v w' => v = .bool r ∧ Ext w w') := by
  unfold m_slices_Contains_int64_int64 at hm
  refine CallV.enter Try.func82 rfl (by kernel_rfl) Try.ntmps82 (env := [(0, .slice a0' s_0.length c0'), (1, .int .i64 v_1)]) ⟨rfl, rfl, trivial⟩ ?_
  refine WP.seq (fun K1 hK1 => ?_)
  refine WP.region ?_
  refine WL.runk 1 [0, 1] [(0, .slice a0' s_0.length c0'), (1, .int .i64 v_1)] (by kernel_rfl) ?_
  refine WL.nil ?_
  refine WQ.then_normal (hK1 _ _ _ ?_)
  refine WP.seq (fun K2 hK2 => ?_)
  refine WP.region ?_
  refine WL.runk 2 [5, 6] [(5, .slice a0' s_0.length c0'), (6, .int .i64 v_1)] (by kernel_rfl) ?_
  obtain ⟨x3, hx4, hm⟩ := bindE hm
  refine WL.call 106 #[.slice a0' s_0.length c0', .int .i64 v_1] rfl rfl (by kernel_rfl) (c_106 n s_0 a0' c0' v_1 w hx4 (Rd.below h0 (Ext.refl w)) hle0) ?_
  rintro _ w5 ⟨rfl, hE6⟩
  refine ⟨_, rfl, ?_⟩
  have hb8 : Ext w w5 := Ext.trans (Ext.refl w) hE6
  have hL9 : w.heap.size ≤ w5.heap.size := Nat.le_trans (Nat.le_refl _) hE6.size
  have hS10 : SH w5 w.heap.size [] := SH.ext (SH.nil _ _) hE6
  refine WL.runk 2 [4] [(4, .bool (decide (x3 ≥ 0)))] (by kernel_rfl) ?_
  refine WL.nil ?_
  refine WQ.then_normal (hK2 _ _ _ ?_)
  refine WP.ret ?_
  obtain rfl := Option.some.inj hm
  exact WQ.ret1 _ rfl rfl ⟨rfl, hb8⟩

theorem c_95 (n : Nat) (before_0 : Int) (cap_1 : List Int) (b1' o1' : Nat) (a1' : Option Addr) (c1' : Nat) (w : World) {r : Bool} (hm : m_impl_mendsAll_1 n before_0 cap_1 = some r) (h1 : RdB w b1' o1' [.slice a1' cap_1.length c1']) (hr1 : Rd fInt.ty w a1' cap_1) (hle1 : cap_1.length ≤ c1') :
    CallV Try.prog 95 #[.int .i64 before_0, .pointer (some ⟨b1', o1', none⟩)] w (fun v w' => v = .bool r ∧ Ext w w') := by
  unfold m_impl_mendsAll_1 at hm
  refine CallV.enter Try.func95 rfl (by kernel_rfl) Try.ntmps95 (env := [(0, .int .i64 before_0), (1, .pointer (some ⟨b1', o1', none⟩))]) ⟨rfl, rfl, trivial⟩ ?_
  refine WP.seq (fun K1 hK1 => ?_)
  refine WP.region ?_
  refine WL.runk 1 [0, 1] [(0, .int .i64 before_0), (1, .pointer (some ⟨b1', o1', none⟩))] (by kernel_rfl) ?_
  refine WL.nil ?_
  refine WQ.then_normal (hK1 _ _ _ ?_)
  refine WP.seq (fun K2 hK2 => ?_)
  refine WP.region ?_
  refine WL.st (.slice a1' cap_1.length c1') (ST.load (cell_ext (RdB.at (RdB.below h1 (Ext.refl w)) 0 _ rfl)) rfl rfl Try.underlying25 rfl) rfl rfl rfl ?_
  refine WL.runk 1 [4, 5] [(4, .slice a1' cap_1.length c1'), (5, .int .i64 before_0)] (by kernel_rfl) ?_
  obtain ⟨x3, hx4, hm⟩ := bindE hm
  refine WL.call 82 #[.slice a1' cap_1.length c1', .int .i64 before_0] rfl rfl (by kernel_rfl) (c_82 n cap_1 a1' c1' before_0 w hx4 (Rd.below hr1 (Ext.refl w)) hle1) ?_
  rintro _ w5 ⟨rfl, hE6⟩
  refine ⟨_, rfl, ?_⟩
  have hb8 : Ext w w5 := Ext.trans (Ext.refl w) hE6
  have hL9 : w.heap.size ≤ w5.heap.size := Nat.le_trans (Nat.le_refl _) hE6.size
  have hS10 : SH w5 w.heap.size [] := SH.ext (SH.nil _ _) hE6
  refine WL.runk 2 [3] [(3, .bool (!x3))] (by kernel_rfl) ?_
  refine WL.nil ?_
  refine WQ.then_normal (hK2 _ _ _ ?_)
  refine WP.ret ?_
  obtain rfl := Option.some.inj hm
  exact WQ.ret1 _ rfl rfl ⟨rfl, hb8⟩

theorem c_97 (n : Nat) (k_0 : Int) (cap_1 : List SRepair) (b1' o1' : Nat) (a1' : Option Addr) (c1' : Nat) (cap_2 : Int) (b2' o2' : Nat) (w : World) {r : Bool} (hm : m_impl_mendsAll_2_1 n k_0 cap_1 cap_2 = some r) (h1 : RdB w b1' o1' [.slice a1' cap_1.length c1']) (hr1 : Rd fRepair.ty w a1' cap_1) (_hle1 : cap_1.length ≤ c1') (h2 : RdB w b2' o2' [.int .i64 cap_2]) :
    CallV Try.prog 97 #[.int .i64 k_0, .pointer (some ⟨b1', o1', none⟩), .pointer (some ⟨b2', o2', none⟩)] w (fun v w' => v = .bool r ∧ Ext w w') := by
  unfold m_impl_mendsAll_2_1 at hm
  refine CallV.enter Try.func97 rfl (by kernel_rfl) Try.ntmps97 (env := [(0, .int .i64 k_0), (1, .pointer (some ⟨b1', o1', none⟩)), (2, .pointer (some ⟨b2', o2', none⟩))]) ⟨rfl, rfl, rfl, trivial⟩ ?_
  refine WP.seq (fun K1 hK1 => ?_)
  refine WP.region ?_
  refine WL.runk 1 [0, 1, 2] [(0, .int .i64 k_0), (1, .pointer (some ⟨b1', o1', none⟩)), (2, .pointer (some ⟨b2', o2', none⟩))] (by kernel_rfl) ?_
  refine WL.nil ?_
  refine WQ.then_normal (hK1 _ _ _ ?_)
  refine WP.seq (fun K2 hK2 => ?_)
  refine WP.quiet (by kernel_rfl) (by kernel_rfl) ?_
  refine QL.st (.slice a1' cap_1.length c1') (ST.load (cell_ext (RdB.at (RdB.below h1 (Ext.refl w)) 0 _ rfl)) rfl rfl Try.underlying24 rfl) rfl rfl rfl ?_
  refine QL.step1v 6 (.int .i64 k_0) rfl (fun _ => by kernel_rfl) ?_
  refine QL.subk [2, 5, 6] [(2, .pointer (some ⟨b2', o2', none⟩)), (5, .slice a1' cap_1.length c1'), (6, .int .i64 k_0)] (by kernel_rfl) ?_
  obtain ⟨x3, hx4, hm⟩ := bindE hm
  obtain ⟨a5, c6, a10, c11, hc15, hR7, hle8, hR12, hle13⟩ := nest_Repair hr1 hx4
  refine QL.st (.pointer (some (at_ a1' (Int.toNat k_0 * 5)))) (ST.index (T := fRepair.ty) (xs := cap_1) (Rd.below hr1 (Ext.refl w)) hx4 rfl rfl rfl Try.underlying24 (info73).1 (info73).2.1) rfl rfl rfl ?_
  refine QL.step1v 8 (.pointer (some (at_ a1' (Int.toNat k_0 * 5 + 1)))) rfl (fun _ => by kernel_rfl) ?_
  refine QL.subk [2, 8] [(2, .pointer (some ⟨b2', o2', none⟩)), (8, .pointer (some (at_ a1' (Int.toNat k_0 * 5 + 1))))] (by kernel_rfl) ?_
  refine QL.st (.slice a5 x3.Mends.length c6) (ST.load (cell_ext ((cells_ext hc15 (Ext.refl w)) 1 _ rfl)) rfl rfl Try.underlying25 rfl) rfl rfl rfl ?_
  refine QL.st (.int .i64 cap_2) (ST.load (cell_ext (RdB.at (RdB.below h2 (Ext.refl w)) 0 _ rfl)) rfl rfl Try.underlying2 rfl) rfl rfl rfl ?_
  obtain ⟨x16, hx17, hm⟩ := bindE hm
  refine QL.call 82 #[.slice a5 x3.Mends.length c6, .int .i64 cap_2] (.bool x16) (fun _ => by kernel_rfl) (fun w18 hE19 => c_82 n x3.Mends a5 c6 cap_2 w18 hx17 (Rd.below (Rd.below hR7 (Ext.refl w)) hE19) hle8) rfl rfl rfl ?_
  refine QL.step1v 4 (.bool x16) rfl (fun _ => by kernel_rfl) ?_
  refine QL.subk [4] [(4, .bool x16)] (by kernel_rfl) ?_
  refine QL.nil ?_
  intro w20 hE21
  have hb22 : Ext w w20 := Ext.trans (Ext.refl w) hE21
  have hL23 : w.heap.size ≤ w20.heap.size := Nat.le_trans (Nat.le_refl _) hE21.size
  have hS24 : SH w20 w.heap.size [] := SH.ext (SH.nil _ _) hE21
  refine WQ.then_normal (hK2 _ _ _ ?_)
  refine WP.ret ?_
  obtain rfl := Option.some.inj hm
  exact WQ.ret1 _ rfl rfl ⟨rfl, hb22⟩

theorem c_108_97 (n : Nat) (s_0 : List Int) (a0' : Option Addr) (c0' : Nat) (cap_1_0 : List SRepair) (b1_0' o1_0' : Nat) (a1_0' : Option Addr) (c1_0' : Nat) (cap_1_1 : Int) (b1_1' o1_1' : Nat) (w : World) {r : Int} (hm : m_slices_IndexFunc_int64_int64_f97 n s_0 cap_1_0 cap_1_1 = some r) (h0 : Rd fInt.ty w a0' s_0) (_hle0 : s_0.length ≤ c0') (h1_0 : RdB w b1_0' o1_0' [.slice a1_0' cap_1_0.length c1_0']) (hr1_0 : Rd fRepair.ty w a1_0' cap_1_0) (hle1_0 : cap_1_0.length ≤ c1_0') (h1_1 : RdB w b1_1' o1_1' [.int .i64 cap_1_1]) :
    CallV Try.prog 108 #[.slice a0' s_0.length c0', .func (.func 97) #[] #[.pointer (some ⟨b1_0', o1_0', none⟩), .pointer (some ⟨b1_1', o1_1', none⟩)]] w (fun v w' => v = .int .i64 r ∧ Ext w w') := by
  unfold m_slices_IndexFunc_int64_int64_f97 at hm
  refine CallV.enter Try.func108 rfl (by kernel_rfl) Try.ntmps108 (env := [(0, .slice a0' s_0.length c0'), (1, .func (.func 97) #[] #[.pointer (some ⟨b1_0', o1_0', none⟩), .pointer (some ⟨b1_1', o1_1', none⟩)])]) ⟨rfl, rfl, trivial⟩ ?_
  refine WP.seq (fun K1 hK1 => ?_)
  refine WP.region ?_
  refine WL.runk 1 [0, 1] [(0, .slice a0' s_0.length c0'), (1, .func (.func 97) #[] #[.pointer (some ⟨b1_0', o1_0', none⟩), .pointer (some ⟨b1_1', o1_1', none⟩)])] (by kernel_rfl) ?_
  refine WL.nil ?_
  refine WQ.then_normal (hK1 _ _ _ ?_)
  refine WP.seq (fun K2 hK2 => ?_)
  refine WP.seq (fun K3 hK3 => ?_)
  refine WP.region ?_
  refine WL.runk 3 [0, 1, 7, 8] [(0, .slice a0' s_0.length c0'), (1, .func (.func 97) #[] #[.pointer (some ⟨b1_0', o1_0', none⟩), .pointer (some ⟨b1_1', o1_1', none⟩)]), (7, .int .i64 (s_0.length : Int)), (8, .int .i64 0)] (by kernel_rfl) ?_
  refine WL.nil ?_
  refine WQ.then_normal (hK3 _ _ _ ?_)
  refine WP.block ?_
  obtain ⟨t15, ht16, hm⟩ := bindE hm
  have hmo10 := hm; clear hm
  refine WP.sub [(0, .slice a0' s_0.length c0'), (1, .func (.func 97) #[] #[.pointer (some ⟨b1_0', o1_0', none⟩), .pointer (some ⟨b1_1', o1_1', none⟩)]), (7, .int .i64 (s_0.length : Int)), (8, .int .i64 0)] ⟨rfl, rfl, rfl, rfl, trivial⟩ ?_
  refine WP.loop (fun n' env' w' => ∃ (st4 : Int) , env' = [(0, .slice a0' s_0.length c0'), (1, .func (.func 97) #[] #[.pointer (some ⟨b1_0', o1_0', none⟩), .pointer (some ⟨b1_1', o1_1', none⟩)]), (7, .int .i64 (s_0.length : Int)), (8, .int .i64 st4)] ∧ Ext w w' ∧ w.heap.size ≤ w'.heap.size ∧ SH w' w.heap.size [] ∧ loopN (m_slices_IndexFunc_int64_int64_f97_l1 n s_0 cap_1_0 cap_1_1) n' st4 = some t15) n ⟨0, rfl, (Ext.refl w), (Nat.le_refl _), (SH.nil _ _), ht16⟩ ?_
  rintro n12 _ w5 ⟨st4, rfl, hb6, hL7, hS8, hl9⟩ K11 hK11
  obtain ⟨n13, s14, rfl, hm, hl9⟩ := loopN_some hl9
  unfold m_slices_IndexFunc_int64_int64_f97_l1 at hm
  refine WP.seq (fun K17 hK17 => ?_)
  refine WP.region ?_
  refine WL.runk 1 [0, 1, 7, 8, 9] [(0, .slice a0' s_0.length c0'), (1, .func (.func 97) #[] #[.pointer (some ⟨b1_0', o1_0', none⟩), .pointer (some ⟨b1_1', o1_1', none⟩)]), (7, .int .i64 (s_0.length : Int)), (8, .int .i64 st4), (9, .bool (decide (st4 < (s_0.length : Int))))] (by kernel_rfl) ?_
  refine WL.nil ?_
  refine WQ.then_normal (hK17 _ _ _ ?_)
  refine WP.seq (fun K18 hK18 => ?_)
  refine WP.cond (decide (st4 < (s_0.length : Int))) rfl rfl (fun hc19 => ?_) (fun hc19 => ?_)
  rotate_left
  · have hm := iteF hm hc19
    refine WP.exit ?_
    refine WQ.then_exit ?_
    refine WQ.then_exit ?_
    refine WQ.block_here ?_
    obtain rfl := Option.some.inj hm
    obtain rfl := afterN_done hl9
    have hm := hmo10
    refine WQ.then_normal (hK2 _ _ _ ?_)
    refine WP.seq (fun K35 hK35 => ?_)
    refine WP.region ?_
    refine WL.runk 1 [4] [(4, .int .i64 (-1))] (by kernel_rfl) ?_
    refine WL.nil ?_
    refine WQ.then_normal (hK35 _ _ _ ?_)
    refine WP.ret ?_
    obtain rfl := Option.some.inj hm
    exact WQ.ret1 _ rfl rfl ⟨rfl, hb6⟩
  have hm := iteT hm hc19
  refine WP.skip ?_
  refine WQ.then_normal (hK18 _ _ _ ?_)
  refine WP.seq (fun K20 hK20 => ?_)
  refine WP.block ?_
  refine WP.seq (fun K21 hK21 => ?_)
  refine WP.region ?_
  refine WL.runk 2 [0, 1, 5, 7, 8] [(0, .slice a0' s_0.length c0'), (1, .func (.func 97) #[] #[.pointer (some ⟨b1_0', o1_0', none⟩), .pointer (some ⟨b1_1', o1_1', none⟩)]), (7, .int .i64 (s_0.length : Int)), (8, .int .i64 st4), (5, .int .i64 st4)] (by kernel_rfl) ?_
  refine WL.nil ?_
  refine WQ.then_normal (hK21 _ _ _ ?_)
  refine WP.seq (fun K22 hK22 => ?_)
  refine WP.region ?_
  refine WL.runk 3 [0, 1, 5, 7, 8, 11, 12, 13] [(0, .slice a0' s_0.length c0'), (1, .func (.func 97) #[] #[.pointer (some ⟨b1_0', o1_0', none⟩), .pointer (some ⟨b1_1', o1_1', none⟩)]), (7, .int .i64 (s_0.length : Int)), (8, .int .i64 st4), (5, .int .i64 st4), (11, .func (.func 97) #[] #[.pointer (some ⟨b1_0', o1_0', none⟩), .pointer (some ⟨b1_1', o1_1', none⟩)]), (12, .slice a0' s_0.length c0'), (13, .int .i64 st4)] (by kernel_rfl) ?_
  obtain ⟨x23, hx24, hm⟩ := bindE hm
  refine WL.st (.pointer (some (at_ a0' (Int.toNat st4 * 1)))) (ST.index (T := fInt.ty) (xs := s_0) (Rd.below h0 hb6) hx24 rfl rfl rfl Try.underlying25 (info2).1 (info2).2.1) rfl rfl rfl ?_
  refine WL.st (.int .i64 x23) (ST.load (cell_ext (Rd.flat (F := fInt) (Rd.below h0 hb6) hx24 0 rfl)) rfl rfl Try.underlying2 rfl) rfl rfl rfl ?_
  obtain ⟨x25, hx26, hm⟩ := bindE hm
  refine WL.call 97 #[.int .i64 x23, .pointer (some ⟨b1_0', o1_0', none⟩), .pointer (some ⟨b1_1', o1_1', none⟩)] rfl rfl (by kernel_rfl) (c_97 n x23 cap_1_0 b1_0' o1_0' a1_0' c1_0' cap_1_1 b1_1' o1_1' w5 hx26 (RdB.below h1_0 hb6) (Rd.below hr1_0 hb6) hle1_0 (RdB.below h1_1 hb6)) ?_
  rintro _ w27 ⟨rfl, hE28⟩
  refine ⟨_, rfl, ?_⟩
  have hb30 : Ext w w27 := Ext.trans hb6 hE28
  have hL31 : w.heap.size ≤ w27.heap.size := Nat.le_trans hL7 hE28.size
  have hS32 : SH w27 w.heap.size [] := SH.ext hS8 hE28
  refine WL.sub [(0, .slice a0' s_0.length c0'), (1, .func (.func 97) #[] #[.pointer (some ⟨b1_0', o1_0', none⟩), .pointer (some ⟨b1_1', o1_1', none⟩)]), (7, .int .i64 (s_0.length : Int)), (8, .int .i64 st4), (5, .int .i64 st4), (16, .bool x25)] ⟨rfl, rfl, rfl, rfl, rfl, rfl, trivial⟩ ?_
  refine WL.nil ?_
  refine WQ.then_normal (hK22 _ _ _ ?_)
  refine WP.cond x25 rfl rfl (fun hc33 => ?_) (fun hc33 => ?_)
  rotate_left
  · have hm := iteF hm hc33
    refine WP.skip ?_
    refine WQ.block_normal ?_
    refine WQ.then_normal (hK20 _ _ _ ?_)
    refine WP.region ?_
    refine WL.runk 2 [0, 1, 7, 8] [(0, .slice a0' s_0.length c0'), (1, .func (.func 97) #[] #[.pointer (some ⟨b1_0', o1_0', none⟩), .pointer (some ⟨b1_1', o1_1', none⟩)]), (7, .int .i64 (s_0.length : Int)), (8, .int .i64 (wI64 (st4 + 1)))] (by kernel_rfl) ?_
    refine WL.nil ?_
    obtain rfl := Option.some.inj hm
    exact WQ.round hK11 ⟨(wI64 (st4 + 1)), rfl, hb30, hL31, hS32, hl9⟩ (Nat.lt_succ_self _) ⟨rfl, rfl, rfl, rfl, trivial⟩
  have hm := iteT hm hc33
  refine WP.seq (fun K34 hK34 => ?_)
  refine WP.region ?_
  refine WL.runk 2 [4] [(4, .int .i64 st4)] (by kernel_rfl) ?_
  refine WL.nil ?_
  refine WQ.then_normal (hK34 _ _ _ ?_)
  refine WP.ret ?_
  refine WQ.block_ret ?_
  refine WQ.then_ret ?_
  refine WQ.then_ret ?_
  refine WQ.block_ret ?_
  refine WQ.then_ret ?_
  obtain rfl := Option.some.inj hm
  obtain rfl := afterN_done hl9
  have hm := hmo10
  obtain rfl := Option.some.inj hm
  exact WQ.ret1 _ rfl rfl ⟨rfl, hb30⟩

theorem c_94_97 (n : Nat) (s_0 : List Int) (a0' : Option Addr) (c0' : Nat) (cap_1_0 : List SRepair) (b1_0' o1_0' : Nat) (a1_0' : Option Addr) (c1_0' : Nat) (cap_1_1 : Int) (b1_1' o1_1' : Nat) (w : World) {r : Bool} (hm : m_slices_ContainsFunc_int64_int64_f97 n s_0 cap_1_0 cap_1_1 = some r) (h0 : Rd fInt.ty w a0' s_0) (hle0 : s_0.length ≤ c0') (h1_0 : RdB w b1_0' o1_0' [.slice a1_0' cap_1_0.length c1_0']) (hr1_0 : Rd fRepair.ty w a1_0' cap_1_0) (hle1_0 : cap_1_0.length ≤ c1_0') (h1_1 : RdB w b1_1' o1_1' [.int .i64 cap_1_1]) :
    CallV Try.prog 94 #[.slice a0' s_0.length c0', .func (.func 97) #[] #[.pointer (some ⟨b1_0', o1_0', none⟩), .pointer (some ⟨b1_1', o1_1', none⟩)]] w (fun v w' => v = .bool r ∧ Ext w w') := by
  unfold m_slices_ContainsFunc_int64_int64_f97 at hm
  refine CallV.enter Try.func94 rfl (by kernel_rfl) Try.ntmps94 (env := [(0, .slice a0' s_0.length c0'), (1, .func (.func 97) #[] #[.pointer (some ⟨b1_0', o1_0', none⟩), .pointer (some ⟨b1_1', o1_1', none⟩)])]) ⟨rfl, rfl, trivial⟩ ?_
  refine WP.seq (fun K1 hK1 => ?_)
  refine WP.region ?_
  refine WL.runk 1 [0, 1] [(0, .slice a0' s_0.length c0'), (1, .func (.func 97) #[] #[.pointer (some ⟨b1_0', o1_0', none⟩), .pointer (some ⟨b1_1', o1_1', none⟩)])] (by kernel_rfl) ?_
  refine WL.nil ?_
  refine WQ.then_normal (hK1 _ _ _ ?_)
  refine WP.seq (fun K2 hK2 => ?_)
  refine WP.region ?_
  refine WL.runk 2 [5, 6] [(5, .slice a0' s_0.length c0'), (6, .func (.func 97) #[] #[.pointer (some ⟨b1_0', o1_0', none⟩), .pointer (some ⟨b1_1', o1_1', none⟩)])] (by kernel_rfl) ?_
  obtain ⟨x3, hx4, hm⟩ := bindE hm
  refine WL.call 108 #[.slice a0' s_0.length c0', .func (.func 97) #[] #[.pointer (some ⟨b1_0', o1_0', none⟩), .pointer (some ⟨b1_1', o1_1', none⟩)]] rfl rfl (by kernel_rfl) (c_108_97 n s_0 a0' c0' cap_1_0 b1_0' o1_0' a1_0' c1_0' cap_1_1 b1_1' o1_1' w hx4 (Rd.below h0 (Ext.refl w)) hle0 (RdB.below h1_0 (Ext.refl w)) (Rd.below hr1_0 (Ext.refl w)) hle1_0 (RdB.below h1_1 (Ext.refl w))) ?_
  rintro _ w5 ⟨rfl, hE6⟩
  refine ⟨_, rfl, ?_⟩
  have hb8 : Ext w w5 := Ext.trans (Ext.refl w) hE6
  have hL9 : w.heap.size ≤ w5.heap.size := Nat.le_trans (Nat.le_refl _) hE6.size
  have hS10 : SH w5 w.heap.size [] := SH.ext (SH.nil _ _) hE6
  refine WL.runk 2 [4] [(4, .bool (decide (x3 ≥ 0)))] (by kernel_rfl) ?_
  refine WL.nil ?_
  refine WQ.then_normal (hK2 _ _ _ ?_)
  refine WP.ret ?_
  obtain rfl := Option.some.inj hm
  exact WQ.ret1 _ rfl rfl ⟨rfl, hb8⟩

theorem c_96 (n : Nat) (fault_0 : Int) (cap_1 : List Int) (b1' o1' : Nat) (a1' : Option Addr) (c1' : Nat) (cap_2 : List SRepair) (b2' o2' : Nat) (a2' : Option Addr) (c2' : Nat) (w : World) {r : Bool} (hm : m_impl_mendsAll_2 n fault_0 cap_1 cap_2 = some r) (h1 : RdB w b1' o1' [.slice a1' cap_1.length c1']) (hr1 : Rd fInt.ty w a1' cap_1) (hle1 : cap_1.length ≤ c1') (h2 : RdB w b2' o2' [.slice a2' cap_2.length c2']) (hr2 : Rd fRepair.ty w a2' cap_2) (hle2 : cap_2.length ≤ c2') :
    CallV Try.prog 96 #[.int .i64 fault_0, .pointer (some ⟨b1', o1', none⟩), .pointer (some ⟨b2', o2', none⟩)] w (fun v w' => v = .bool r ∧ Ext w w') := by
  unfold m_impl_mendsAll_2 at hm
  refine CallV.enter Try.func96 rfl (by kernel_rfl) Try.ntmps96 (env := [(0, .int .i64 fault_0), (1, .pointer (some ⟨b1', o1', none⟩)), (2, .pointer (some ⟨b2', o2', none⟩))]) ⟨rfl, rfl, rfl, trivial⟩ ?_
  refine WP.seq (fun K1 hK1 => ?_)
  refine WP.region ?_
  refine WL.box 2 [.int .i64 fault_0] 3 (by kernel_rfl) rfl rfl rfl rfl ?_
  intro b2 w3 hE4 hR5
  have hb7 : Ext w w3 := Ext.trans (Ext.refl w) hE4
  have hL8 : w.heap.size ≤ w3.heap.size := Nat.le_trans (Nat.le_refl _) hE4.size
  have hS9 : SH w3 w.heap.size [aBox 2 b2 [.int .i64 fault_0]] := SH.add (SH.nil _ _) hE4 (Nat.le_refl _) hR5
  refine WL.runk 1 [1, 2, 3] [(1, .pointer (some ⟨b1', o1', none⟩)), (2, .pointer (some ⟨b2', o2', none⟩)), (3, .pointer (some ⟨b2, 0, none⟩))] (by kernel_rfl) ?_
  refine WL.nil ?_
  refine WQ.then_normal (hK1 _ _ _ ?_)
  refine WP.seq (fun K10 hK10 => ?_)
  refine WP.region ?_
  refine WL.st (.slice a1' cap_1.length c1') (ST.load (cell_ext (RdB.at (RdB.below h1 hb7) 0 _ rfl)) rfl rfl Try.underlying25 rfl) rfl rfl rfl ?_
  refine WL.runk 1 [5, 6] [(5, .slice a1' cap_1.length c1'), (6, .func (.func 97) #[] #[.pointer (some ⟨b2', o2', none⟩), .pointer (some ⟨b2, 0, none⟩)])] (by kernel_rfl) ?_
  obtain ⟨x11, hx12, hm⟩ := bindE hm
  refine WL.call 94 #[.slice a1' cap_1.length c1', .func (.func 97) #[] #[.pointer (some ⟨b2', o2', none⟩), .pointer (some ⟨b2, 0, none⟩)]] rfl rfl (by kernel_rfl) (c_94_97 n cap_1 a1' c1' cap_2 b2' o2' a2' c2' fault_0 b2 0 w3 hx12 (Rd.below hr1 hb7) hle1 (RdB.below h2 hb7) (Rd.below hr2 hb7) hle2 (SH.boxRd (SH.front 0 hS9))) ?_
  rintro _ w13 ⟨rfl, hE14⟩
  refine ⟨_, rfl, ?_⟩
  have hb16 : Ext w w13 := Ext.trans hb7 hE14
  have hL17 : w.heap.size ≤ w13.heap.size := Nat.le_trans hL8 hE14.size
  have hS18 : SH w13 w.heap.size [aBox 2 b2 [.int .i64 fault_0]] := SH.ext hS9 hE14
  refine WL.runk 2 [4] [(4, .bool (!x11))] (by kernel_rfl) ?_
  refine WL.nil ?_
  refine WQ.then_normal (hK10 _ _ _ ?_)
  refine WP.ret ?_
  obtain rfl := Option.some.inj hm
  exact WQ.ret1 _ rfl rfl ⟨rfl, hb16⟩

theorem c_108_95 (n : Nat) (s_0 : List Int) (a0' : Option Addr) (c0' : Nat) (cap_1_0 : List Int) (b1_0' o1_0' : Nat) (a1_0' : Option Addr) (c1_0' : Nat) (w : World) {r : Int} (hm : m_slices_IndexFunc_int64_int64_f95 n s_0 cap_1_0 = some r) (h0 : Rd fInt.ty w a0' s_0) (_hle0 : s_0.length ≤ c0') (h1_0 : RdB w b1_0' o1_0' [.slice a1_0' cap_1_0.length c1_0']) (hr1_0 : Rd fInt.ty w a1_0' cap_1_0) (hle1_0 : cap_1_0.length ≤ c1_0') :
    CallV Try.prog 108 #[.slice a0' s_0.length c0', .func (.func 95) #[] #[.pointer (some ⟨b1_0', o1_0', none⟩)]] w (fun v w' => v = .int .i64 r ∧ Ext w w') := by
  unfold m_slices_IndexFunc_int64_int64_f95 at hm
  refine CallV.enter Try.func108 rfl (by kernel_rfl) Try.ntmps108 (env := [(0, .slice a0' s_0.length c0'), (1, .func (.func 95) #[] #[.pointer (some ⟨b1_0', o1_0', none⟩)])]) ⟨rfl, rfl, trivial⟩ ?_
  refine WP.seq (fun K1 hK1 => ?_)
  refine WP.region ?_
  refine WL.runk 1 [0, 1] [(0, .slice a0' s_0.length c0'), (1, .func (.func 95) #[] #[.pointer (some ⟨b1_0', o1_0', none⟩)])] (by kernel_rfl) ?_
  refine WL.nil ?_
  refine WQ.then_normal (hK1 _ _ _ ?_)
  refine WP.seq (fun K2 hK2 => ?_)
  refine WP.seq (fun K3 hK3 => ?_)
  refine WP.region ?_
  refine WL.runk 3 [0, 1, 7, 8] [(0, .slice a0' s_0.length c0'), (1, .func (.func 95) #[] #[.pointer (some ⟨b1_0', o1_0', none⟩)]), (7, .int .i64 (s_0.length : Int)), (8, .int .i64 0)] (by kernel_rfl) ?_
  refine WL.nil ?_
  refine WQ.then_normal (hK3 _ _ _ ?_)
  refine WP.block ?_
  obtain ⟨t15, ht16, hm⟩ := bindE hm
  have hmo10 := hm; clear hm
  refine WP.sub [(0, .slice a0' s_0.length c0'), (1, .func (.func 95) #[] #[.pointer (some ⟨b1_0', o1_0', none⟩)]), (7, .int .i64 (s_0.length : Int)), (8, .int .i64 0)] ⟨rfl, rfl, rfl, rfl, trivial⟩ ?_
  refine WP.loop (fun n' env' w' => ∃ (st4 : Int) , env' = [(0, .slice a0' s_0.length c0'), (1, .func (.func 95) #[] #[.pointer (some ⟨b1_0', o1_0', none⟩)]), (7, .int .i64 (s_0.length : Int)), (8, .int .i64 st4)] ∧ Ext w w' ∧ w.heap.size ≤ w'.heap.size ∧ SH w' w.heap.size [] ∧ loopN (m_slices_IndexFunc_int64_int64_f95_l1 n s_0 cap_1_0) n' st4 = some t15) n ⟨0, rfl, (Ext.refl w), (Nat.le_refl _), (SH.nil _ _), ht16⟩ ?_
  rintro n12 _ w5 ⟨st4, rfl, hb6, hL7, hS8, hl9⟩ K11 hK11
  obtain ⟨n13, s14, rfl, hm, hl9⟩ := loopN_some hl9
  unfold m_slices_IndexFunc_int64_int64_f95_l1 at hm
  refine WP.seq (fun K17 hK17 => ?_)
  refine WP.region ?_
  refine WL.runk 1 [0, 1, 7, 8, 9] [(0, .slice a0' s_0.length c0'), (1, .func (.func 95) #[] #[.pointer (some ⟨b1_0', o1_0', none⟩)]), (7, .int .i64 (s_0.length : Int)), (8, .int .i64 st4), (9, .bool (decide (st4 < (s_0.length : Int))))] (by kernel_rfl) ?_
  refine WL.nil ?_
  refine WQ.then_normal (hK17 _ _ _ ?_)
  refine WP.seq (fun K18 hK18 => ?_)
  refine WP.cond (decide (st4 < (s_0.length : Int))) rfl rfl (fun hc19 => ?_) (fun hc19 => ?_)
  rotate_left
  · have hm := iteF hm hc19
    refine WP.exit ?_
    refine WQ.then_exit ?_
    refine WQ.then_exit ?_
    refine WQ.block_here ?_
    obtain rfl := Option.some.inj hm
    obtain rfl := afterN_done hl9
    have hm := hmo10
    refine WQ.then_normal (hK2 _ _ _ ?_)
    refine WP.seq (fun K35 hK35 => ?_)
    refine WP.region ?_
    refine WL.runk 1 [4] [(4, .int .i64 (-1))] (by kernel_rfl) ?_
    refine WL.nil ?_
    refine WQ.then_normal (hK35 _ _ _ ?_)
    refine WP.ret ?_
    obtain rfl := Option.some.inj hm
    exact WQ.ret1 _ rfl rfl ⟨rfl, hb6⟩
  have hm := iteT hm hc19
  refine WP.skip ?_
  refine WQ.then_normal (hK18 _ _ _ ?_)
  refine WP.seq (fun K20 hK20 => ?_)
  refine WP.block ?_
  refine WP.seq (fun K21 hK21 => ?_)
  refine WP.region ?_
  refine WL.runk 2 [0, 1, 5, 7, 8] [(0, .slice a0' s_0.length c0'), (1, .func (.func 95) #[] #[.pointer (some ⟨b1_0', o1_0', none⟩)]), (7, .int .i64 (s_0.length : Int)), (8, .int .i64 st4), (5, .int .i64 st4)] (by kernel_rfl) ?_
  refine WL.nil ?_
  refine WQ.then_normal (hK21 _ _ _ ?_)
  refine WP.seq (fun K22 hK22 => ?_)
  refine WP.region ?_
  refine WL.runk 3 [0, 1, 5, 7, 8, 11, 12, 13] [(0, .slice a0' s_0.length c0'), (1, .func (.func 95) #[] #[.pointer (some ⟨b1_0', o1_0', none⟩)]), (7, .int .i64 (s_0.length : Int)), (8, .int .i64 st4), (5, .int .i64 st4), (11, .func (.func 95) #[] #[.pointer (some ⟨b1_0', o1_0', none⟩)]), (12, .slice a0' s_0.length c0'), (13, .int .i64 st4)] (by kernel_rfl) ?_
  obtain ⟨x23, hx24, hm⟩ := bindE hm
  refine WL.st (.pointer (some (at_ a0' (Int.toNat st4 * 1)))) (ST.index (T := fInt.ty) (xs := s_0) (Rd.below h0 hb6) hx24 rfl rfl rfl Try.underlying25 (info2).1 (info2).2.1) rfl rfl rfl ?_
  refine WL.st (.int .i64 x23) (ST.load (cell_ext (Rd.flat (F := fInt) (Rd.below h0 hb6) hx24 0 rfl)) rfl rfl Try.underlying2 rfl) rfl rfl rfl ?_
  obtain ⟨x25, hx26, hm⟩ := bindE hm
  refine WL.call 95 #[.int .i64 x23, .pointer (some ⟨b1_0', o1_0', none⟩)] rfl rfl (by kernel_rfl) (c_95 n x23 cap_1_0 b1_0' o1_0' a1_0' c1_0' w5 hx26 (RdB.below h1_0 hb6) (Rd.below hr1_0 hb6) hle1_0) ?_
  rintro _ w27 ⟨rfl, hE28⟩
  refine ⟨_, rfl, ?_⟩
  have hb30 : Ext w w27 := Ext.trans hb6 hE28
  have hL31 : w.heap.size ≤ w27.heap.size := Nat.le_trans hL7 hE28.size
  have hS32 : SH w27 w.heap.size [] := SH.ext hS8 hE28
  refine WL.sub [(0, .slice a0' s_0.length c0'), (1, .func (.func 95) #[] #[.pointer (some ⟨b1_0', o1_0', none⟩)]), (7, .int .i64 (s_0.length : Int)), (8, .int .i64 st4), (5, .int .i64 st4), (16, .bool x25)] ⟨rfl, rfl, rfl, rfl, rfl, rfl, trivial⟩ ?_
  refine WL.nil ?_
  refine WQ.then_normal (hK22 _ _ _ ?_)
  refine WP.cond x25 rfl rfl (fun hc33 => ?_) (fun hc33 => ?_)
  rotate_left
  · have hm := iteF hm hc33
    refine WP.skip ?_
    refine WQ.block_normal ?_
    refine WQ.then_normal (hK20 _ _ _ ?_)
    refine WP.region ?_
    refine WL.runk 2 [0, 1, 7, 8] [(0, .slice a0' s_0.length c0'), (1, .func (.func 95) #[] #[.pointer (some ⟨b1_0', o1_0', none⟩)]), (7, .int .i64 (s_0.length : Int)), (8, .int .i64 (wI64 (st4 + 1)))] (by kernel_rfl) ?_
    refine WL.nil ?_
    obtain rfl := Option.some.inj hm
    exact WQ.round hK11 ⟨(wI64 (st4 + 1)), rfl, hb30, hL31, hS32, hl9⟩ (Nat.lt_succ_self _) ⟨rfl, rfl, rfl, rfl, trivial⟩
  have hm := iteT hm hc33
  refine WP.seq (fun K34 hK34 => ?_)
  refine WP.region ?_
  refine WL.runk 2 [4] [(4, .int .i64 st4)] (by kernel_rfl) ?_
  refine WL.nil ?_
  refine WQ.then_normal (hK34 _ _ _ ?_)
  refine WP.ret ?_
  refine WQ.block_ret ?_
  refine WQ.then_ret ?_
  refine WQ.then_ret ?_
  refine WQ.block_ret ?_
  refine WQ.then_ret ?_
  obtain rfl := Option.some.inj hm
  obtain rfl := afterN_done hl9
  have hm := hmo10
  obtain rfl := Option.some.inj hm
  exact WQ.ret1 _ rfl rfl ⟨rfl, hb30⟩

theorem c_94_95 (n : Nat) (s_0 : List Int) (a0' : Option Addr) (c0' : Nat) (cap_1_0 : List Int) (b1_0' o1_0' : Nat) (a1_0' : Option Addr) (c1_0' : Nat) (w : World) {r : Bool} (hm : m_slices_ContainsFunc_int64_int64_f95 n s_0 cap_1_0 = some r) (h0 : Rd fInt.ty w a0' s_0) (hle0 : s_0.length ≤ c0') (h1_0 : RdB w b1_0' o1_0' [.slice a1_0' cap_1_0.length c1_0']) (hr1_0 : Rd fInt.ty w a1_0' cap_1_0) (hle1_0 : cap_1_0.length ≤ c1_0') :
    CallV Try.prog 94 #[.slice a0' s_0.length c0', .func (.func 95) #[] #[.pointer (some ⟨b1_0', o1_0', none⟩)]] w (fun v w' => v = .bool r ∧ Ext w w') := by
  unfold m_slices_ContainsFunc_int64_int64_f95 at hm
  refine CallV.enter Try.func94 rfl (by kernel_rfl) Try.ntmps94 (env := [(0, .slice a0' s_0.length c0'), (1, .func (.func 95) #[] #[.pointer (some ⟨b1_0', o1_0', none⟩)])]) ⟨rfl, rfl, trivial⟩ ?_
  refine WP.seq (fun K1 hK1 => ?_)
  refine WP.region ?_
  refine WL.runk 1 [0, 1] [(0, .slice a0' s_0.length c0'), (1, .func (.func 95) #[] #[.pointer (some ⟨b1_0', o1_0', none⟩)])] (by kernel_rfl) ?_
  refine WL.nil ?_
  refine WQ.then_normal (hK1 _ _ _ ?_)
  refine WP.seq (fun K2 hK2 => ?_)
  refine WP.region ?_
  refine WL.runk 2 [5, 6] [(5, .slice a0' s_0.length c0'), (6, .func (.func 95) #[] #[.pointer (some ⟨b1_0', o1_0', none⟩)])] (by kernel_rfl) ?_
  obtain ⟨x3, hx4, hm⟩ := bindE hm
  refine WL.call 108 #[.slice a0' s_0.length c0', .func (.func 95) #[] #[.pointer (some ⟨b1_0', o1_0', none⟩)]] rfl rfl (by kernel_rfl) (c_108_95 n s_0 a0' c0' cap_1_0 b1_0' o1_0' a1_0' c1_0' w hx4 (Rd.below h0 (Ext.refl w)) hle0 (RdB.below h1_0 (Ext.refl w)) (Rd.below hr1_0 (Ext.refl w)) hle1_0) ?_
  rintro _ w5 ⟨rfl, hE6⟩
  refine ⟨_, rfl, ?_⟩
  have hb8 : Ext w w5 := Ext.trans (Ext.refl w) hE6
  have hL9 : w.heap.size ≤ w5.heap.size := Nat.le_trans (Nat.le_refl _) hE6.size
  have hS10 : SH w5 w.heap.size [] := SH.ext (SH.nil _ _) hE6
  refine WL.runk 2 [4] [(4, .bool (decide (x3 ≥ 0)))] (by kernel_rfl) ?_
  refine WL.nil ?_
  refine WQ.then_normal (hK2 _ _ _ ?_)
  refine WP.ret ?_
  obtain rfl := Option.some.inj hm
  exact WQ.ret1 _ rfl rfl ⟨rfl, hb8⟩

theorem c_108_96 (n : Nat) (s_0 : List Int) (a0' : Option Addr) (c0' : Nat) (cap_1_0 : List Int) (b1_0' o1_0' : Nat) (a1_0' : Option Addr) (c1_0' : Nat) (cap_1_1 : List SRepair) (b1_1' o1_1' : Nat) (a1_1' : Option Addr) (c1_1' : Nat) (w : World) {r : Int} (hm : m_slices_IndexFunc_int64_int64_f96 n s_0 cap_1_0 cap_1_1 = some r) (h0 : Rd fInt.ty w a0' s_0) (_hle0 : s_0.length ≤ c0') (h1_0 : RdB w b1_0' o1_0' [.slice a1_0' cap_1_0.length c1_0']) (hr1_0 : Rd fInt.ty w a1_0' cap_1_0) (hle1_0 : cap_1_0.length ≤ c1_0') (h1_1 : RdB w b1_1' o1_1' [.slice a1_1' cap_1_1.length c1_1']) (hr1_1 : Rd fRepair.ty w a1_1' cap_1_1) (hle1_1 : cap_1_1.length ≤ c1_1') :
    CallV Try.prog 108 #[.slice a0' s_0.length c0', .func (.func 96) #[] #[.pointer (some ⟨b1_0', o1_0', none⟩), .pointer (some ⟨b1_1', o1_1', none⟩)]] w (fun v w' => v = .int .i64 r ∧ Ext w w') := by
  unfold m_slices_IndexFunc_int64_int64_f96 at hm
  refine CallV.enter Try.func108 rfl (by kernel_rfl) Try.ntmps108 (env := [(0, .slice a0' s_0.length c0'), (1, .func (.func 96) #[] #[.pointer (some ⟨b1_0', o1_0', none⟩), .pointer (some ⟨b1_1', o1_1', none⟩)])]) ⟨rfl, rfl, trivial⟩ ?_
  refine WP.seq (fun K1 hK1 => ?_)
  refine WP.region ?_
  refine WL.runk 1 [0, 1] [(0, .slice a0' s_0.length c0'), (1, .func (.func 96) #[] #[.pointer (some ⟨b1_0', o1_0', none⟩), .pointer (some ⟨b1_1', o1_1', none⟩)])] (by kernel_rfl) ?_
  refine WL.nil ?_
  refine WQ.then_normal (hK1 _ _ _ ?_)
  refine WP.seq (fun K2 hK2 => ?_)
  refine WP.seq (fun K3 hK3 => ?_)
  refine WP.region ?_
  refine WL.runk 3 [0, 1, 7, 8] [(0, .slice a0' s_0.length c0'), (1, .func (.func 96) #[] #[.pointer (some ⟨b1_0', o1_0', none⟩), .pointer (some ⟨b1_1', o1_1', none⟩)]), (7, .int .i64 (s_0.length : Int)), (8, .int .i64 0)] (by kernel_rfl) ?_
  refine WL.nil ?_
  refine WQ.then_normal (hK3 _ _ _ ?_)
  refine WP.block ?_
  obtain ⟨t15, ht16, hm⟩ := bindE hm
  have hmo10 := hm; clear hm
  refine WP.sub [(0, .slice a0' s_0.length c0'), (1, .func (.func 96) #[] #[.pointer (some ⟨b1_0', o1_0', none⟩), .pointer (some ⟨b1_1', o1_1', none⟩)]), (7, .int .i64 (s_0.length : Int)), (8, .int .i64 0)] ⟨rfl, rfl, rfl, rfl, trivial⟩ ?_
  refine WP.loop (fun n' env' w' => ∃ (st4 : Int) , env' = [(0, .slice a0' s_0.length c0'), (1, .func (.func 96) #[] #[.pointer (some ⟨b1_0', o1_0', none⟩), .pointer (some ⟨b1_1', o1_1', none⟩)]), (7, .int .i64 (s_0.length : Int)), (8, .int .i64 st4)] ∧ Ext w w' ∧ w.heap.size ≤ w'.heap.size ∧ SH w' w.heap.size [] ∧ loopN (m_slices_IndexFunc_int64_int64_f96_l1 n s_0 cap_1_0 cap_1_1) n' st4 = some t15) n ⟨0, rfl, (Ext.refl w), (Nat.le_refl _), (SH.nil _ _), ht16⟩ ?_
  rintro n12 _ w5 ⟨st4, rfl, hb6, hL7, hS8, hl9⟩ K11 hK11
  obtain ⟨n13, s14, rfl, hm, hl9⟩ := loopN_some hl9
  unfold m_slices_IndexFunc_int64_int64_f96_l1 at hm
  refine WP.seq (fun K17 hK17 => ?_)
  refine WP.region ?_
  refine WL.runk 1 [0, 1, 7, 8, 9] [(0, .slice a0' s_0.length c0'), (1, .func (.func 96) #[] #[.pointer (some ⟨b1_0', o1_0', none⟩), .pointer (some ⟨b1_1', o1_1', none⟩)]), (7, .int .i64 (s_0.length : Int)), (8, .int .i64 st4), (9, .bool (decide (st4 < (s_0.length : Int))))] (by kernel_rfl) ?_
  refine WL.nil ?_
  refine WQ.then_normal (hK17 _ _ _ ?_)
  refine WP.seq (fun K18 hK18 => ?_)
  refine WP.cond (decide (st4 < (s_0.length : Int))) rfl rfl (fun hc19 => ?_) (fun hc19 => ?_)
  rotate_left
  · have hm := iteF hm hc19
    refine WP.exit ?_
    refine WQ.then_exit ?_
    refine WQ.then_exit ?_
    refine WQ.block_here ?_
    obtain rfl := Option.some.inj hm
    obtain rfl := afterN_done hl9
    have hm := hmo10
    refine WQ.then_normal (hK2 _ _ _ ?_)
    refine WP.seq (fun K35 hK35 => ?_)
    refine WP.region ?_
    refine WL.runk 1 [4] [(4, .int .i64 (-1))] (by kernel_rfl) ?_
    refine WL.nil ?_
    refine WQ.then_normal (hK35 _ _ _ ?_)
    refine WP.ret ?_
    obtain rfl := Option.some.inj hm
    exact WQ.ret1 _ rfl rfl ⟨rfl, hb6⟩
  have hm := iteT hm hc19
  refine WP.skip ?_
  refine WQ.then_normal (hK18 _ _ _ ?_)
  refine WP.seq (fun K20 hK20 => ?_)
  refine WP.block ?_
  refine WP.seq (fun K21 hK21 => ?_)
  refine WP.region ?_
  refine WL.runk 2 [0, 1, 5, 7, 8] [(0, .slice a0' s_0.length c0'), (1, .func (.func 96) #[] #[.pointer (some ⟨b1_0', o1_0', none⟩), .pointer (some ⟨b1_1', o1_1', none⟩)]), (7, .int .i64 (s_0.length : Int)), (8, .int .i64 st4), (5, .int .i64 st4)] (by kernel_rfl) ?_
  refine WL.nil ?_
  refine WQ.then_normal (hK21 _ _ _ ?_)
  refine WP.seq (fun K22 hK22 => ?_)
  refine WP.region ?_
  refine WL.runk 3 [0, 1, 5, 7, 8, 11, 12, 13] [(0, .slice a0' s_0.length c0'), (1, .func (.func 96) #[] #[.pointer (some ⟨b1_0', o1_0', none⟩), .pointer (some ⟨b1_1', o1_1', none⟩)]), (7, .int .i64 (s_0.length : Int)), (8, .int .i64 st4), (5, .int .i64 st4), (11, .func (.func 96) #[] #[.pointer (some ⟨b1_0', o1_0', none⟩), .pointer (some ⟨b1_1', o1_1', none⟩)]), (12, .slice a0' s_0.length c0'), (13, .int .i64 st4)] (by kernel_rfl) ?_
  obtain ⟨x23, hx24, hm⟩ := bindE hm
  refine WL.st (.pointer (some (at_ a0' (Int.toNat st4 * 1)))) (ST.index (T := fInt.ty) (xs := s_0) (Rd.below h0 hb6) hx24 rfl rfl rfl Try.underlying25 (info2).1 (info2).2.1) rfl rfl rfl ?_
  refine WL.st (.int .i64 x23) (ST.load (cell_ext (Rd.flat (F := fInt) (Rd.below h0 hb6) hx24 0 rfl)) rfl rfl Try.underlying2 rfl) rfl rfl rfl ?_
  obtain ⟨x25, hx26, hm⟩ := bindE hm
  refine WL.call 96 #[.int .i64 x23, .pointer (some ⟨b1_0', o1_0', none⟩), .pointer (some ⟨b1_1', o1_1', none⟩)] rfl rfl (by kernel_rfl) (c_96 n x23 cap_1_0 b1_0' o1_0' a1_0' c1_0' cap_1_1 b1_1' o1_1' a1_1' c1_1' w5 hx26 (RdB.below h1_0 hb6) (Rd.below hr1_0 hb6) hle1_0 (RdB.below h1_1 hb6) (Rd.below hr1_1 hb6) hle1_1) ?_
  rintro _ w27 ⟨rfl, hE28⟩
  refine ⟨_, rfl, ?_⟩
  have hb30 : Ext w w27 := Ext.trans hb6 hE28
  have hL31 : w.heap.size ≤ w27.heap.size := Nat.le_trans hL7 hE28.size
  have hS32 : SH w27 w.heap.size [] := SH.ext hS8 hE28
  refine WL.sub [(0, .slice a0' s_0.length c0'), (1, .func (.func 96) #[] #[.pointer (some ⟨b1_0', o1_0', none⟩), .pointer (some ⟨b1_1', o1_1', none⟩)]), (7, .int .i64 (s_0.length : Int)), (8, .int .i64 st4), (5, .int .i64 st4), (16, .bool x25)] ⟨rfl, rfl, rfl, rfl, rfl, rfl, trivial⟩ ?_
  refine WL.nil ?_
  refine WQ.then_normal (hK22 _ _ _ ?_)
  refine WP.cond x25 rfl rfl (fun hc33 => ?_) (fun hc33 => ?_)
  rotate_left
  · have hm := iteF hm hc33
    refine WP.skip ?_
    refine WQ.block_normal ?_
    refine WQ.then_normal (hK20 _ _ _ ?_)
    refine WP.region ?_
    refine WL.runk 2 [0, 1, 7, 8] [(0, .slice a0' s_0.length c0'), (1, .func (.func 96) #[] #[.pointer (some ⟨b1_0', o1_0', none⟩), .pointer (some ⟨b1_1', o1_1', none⟩)]), (7, .int .i64 (s_0.length : Int)), (8, .int .i64 (wI64 (st4 + 1)))] (by kernel_rfl) ?_
    refine WL.nil ?_
    obtain rfl := Option.some.inj hm
    exact WQ.round hK11 ⟨(wI64 (st4 + 1)), rfl, hb30, hL31, hS32, hl9⟩ (Nat.lt_succ_self _) ⟨rfl, rfl, rfl, rfl, trivial⟩
  have hm := iteT hm hc33
  refine WP.seq (fun K34 hK34 => ?_)
  refine WP.region ?_
  refine WL.runk 2 [4] [(4, .int .i64 st4)] (by kernel_rfl) ?_
  refine WL.nil ?_
  refine WQ.then_normal (hK34 _ _ _ ?_)
  refine WP.ret ?_
  refine WQ.block_ret ?_
  refine WQ.then_ret ?_
  refine WQ.then_ret ?_
  refine WQ.block_ret ?_
  refine WQ.then_ret ?_
  obtain rfl := Option.some.inj hm
  obtain rfl := afterN_done hl9
  have hm := hmo10
  obtain rfl := Option.some.inj hm
  exact WQ.ret1 _ rfl rfl ⟨rfl, hb30⟩

theorem c_94_96 (n : Nat) (s_0 : List Int) (a0' : Option Addr) (c0' : Nat) (cap_1_0 : List Int) (b1_0' o1_0' : Nat) (a1_0' : Option Addr) (c1_0' : Nat) (cap_1_1 : List SRepair) (b1_1' o1_1' : Nat) (a1_1' : Option Addr) (c1_1' : Nat) (w : World) {r : Bool} (hm : m_slices_ContainsFunc_int64_int64_f96 n s_0 cap_1_0 cap_1_1 = some r) (h0 : Rd fInt.ty w a0' s_0) (hle0 : s_0.length ≤ c0') (h1_0 : RdB w b1_0' o1_0' [.slice a1_0' cap_1_0.length c1_0']) (hr1_0 : Rd fInt.ty w a1_0' cap_1_0) (hle1_0 : cap_1_0.length ≤ c1_0') (h1_1 : RdB w b1_1' o1_1' [.slice a1_1' cap_1_1.length c1_1']) (hr1_1 : Rd fRepair.ty w a1_1' cap_1_1) (hle1_1 : cap_1_1.length ≤ c1_1') :
    CallV Try.prog 94 #[.slice a0' s_0.length c0', .func (.func 96) #[] #[.pointer (some ⟨b1_0', o1_0', none⟩), .pointer (some ⟨b1_1', o1_1', none⟩)]] w (fun v w' => v = .bool r ∧ Ext w w') := by
  unfold m_slices_ContainsFunc_int64_int64_f96 at hm
  refine CallV.enter Try.func94 rfl (by kernel_rfl) Try.ntmps94 (env := [(0, .slice a0' s_0.length c0'), (1, .func (.func 96) #[] #[.pointer (some ⟨b1_0', o1_0', none⟩), .pointer (some ⟨b1_1', o1_1', none⟩)])]) ⟨rfl, rfl, trivial⟩ ?_
  refine WP.seq (fun K1 hK1 => ?_)
  refine WP.region ?_
  refine WL.runk 1 [0, 1] [(0, .slice a0' s_0.length c0'), (1, .func (.func 96) #[] #[.pointer (some ⟨b1_0', o1_0', none⟩), .pointer (some ⟨b1_1', o1_1', none⟩)])] (by kernel_rfl) ?_
  refine WL.nil ?_
  refine WQ.then_normal (hK1 _ _ _ ?_)
  refine WP.seq (fun K2 hK2 => ?_)
  refine WP.region ?_
  refine WL.runk 2 [5, 6] [(5, .slice a0' s_0.length c0'), (6, .func (.func 96) #[] #[.pointer (some ⟨b1_0', o1_0', none⟩), .pointer (some ⟨b1_1', o1_1', none⟩)])] (by kernel_rfl) ?_
  obtain ⟨x3, hx4, hm⟩ := bindE hm
  refine WL.call 108 #[.slice a0' s_0.length c0', .func (.func 96) #[] #[.pointer (some ⟨b1_0', o1_0', none⟩), .pointer (some ⟨b1_1', o1_1', none⟩)]] rfl rfl (by kernel_rfl) (c_108_96 n s_0 a0' c0' cap_1_0 b1_0' o1_0' a1_0' c1_0' cap_1_1 b1_1' o1_1' a1_1' c1_1' w hx4 (Rd.below h0 (Ext.refl w)) hle0 (RdB.below h1_0 (Ext.refl w)) (Rd.below hr1_0 (Ext.refl w)) hle1_0 (RdB.below h1_1 (Ext.refl w)) (Rd.below hr1_1 (Ext.refl w)) hle1_1) ?_
  rintro _ w5 ⟨rfl, hE6⟩
  refine ⟨_, rfl, ?_⟩
  have hb8 : Ext w w5 := Ext.trans (Ext.refl w) hE6
  have hL9 : w.heap.size ≤ w5.heap.size := Nat.le_trans (Nat.le_refl _) hE6.size
  have hS10 : SH w5 w.heap.size [] := SH.ext (SH.nil _ _) hE6
  refine WL.runk 2 [4] [(4, .bool (decide (x3 ≥ 0)))] (by kernel_rfl) ?_
  refine WL.nil ?_
  refine WQ.then_normal (hK2 _ _ _ ?_)
  refine WP.ret ?_
  obtain rfl := Option.some.inj hm
  exact WQ.ret1 _ rfl rfl ⟨rfl, hb8⟩

theorem c_51 (n : Nat) (list_0 : List SRepair) (a0' : Option Addr) (c0' : Nat) (some_1 : List Int) (a1' : Option Addr) (c1' : Nat) (faults_2 : List Int) (a2' : Option Addr) (c2' : Nat) (w : World) {r : Bool} (hm : m_impl_mendsAll n list_0 some_1 faults_2 = some r) (h0 : Rd fRepair.ty w a0' list_0) (hle0 : list_0.length ≤ c0') (h1 : Rd fInt.ty w a1' some_1) (hle1 : some_1.length ≤ c1') (h2 : Rd fInt.ty w a2' faults_2) (hle2 : faults_2.length ≤ c2') :
    CallV Try.prog 51 #[.slice a0' list_0.length c0', .slice a1' some_1.length c1', .slice a2' faults_2.length c2'] w (fun v w' => v = .bool r ∧ Ext w w') := by
  unfold m_impl_mendsAll at hm
  refine CallV.enter Try.func51 rfl (by kernel_rfl) Try.ntmps51 (env := [(0, .slice a0' list_0.length c0'), (1, .slice a1' some_1.length c1'), (2, .slice a2' faults_2.length c2')]) ⟨rfl, rfl, rfl, trivial⟩ ?_
  refine WP.seq (fun K1 hK1 => ?_)
  refine WP.region ?_
  refine WL.box 24 [.slice a0' list_0.length c0'] 3 (by kernel_rfl) rfl rfl rfl rfl ?_
  intro b2 w3 hE4 hR5
  have hb7 : Ext w w3 := Ext.trans (Ext.refl w) hE4
  have hL8 : w.heap.size ≤ w3.heap.size := Nat.le_trans (Nat.le_refl _) hE4.size
  have hS9 : SH w3 w.heap.size [aBox 24 b2 [.slice a0' list_0.length c0']] := SH.add (SH.nil _ _) hE4 (Nat.le_refl _) hR5
  refine WL.box 25 [.slice a1' some_1.length c1'] 4 (by kernel_rfl) rfl rfl rfl rfl ?_
  intro b10 w11 hE12 hR13
  have hb15 : Ext w w11 := Ext.trans hb7 hE12
  have hL16 : w.heap.size ≤ w11.heap.size := Nat.le_trans hL8 hE12.size
  have hS17 : SH w11 w.heap.size [aBox 25 b10 [.slice a1' some_1.length c1'], aBox 24 b2 [.slice a0' list_0.length c0']] := SH.add hS9 hE12 hL8 hR13
  refine WL.runk 1 [2, 3, 4] [(2, .slice a2' faults_2.length c2'), (3, .pointer (some ⟨b2, 0, none⟩)), (4, .pointer (some ⟨b10, 0, none⟩))] (by kernel_rfl) ?_
  refine WL.nil ?_
  refine WQ.then_normal (hK1 _ _ _ ?_)
  refine WP.seq (fun K18 hK18 => ?_)
  refine WP.seq (fun K19 hK19 => ?_)
  refine WP.region ?_
  refine WL.st (.slice a1' some_1.length c1') (ST.load (cell_ext (SH.boxAt (SH.front 0 hS17) 0 _ rfl)) rfl rfl Try.underlying25 rfl) rfl rfl rfl ?_
  refine WL.runk 2 [2, 3, 4, 9, 10, 11] [(2, .slice a2' faults_2.length c2'), (3, .pointer (some ⟨b2, 0, none⟩)), (4, .pointer (some ⟨b10, 0, none⟩)), (9, .slice a1' some_1.length c1'), (10, .int .i64 (some_1.length : Int)), (11, .int .i64 0)] (by kernel_rfl) ?_
  refine WL.nil ?_
  refine WQ.then_normal (hK19 _ _ _ ?_)
  refine WP.block ?_
  obtain ⟨t31, ht32, hm⟩ := bindE hm
  have hmo26 := hm; clear hm
  refine WP.sub [(2, .slice a2' faults_2.length c2'), (3, .pointer (some ⟨b2, 0, none⟩)), (4, .pointer (some ⟨b10, 0, none⟩)), (9, .slice a1' some_1.length c1'), (10, .int .i64 (some_1.length : Int)), (11, .int .i64 0)] ⟨rfl, rfl, rfl, rfl, rfl, rfl, trivial⟩ ?_
  refine WP.loop (fun n' env' w' => ∃ (st20 : Int) , env' = [(2, .slice a2' faults_2.length c2'), (3, .pointer (some ⟨b2, 0, none⟩)), (4, .pointer (some ⟨b10, 0, none⟩)), (9, .slice a1' some_1.length c1'), (10, .int .i64 (some_1.length : Int)), (11, .int .i64 st20)] ∧ Ext w w' ∧ w.heap.size ≤ w'.heap.size ∧ SH w' w.heap.size [aBox 25 b10 [.slice a1' some_1.length c1'], aBox 24 b2 [.slice a0' list_0.length c0']] ∧ loopN (m_impl_mendsAll_l1 n list_0 some_1) n' st20 = some t31) n ⟨0, rfl, hb15, hL16, hS17, ht32⟩ ?_
  rintro n28 _ w21 ⟨st20, rfl, hb22, hL23, hS24, hl25⟩ K27 hK27
  obtain ⟨n29, s30, rfl, hm, hl25⟩ := loopN_some hl25
  unfold m_impl_mendsAll_l1 at hm
  refine WP.seq (fun K33 hK33 => ?_)
  refine WP.region ?_
  refine WL.runk 1 [2, 3, 4, 9, 10, 11, 12] [(2, .slice a2' faults_2.length c2'), (3, .pointer (some ⟨b2, 0, none⟩)), (4, .pointer (some ⟨b10, 0, none⟩)), (9, .slice a1' some_1.length c1'), (10, .int .i64 (some_1.length : Int)), (11, .int .i64 st20), (12, .bool (decide (st20 < (some_1.length : Int))))] (by kernel_rfl) ?_
  refine WL.nil ?_
  refine WQ.then_normal (hK33 _ _ _ ?_)
  refine WP.seq (fun K34 hK34 => ?_)
  refine WP.cond (decide (st20 < (some_1.length : Int))) rfl rfl (fun hc35 => ?_) (fun hc35 => ?_)
  rotate_left
  · have hm := iteF hm hc35
    refine WP.exit ?_
    refine WQ.then_exit ?_
    refine WQ.then_exit ?_
    refine WQ.block_here ?_
    obtain rfl := Option.some.inj hm
    obtain rfl := afterN_done hl25
    have hm := hmo26
    refine WQ.then_normal (hK18 _ _ _ ?_)
    refine WP.seq (fun K64 hK64 => ?_)
    refine WP.region ?_
    refine WL.runk 2 [23, 24] [(23, .slice a2' faults_2.length c2'), (24, .func (.func 96) #[] #[.pointer (some ⟨b10, 0, none⟩), .pointer (some ⟨b2, 0, none⟩)])] (by kernel_rfl) ?_
    obtain ⟨x65, hx66, hm⟩ := bindE hm
    refine WL.call 94 #[.slice a2' faults_2.length c2', .func (.func 96) #[] #[.pointer (some ⟨b10, 0, none⟩), .pointer (some ⟨b2, 0, none⟩)]] rfl rfl (by kernel_rfl) (c_94_96 n faults_2 a2' c2' some_1 b10 0 a1' c1' list_0 b2 0 a0' c0' w21 hx66 (Rd.below h2 hb22) hle2 (SH.boxRd (SH.front 0 hS24)) (Rd.below h1 hb22) hle1 (SH.boxRd (SH.front 1 hS24)) (Rd.below h0 hb22) hle0) ?_
    rintro _ w67 ⟨rfl, hE68⟩
    refine ⟨_, rfl, ?_⟩
    have hb70 : Ext w w67 := Ext.trans hb22 hE68
    have hL71 : w.heap.size ≤ w67.heap.size := Nat.le_trans hL23 hE68.size
    have hS72 : SH w67 w.heap.size [aBox 25 b10 [.slice a1' some_1.length c1'], aBox 24 b2 [.slice a0' list_0.length c0']] := SH.ext hS24 hE68
    refine WL.runk 2 [6] [(6, .bool (!x65))] (by kernel_rfl) ?_
    refine WL.nil ?_
    refine WQ.then_normal (hK64 _ _ _ ?_)
    refine WP.ret ?_
    obtain rfl := Option.some.inj hm
    exact WQ.ret1 _ rfl rfl ⟨rfl, hb70⟩
  have hm := iteT hm hc35
  refine WP.skip ?_
  refine WQ.then_normal (hK34 _ _ _ ?_)
  refine WP.seq (fun K36 hK36 => ?_)
  refine WP.block ?_
  refine WP.seq (fun K37 hK37 => ?_)
  refine WP.region ?_
  obtain ⟨x38, hx39, hm⟩ := bindE hm
  refine WL.st (.pointer (some (at_ a1' (Int.toNat st20 * 1)))) (ST.index (T := fInt.ty) (xs := some_1) (Rd.below h1 hb22) hx39 rfl rfl rfl Try.underlying25 (info2).1 (info2).2.1) rfl rfl rfl ?_
  refine WL.st (.int .i64 x38) (ST.load (cell_ext (Rd.flat (F := fInt) (Rd.below h1 hb22) hx39 0 rfl)) rfl rfl Try.underlying2 rfl) rfl rfl rfl ?_
  refine WL.runk 1 [2, 3, 4, 8, 9, 10, 11] [(2, .slice a2' faults_2.length c2'), (3, .pointer (some ⟨b2, 0, none⟩)), (4, .pointer (some ⟨b10, 0, none⟩)), (9, .slice a1' some_1.length c1'), (10, .int .i64 (some_1.length : Int)), (11, .int .i64 st20), (8, .int .i64 x38)] (by kernel_rfl) ?_
  refine WL.nil ?_
  refine WQ.then_normal (hK37 _ _ _ ?_)
  refine WP.seq (fun K40 hK40 => ?_)
  refine WP.region ?_
  refine WL.st (.slice a0' list_0.length c0') (ST.load (cell_ext (SH.boxAt (SH.front 1 hS24) 0 _ rfl)) rfl rfl Try.underlying24 rfl) rfl rfl rfl ?_
  refine WL.runk 1 [2, 3, 4, 9, 10, 11, 15, 16] [(2, .slice a2' faults_2.length c2'), (3, .pointer (some ⟨b2, 0, none⟩)), (4, .pointer (some ⟨b10, 0, none⟩)), (9, .slice a1' some_1.length c1'), (10, .int .i64 (some_1.length : Int)), (11, .int .i64 st20), (15, .slice a0' list_0.length c0'), (16, .int .i64 x38)] (by kernel_rfl) ?_
  obtain ⟨x41, hx42, hm⟩ := bindE hm
  obtain ⟨a43, c44, a48, c49, hc53, hR45, hle46, hR50, hle51⟩ := nest_Repair h0 hx42
  refine WL.st (.pointer (some (at_ a0' (Int.toNat x38 * 5)))) (ST.index (T := fRepair.ty) (xs := list_0) (Rd.below h0 hb22) hx42 rfl rfl rfl Try.underlying24 (info73).1 (info73).2.1) rfl rfl rfl ?_
  refine WL.runk 1 [2, 3, 4, 9, 10, 11, 18] [(2, .slice a2' faults_2.length c2'), (3, .pointer (some ⟨b2, 0, none⟩)), (4, .pointer (some ⟨b10, 0, none⟩)), (9, .slice a1' some_1.length c1'), (10, .int .i64 (some_1.length : Int)), (11, .int .i64 st20), (18, .pointer (some (at_ a0' (Int.toNat x38 * 5 + 2))))] (by kernel_rfl) ?_
  refine WL.st (.slice a48 x41.First.length c49) (ST.load (cell_ext ((cells_ext hc53 hb22) 2 _ rfl)) rfl rfl Try.underlying25 rfl) rfl rfl rfl ?_
  refine WL.runk 1 [2, 3, 4, 9, 10, 11, 19, 20] [(2, .slice a2' faults_2.length c2'), (3, .pointer (some ⟨b2, 0, none⟩)), (4, .pointer (some ⟨b10, 0, none⟩)), (9, .slice a1' some_1.length c1'), (10, .int .i64 (some_1.length : Int)), (11, .int .i64 st20), (19, .slice a48 x41.First.length c49), (20, .func (.func 95) #[] #[.pointer (some ⟨b10, 0, none⟩)])] (by kernel_rfl) ?_
  obtain ⟨x54, hx55, hm⟩ := bindE hm
  refine WL.call 94 #[.slice a48 x41.First.length c49, .func (.func 95) #[] #[.pointer (some ⟨b10, 0, none⟩)]] rfl rfl (by kernel_rfl) (c_94_95 n x41.First a48 c49 some_1 b10 0 a1' c1' w21 hx55 (Rd.below hR50 hb22) hle51 (SH.boxRd (SH.front 0 hS24)) (Rd.below h1 hb22) hle1) ?_
  rintro _ w56 ⟨rfl, hE57⟩
  refine ⟨_, rfl, ?_⟩
  have hb59 : Ext w w56 := Ext.trans hb22 hE57
  have hL60 : w.heap.size ≤ w56.heap.size := Nat.le_trans hL23 hE57.size
  have hS61 : SH w56 w.heap.size [aBox 25 b10 [.slice a1' some_1.length c1'], aBox 24 b2 [.slice a0' list_0.length c0']] := SH.ext hS24 hE57
  refine WL.sub [(2, .slice a2' faults_2.length c2'), (3, .pointer (some ⟨b2, 0, none⟩)), (4, .pointer (some ⟨b10, 0, none⟩)), (9, .slice a1' some_1.length c1'), (10, .int .i64 (some_1.length : Int)), (11, .int .i64 st20), (21, .bool x54)] ⟨rfl, rfl, rfl, rfl, rfl, rfl, rfl, trivial⟩ ?_
  refine WL.nil ?_
  refine WQ.then_normal (hK40 _ _ _ ?_)
  refine WP.cond x54 rfl rfl (fun hc62 => ?_) (fun hc62 => ?_)
  rotate_left
  · have hm := iteF hm hc62
    refine WP.skip ?_
    refine WQ.block_normal ?_
    refine WQ.then_normal (hK36 _ _ _ ?_)
    refine WP.region ?_
    refine WL.runk 2 [2, 3, 4, 9, 10, 11] [(2, .slice a2' faults_2.length c2'), (3, .pointer (some ⟨b2, 0, none⟩)), (4, .pointer (some ⟨b10, 0, none⟩)), (9, .slice a1' some_1.length c1'), (10, .int .i64 (some_1.length : Int)), (11, .int .i64 (wI64 (st20 + 1)))] (by kernel_rfl) ?_
    refine WL.nil ?_
    obtain rfl := Option.some.inj hm
    exact WQ.round hK27 ⟨(wI64 (st20 + 1)), rfl, hb59, hL60, hS61, hl25⟩ (Nat.lt_succ_self _) ⟨rfl, rfl, rfl, rfl, rfl, rfl, trivial⟩
  have hm := iteT hm hc62
  refine WP.seq (fun K63 hK63 => ?_)
  refine WP.region ?_
  refine WL.runk 1 [6] [(6, .bool false)] (by kernel_rfl) ?_
  refine WL.nil ?_
  refine WQ.then_normal (hK63 _ _ _ ?_)
  refine WP.ret ?_
  refine WQ.block_ret ?_
  refine WQ.then_ret ?_
  refine WQ.then_ret ?_
  refine WQ.block_ret ?_
  refine WQ.then_ret ?_
  obtain rfl := Option.some.inj hm
  obtain rfl := afterN_done hl25
  have hm := hmo26
  obtain rfl := Option.some.inj hm
  exact WQ.ret1 _ rfl rfl ⟨rfl, hb59⟩

theorem c_52 (n : Nat) (list_0 : List SRepair) (a0' : Option Addr) (c0' : Nat) (some_1 : List Int) (a1' : Option Addr) (c1' : Nat) (faults_2 : List Int) (a2' : Option Addr) (c2' : Nat) (w : World) {r : Int} (hm : m_spec_l21Faults n list_0 some_1 faults_2 = some r) (h0 : Rd fRepair.ty w a0' list_0) (hle0 : list_0.length ≤ c0') (h1 : Rd fInt.ty w a1' some_1) (hle1 : some_1.length ≤ c1') (h2 : Rd fInt.ty w a2' faults_2) (hle2 : faults_2.length ≤ c2') :
    CallV Try.prog 52 #[.slice a0' list_0.length c0', .slice a1' some_1.length c1', .slice a2' faults_2.length c2'] w (fun v w' => v = .int .i64 r ∧ Ext w w') := by
  unfold m_spec_l21Faults at hm
  refine CallV.enter Try.func52 rfl (by kernel_rfl) Try.ntmps52 (env := [(0, .slice a0' list_0.length c0'), (1, .slice a1' some_1.length c1'), (2, .slice a2' faults_2.length c2')]) ⟨rfl, rfl, rfl, trivial⟩ ?_
  refine WP.seq (fun K1 hK1 => ?_)
  refine WP.region ?_
  refine WL.runk 1 [0, 1, 2] [(0, .slice a0' list_0.length c0'), (1, .slice a1' some_1.length c1'), (2, .slice a2' faults_2.length c2')] (by kernel_rfl) ?_
  refine WL.nil ?_
  refine WQ.then_normal (hK1 _ _ _ ?_)
  refine WP.seq (fun K2 hK2 => ?_)
  refine WP.region ?_
  refine WL.runk 2 [2, 8, 9] [(2, .slice a2' faults_2.length c2'), (8, .slice a0' list_0.length c0'), (9, .slice a1' some_1.length c1')] (by kernel_rfl) ?_
  obtain ⟨x3, hx4, hm⟩ := bindE hm
  refine WL.call 80 #[.slice a0' list_0.length c0', .slice a1' some_1.length c1'] rfl rfl (by kernel_rfl) (c_80 n list_0 a0' c0' some_1 a1' c1' w hx4 (Rd.below h0 (Ext.refl w)) hle0 (Rd.below h1 (Ext.refl w)) hle1) ?_
  rintro _ w5 ⟨rfl, hE6⟩
  refine ⟨_, rfl, ?_⟩
  have hb8 : Ext w w5 := Ext.trans (Ext.refl w) hE6
  have hL9 : w.heap.size ≤ w5.heap.size := Nat.le_trans (Nat.le_refl _) hE6.size
  have hS10 : SH w5 w.heap.size [] := SH.ext (SH.nil _ _) hE6
  refine WL.runk 1 [2, 7] [(2, .slice a2' faults_2.length c2'), (7, .int .i64 x3)] (by kernel_rfl) ?_
  refine WL.nil ?_
  refine WQ.then_normal (hK2 _ _ _ ?_)
  refine WP.seq (fun K11 hK11 => ?_)
  refine WP.seq (fun K12 hK12 => ?_)
  obtain ⟨x22, hx23, hm⟩ := bindE hm
  refine WP.cut (fun env' w' => env' = [(7, .int .i64 x3), (17, .bool x22)] ∧ Ext w w' ∧ w.heap.size ≤ w'.heap.size ∧ SH w' w.heap.size []) ?_ ?_
  · have hm := hx23; clear hx23
    refine WP.region ?_
    refine WL.runk 3 [2, 7, 13] [(2, .slice a2' faults_2.length c2'), (7, .int .i64 x3), (13, .bool (x3 == 0))] (by kernel_rfl) ?_
    refine WL.case (x3 == 0) [13] ⟨rfl, trivial⟩ (fun hc24 => ?_) (fun hc24 => ?_)
    rotate_left
    · have hm := iteF hm hc24
      refine WL.runk 4 [7, 17] [(7, .int .i64 x3), (17, .bool false)] (by kernel_rfl) ?_
      refine WL.nil ?_
      obtain rfl := Option.some.inj hm
      exact WQ.post' ⟨rfl, hb8, hL9, hS10⟩ ⟨rfl, rfl, trivial⟩
    have hm := iteT hm hc24
    refine WL.runk 1 [7, 13, 14] [(7, .int .i64 x3), (13, .bool true), (14, .slice a2' faults_2.length c2')] (by kernel_rfl) ?_
    obtain ⟨x25, hx26, hm⟩ := bindE hm
    refine WL.call 98 #[.slice a2' faults_2.length c2', .int .i64 0, .int .i64 9] rfl rfl (by kernel_rfl) (c_98 n faults_2 a2' c2' 0 9 w5 hx26 (Rd.below h2 hb8) hle2) ?_
    rintro _ w27 ⟨rfl, hE28⟩
    refine ⟨_, rfl, ?_⟩
    have hb30 : Ext w w27 := Ext.trans hb8 hE28
    have hL31 : w.heap.size ≤ w27.heap.size := Nat.le_trans hL9 hE28.size
    have hS32 : SH w27 w.heap.size [] := SH.ext hS10 hE28
    refine WL.runk 2 [7, 17] [(7, .int .i64 x3), (17, .bool (!x25))] (by kernel_rfl) ?_
    refine WL.nil ?_
    obtain rfl := Option.some.inj hm
    exact WQ.post' ⟨rfl, hb30, hL31, hS32⟩ ⟨rfl, rfl, trivial⟩
  clear hx23
  rintro _ w33 ⟨rfl, hb34, hL35, hS36⟩
  refine WQ.then_normal (hK12 _ _ _ ?_)
  obtain ⟨x38, hx39, hm⟩ := bindE hm
  refine WP.cut (fun env' w' => env' = [(7, .int .i64 x38)] ∧ Ext w w' ∧ w.heap.size ≤ w'.heap.size ∧ SH w' w.heap.size []) ?_ ?_
  rotate_left
  · clear hx39
    rintro _ w40 ⟨rfl, hb41, hL42, hS43⟩
    refine WQ.then_normal (hK11 _ _ _ ?_)
    refine WP.seq (fun K44 hK44 => ?_)
    refine WP.region ?_
    refine WL.runk 2 [6] [(6, .int .i64 x38)] (by kernel_rfl) ?_
    refine WL.nil ?_
    refine WQ.then_normal (hK44 _ _ _ ?_)
    refine WP.ret ?_
    obtain rfl := Option.some.inj hm
    exact WQ.ret1 _ rfl rfl ⟨rfl, hb41⟩
  have hm := hx39; clear hx39
  refine WP.cond x22 rfl rfl (fun hc37 => ?_) (fun hc37 => ?_)
  rotate_left
  · have hm := iteF hm hc37
    refine WP.skip ?_
    obtain rfl := Option.some.inj hm
    exact WQ.post' ⟨rfl, hb34, hL35, hS36⟩ ⟨rfl, trivial⟩
  have hm := iteT hm hc37
  refine WP.region ?_
  refine WL.runk 1 [7] [(7, .int .i64 2)] (by kernel_rfl) ?_
  refine WL.nil ?_
  obtain rfl := Option.some.inj hm
  exact WQ.post' ⟨rfl, hb34, hL35, hS36⟩ ⟨rfl, trivial⟩

theorem c_86 (n : Nat) (list_0 : List SRepair) (a0' : Option Addr) (c0' : Nat) (some_1 : List Int) (a1' : Option Addr) (c1' : Nat) (fault_2 : Int) (w : World) {r : Bool} (hm : m_spec_l21Mended n list_0 some_1 fault_2 = some r) (h0 : Rd fRepair.ty w a0' list_0) (_hle0 : list_0.length ≤ c0') (h1 : Rd fInt.ty w a1' some_1) (_hle1 : some_1.length ≤ c1') :
    CallV Try.prog 86 #[.slice a0' list_0.length c0', .slice a1' some_1.length c1', .int .i64 fault_2] w (fun v w' => v = .bool r ∧ Ext w w') := by
  unfold m_spec_l21Mended at hm
  refine CallV.enter Try.func86 rfl (by kernel_rfl) Try.ntmps86 (env := [(0, .slice a0' list_0.length c0'), (1, .slice a1' some_1.length c1'), (2, .int .i64 fault_2)]) ⟨rfl, rfl, rfl, trivial⟩ ?_
  refine WP.seq (fun K1 hK1 => ?_)
  refine WP.region ?_
  refine WL.runk 1 [0, 1, 2] [(0, .slice a0' list_0.length c0'), (1, .slice a1' some_1.length c1'), (2, .int .i64 fault_2)] (by kernel_rfl) ?_
  refine WL.nil ?_
  refine WQ.then_normal (hK1 _ _ _ ?_)
  refine WP.seq (fun K2 hK2 => ?_)
  refine WP.seq (fun K3 hK3 => ?_)
  refine WP.region ?_
  refine WL.runk 1 [0, 1, 2, 7] [(0, .slice a0' list_0.length c0'), (1, .slice a1' some_1.length c1'), (2, .int .i64 fault_2), (7, .int .i64 0)] (by kernel_rfl) ?_
  refine WL.nil ?_
  refine WQ.then_normal (hK3 _ _ _ ?_)
  refine WP.block ?_
  obtain ⟨t15, ht16, hm⟩ := bindE hm
  have hmo10 := hm; clear hm
  refine WP.sub [(0, .slice a0' list_0.length c0'), (1, .slice a1' some_1.length c1'), (2, .int .i64 fault_2), (7, .int .i64 0)] ⟨rfl, rfl, rfl, rfl, trivial⟩ ?_
  refine WP.loop (fun n' env' w' => ∃ (st4 : Int) , env' = [(0, .slice a0' list_0.length c0'), (1, .slice a1' some_1.length c1'), (2, .int .i64 fault_2), (7, .int .i64 st4)] ∧ Ext w w' ∧ w.heap.size ≤ w'.heap.size ∧ SH w' w.heap.size [] ∧ loopN (m_spec_l21Mended_l1 n list_0 some_1 fault_2) n' st4 = some t15) n ⟨0, rfl, (Ext.refl w), (Nat.le_refl _), (SH.nil _ _), ht16⟩ ?_
  rintro n12 _ w5 ⟨st4, rfl, hb6, hL7, hS8, hl9⟩ K11 hK11
  obtain ⟨n13, s14, rfl, hm, hl9⟩ := loopN_some hl9
  unfold m_spec_l21Mended_l1 at hm
  refine WP.seq (fun K17 hK17 => ?_)
  refine WP.seq (fun K18 hK18 => ?_)
  refine WP.region ?_
  refine WL.runk 4 [0, 1, 2, 7, 11] [(0, .slice a0' list_0.length c0'), (1, .slice a1' some_1.length c1'), (2, .int .i64 fault_2), (7, .int .i64 st4), (11, .bool (decide (st4 < (some_1.length : Int))))] (by kernel_rfl) ?_
  refine WL.nil ?_
  refine WQ.then_normal (hK18 _ _ _ ?_)
  refine WP.cond (decide (st4 < (some_1.length : Int))) rfl rfl (fun hc19 => ?_) (fun hc19 => ?_)
  rotate_left
  · have hm := iteF hm hc19
    refine WP.exit ?_
    refine WQ.then_exit ?_
    refine WQ.then_exit ?_
    refine WQ.block_here ?_
    obtain rfl := Option.some.inj hm
    obtain rfl := afterN_done hl9
    have hm := hmo10
    refine WQ.then_normal (hK2 _ _ _ ?_)
    refine WP.seq (fun K47 hK47 => ?_)
    refine WP.region ?_
    refine WL.runk 1 [6] [(6, .bool false)] (by kernel_rfl) ?_
    refine WL.nil ?_
    refine WQ.then_normal (hK47 _ _ _ ?_)
    refine WP.ret ?_
    obtain rfl := Option.some.inj hm
    exact WQ.ret1 _ rfl rfl ⟨rfl, hb6⟩
  have hm := iteT hm hc19
  refine WP.skip ?_
  refine WQ.then_normal (hK17 _ _ _ ?_)
  refine WP.seq (fun K20 hK20 => ?_)
  refine WP.block ?_
  refine WP.seq (fun K21 hK21 => ?_)
  refine WP.region ?_
  refine WL.runk 3 [0, 1, 2, 7, 14, 15, 16] [(0, .slice a0' list_0.length c0'), (1, .slice a1' some_1.length c1'), (2, .int .i64 fault_2), (7, .int .i64 st4), (14, .slice a0' list_0.length c0'), (15, .slice a1' some_1.length c1'), (16, .int .i64 st4)] (by kernel_rfl) ?_
  obtain ⟨x22, hx23, hm⟩ := bindE hm
  refine WL.st (.pointer (some (at_ a1' (Int.toNat st4 * 1)))) (ST.index (T := fInt.ty) (xs := some_1) (Rd.below h1 hb6) hx23 rfl rfl rfl Try.underlying25 (info2).1 (info2).2.1) rfl rfl rfl ?_
  refine WL.st (.int .i64 x22) (ST.load (cell_ext (Rd.flat (F := fInt) (Rd.below h1 hb6) hx23 0 rfl)) rfl rfl Try.underlying2 rfl) rfl rfl rfl ?_
  obtain ⟨x24, hx25, hm⟩ := bindE hm
  obtain ⟨a26, c27, a31, c32, hc36, hR28, hle29, hR33, hle34⟩ := nest_Repair h0 hx25
  refine WL.st (.pointer (some (at_ a0' (Int.toNat x22 * 5)))) (ST.index (T := fRepair.ty) (xs := list_0) (Rd.below h0 hb6) hx25 rfl rfl rfl Try.underlying24 (info73).1 (info73).2.1) rfl rfl rfl ?_
  refine WL.runk 1 [0, 1, 2, 7, 20] [(0, .slice a0' list_0.length c0'), (1, .slice a1' some_1.length c1'), (2, .int .i64 fault_2), (7, .int .i64 st4), (20, .pointer (some (at_ a0' (Int.toNat x22 * 5 + 1))))] (by kernel_rfl) ?_
  refine WL.st (.slice a26 x24.Mends.length c27) (ST.load (cell_ext ((cells_ext hc36 hb6) 1 _ rfl)) rfl rfl Try.underlying25 rfl) rfl rfl rfl ?_
  refine WL.runk 1 [0, 1, 2, 7, 21, 22] [(0, .slice a0' list_0.length c0'), (1, .slice a1' some_1.length c1'), (2, .int .i64 fault_2), (7, .int .i64 st4), (21, .slice a26 x24.Mends.length c27), (22, .int .i64 fault_2)] (by kernel_rfl) ?_
  obtain ⟨x37, hx38, hm⟩ := bindE hm
  refine WL.call 81 #[.slice a26 x24.Mends.length c27, .int .i64 fault_2] rfl rfl (by kernel_rfl) (c_81 n x24.Mends a26 c27 fault_2 w5 hx38 (Rd.below hR28 hb6) hle29) ?_
  rintro _ w39 ⟨rfl, hE40⟩
  refine ⟨_, rfl, ?_⟩
  have hb42 : Ext w w39 := Ext.trans hb6 hE40
  have hL43 : w.heap.size ≤ w39.heap.size := Nat.le_trans hL7 hE40.size
  have hS44 : SH w39 w.heap.size [] := SH.ext hS8 hE40
  refine WL.sub [(0, .slice a0' list_0.length c0'), (1, .slice a1' some_1.length c1'), (2, .int .i64 fault_2), (7, .int .i64 st4), (23, .bool x37)] ⟨rfl, rfl, rfl, rfl, rfl, trivial⟩ ?_
  refine WL.nil ?_
  refine WQ.then_normal (hK21 _ _ _ ?_)
  refine WP.cond x37 rfl rfl (fun hc45 => ?_) (fun hc45 => ?_)
  rotate_left
  · have hm := iteF hm hc45
    refine WP.skip ?_
    refine WQ.block_normal ?_
    refine WQ.then_normal (hK20 _ _ _ ?_)
    refine WP.region ?_
    refine WL.runk 3 [0, 1, 2, 7] [(0, .slice a0' list_0.length c0'), (1, .slice a1' some_1.length c1'), (2, .int .i64 fault_2), (7, .int .i64 (wI64 (st4 + 1)))] (by kernel_rfl) ?_
    refine WL.nil ?_
    obtain rfl := Option.some.inj hm
    exact WQ.round hK11 ⟨(wI64 (st4 + 1)), rfl, hb42, hL43, hS44, hl9⟩ (Nat.lt_succ_self _) ⟨rfl, rfl, rfl, rfl, trivial⟩
  have hm := iteT hm hc45
  refine WP.seq (fun K46 hK46 => ?_)
  refine WP.region ?_
  refine WL.runk 1 [6] [(6, .bool true)] (by kernel_rfl) ?_
  refine WL.nil ?_
  refine WQ.then_normal (hK46 _ _ _ ?_)
  refine WP.ret ?_
  refine WQ.block_ret ?_
  refine WQ.then_ret ?_
  refine WQ.then_ret ?_
  refine WQ.block_ret ?_
  refine WQ.then_ret ?_
  obtain rfl := Option.some.inj hm
  obtain rfl := afterN_done hl9
  have hm := hmo10
  obtain rfl := Option.some.inj hm
  exact WQ.ret1 _ rfl rfl ⟨rfl, hb42⟩

theorem c_53 (n : Nat) (list_0 : List SRepair) (a0' : Option Addr) (c0' : Nat) (some_1 : List Int) (a1' : Option Addr) (c1' : Nat) (faults_2 : List Int) (a2' : Option Addr) (c2' : Nat) (w : World) {r : Bool} (hm : m_spec_l21All n list_0 some_1 faults_2 = some r) (h0 : Rd fRepair.ty w a0' list_0) (hle0 : list_0.length ≤ c0') (h1 : Rd fInt.ty w a1' some_1) (hle1 : some_1.length ≤ c1') (h2 : Rd fInt.ty w a2' faults_2) (_hle2 : faults_2.length ≤ c2') :
    CallV Try.prog 53 #[.slice a0' list_0.length c0', .slice a1' some_1.length c1', .slice a2' faults_2.length c2'] w (fun v w' => v = .bool r ∧ Ext w w') := by
  unfold m_spec_l21All at hm
  refine CallV.enter Try.func53 rfl (by kernel_rfl) Try.ntmps53 (env := [(0, .slice a0' list_0.length c0'), (1, .slice a1' some_1.length c1'), (2, .slice a2' faults_2.length c2')]) ⟨rfl, rfl, rfl, trivial⟩ ?_
  refine WP.seq (fun K1 hK1 => ?_)
  refine WP.region ?_
  refine WL.runk 1 [0, 1, 2] [(0, .slice a0' list_0.length c0'), (1, .slice a1' some_1.length c1'), (2, .slice a2' faults_2.length c2')] (by kernel_rfl) ?_
  refine WL.nil ?_
  refine WQ.then_normal (hK1 _ _ _ ?_)
  refine WP.seq (fun K2 hK2 => ?_)
  refine WP.seq (fun K3 hK3 => ?_)
  refine WP.region ?_
  refine WL.runk 1 [0, 1, 2, 7] [(0, .slice a0' list_0.length c0'), (1, .slice a1' some_1.length c1'), (2, .slice a2' faults_2.length c2'), (7, .int .i64 0)] (by kernel_rfl) ?_
  refine WL.nil ?_
  refine WQ.then_normal (hK3 _ _ _ ?_)
  refine WP.block ?_
  obtain ⟨t15, ht16, hm⟩ := bindE hm
  have hmo10 := hm; clear hm
  refine WP.sub [(0, .slice a0' list_0.length c0'), (1, .slice a1' some_1.length c1'), (2, .slice a2' faults_2.length c2'), (7, .int .i64 0)] ⟨rfl, rfl, rfl, rfl, trivial⟩ ?_
  refine WP.loop (fun n' env' w' => ∃ (st4 : Int) , env' = [(0, .slice a0' list_0.length c0'), (1, .slice a1' some_1.length c1'), (2, .slice a2' faults_2.length c2'), (7, .int .i64 st4)] ∧ Ext w w' ∧ w.heap.size ≤ w'.heap.size ∧ SH w' w.heap.size [] ∧ loopN (m_spec_l21All_l1 n list_0 some_1 faults_2) n' st4 = some t15) n ⟨0, rfl, (Ext.refl w), (Nat.le_refl _), (SH.nil _ _), ht16⟩ ?_
  rintro n12 _ w5 ⟨st4, rfl, hb6, hL7, hS8, hl9⟩ K11 hK11
  obtain ⟨n13, s14, rfl, hm, hl9⟩ := loopN_some hl9
  unfold m_spec_l21All_l1 at hm
  refine WP.seq (fun K17 hK17 => ?_)
  refine WP.seq (fun K18 hK18 => ?_)
  refine WP.region ?_
  refine WL.runk 4 [0, 1, 2, 7, 11] [(0, .slice a0' list_0.length c0'), (1, .slice a1' some_1.length c1'), (2, .slice a2' faults_2.length c2'), (7, .int .i64 st4), (11, .bool (decide (st4 < (faults_2.length : Int))))] (by kernel_rfl) ?_
  refine WL.nil ?_
  refine WQ.then_normal (hK18 _ _ _ ?_)
  refine WP.cond (decide (st4 < (faults_2.length : Int))) rfl rfl (fun hc19 => ?_) (fun hc19 => ?_)
  rotate_left
  · have hm := iteF hm hc19
    refine WP.exit ?_
    refine WQ.then_exit ?_
    refine WQ.then_exit ?_
    refine WQ.block_here ?_
    obtain rfl := Option.some.inj hm
    obtain rfl := afterN_done hl9
    have hm := hmo10
    refine WQ.then_normal (hK2 _ _ _ ?_)
    refine WP.seq (fun K34 hK34 => ?_)
    refine WP.region ?_
    refine WL.runk 2 [1, 22, 23] [(1, .slice a1' some_1.length c1'), (22, .slice a0' list_0.length c0'), (23, .slice a1' some_1.length c1')] (by kernel_rfl) ?_
    obtain ⟨x35, hx36, hm⟩ := bindE hm
    refine WL.call 84 #[.slice a0' list_0.length c0', .slice a1' some_1.length c1'] rfl rfl (by kernel_rfl) (c_84 n list_0 a0' c0' some_1 a1' c1' w5 hx36 (Rd.below h0 hb6) hle0 (Rd.below h1 hb6) hle1) ?_
    rintro _ w40 ⟨a37, c38, rfl, hE41, hR42⟩
    refine ⟨_, rfl, ?_⟩
    have hb43 : Ext w w40 := Ext.trans hb6 hE41
    have hL44 : w.heap.size ≤ w40.heap.size := Nat.le_trans hL7 hE41.size
    have hS45 : SH w40 w.heap.size [aOwn fInt 2 a37 c38 x35] := SH.add hS8 hE41 hL7 hR42
    refine WL.runk 5 [6] [(6, .bool ((x35.length : Int) == (some_1.length : Int)))] (by kernel_rfl) ?_
    refine WL.nil ?_
    refine WQ.then_normal (hK34 _ _ _ ?_)
    refine WP.ret ?_
    obtain rfl := Option.some.inj hm
    exact WQ.ret1 _ rfl rfl ⟨rfl, hb43⟩
  have hm := iteT hm hc19
  refine WP.skip ?_
  refine WQ.then_normal (hK17 _ _ _ ?_)
  refine WP.seq (fun K20 hK20 => ?_)
  refine WP.block ?_
  refine WP.seq (fun K21 hK21 => ?_)
  refine WP.region ?_
  refine WL.runk 4 [0, 1, 2, 7, 14, 15, 16, 17] [(0, .slice a0' list_0.length c0'), (1, .slice a1' some_1.length c1'), (2, .slice a2' faults_2.length c2'), (7, .int .i64 st4), (14, .slice a0' list_0.length c0'), (15, .slice a1' some_1.length c1'), (16, .slice a2' faults_2.length c2'), (17, .int .i64 st4)] (by kernel_rfl) ?_
  obtain ⟨x22, hx23, hm⟩ := bindE hm
  refine WL.st (.pointer (some (at_ a2' (Int.toNat st4 * 1)))) (ST.index (T := fInt.ty) (xs := faults_2) (Rd.below h2 hb6) hx23 rfl rfl rfl Try.underlying25 (info2).1 (info2).2.1) rfl rfl rfl ?_
  refine WL.st (.int .i64 x22) (ST.load (cell_ext (Rd.flat (F := fInt) (Rd.below h2 hb6) hx23 0 rfl)) rfl rfl Try.underlying2 rfl) rfl rfl rfl ?_
  obtain ⟨x24, hx25, hm⟩ := bindE hm
  refine WL.call 86 #[.slice a0' list_0.length c0', .slice a1' some_1.length c1', .int .i64 x22] rfl rfl (by kernel_rfl) (c_86 n list_0 a0' c0' some_1 a1' c1' x22 w5 hx25 (Rd.below h0 hb6) hle0 (Rd.below h1 hb6) hle1) ?_
  rintro _ w26 ⟨rfl, hE27⟩
  refine ⟨_, rfl, ?_⟩
  have hb29 : Ext w w26 := Ext.trans hb6 hE27
  have hL30 : w.heap.size ≤ w26.heap.size := Nat.le_trans hL7 hE27.size
  have hS31 : SH w26 w.heap.size [] := SH.ext hS8 hE27
  refine WL.runk 1 [0, 1, 2, 7, 21] [(0, .slice a0' list_0.length c0'), (1, .slice a1' some_1.length c1'), (2, .slice a2' faults_2.length c2'), (7, .int .i64 st4), (21, .bool (!x24))] (by kernel_rfl) ?_
  refine WL.nil ?_
  refine WQ.then_normal (hK21 _ _ _ ?_)
  refine WP.cond (!x24) rfl rfl (fun hc32 => ?_) (fun hc32 => ?_)
  rotate_left
  · have hm := iteF hm hc32
    refine WP.skip ?_
    refine WQ.block_normal ?_
    refine WQ.then_normal (hK20 _ _ _ ?_)
    refine WP.region ?_
    refine WL.runk 3 [0, 1, 2, 7] [(0, .slice a0' list_0.length c0'), (1, .slice a1' some_1.length c1'), (2, .slice a2' faults_2.length c2'), (7, .int .i64 (wI64 (st4 + 1)))] (by kernel_rfl) ?_
    refine WL.nil ?_
    obtain rfl := Option.some.inj hm
    exact WQ.round hK11 ⟨(wI64 (st4 + 1)), rfl, hb29, hL30, hS31, hl9⟩ (Nat.lt_succ_self _) ⟨rfl, rfl, rfl, rfl, trivial⟩
  have hm := iteT hm hc32
  refine WP.seq (fun K33 hK33 => ?_)
  refine WP.region ?_
  refine WL.runk 1 [6] [(6, .bool false)] (by kernel_rfl) ?_
  refine WL.nil ?_
  refine WQ.then_normal (hK33 _ _ _ ?_)
  refine WP.ret ?_
  refine WQ.block_ret ?_
  refine WQ.then_ret ?_
  refine WQ.then_ret ?_
  refine WQ.block_ret ?_
  refine WQ.then_ret ?_
  obtain rfl := Option.some.inj hm
  obtain rfl := afterN_done hl9
  have hm := hmo10
  obtain rfl := Option.some.inj hm
  exact WQ.ret1 _ rfl rfl ⟨rfl, hb29⟩

theorem c_101 (n : Nat) (n_1 : Int) (w : World) {r : List Int} (hm : m_slices_Grow_int64_int64 n n_1 = some r)  :
    CallV Try.prog 101 #[.slice none 0 0, .int .i64 n_1] w (fun v w' => ∃ (ra0 : Option Addr) (rc0 : Nat), v = .slice ra0 r.length rc0 ∧ Ext w w' ∧ SH w' w.heap.size [aOwn fInt 2 ra0 rc0 r]) := by
  unfold m_slices_Grow_int64_int64 at hm
  refine CallV.enter Try.func101 rfl (by kernel_rfl) Try.ntmps101 (env := [(0, .slice none 0 0), (1, .int .i64 n_1)]) ⟨rfl, rfl, trivial⟩ ?_
  refine WP.seq (fun K1 hK1 => ?_)
  refine WP.region ?_
  refine WL.runk 1 [0, 1] [(0, .slice none 0 0), (1, .int .i64 n_1)] (by kernel_rfl) ?_
  refine WL.nil ?_
  refine WQ.then_normal (hK1 _ _ _ ?_)
  refine WP.seq (fun K2 hK2 => ?_)
  refine WP.seq (fun K3 hK3 => ?_)
  refine WP.region ?_
  refine WL.runk 2 [0, 1, 6] [(0, .slice none 0 0), (1, .int .i64 n_1), (6, .bool (decide (n_1 < 0)))] (by kernel_rfl) ?_
  refine WL.nil ?_
  refine WQ.then_normal (hK3 _ _ _ ?_)
  obtain ⟨x5, hx6, hm⟩ := bindE hm
  refine WP.cut (fun env' w' => env' = [(0, .slice none 0 0), (1, .int .i64 n_1)] ∧ Ext w w' ∧ w.heap.size ≤ w'.heap.size ∧ SH w' w.heap.size []) ?_ ?_
  · have hm := hx6; clear hx6
    refine WP.cond (decide (n_1 < 0)) rfl rfl (fun hc4 => ?_) (fun hc4 => ?_)
    · have hm := iteT hm hc4
      cases hm
    have hm := iteF hm hc4
    refine WP.skip ?_
    obtain rfl := Option.some.inj hm
    exact WQ.post' ⟨rfl, (Ext.refl w), (Nat.le_refl _), (SH.nil _ _)⟩ ⟨rfl, rfl, trivial⟩
  clear hx6
  rintro _ w7 ⟨rfl, hb8, hL9, hS10⟩
  refine WQ.then_normal (hK2 _ _ _ ?_)
  refine WP.seq (fun K11 hK11 => ?_)
  refine WP.seq (fun K12 hK12 => ?_)
  refine WP.region ?_
  refine WL.runk 8 [0, 1] [(0, .slice none 0 0), (1, .int .i64 (wI64 (n_1 - (wI64 (0 - 0)))))] (by kernel_rfl) ?_
  refine WL.nil ?_
  refine WQ.then_normal (hK12 _ _ _ ?_)
  refine WP.seq (fun K13 hK13 => ?_)
  refine WP.region ?_
  refine WL.runk 2 [0, 1, 16] [(0, .slice none 0 0), (1, .int .i64 (wI64 (n_1 - (wI64 (0 - 0))))), (16, .bool (decide ((wI64 (n_1 - (wI64 (0 - 0)))) > 0)))] (by kernel_rfl) ?_
  refine WL.nil ?_
  refine WQ.then_normal (hK13 _ _ _ ?_)
  obtain ⟨x29, hx30, hm⟩ := bindE hm
  refine WP.cut (fun env' w' => ∃ (a31 : Option Addr) (c32 : Nat), env' = [(0, .slice a31 x29.length c32)] ∧ Ext w w' ∧ w.heap.size ≤ w'.heap.size ∧ SH w' w.heap.size [aOwn fInt 2 a31 c32 x29]) ?_ ?_
  rotate_left
  · clear hx30
    rintro _ w50 ⟨a31, c32, rfl, hb51, hL52, hS53⟩
    refine WQ.then_normal (hK11 _ _ _ ?_)
    refine WP.seq (fun K54 hK54 => ?_)
    refine WP.region ?_
    refine WL.runk 2 [4] [(4, .slice a31 x29.length c32)] (by kernel_rfl) ?_
    refine WL.nil ?_
    refine WQ.then_normal (hK54 _ _ _ ?_)
    refine WP.ret ?_
    obtain rfl := Option.some.inj hm
    exact WQ.ret1 _ rfl rfl ⟨_, _, rfl, hb51, hS53⟩
  have hm := hx30; clear hx30
  refine WP.cond (decide ((wI64 (n_1 - (wI64 (0 - 0)))) > 0)) rfl rfl (fun hc14 => ?_) (fun hc14 => ?_)
  rotate_left
  · have hm := iteF hm hc14
    refine WP.skip ?_
    have hS49 : SH w7 w.heap.size [aOwn fInt 2 none 0 ([] : List Int)] := SH.nilOwn hS10
    obtain rfl := Option.some.inj hm
    exact WQ.post' ⟨_, _, rfl, hb8, hL9, hS49⟩ ⟨rfl, trivial⟩
  have hm := iteT hm hc14
  refine WP.region ?_
  refine WL.runk 5 [0, 20, 21] [(0, .slice none 0 0), (20, .slice none 0 0), (21, .int .i64 (wI64 (n_1 - (wI64 (0 - 0)))))] (by kernel_rfl) ?_
  obtain ⟨x34, hx35, hm⟩ := bindE hm
  refine WL.growNil (F := fInt) 0 22 hx35 rfl rfl rfl Try.underlying25 Try.underlying3 (info2).1 (info2).2.2.1 (info2).2.1 (info2).2.2.2 rfl hc14 rfl rfl rfl rfl ?_
  intro a36 c37 w38 hE39 hR40
  have hb42 : Ext w w38 := Ext.trans hb8 hE39
  have hL43 : w.heap.size ≤ w38.heap.size := Nat.le_trans hL9 hE39.size
  have hS44 : SH w38 w.heap.size [aOwn fInt 2 a36 c37 x34] := SH.add hS10 hE39 hL9 hR40
  refine WL.runk 2 [22, 24] [(22, .slice a36 x34.length c37), (24, .int .i64 0)] (by kernel_rfl) ?_
  obtain ⟨x45, hx46, hm⟩ := bindE hm
  refine WL.shrink (F := fInt) 25 (SH.front 0 hS44) hx46 rfl rfl Try.underlying25 (info2).1 (info2).2.1 ⟨_, rfl⟩ rfl rfl rfl rfl ?_
  intro hS47
  refine WL.runk 1 [0] [(0, .slice a36 x45.length c37)] (by kernel_rfl) ?_
  refine WL.nil ?_
  obtain rfl := Option.some.inj hm
  exact WQ.post' ⟨_, _, rfl, hb42, hL43, hS47⟩ ⟨rfl, trivial⟩

theorem c_58 (n : Nat) (slices_0 : List (List Int)) (a0' : Option Addr) (c0' : Nat) (w : World) {r : List Int} (hm : m_slices_Concat_int64_int64 n slices_0 = some r) (h0 : Rd fRow.ty w a0' slices_0) (_hle0 : slices_0.length ≤ c0') :
    CallV Try.prog 58 #[.slice a0' slices_0.length c0'] w (fun v w' => ∃ (ra0 : Option Addr) (rc0 : Nat), v = .slice ra0 r.length rc0 ∧ Ext w w' ∧ SH w' w.heap.size [aOwn fInt 2 ra0 rc0 r]) := by
  unfold m_slices_Concat_int64_int64 at hm
  refine CallV.enter Try.func58 rfl (by kernel_rfl) Try.ntmps58 (env := [(0, .slice a0' slices_0.length c0')]) ⟨rfl, trivial⟩ ?_
  refine WP.seq (fun K1 hK1 => ?_)
  refine WP.region ?_
  refine WL.runk 1 [0] [(0, .slice a0' slices_0.length c0')] (by kernel_rfl) ?_
  refine WL.nil ?_
  refine WQ.then_normal (hK1 _ _ _ ?_)
  refine WP.seq (fun K2 hK2 => ?_)
  refine WP.region ?_
  refine WL.runk 1 [0, 3] [(0, .slice a0' slices_0.length c0'), (3, .int .i64 0)] (by kernel_rfl) ?_
  refine WL.nil ?_
  refine WQ.then_normal (hK2 _ _ _ ?_)
  refine WP.seq (fun K3 hK3 => ?_)
  refine WP.seq (fun K4 hK4 => ?_)
  refine WP.region ?_
  refine WL.runk 3 [0, 3, 9, 10, 11] [(0, .slice a0' slices_0.length c0'), (3, .int .i64 0), (9, .slice a0' slices_0.length c0'), (10, .int .i64 (slices_0.length : Int)), (11, .int .i64 0)] (by kernel_rfl) ?_
  refine WL.nil ?_
  refine WQ.then_normal (hK4 _ _ _ ?_)
  refine WP.block ?_
  obtain ⟨t16, ht17, hm⟩ := bindE hm
  have hmo11 := hm; clear hm
  refine WP.sub [(0, .slice a0' slices_0.length c0'), (3, .int .i64 0), (9, .slice a0' slices_0.length c0'), (10, .int .i64 (slices_0.length : Int)), (11, .int .i64 0)] ⟨rfl, rfl, rfl, rfl, rfl, trivial⟩ ?_
  refine WP.loop (fun n' env' w' => ∃ (st5 : Int × Int) , env' = [(0, .slice a0' slices_0.length c0'), (3, .int .i64 st5.1), (9, .slice a0' slices_0.length c0'), (10, .int .i64 (slices_0.length : Int)), (11, .int .i64 st5.2)] ∧ Ext w w' ∧ w.heap.size ≤ w'.heap.size ∧ SH w' w.heap.size [] ∧ loopN (m_slices_Concat_int64_int64_l1 n slices_0) n' st5 = some t16) n ⟨(0, 0), rfl, (Ext.refl w), (Nat.le_refl _), (SH.nil _ _), ht17⟩ ?_
  rintro n13 _ w6 ⟨st5, rfl, hb7, hL8, hS9, hl10⟩ K12 hK12
  obtain ⟨n14, s15, rfl, hm, hl10⟩ := loopN_some hl10
  unfold m_slices_Concat_int64_int64_l1 at hm
  refine WP.seq (fun K18 hK18 => ?_)
  refine WP.region ?_
  refine WL.runk 1 [0, 3, 9, 10, 11, 12] [(0, .slice a0' slices_0.length c0'), (3, .int .i64 st5.1), (9, .slice a0' slices_0.length c0'), (10, .int .i64 (slices_0.length : Int)), (11, .int .i64 st5.2), (12, .bool (decide (st5.2 < (slices_0.length : Int))))] (by kernel_rfl) ?_
  refine WL.nil ?_
  refine WQ.then_normal (hK18 _ _ _ ?_)
  refine WP.seq (fun K19 hK19 => ?_)
  refine WP.cond (decide (st5.2 < (slices_0.length : Int))) rfl rfl (fun hc20 => ?_) (fun hc20 => ?_)
  · have hm := iteT hm hc20
    refine WP.skip ?_
    refine WQ.then_normal (hK19 _ _ _ ?_)
    refine WP.seq (fun K21 hK21 => ?_)
    refine WP.block ?_
    refine WP.seq (fun K22 hK22 => ?_)
    refine WP.region ?_
    obtain ⟨x23, hx24, hm⟩ := bindE hm
    obtain ⟨a25, c26, hc30, hR27, hle28⟩ := nest_Row h0 hx24
    refine WL.st (.pointer (some (at_ a0' (Int.toNat st5.2 * 1)))) (ST.index (T := fRow.ty) (xs := slices_0) (Rd.below h0 hb7) hx24 rfl rfl rfl Try.underlying93 (info25).1 (info25).2.1) rfl rfl rfl ?_
    refine WL.st (.slice a25 x23.length c26) (ST.load (cell_ext ((cells_ext hc30 hb7) 0 _ rfl)) rfl rfl Try.underlying25 rfl) rfl rfl rfl ?_
    refine WL.runk 1 [0, 3, 5, 9, 10, 11] [(0, .slice a0' slices_0.length c0'), (3, .int .i64 st5.1), (9, .slice a0' slices_0.length c0'), (10, .int .i64 (slices_0.length : Int)), (11, .int .i64 st5.2), (5, .slice a25 x23.length c26)] (by kernel_rfl) ?_
    refine WL.nil ?_
    refine WQ.then_normal (hK22 _ _ _ ?_)
    refine WP.seq (fun K31 hK31 => ?_)
    refine WP.region ?_
    refine WL.runk 5 [0, 3, 9, 10, 11] [(0, .slice a0' slices_0.length c0'), (3, .int .i64 (wI64 (st5.1 + (x23.length : Int)))), (9, .slice a0' slices_0.length c0'), (10, .int .i64 (slices_0.length : Int)), (11, .int .i64 st5.2)] (by kernel_rfl) ?_
    refine WL.nil ?_
    refine WQ.then_normal (hK31 _ _ _ ?_)
    refine WP.seq (fun K32 hK32 => ?_)
    refine WP.region ?_
    refine WL.runk 2 [0, 3, 9, 10, 11, 20] [(0, .slice a0' slices_0.length c0'), (3, .int .i64 (wI64 (st5.1 + (x23.length : Int)))), (9, .slice a0' slices_0.length c0'), (10, .int .i64 (slices_0.length : Int)), (11, .int .i64 st5.2), (20, .bool (decide ((wI64 (st5.1 + (x23.length : Int))) < 0)))] (by kernel_rfl) ?_
    refine WL.nil ?_
    refine WQ.then_normal (hK32 _ _ _ ?_)
    obtain ⟨x34, hx35, hm⟩ := bindE hm
    refine WP.cut (fun env' w' => env' = [(0, .slice a0' slices_0.length c0'), (3, .int .i64 (wI64 (st5.1 + (x23.length : Int)))), (9, .slice a0' slices_0.length c0'), (10, .int .i64 (slices_0.length : Int)), (11, .int .i64 st5.2)] ∧ Ext w w' ∧ w.heap.size ≤ w'.heap.size ∧ SH w' w.heap.size []) ?_ ?_
    · have hm := hx35; clear hx35
      refine WP.cond (decide ((wI64 (st5.1 + (x23.length : Int))) < 0)) rfl rfl (fun hc33 => ?_) (fun hc33 => ?_)
      · have hm := iteT hm hc33
        cases hm
      have hm := iteF hm hc33
      refine WP.skip ?_
      obtain rfl := Option.some.inj hm
      exact WQ.post' ⟨rfl, hb7, hL8, hS9⟩ ⟨rfl, rfl, rfl, rfl, rfl, trivial⟩
    clear hx35
    rintro _ w36 ⟨rfl, hb37, hL38, hS39⟩
    refine WQ.block_normal ?_
    refine WQ.then_normal (hK21 _ _ _ ?_)
    refine WP.region ?_
    refine WL.runk 2 [0, 3, 9, 10, 11] [(0, .slice a0' slices_0.length c0'), (3, .int .i64 (wI64 (st5.1 + (x23.length : Int)))), (9, .slice a0' slices_0.length c0'), (10, .int .i64 (slices_0.length : Int)), (11, .int .i64 (wI64 (st5.2 + 1)))] (by kernel_rfl) ?_
    refine WL.nil ?_
    obtain rfl := Option.some.inj hm
    exact WQ.round hK12 ⟨((wI64 (st5.1 + (x23.length : Int))), (wI64 (st5.2 + 1))), rfl, hb37, hL38, hS39, hl10⟩ (Nat.lt_succ_self _) ⟨rfl, rfl, rfl, rfl, rfl, trivial⟩
  have hm := iteF hm hc20
  refine WP.exit ?_
  refine WQ.then_exit ?_
  refine WQ.then_exit ?_
  refine WQ.block_here ?_
  obtain rfl := Option.some.inj hm
  obtain rfl := afterN_done hl10
  have hm := hmo11
  refine WQ.then_normal (hK3 _ _ _ ?_)
  refine WP.seq (fun K40 hK40 => ?_)
  refine WP.region ?_
  refine WL.runk 1 [0, 23] [(0, .slice a0' slices_0.length c0'), (23, .int .i64 st5.1)] (by kernel_rfl) ?_
  obtain ⟨x41, hx42, hm⟩ := bindE hm
  refine WL.call 101 #[.slice none 0 0, .int .i64 st5.1] rfl rfl (by kernel_rfl) (c_101 n st5.1 w6 hx42 ) ?_
  rintro _ w46 ⟨a43, c44, rfl, hE47, hR48⟩
  refine ⟨_, rfl, ?_⟩
  have hb49 : Ext w w46 := Ext.trans hb7 hE47
  have hL50 : w.heap.size ≤ w46.heap.size := Nat.le_trans hL8 hE47.size
  have hS51 : SH w46 w.heap.size [aOwn fInt 2 a43 c44 x41] := SH.add hS9 hE47 hL8 hR48
  refine WL.runk 1 [0, 6] [(0, .slice a0' slices_0.length c0'), (6, .slice a43 x41.length c44)] (by kernel_rfl) ?_
  refine WL.nil ?_
  refine WQ.then_normal (hK40 _ _ _ ?_)
  refine WP.seq (fun K52 hK52 => ?_)
  refine WP.seq (fun K53 hK53 => ?_)
  refine WP.region ?_
  refine WL.runk 3 [6, 25, 26, 27] [(6, .slice a43 x41.length c44), (25, .slice a0' slices_0.length c0'), (26, .int .i64 (slices_0.length : Int)), (27, .int .i64 0)] (by kernel_rfl) ?_
  refine WL.nil ?_
  refine WQ.then_normal (hK53 _ _ _ ?_)
  refine WP.block ?_
  obtain ⟨t68, ht69, hm⟩ := bindE hm
  have hmo63 := hm; clear hm
  refine WP.sub [(6, .slice a43 x41.length c44), (25, .slice a0' slices_0.length c0'), (26, .int .i64 (slices_0.length : Int)), (27, .int .i64 0)] ⟨rfl, rfl, rfl, rfl, trivial⟩ ?_
  refine WP.loop (fun n' env' w' => ∃ (st54 : List Int × Int) (a55 : Option Addr) (c56 : Nat), env' = [(6, .slice a55 st54.1.length c56), (25, .slice a0' slices_0.length c0'), (26, .int .i64 (slices_0.length : Int)), (27, .int .i64 st54.2)] ∧ Ext w w' ∧ w.heap.size ≤ w'.heap.size ∧ SH w' w.heap.size [aOwn fInt 2 a55 c56 st54.1] ∧ loopN (m_slices_Concat_int64_int64_l2 n slices_0) n' st54 = some t68) n ⟨(x41, 0), _, _, rfl, hb49, hL50, hS51, ht69⟩ ?_
  rintro n65 _ w58 ⟨st54, a55, c56, rfl, hb59, hL60, hS61, hl62⟩ K64 hK64
  obtain ⟨n66, s67, rfl, hm, hl62⟩ := loopN_some hl62
  unfold m_slices_Concat_int64_int64_l2 at hm
  refine WP.seq (fun K70 hK70 => ?_)
  refine WP.region ?_
  refine WL.runk 1 [6, 25, 26, 27, 28] [(6, .slice a55 st54.1.length c56), (25, .slice a0' slices_0.length c0'), (26, .int .i64 (slices_0.length : Int)), (27, .int .i64 st54.2), (28, .bool (decide (st54.2 < (slices_0.length : Int))))] (by kernel_rfl) ?_
  refine WL.nil ?_
  refine WQ.then_normal (hK70 _ _ _ ?_)
  refine WP.seq (fun K71 hK71 => ?_)
  refine WP.cond (decide (st54.2 < (slices_0.length : Int))) rfl rfl (fun hc72 => ?_) (fun hc72 => ?_)
  rotate_left
  · have hm := iteF hm hc72
    refine WP.exit ?_
    refine WQ.then_exit ?_
    refine WQ.then_exit ?_
    refine WQ.block_here ?_
    obtain rfl := Option.some.inj hm
    obtain rfl := afterN_done hl62
    have hm := hmo63
    refine WQ.then_normal (hK52 _ _ _ ?_)
    refine WP.seq (fun K92 hK92 => ?_)
    refine WP.region ?_
    refine WL.runk 2 [2] [(2, .slice a55 st54.1.length c56)] (by kernel_rfl) ?_
    refine WL.nil ?_
    refine WQ.then_normal (hK92 _ _ _ ?_)
    refine WP.ret ?_
    obtain rfl := Option.some.inj hm
    exact WQ.ret1 _ rfl rfl ⟨_, _, rfl, hb59, hS61⟩
  have hm := iteT hm hc72
  refine WP.skip ?_
  refine WQ.then_normal (hK71 _ _ _ ?_)
  refine WP.seq (fun K73 hK73 => ?_)
  refine WP.block ?_
  refine WP.seq (fun K74 hK74 => ?_)
  refine WP.region ?_
  obtain ⟨x75, hx76, hm⟩ := bindE hm
  obtain ⟨a77, c78, hc82, hR79, hle80⟩ := nest_Row h0 hx76
  refine WL.st (.pointer (some (at_ a0' (Int.toNat st54.2 * 1)))) (ST.index (T := fRow.ty) (xs := slices_0) (Rd.below h0 hb59) hx76 rfl rfl rfl Try.underlying93 (info25).1 (info25).2.1) rfl rfl rfl ?_
  refine WL.st (.slice a77 x75.length c78) (ST.load (cell_ext ((cells_ext hc82 hb59) 0 _ rfl)) rfl rfl Try.underlying25 rfl) rfl rfl rfl ?_
  refine WL.runk 1 [6, 8, 25, 26, 27] [(6, .slice a55 st54.1.length c56), (25, .slice a0' slices_0.length c0'), (26, .int .i64 (slices_0.length : Int)), (27, .int .i64 st54.2), (8, .slice a77 x75.length c78)] (by kernel_rfl) ?_
  refine WL.nil ?_
  refine WQ.then_normal (hK74 _ _ _ ?_)
  refine WP.region ?_
  refine WL.runk 2 [25, 26, 27, 31, 32] [(25, .slice a0' slices_0.length c0'), (26, .int .i64 (slices_0.length : Int)), (27, .int .i64 st54.2), (31, .slice a55 st54.1.length c56), (32, .slice a77 x75.length c78)] (by kernel_rfl) ?_
  obtain ⟨x83, hx84, hm⟩ := bindE hm
  refine WL.append (F := fInt) (xs := st54.1) (ys := x75) 33 (SH.front 0 hS61) hL60 (Rd.below hR79 hb59) hx84 rfl rfl rfl Try.underlying25 (info2).1 (info2).2.2.1 (info2).2.1 (info2).2.2.2 rfl rfl rfl rfl rfl ?_
  intro a85 c86 w87 hB88 hS89
  have hb90 : Ext w w87 := Below.trans hb59 hB88
  have hL91 : w.heap.size ≤ w87.heap.size := Nat.le_trans hL60 hB88.size
  refine WL.runk 1 [6, 25, 26, 27] [(25, .slice a0' slices_0.length c0'), (26, .int .i64 (slices_0.length : Int)), (27, .int .i64 st54.2), (6, .slice a85 x83.length c86)] (by kernel_rfl) ?_
  refine WL.nil ?_
  refine WQ.block_normal ?_
  refine WQ.then_normal (hK73 _ _ _ ?_)
  refine WP.region ?_
  refine WL.runk 2 [6, 25, 26, 27] [(25, .slice a0' slices_0.length c0'), (26, .int .i64 (slices_0.length : Int)), (27, .int .i64 (wI64 (st54.2 + 1))), (6, .slice a85 x83.length c86)] (by kernel_rfl) ?_
  refine WL.nil ?_
  obtain rfl := Option.some.inj hm
  exact WQ.round hK64 ⟨(x83, (wI64 (st54.2 + 1))), _, _, rfl, hb90, hL91, hS89, hl62⟩ (Nat.lt_succ_self _) ⟨rfl, rfl, rfl, rfl, trivial⟩

end Go.Proofs.Ytkglfbcelaphhaa
