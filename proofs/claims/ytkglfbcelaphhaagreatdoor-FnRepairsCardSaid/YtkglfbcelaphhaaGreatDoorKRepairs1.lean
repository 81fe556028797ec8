/- Each call does what its Lean function says. -/
import Derived.Test.YtkglfbcelaphhaaGreatDoorTi
import Derived.Test.YtkglfbcelaphhaaGreatDoorEq
import Derived.Test.YtkglfbcelaphhaaGreatDoorMo
import Derived.Test.YtkglfbcelaphhaaGreatDoorCh
set_option maxRecDepth 20000
set_option maxHeartbeats 40000000
namespace Go.Proofs.YtkglfbcelaphhaaGreatDoor
open Go Go.Gv Go.RowKit

theorem c_4 (n : Nat) (code_0 : List Int) (a0' : Option Addr) (c0' : Nat) (w : World) {r : Bool} (hm : m_laws_f6big n code_0 = some r) (_h0 : Rd fU8.ty w a0' code_0) (_hle0 : code_0.length ≤ c0') :
    CallV Tryz.prog 4 #[.slice a0' code_0.length c0'] w (fun v w' => v = .bool r ∧ Ext w w') := by
  unfold m_laws_f6big at hm
  refine CallV.enter Tryz.func4 rfl (by kernel_rfl) Tryz.ntmps4 (env := [(0, .slice a0' code_0.length c0')]) ⟨rfl, trivial⟩ ?_
  refine WP.seq (fun K1 hK1 => ?_)
  refine WP.region ?_
  refine WL.runk 1 [0] [(0, .slice a0' code_0.length c0')] (by kernel_rfl) ?_
  refine WL.nil ?_
  refine WQ.then_normal (hK1 _ _ _ ?_)
  refine WP.seq (fun K2 hK2 => ?_)
  refine WP.region ?_
  refine WL.runk 4 [2] [(2, .bool (decide ((code_0.length : Int) > 4096)))] (by kernel_rfl) ?_
  refine WL.nil ?_
  refine WQ.then_normal (hK2 _ _ _ ?_)
  refine WP.ret ?_
  obtain rfl := Option.some.inj hm
  exact WQ.ret1 _ rfl rfl ⟨rfl, (Ext.refl w)⟩

theorem c_53 (n : Nat) (n_0 : Int) (low_1 : Int) (high_2 : Int) (w : World) {r : Bool} (hm : m_spec_l00In n n_0 low_1 high_2 = some r)  :
    CallV Tryz.prog 53 #[.int .i64 n_0, .int .i64 low_1, .int .i64 high_2] w (fun v w' => v = .bool r ∧ Ext w w') := by
  unfold m_spec_l00In at hm
  refine CallV.enter Tryz.func53 rfl (by kernel_rfl) Tryz.ntmps53 (env := [(0, .int .i64 n_0), (1, .int .i64 low_1), (2, .int .i64 high_2)]) ⟨rfl, rfl, rfl, trivial⟩ ?_
  refine WP.seq (fun K1 hK1 => ?_)
  refine WP.region ?_
  refine WL.runk 1 [0, 1, 2] [(0, .int .i64 n_0), (1, .int .i64 low_1), (2, .int .i64 high_2)] (by kernel_rfl) ?_
  refine WL.nil ?_
  refine WQ.then_normal (hK1 _ _ _ ?_)
  refine WP.seq (fun K2 hK2 => ?_)
  obtain ⟨x4, hx5, hm⟩ := bindE hm
  refine WP.cut (fun env' w' => env' = [(6, .bool x4)] ∧ Ext w w' ∧ w.heap.size ≤ w'.heap.size ∧ SH w' w.heap.size []) ?_ ?_
  rotate_left
  · clear hx5
    rintro _ w7 ⟨rfl, hb8, hL9, hS10⟩
    refine WQ.then_normal (hK2 _ _ _ ?_)
    refine WP.ret ?_
    obtain rfl := Option.some.inj hm
    exact WQ.ret1 _ rfl rfl ⟨rfl, hb8⟩
  have hm := hx5; clear hx5
  refine WP.region ?_
  refine WL.runk 4 [0, 2, 10] [(0, .int .i64 n_0), (2, .int .i64 high_2), (10, .bool (decide (n_0 ≥ low_1)))] (by kernel_rfl) ?_
  refine WL.case (decide (n_0 ≥ low_1)) [10] ⟨rfl, trivial⟩ (fun hc6 => ?_) (fun hc6 => ?_)
  · have hm := iteT hm hc6
    refine WL.runk 5 [6] [(6, .bool (decide (n_0 ≤ high_2)))] (by kernel_rfl) ?_
    refine WL.nil ?_
    obtain rfl := Option.some.inj hm
    exact WQ.post' ⟨rfl, (Ext.refl w), (Nat.le_refl _), (SH.nil _ _)⟩ ⟨rfl, trivial⟩
  have hm := iteF hm hc6
  refine WL.runk 5 [6] [(6, .bool false)] (by kernel_rfl) ?_
  refine WL.nil ?_
  obtain rfl := Option.some.inj hm
  exact WQ.post' ⟨rfl, (Ext.refl w), (Nat.le_refl _), (SH.nil _ _)⟩ ⟨rfl, trivial⟩

theorem c_70 (n : Nat) (list_0 : List Int) (a0' : Option Addr) (c0' : Nat) (low_1 : Int) (high_2 : Int) (w : World) {r : Bool} (hm : m_spec_l00Rises n list_0 low_1 high_2 = some r) (h0 : Rd fInt.ty w a0' list_0) (_hle0 : list_0.length ≤ c0') :
    CallV Tryz.prog 70 #[.slice a0' list_0.length c0', .int .i64 low_1, .int .i64 high_2] w (fun v w' => v = .bool r ∧ Ext w w') := by
  unfold m_spec_l00Rises at hm
  refine CallV.enter Tryz.func70 rfl (by kernel_rfl) Tryz.ntmps70 (env := [(0, .slice a0' list_0.length c0'), (1, .int .i64 low_1), (2, .int .i64 high_2)]) ⟨rfl, rfl, rfl, trivial⟩ ?_
  refine WP.seq (fun K1 hK1 => ?_)
  refine WP.region ?_
  refine WL.runk 1 [0, 1, 2] [(0, .slice a0' list_0.length c0'), (1, .int .i64 low_1), (2, .int .i64 high_2)] (by kernel_rfl) ?_
  refine WL.nil ?_
  refine WQ.then_normal (hK1 _ _ _ ?_)
  refine WP.seq (fun K2 hK2 => ?_)
  refine WP.seq (fun K3 hK3 => ?_)
  refine WP.region ?_
  refine WL.runk 1 [0, 1, 2, 7] [(0, .slice a0' list_0.length c0'), (1, .int .i64 low_1), (2, .int .i64 high_2), (7, .int .i64 0)] (by kernel_rfl) ?_
  refine WL.nil ?_
  refine WQ.then_normal (hK3 _ _ _ ?_)
  refine WP.block ?_
  obtain ⟨t15, ht16, hm⟩ := bindE hm
  have hmo10 := hm; clear hm
  refine WP.sub [(0, .slice a0' list_0.length c0'), (1, .int .i64 low_1), (2, .int .i64 high_2), (7, .int .i64 0)] ⟨rfl, rfl, rfl, rfl, trivial⟩ ?_
  refine WP.loop (fun n' env' w' => ∃ (st4 : Int) , env' = [(0, .slice a0' list_0.length c0'), (1, .int .i64 low_1), (2, .int .i64 high_2), (7, .int .i64 st4)] ∧ Ext w w' ∧ w.heap.size ≤ w'.heap.size ∧ SH w' w.heap.size [] ∧ loopN (m_spec_l00Rises_l1 n list_0 low_1 high_2) n' st4 = some t15) n ⟨0, rfl, (Ext.refl w), (Nat.le_refl _), (SH.nil _ _), ht16⟩ ?_
  rintro n12 _ w5 ⟨st4, rfl, hb6, hL7, hS8, hl9⟩ K11 hK11
  obtain ⟨n13, s14, rfl, hm, hl9⟩ := loopN_some hl9
  unfold m_spec_l00Rises_l1 at hm
  refine WP.seq (fun K17 hK17 => ?_)
  refine WP.seq (fun K18 hK18 => ?_)
  refine WP.region ?_
  refine WL.runk 4 [0, 1, 2, 7, 11] [(0, .slice a0' list_0.length c0'), (1, .int .i64 low_1), (2, .int .i64 high_2), (7, .int .i64 st4), (11, .bool (decide (st4 < (list_0.length : Int))))] (by kernel_rfl) ?_
  refine WL.nil ?_
  refine WQ.then_normal (hK18 _ _ _ ?_)
  refine WP.cond (decide (st4 < (list_0.length : Int))) rfl rfl (fun hc19 => ?_) (fun hc19 => ?_)
  rotate_left
  · have hm := iteF hm hc19
    refine WP.exit ?_
    refine WQ.then_exit ?_
    refine WQ.then_exit ?_
    refine WQ.block_here ?_
    obtain rfl := Option.some.inj hm
    obtain rfl := afterN_done hl9
    have hm := hmo10
    refine WQ.then_normal (hK2 _ _ _ ?_)
    refine WP.seq (fun K84 hK84 => ?_)
    refine WP.region ?_
    refine WL.runk 1 [6] [(6, .bool true)] (by kernel_rfl) ?_
    refine WL.nil ?_
    refine WQ.then_normal (hK84 _ _ _ ?_)
    refine WP.ret ?_
    obtain rfl := Option.some.inj hm
    exact WQ.ret1 _ rfl rfl ⟨rfl, hb6⟩
  have hm := iteT hm hc19
  refine WP.skip ?_
  refine WQ.then_normal (hK17 _ _ _ ?_)
  refine WP.seq (fun K20 hK20 => ?_)
  refine WP.block ?_
  refine WP.seq (fun K21 hK21 => ?_)
  obtain ⟨x49, hx50, hm⟩ := bindE hm
  refine WP.cut (fun env' w' => env' = [(0, .slice a0' list_0.length c0'), (1, .int .i64 low_1), (2, .int .i64 high_2), (7, .int .i64 st4), (37, .bool x49)] ∧ Ext w w' ∧ w.heap.size ≤ w'.heap.size ∧ SH w' w.heap.size []) ?_ ?_
  rotate_left
  · clear hx50
    rintro _ w78 ⟨rfl, hb79, hL80, hS81⟩
    refine WQ.then_normal (hK21 _ _ _ ?_)
    refine WP.cond x49 rfl rfl (fun hc82 => ?_) (fun hc82 => ?_)
    rotate_left
    · have hm := iteF hm hc82
      refine WP.skip ?_
      refine WQ.block_normal ?_
      refine WQ.then_normal (hK20 _ _ _ ?_)
      refine WP.region ?_
      refine WL.runk 3 [0, 1, 2, 7] [(0, .slice a0' list_0.length c0'), (1, .int .i64 low_1), (2, .int .i64 high_2), (7, .int .i64 (wI64 (st4 + 1)))] (by kernel_rfl) ?_
      refine WL.nil ?_
      obtain rfl := Option.some.inj hm
      exact WQ.round hK11 ⟨(wI64 (st4 + 1)), rfl, hb79, hL80, hS81, hl9⟩ (Nat.lt_succ_self _) ⟨rfl, rfl, rfl, rfl, trivial⟩
    have hm := iteT hm hc82
    refine WP.seq (fun K83 hK83 => ?_)
    refine WP.region ?_
    refine WL.runk 1 [6] [(6, .bool false)] (by kernel_rfl) ?_
    refine WL.nil ?_
    refine WQ.then_normal (hK83 _ _ _ ?_)
    refine WP.ret ?_
    refine WQ.block_ret ?_
    refine WQ.then_ret ?_
    refine WQ.then_ret ?_
    refine WQ.block_ret ?_
    refine WQ.then_ret ?_
    obtain rfl := Option.some.inj hm
    obtain rfl := afterN_done hl9
    have hm := hmo10
    obtain rfl := Option.some.inj hm
    exact WQ.ret1 _ rfl rfl ⟨rfl, hb79⟩
  have hm := hx50; clear hx50
  refine WP.quiet (by kernel_rfl) (by kernel_rfl) ?_
  refine QL.step1v 14 (.slice a0' list_0.length c0') rfl (fun _ => by kernel_rfl) ?_
  refine QL.step1v 15 (.int .i64 st4) rfl (fun _ => by kernel_rfl) ?_
  refine QL.subk [0, 1, 2, 7, 14, 15] [(0, .slice a0' list_0.length c0'), (1, .int .i64 low_1), (2, .int .i64 high_2), (7, .int .i64 st4), (14, .slice a0' list_0.length c0'), (15, .int .i64 st4)] (by kernel_rfl) ?_
  obtain ⟨x51, hx52, hm⟩ := bindE hm
  refine QL.st (.pointer (some (at_ a0' (Int.toNat st4 * 1)))) (ST.index (T := fInt.ty) (xs := list_0) (Rd.below h0 hb6) hx52 rfl rfl rfl Tryz.underlying25 (info2).1 (info2).2.1) rfl rfl rfl ?_
  refine QL.st (.int .i64 x51) (ST.load (cell_ext (Rd.flat (F := fInt) (Rd.below h0 hb6) hx52 0 rfl)) rfl rfl Tryz.underlying2 rfl) rfl rfl rfl ?_
  refine QL.step1v 18 (.int .i64 low_1) rfl (fun _ => by kernel_rfl) ?_
  refine QL.step1v 19 (.int .i64 high_2) rfl (fun _ => by kernel_rfl) ?_
  refine QL.subk [0, 1, 2, 7, 17, 18, 19] [(0, .slice a0' list_0.length c0'), (1, .int .i64 low_1), (2, .int .i64 high_2), (7, .int .i64 st4), (17, .int .i64 x51), (18, .int .i64 low_1), (19, .int .i64 high_2)] (by kernel_rfl) ?_
  obtain ⟨x53, hx54, hm⟩ := bindE hm
  refine QL.call 53 #[.int .i64 x51, .int .i64 low_1, .int .i64 high_2] (.bool x53) (fun _ => by kernel_rfl) (fun w55 hE56 => c_53 n x51 low_1 high_2 w55 hx54 ) rfl rfl rfl ?_
  refine QL.step1v 21 (.bool (!x53)) rfl (fun _ => by kernel_rfl) ?_
  refine QL.step1v 22 (.bool (!x53)) rfl (fun _ => by kernel_rfl) ?_
  refine QL.subk [0, 1, 2, 7, 22] [(0, .slice a0' list_0.length c0'), (1, .int .i64 low_1), (2, .int .i64 high_2), (7, .int .i64 st4), (22, .bool (!x53))] (by kernel_rfl) ?_
  refine QL.case (!x53) [22] ⟨rfl, trivial⟩ (fun hc57 => ?_) (fun hc57 => ?_)
  · have hm := iteT hm hc57
    refine QL.step1v 23 undef rfl (fun _ => by kernel_rfl) ?_
    refine QL.step1v 24 undef rfl (fun _ => by kernel_rfl) ?_
    refine QL.step1v 25 undef rfl (fun _ => by kernel_rfl) ?_
    refine QL.step1v 26 undef rfl (fun _ => by kernel_rfl) ?_
    refine QL.step1v 27 undef rfl (fun _ => by kernel_rfl) ?_
    refine QL.step1v 28 undef rfl (fun _ => by kernel_rfl) ?_
    refine QL.step1v 29 undef rfl (fun _ => by kernel_rfl) ?_
    refine QL.step1v 30 undef rfl (fun _ => by kernel_rfl) ?_
    refine QL.step1v 31 undef rfl (fun _ => by kernel_rfl) ?_
    refine QL.step1v 32 undef rfl (fun _ => by kernel_rfl) ?_
    refine QL.step1v 33 undef rfl (fun _ => by kernel_rfl) ?_
    refine QL.step1v 34 undef rfl (fun _ => by kernel_rfl) ?_
    refine QL.step1v 35 undef rfl (fun _ => by kernel_rfl) ?_
    refine QL.step1v 36 undef rfl (fun _ => by kernel_rfl) ?_
    refine QL.step1v 37 (.bool true) rfl (fun _ => by kernel_rfl) ?_
    refine QL.subk [0, 1, 2, 7, 37] [(0, .slice a0' list_0.length c0'), (1, .int .i64 low_1), (2, .int .i64 high_2), (7, .int .i64 st4), (37, .bool true)] (by kernel_rfl) ?_
    refine QL.nil ?_
    intro w58 hE59
    have hb60 : Ext w w58 := Ext.trans hb6 hE59
    have hL61 : w.heap.size ≤ w58.heap.size := Nat.le_trans hL7 hE59.size
    have hS62 : SH w58 w.heap.size [] := SH.ext hS8 hE59
    obtain rfl := Option.some.inj hm
    exact WQ.post' ⟨rfl, hb60, hL61, hS62⟩ ⟨rfl, rfl, rfl, rfl, rfl, trivial⟩
  have hm := iteF hm hc57
  refine QL.step1v 23 (.int .i64 st4) rfl (fun _ => by kernel_rfl) ?_
  refine QL.step1v 24 (.bool (decide (st4 > 0))) rfl (fun _ => by kernel_rfl) ?_
  refine QL.step1v 25 (.bool (decide (st4 > 0))) rfl (fun _ => by kernel_rfl) ?_
  refine QL.subk [0, 1, 2, 7, 22, 25] [(0, .slice a0' list_0.length c0'), (1, .int .i64 low_1), (2, .int .i64 high_2), (7, .int .i64 st4), (22, .bool false), (25, .bool (decide (st4 > 0)))] (by kernel_rfl) ?_
  refine QL.case (decide (st4 > 0)) [25] ⟨rfl, trivial⟩ (fun hc63 => ?_) (fun hc63 => ?_)
  rotate_left
  · have hm := iteF hm hc63
    refine QL.step1v 26 undef rfl (fun _ => by kernel_rfl) ?_
    refine QL.step1v 27 undef rfl (fun _ => by kernel_rfl) ?_
    refine QL.step1v 28 undef rfl (fun _ => by kernel_rfl) ?_
    refine QL.step1v 29 undef rfl (fun _ => by kernel_rfl) ?_
    refine QL.step1v 30 undef rfl (fun _ => by kernel_rfl) ?_
    refine QL.step1v 31 undef rfl (fun _ => by kernel_rfl) ?_
    refine QL.step1v 32 undef rfl (fun _ => by kernel_rfl) ?_
    refine QL.step1v 33 undef rfl (fun _ => by kernel_rfl) ?_
    refine QL.step1v 34 undef rfl (fun _ => by kernel_rfl) ?_
    refine QL.step1v 35 undef rfl (fun _ => by kernel_rfl) ?_
    refine QL.step1v 36 (.bool false) rfl (fun _ => by kernel_rfl) ?_
    refine QL.step1v 37 (.bool false) rfl (fun _ => by kernel_rfl) ?_
    refine QL.subk [0, 1, 2, 7, 37] [(0, .slice a0' list_0.length c0'), (1, .int .i64 low_1), (2, .int .i64 high_2), (7, .int .i64 st4), (37, .bool false)] (by kernel_rfl) ?_
    refine QL.nil ?_
    intro w73 hE74
    have hb75 : Ext w w73 := Ext.trans hb6 hE74
    have hL76 : w.heap.size ≤ w73.heap.size := Nat.le_trans hL7 hE74.size
    have hS77 : SH w73 w.heap.size [] := SH.ext hS8 hE74
    obtain rfl := Option.some.inj hm
    exact WQ.post' ⟨rfl, hb75, hL76, hS77⟩ ⟨rfl, rfl, rfl, rfl, rfl, trivial⟩
  have hm := iteT hm hc63
  refine QL.step1v 26 (.slice a0' list_0.length c0') rfl (fun _ => by kernel_rfl) ?_
  refine QL.step1v 27 (.int .i64 st4) rfl (fun _ => by kernel_rfl) ?_
  refine QL.step1v 28 (.int .i64 (wI64 (st4 - 1))) rfl (fun _ => by kernel_rfl) ?_
  refine QL.subk [0, 1, 2, 7, 22, 25, 26, 28] [(0, .slice a0' list_0.length c0'), (1, .int .i64 low_1), (2, .int .i64 high_2), (7, .int .i64 st4), (22, .bool false), (25, .bool true), (26, .slice a0' list_0.length c0'), (28, .int .i64 (wI64 (st4 - 1)))] (by kernel_rfl) ?_
  obtain ⟨x64, hx65, hm⟩ := bindE hm
  refine QL.st (.pointer (some (at_ a0' (Int.toNat (wI64 (st4 - 1)) * 1)))) (ST.index (T := fInt.ty) (xs := list_0) (Rd.below h0 hb6) hx65 rfl rfl rfl Tryz.underlying25 (info2).1 (info2).2.1) rfl rfl rfl ?_
  refine QL.st (.int .i64 x64) (ST.load (cell_ext (Rd.flat (F := fInt) (Rd.below h0 hb6) hx65 0 rfl)) rfl rfl Tryz.underlying2 rfl) rfl rfl rfl ?_
  refine QL.step1v 31 (.slice a0' list_0.length c0') rfl (fun _ => by kernel_rfl) ?_
  refine QL.step1v 32 (.int .i64 st4) rfl (fun _ => by kernel_rfl) ?_
  refine QL.subk [0, 1, 2, 7, 22, 25, 30, 31, 32] [(0, .slice a0' list_0.length c0'), (1, .int .i64 low_1), (2, .int .i64 high_2), (7, .int .i64 st4), (22, .bool false), (25, .bool true), (30, .int .i64 x64), (31, .slice a0' list_0.length c0'), (32, .int .i64 st4)] (by kernel_rfl) ?_
  obtain ⟨x66, hx67, hm⟩ := bindE hm
  refine QL.st (.pointer (some (at_ a0' (Int.toNat st4 * 1)))) (ST.index (T := fInt.ty) (xs := list_0) (Rd.below h0 hb6) hx67 rfl rfl rfl Tryz.underlying25 (info2).1 (info2).2.1) rfl rfl rfl ?_
  refine QL.st (.int .i64 x66) (ST.load (cell_ext (Rd.flat (F := fInt) (Rd.below h0 hb6) hx67 0 rfl)) rfl rfl Tryz.underlying2 rfl) rfl rfl rfl ?_
  refine QL.step1v 35 (.bool (decide (x64 ≥ x66))) rfl (fun _ => by kernel_rfl) ?_
  refine QL.step1v 36 (.bool (decide (x64 ≥ x66))) rfl (fun _ => by kernel_rfl) ?_
  refine QL.step1v 37 (.bool (decide (x64 ≥ x66))) rfl (fun _ => by kernel_rfl) ?_
  refine QL.subk [0, 1, 2, 7, 37] [(0, .slice a0' list_0.length c0'), (1, .int .i64 low_1), (2, .int .i64 high_2), (7, .int .i64 st4), (37, .bool (decide (x64 ≥ x66)))] (by kernel_rfl) ?_
  refine QL.nil ?_
  intro w68 hE69
  have hb70 : Ext w w68 := Ext.trans hb6 hE69
  have hL71 : w.heap.size ≤ w68.heap.size := Nat.le_trans hL7 hE69.size
  have hS72 : SH w68 w.heap.size [] := SH.ext hS8 hE69
  obtain rfl := Option.some.inj hm
  exact WQ.post' ⟨rfl, hb70, hL71, hS72⟩ ⟨rfl, rfl, rfl, rfl, rfl, trivial⟩

theorem c_87 (n : Nat) (c_0 : Int) (w : World) {r : Bool} (hm : m_spec_l01Small n c_0 = some r)  :
    CallV Tryz.prog 87 #[.int .u8 c_0] w (fun v w' => v = .bool r ∧ Ext w w') := by
  unfold m_spec_l01Small at hm
  refine CallV.enter Tryz.func87 rfl (by kernel_rfl) Tryz.ntmps87 (env := [(0, .int .u8 c_0)]) ⟨rfl, trivial⟩ ?_
  refine WP.seq (fun K1 hK1 => ?_)
  refine WP.region ?_
  refine WL.runk 1 [0] [(0, .int .u8 c_0)] (by kernel_rfl) ?_
  refine WL.nil ?_
  refine WQ.then_normal (hK1 _ _ _ ?_)
  refine WP.seq (fun K2 hK2 => ?_)
  obtain ⟨x4, hx5, hm⟩ := bindE hm
  refine WP.cut (fun env' w' => env' = [(2, .bool x4)] ∧ Ext w w' ∧ w.heap.size ≤ w'.heap.size ∧ SH w' w.heap.size []) ?_ ?_
  rotate_left
  · clear hx5
    rintro _ w7 ⟨rfl, hb8, hL9, hS10⟩
    refine WQ.then_normal (hK2 _ _ _ ?_)
    refine WP.ret ?_
    obtain rfl := Option.some.inj hm
    exact WQ.ret1 _ rfl rfl ⟨rfl, hb8⟩
  have hm := hx5; clear hx5
  refine WP.region ?_
  refine WL.runk 3 [0, 5] [(0, .int .u8 c_0), (5, .bool (decide (c_0 ≥ 97)))] (by kernel_rfl) ?_
  refine WL.case (decide (c_0 ≥ 97)) [5] ⟨rfl, trivial⟩ (fun hc6 => ?_) (fun hc6 => ?_)
  · have hm := iteT hm hc6
    refine WL.runk 4 [2] [(2, .bool (decide (c_0 ≤ 122)))] (by kernel_rfl) ?_
    refine WL.nil ?_
    obtain rfl := Option.some.inj hm
    exact WQ.post' ⟨rfl, (Ext.refl w), (Nat.le_refl _), (SH.nil _ _)⟩ ⟨rfl, trivial⟩
  have hm := iteF hm hc6
  refine WL.runk 4 [2] [(2, .bool false)] (by kernel_rfl) ?_
  refine WL.nil ?_
  obtain rfl := Option.some.inj hm
  exact WQ.post' ⟨rfl, (Ext.refl w), (Nat.le_refl _), (SH.nil _ _)⟩ ⟨rfl, trivial⟩

theorem c_88 (n : Nat) (c_0 : Int) (w : World) {r : Bool} (hm : m_spec_l01Digit n c_0 = some r)  :
    CallV Tryz.prog 88 #[.int .u8 c_0] w (fun v w' => v = .bool r ∧ Ext w w') := by
  unfold m_spec_l01Digit at hm
  refine CallV.enter Tryz.func88 rfl (by kernel_rfl) Tryz.ntmps88 (env := [(0, .int .u8 c_0)]) ⟨rfl, trivial⟩ ?_
  refine WP.seq (fun K1 hK1 => ?_)
  refine WP.region ?_
  refine WL.runk 1 [0] [(0, .int .u8 c_0)] (by kernel_rfl) ?_
  refine WL.nil ?_
  refine WQ.then_normal (hK1 _ _ _ ?_)
  refine WP.seq (fun K2 hK2 => ?_)
  obtain ⟨x4, hx5, hm⟩ := bindE hm
  refine WP.cut (fun env' w' => env' = [(2, .bool x4)] ∧ Ext w w' ∧ w.heap.size ≤ w'.heap.size ∧ SH w' w.heap.size []) ?_ ?_
  rotate_left
  · clear hx5
    rintro _ w7 ⟨rfl, hb8, hL9, hS10⟩
    refine WQ.then_normal (hK2 _ _ _ ?_)
    refine WP.ret ?_
    obtain rfl := Option.some.inj hm
    exact WQ.ret1 _ rfl rfl ⟨rfl, hb8⟩
  have hm := hx5; clear hx5
  refine WP.region ?_
  refine WL.runk 3 [0, 5] [(0, .int .u8 c_0), (5, .bool (decide (c_0 ≥ 48)))] (by kernel_rfl) ?_
  refine WL.case (decide (c_0 ≥ 48)) [5] ⟨rfl, trivial⟩ (fun hc6 => ?_) (fun hc6 => ?_)
  · have hm := iteT hm hc6
    refine WL.runk 4 [2] [(2, .bool (decide (c_0 ≤ 57)))] (by kernel_rfl) ?_
    refine WL.nil ?_
    obtain rfl := Option.some.inj hm
    exact WQ.post' ⟨rfl, (Ext.refl w), (Nat.le_refl _), (SH.nil _ _)⟩ ⟨rfl, trivial⟩
  have hm := iteF hm hc6
  refine WL.runk 4 [2] [(2, .bool false)] (by kernel_rfl) ?_
  refine WL.nil ?_
  obtain rfl := Option.some.inj hm
  exact WQ.post' ⟨rfl, (Ext.refl w), (Nat.le_refl _), (SH.nil _ _)⟩ ⟨rfl, trivial⟩

theorem c_77 (n : Nat) (s_0 : List UInt8) (w : World) {r : Bool} (hm : m_spec_IsName n s_0 = some r)  :
    CallV Tryz.prog 77 #[.string (bs s_0)] w (fun v w' => v = .bool r ∧ Ext w w') := by
  unfold m_spec_IsName at hm
  refine CallV.enter Tryz.func77 rfl (by kernel_rfl) Tryz.ntmps77 (env := [(0, .string (bs s_0))]) ⟨rfl, trivial⟩ ?_
  refine WP.seq (fun K1 hK1 => ?_)
  refine WP.region ?_
  refine WL.runk 1 [0] [(0, .string (bs s_0))] (by kernel_rfl) ?_
  refine WL.nil ?_
  refine WQ.then_normal (hK1 _ _ _ ?_)
  refine WP.seq (fun K2 hK2 => ?_)
  refine WP.seq (fun K3 hK3 => ?_)
  obtain ⟨x16, hx17, hm⟩ := bindE hm
  refine WP.cut (fun env' w' => env' = [(0, .string (bs s_0)), (16, .bool x16)] ∧ Ext w w' ∧ w.heap.size ≤ w'.heap.size ∧ SH w' w.heap.size []) ?_ ?_
  · have hm := hx17; clear hx17
    refine WP.region ?_
    refine WL.runk 1 [0, 4] [(0, .string (bs s_0)), (4, .string (bs s_0))] (by kernel_rfl) ?_
    refine WL.st (.bool (s_0 == [])) (ST.streq (x := s_0) (y := []) rfl rfl rfl) rfl rfl rfl ?_
    refine WL.runk 1 [0, 6] [(0, .string (bs s_0)), (6, .bool (s_0 == []))] (by kernel_rfl) ?_
    refine WL.case (s_0 == []) [6] ⟨rfl, trivial⟩ (fun hc18 => ?_) (fun hc18 => ?_)
    · have hm := iteT hm hc18
      refine WL.runk 10 [0, 16] [(0, .string (bs s_0)), (16, .bool true)] (by kernel_rfl) ?_
      refine WL.nil ?_
      obtain rfl := Option.some.inj hm
      exact WQ.post' ⟨rfl, (Ext.refl w), (Nat.le_refl _), (SH.nil _ _)⟩ ⟨rfl, rfl, trivial⟩
    have hm := iteF hm hc18
    refine WL.runk 5 [0, 11] [(0, .string (bs s_0)), (11, .bool (decide ((s_0.length : Int) > 12)))] (by kernel_rfl) ?_
    refine WL.case (decide ((s_0.length : Int) > 12)) [11] ⟨rfl, trivial⟩ (fun hc19 => ?_) (fun hc19 => ?_)
    · have hm := iteT hm hc19
      refine WL.runk 5 [0, 16] [(0, .string (bs s_0)), (16, .bool true)] (by kernel_rfl) ?_
      refine WL.nil ?_
      obtain rfl := Option.some.inj hm
      exact WQ.post' ⟨rfl, (Ext.refl w), (Nat.le_refl _), (SH.nil _ _)⟩ ⟨rfl, rfl, trivial⟩
    have hm := iteF hm hc19
    refine WL.runk 1 [0, 11, 12] [(0, .string (bs s_0)), (11, .bool false), (12, .string (bs s_0))] (by kernel_rfl) ?_
    obtain ⟨x20, hx21, hm⟩ := bindE hm
    refine WL.st (.int .u8 (x20.toNat : Int)) (ST.sindex hx21 rfl rfl rfl Tryz.underlying9) rfl rfl rfl ?_
    obtain ⟨x22, hx23, hm⟩ := bindE hm
    refine WL.call 87 #[.int .u8 (x20.toNat : Int)] rfl rfl (by kernel_rfl) (c_87 n (x20.toNat : Int) w hx23 ) ?_
    rintro _ w24 ⟨rfl, hE25⟩
    refine ⟨_, rfl, ?_⟩
    have hb27 : Ext w w24 := Ext.trans (Ext.refl w) hE25
    have hL28 : w.heap.size ≤ w24.heap.size := Nat.le_trans (Nat.le_refl _) hE25.size
    have hS29 : SH w24 w.heap.size [] := SH.ext (SH.nil _ _) hE25
    refine WL.runk 2 [0, 16] [(0, .string (bs s_0)), (16, .bool (!x22))] (by kernel_rfl) ?_
    refine WL.nil ?_
    obtain rfl := Option.some.inj hm
    exact WQ.post' ⟨rfl, hb27, hL28, hS29⟩ ⟨rfl, rfl, trivial⟩
  clear hx17
  rintro _ w30 ⟨rfl, hb31, hL32, hS33⟩
  refine WQ.then_normal (hK3 _ _ _ ?_)
  refine WP.cond x16 rfl rfl (fun hc34 => ?_) (fun hc34 => ?_)
  · have hm := iteT hm hc34
    refine WP.seq (fun K35 hK35 => ?_)
    refine WP.region ?_
    refine WL.runk 1 [2] [(2, .bool false)] (by kernel_rfl) ?_
    refine WL.nil ?_
    refine WQ.then_normal (hK35 _ _ _ ?_)
    refine WP.ret ?_
    refine WQ.then_ret ?_
    obtain rfl := Option.some.inj hm
    exact WQ.ret1 _ rfl rfl ⟨rfl, hb31⟩
  have hm := iteF hm hc34
  refine WP.skip ?_
  refine WQ.then_normal (hK2 _ _ _ ?_)
  refine WP.seq (fun K36 hK36 => ?_)
  refine WP.seq (fun K37 hK37 => ?_)
  refine WP.region ?_
  refine WL.runk 1 [0, 3] [(0, .string (bs s_0)), (3, .int .i64 0)] (by kernel_rfl) ?_
  refine WL.nil ?_
  refine WQ.then_normal (hK37 _ _ _ ?_)
  refine WP.block ?_
  obtain ⟨t49, ht50, hm⟩ := bindE hm
  have hmo44 := hm; clear hm
  refine WP.sub [(0, .string (bs s_0)), (3, .int .i64 0)] ⟨rfl, rfl, trivial⟩ ?_
  refine WP.loop (fun n' env' w' => ∃ (st38 : Int) , env' = [(0, .string (bs s_0)), (3, .int .i64 st38)] ∧ Ext w w' ∧ w.heap.size ≤ w'.heap.size ∧ SH w' w.heap.size [] ∧ loopN (m_spec_IsName_l1 n s_0) n' st38 = some t49) n ⟨0, rfl, hb31, hL32, hS33, ht50⟩ ?_
  rintro n46 _ w39 ⟨st38, rfl, hb40, hL41, hS42, hl43⟩ K45 hK45
  obtain ⟨n47, s48, rfl, hm, hl43⟩ := loopN_some hl43
  unfold m_spec_IsName_l1 at hm
  refine WP.seq (fun K51 hK51 => ?_)
  refine WP.seq (fun K52 hK52 => ?_)
  refine WP.region ?_
  refine WL.runk 4 [0, 3, 20] [(0, .string (bs s_0)), (3, .int .i64 st38), (20, .bool (decide (st38 < (s_0.length : Int))))] (by kernel_rfl) ?_
  refine WL.nil ?_
  refine WQ.then_normal (hK52 _ _ _ ?_)
  refine WP.cond (decide (st38 < (s_0.length : Int))) rfl rfl (fun hc53 => ?_) (fun hc53 => ?_)
  rotate_left
  · have hm := iteF hm hc53
    refine WP.exit ?_
    refine WQ.then_exit ?_
    refine WQ.then_exit ?_
    refine WQ.block_here ?_
    obtain rfl := Option.some.inj hm
    obtain rfl := afterN_done hl43
    have hm := hmo44
    refine WQ.then_normal (hK36 _ _ _ ?_)
    refine WP.seq (fun K112 hK112 => ?_)
    refine WP.region ?_
    refine WL.runk 1 [2] [(2, .bool true)] (by kernel_rfl) ?_
    refine WL.nil ?_
    refine WQ.then_normal (hK112 _ _ _ ?_)
    refine WP.ret ?_
    obtain rfl := Option.some.inj hm
    exact WQ.ret1 _ rfl rfl ⟨rfl, hb40⟩
  have hm := iteT hm hc53
  refine WP.skip ?_
  refine WQ.then_normal (hK51 _ _ _ ?_)
  refine WP.seq (fun K54 hK54 => ?_)
  refine WP.block ?_
  refine WP.seq (fun K55 hK55 => ?_)
  obtain ⟨x80, hx81, hm⟩ := bindE hm
  refine WP.cut (fun env' w' => env' = [(0, .string (bs s_0)), (3, .int .i64 st38), (40, .bool x80)] ∧ Ext w w' ∧ w.heap.size ≤ w'.heap.size ∧ SH w' w.heap.size []) ?_ ?_
  rotate_left
  · clear hx81
    rintro _ w106 ⟨rfl, hb107, hL108, hS109⟩
    refine WQ.then_normal (hK55 _ _ _ ?_)
    refine WP.cond x80 rfl rfl (fun hc110 => ?_) (fun hc110 => ?_)
    rotate_left
    · have hm := iteF hm hc110
      refine WP.skip ?_
      refine WQ.block_normal ?_
      refine WQ.then_normal (hK54 _ _ _ ?_)
      refine WP.region ?_
      refine WL.runk 3 [0, 3] [(0, .string (bs s_0)), (3, .int .i64 (wI64 (st38 + 1)))] (by kernel_rfl) ?_
      refine WL.nil ?_
      obtain rfl := Option.some.inj hm
      exact WQ.round hK45 ⟨(wI64 (st38 + 1)), rfl, hb107, hL108, hS109, hl43⟩ (Nat.lt_succ_self _) ⟨rfl, rfl, trivial⟩
    have hm := iteT hm hc110
    refine WP.seq (fun K111 hK111 => ?_)
    refine WP.region ?_
    refine WL.runk 1 [2] [(2, .bool false)] (by kernel_rfl) ?_
    refine WL.nil ?_
    refine WQ.then_normal (hK111 _ _ _ ?_)
    refine WP.ret ?_
    refine WQ.block_ret ?_
    refine WQ.then_ret ?_
    refine WQ.then_ret ?_
    refine WQ.block_ret ?_
    refine WQ.then_ret ?_
    obtain rfl := Option.some.inj hm
    obtain rfl := afterN_done hl43
    have hm := hmo44
    obtain rfl := Option.some.inj hm
    exact WQ.ret1 _ rfl rfl ⟨rfl, hb107⟩
  have hm := hx81; clear hx81
  refine WP.region ?_
  refine WL.runk 2 [0, 3, 23, 24] [(0, .string (bs s_0)), (3, .int .i64 st38), (23, .string (bs s_0)), (24, .int .i64 st38)] (by kernel_rfl) ?_
  obtain ⟨x82, hx83, hm⟩ := bindE hm
  refine WL.st (.int .u8 (x82.toNat : Int)) (ST.sindex hx83 rfl rfl rfl Tryz.underlying9) rfl rfl rfl ?_
  obtain ⟨x84, hx85, hm⟩ := bindE hm
  refine WL.call 87 #[.int .u8 (x82.toNat : Int)] rfl rfl (by kernel_rfl) (c_87 n (x82.toNat : Int) w39 hx85 ) ?_
  rintro _ w86 ⟨rfl, hE87⟩
  refine ⟨_, rfl, ?_⟩
  have hb89 : Ext w w86 := Ext.trans hb40 hE87
  have hL90 : w.heap.size ≤ w86.heap.size := Nat.le_trans hL41 hE87.size
  have hS91 : SH w86 w.heap.size [] := SH.ext hS42 hE87
  refine WL.runk 2 [0, 3, 28] [(0, .string (bs s_0)), (3, .int .i64 st38), (28, .bool (!x84))] (by kernel_rfl) ?_
  refine WL.case (!x84) [28] ⟨rfl, trivial⟩ (fun hc92 => ?_) (fun hc92 => ?_)
  rotate_left
  · have hm := iteF hm hc92
    refine WL.runk 12 [0, 3, 40] [(0, .string (bs s_0)), (3, .int .i64 st38), (40, .bool false)] (by kernel_rfl) ?_
    refine WL.nil ?_
    obtain rfl := Option.some.inj hm
    exact WQ.post' ⟨rfl, hb89, hL90, hS91⟩ ⟨rfl, rfl, rfl, trivial⟩
  have hm := iteT hm hc92
  refine WL.runk 2 [0, 3, 28, 29, 30] [(0, .string (bs s_0)), (3, .int .i64 st38), (28, .bool true), (29, .string (bs s_0)), (30, .int .i64 st38)] (by kernel_rfl) ?_
  obtain ⟨x93, hx94, hm⟩ := bindE hm
  refine WL.st (.int .u8 (x93.toNat : Int)) (ST.sindex hx94 rfl rfl rfl Tryz.underlying9) rfl rfl rfl ?_
  obtain ⟨x95, hx96, hm⟩ := bindE hm
  refine WL.call 88 #[.int .u8 (x93.toNat : Int)] rfl rfl (by kernel_rfl) (c_88 n (x93.toNat : Int) w86 hx96 ) ?_
  rintro _ w97 ⟨rfl, hE98⟩
  refine ⟨_, rfl, ?_⟩
  have hb100 : Ext w w97 := Ext.trans hb89 hE98
  have hL101 : w.heap.size ≤ w97.heap.size := Nat.le_trans hL90 hE98.size
  have hS102 : SH w97 w.heap.size [] := SH.ext hS91 hE98
  refine WL.runk 3 [0, 3, 35] [(0, .string (bs s_0)), (3, .int .i64 st38), (35, .bool (!x95))] (by kernel_rfl) ?_
  refine WL.case (!x95) [35] ⟨rfl, trivial⟩ (fun hc103 => ?_) (fun hc103 => ?_)
  rotate_left
  · have hm := iteF hm hc103
    refine WL.runk 5 [0, 3, 40] [(0, .string (bs s_0)), (3, .int .i64 st38), (40, .bool false)] (by kernel_rfl) ?_
    refine WL.nil ?_
    obtain rfl := Option.some.inj hm
    exact WQ.post' ⟨rfl, hb100, hL101, hS102⟩ ⟨rfl, rfl, rfl, trivial⟩
  have hm := iteT hm hc103
  refine WL.runk 2 [0, 3, 35, 36, 37] [(0, .string (bs s_0)), (3, .int .i64 st38), (35, .bool true), (36, .string (bs s_0)), (37, .int .i64 st38)] (by kernel_rfl) ?_
  obtain ⟨x104, hx105, hm⟩ := bindE hm
  refine WL.st (.int .u8 (x104.toNat : Int)) (ST.sindex hx105 rfl rfl rfl Tryz.underlying9) rfl rfl rfl ?_
  refine WL.runk 2 [0, 3, 40] [(0, .string (bs s_0)), (3, .int .i64 st38), (40, .bool ((x104.toNat : Int) != 45))] (by kernel_rfl) ?_
  refine WL.nil ?_
  obtain rfl := Option.some.inj hm
  exact WQ.post' ⟨rfl, hb100, hL101, hS102⟩ ⟨rfl, rfl, rfl, trivial⟩

theorem c_52 (n : Nat) (list_0 : List SRepair) (a0' : Option Addr) (c0' : Nat) (w : World) {r : Bool} (hm : m_spec_l21Ok n list_0 = some r) (h0 : Rd fRepair.ty w a0' list_0) (_hle0 : list_0.length ≤ c0') :
    CallV Tryz.prog 52 #[.slice a0' list_0.length c0'] w (fun v w' => v = .bool r ∧ Ext w w') := by
  unfold m_spec_l21Ok at hm
  refine CallV.enter Tryz.func52 rfl (by kernel_rfl) Tryz.ntmps52 (env := [(0, .slice a0' list_0.length c0')]) ⟨rfl, trivial⟩ ?_
  refine WP.seq (fun K1 hK1 => ?_)
  refine WP.region ?_
  refine WL.runk 1 [0] [(0, .slice a0' list_0.length c0')] (by kernel_rfl) ?_
  refine WL.nil ?_
  refine WQ.then_normal (hK1 _ _ _ ?_)
  refine WP.seq (fun K2 hK2 => ?_)
  refine WP.seq (fun K3 hK3 => ?_)
  refine WP.region ?_
  refine WL.runk 1 [0, 3] [(0, .slice a0' list_0.length c0'), (3, .int .i64 0)] (by kernel_rfl) ?_
  refine WL.nil ?_
  refine WQ.then_normal (hK3 _ _ _ ?_)
  refine WP.block ?_
  obtain ⟨t15, ht16, hm⟩ := bindE hm
  have hmo10 := hm; clear hm
  refine WP.sub [(0, .slice a0' list_0.length c0'), (3, .int .i64 0)] ⟨rfl, rfl, trivial⟩ ?_
  refine WP.loop (fun n' env' w' => ∃ (st4 : Int) , env' = [(0, .slice a0' list_0.length c0'), (3, .int .i64 st4)] ∧ Ext w w' ∧ w.heap.size ≤ w'.heap.size ∧ SH w' w.heap.size [] ∧ loopN (m_spec_l21Ok_l1 n list_0) n' st4 = some t15) n ⟨0, rfl, (Ext.refl w), (Nat.le_refl _), (SH.nil _ _), ht16⟩ ?_
  rintro n12 _ w5 ⟨st4, rfl, hb6, hL7, hS8, hl9⟩ K11 hK11
  obtain ⟨n13, s14, rfl, hm, hl9⟩ := loopN_some hl9
  unfold m_spec_l21Ok_l1 at hm
  refine WP.seq (fun K17 hK17 => ?_)
  refine WP.seq (fun K18 hK18 => ?_)
  refine WP.region ?_
  refine WL.runk 4 [0, 3, 9] [(0, .slice a0' list_0.length c0'), (3, .int .i64 st4), (9, .bool (decide (st4 < (list_0.length : Int))))] (by kernel_rfl) ?_
  refine WL.nil ?_
  refine WQ.then_normal (hK18 _ _ _ ?_)
  refine WP.cond (decide (st4 < (list_0.length : Int))) rfl rfl (fun hc19 => ?_) (fun hc19 => ?_)
  rotate_left
  · have hm := iteF hm hc19
    refine WP.exit ?_
    refine WQ.then_exit ?_
    refine WQ.then_exit ?_
    refine WQ.block_here ?_
    obtain rfl := Option.some.inj hm
    obtain rfl := afterN_done hl9
    have hm := hmo10
    refine WQ.then_normal (hK2 _ _ _ ?_)
    refine WP.seq (fun K173 hK173 => ?_)
    refine WP.region ?_
    refine WL.runk 4 [2] [(2, .bool (decide ((list_0.length : Int) ≤ 10)))] (by kernel_rfl) ?_
    refine WL.nil ?_
    refine WQ.then_normal (hK173 _ _ _ ?_)
    refine WP.ret ?_
    obtain rfl := Option.some.inj hm
    exact WQ.ret1 _ rfl rfl ⟨rfl, hb6⟩
  have hm := iteT hm hc19
  refine WP.skip ?_
  refine WQ.then_normal (hK17 _ _ _ ?_)
  refine WP.seq (fun K20 hK20 => ?_)
  refine WP.block ?_
  refine WP.seq (fun K21 hK21 => ?_)
  refine WP.region ?_
  refine WL.runk 2 [0, 3, 12, 13] [(0, .slice a0' list_0.length c0'), (3, .int .i64 st4), (12, .slice a0' list_0.length c0'), (13, .int .i64 st4)] (by kernel_rfl) ?_
  obtain ⟨x22, hx23, hm⟩ := bindE hm
  obtain ⟨a24, c25, a29, c30, hc34, hR26, hle27, hR31, hle32⟩ := nest_Repair h0 hx23
  refine WL.st (.pointer (some (at_ a0' (Int.toNat st4 * 5)))) (ST.index (T := fRepair.ty) (xs := list_0) (Rd.below h0 hb6) hx23 rfl rfl rfl Tryz.underlying24 (info48).1 (info48).2.1) rfl rfl rfl ?_
  refine WL.runk 1 [0, 3, 4] [(0, .slice a0' list_0.length c0'), (3, .int .i64 st4), (4, .pointer (some (at_ a0' (Int.toNat st4 * 5))))] (by kernel_rfl) ?_
  refine WL.nil ?_
  refine WQ.then_normal (hK21 _ _ _ ?_)
  refine WP.seq (fun K35 hK35 => ?_)
  refine WP.seq (fun K36 hK36 => ?_)
  obtain ⟨x81, hx82, hm⟩ := bindE hm
  refine WP.cut (fun env' w' => env' = [(0, .slice a0' list_0.length c0'), (3, .int .i64 st4), (4, .pointer (some (at_ a0' (Int.toNat st4 * 5)))), (54, .bool x81)] ∧ Ext w w' ∧ w.heap.size ≤ w'.heap.size ∧ SH w' w.heap.size []) ?_ ?_
  · have hm := hx82; clear hx82
    refine WP.region ?_
    refine WL.runk 3 [0, 3, 4, 17] [(0, .slice a0' list_0.length c0'), (3, .int .i64 st4), (4, .pointer (some (at_ a0' (Int.toNat st4 * 5)))), (17, .pointer (some (at_ a0' (Int.toNat st4 * 5))))] (by kernel_rfl) ?_
    refine WL.st (.string (bs x22.Name)) (ST.load (cell_ext ((cells_ext hc34 hb6) 0 _ rfl)) rfl rfl Tryz.underlying9 rfl) rfl rfl rfl ?_
    obtain ⟨x83, hx84, hm⟩ := bindE hm
    refine WL.call 77 #[.string (bs x22.Name)] rfl rfl (by kernel_rfl) (c_77 n x22.Name w5 hx84 ) ?_
    rintro _ w85 ⟨rfl, hE86⟩
    refine ⟨_, rfl, ?_⟩
    have hb88 : Ext w w85 := Ext.trans hb6 hE86
    have hL89 : w.heap.size ≤ w85.heap.size := Nat.le_trans hL7 hE86.size
    have hS90 : SH w85 w.heap.size [] := SH.ext hS8 hE86
    refine WL.runk 2 [0, 3, 4, 21] [(0, .slice a0' list_0.length c0'), (3, .int .i64 st4), (4, .pointer (some (at_ a0' (Int.toNat st4 * 5)))), (21, .bool (!x83))] (by kernel_rfl) ?_
    refine WL.case (!x83) [21] ⟨rfl, trivial⟩ (fun hc91 => ?_) (fun hc91 => ?_)
    · have hm := iteT hm hc91
      refine WL.runk 33 [0, 3, 4, 54] [(0, .slice a0' list_0.length c0'), (3, .int .i64 st4), (4, .pointer (some (at_ a0' (Int.toNat st4 * 5)))), (54, .bool true)] (by kernel_rfl) ?_
      refine WL.nil ?_
      obtain rfl := Option.some.inj hm
      exact WQ.post' ⟨rfl, hb88, hL89, hS90⟩ ⟨rfl, rfl, rfl, rfl, trivial⟩
    have hm := iteF hm hc91
    refine WL.runk 3 [0, 3, 4, 21, 24] [(0, .slice a0' list_0.length c0'), (3, .int .i64 st4), (4, .pointer (some (at_ a0' (Int.toNat st4 * 5)))), (21, .bool false), (24, .pointer (some (at_ a0' (Int.toNat st4 * 5 + 1))))] (by kernel_rfl) ?_
    refine WL.st (.slice a24 x22.Mends.length c25) (ST.load (cell_ext ((cells_ext hc34 hb88) 1 _ rfl)) rfl rfl Tryz.underlying25 rfl) rfl rfl rfl ?_
    obtain ⟨x92, hx93, hm⟩ := bindE hm
    refine WL.call 70 #[.slice a24 x22.Mends.length c25, .int .i64 0, .int .i64 9] rfl rfl (by kernel_rfl) (c_70 n x22.Mends a24 c25 0 9 w85 hx93 (Rd.below hR26 hb88) hle27) ?_
    rintro _ w94 ⟨rfl, hE95⟩
    refine ⟨_, rfl, ?_⟩
    have hb97 : Ext w w94 := Ext.trans hb88 hE95
    have hL98 : w.heap.size ≤ w94.heap.size := Nat.le_trans hL89 hE95.size
    have hS99 : SH w94 w.heap.size [] := SH.ext hS90 hE95
    refine WL.runk 3 [0, 3, 4, 29] [(0, .slice a0' list_0.length c0'), (3, .int .i64 st4), (4, .pointer (some (at_ a0' (Int.toNat st4 * 5)))), (29, .bool (!x92))] (by kernel_rfl) ?_
    refine WL.case (!x92) [29] ⟨rfl, trivial⟩ (fun hc100 => ?_) (fun hc100 => ?_)
    · have hm := iteT hm hc100
      refine WL.runk 25 [0, 3, 4, 54] [(0, .slice a0' list_0.length c0'), (3, .int .i64 st4), (4, .pointer (some (at_ a0' (Int.toNat st4 * 5)))), (54, .bool true)] (by kernel_rfl) ?_
      refine WL.nil ?_
      obtain rfl := Option.some.inj hm
      exact WQ.post' ⟨rfl, hb97, hL98, hS99⟩ ⟨rfl, rfl, rfl, rfl, trivial⟩
    have hm := iteF hm hc100
    refine WL.runk 3 [0, 3, 4, 29, 32] [(0, .slice a0' list_0.length c0'), (3, .int .i64 st4), (4, .pointer (some (at_ a0' (Int.toNat st4 * 5)))), (29, .bool false), (32, .pointer (some (at_ a0' (Int.toNat st4 * 5 + 2))))] (by kernel_rfl) ?_
    refine WL.st (.slice a29 x22.First.length c30) (ST.load (cell_ext ((cells_ext hc34 hb97) 2 _ rfl)) rfl rfl Tryz.underlying25 rfl) rfl rfl rfl ?_
    refine WL.runk 2 [0, 3, 4, 29, 33, 35] [(0, .slice a0' list_0.length c0'), (3, .int .i64 st4), (4, .pointer (some (at_ a0' (Int.toNat st4 * 5)))), (29, .bool false), (33, .slice a29 x22.First.length c30), (35, .int .i64 (wI64 (st4 - 1)))] (by kernel_rfl) ?_
    obtain ⟨x101, hx102, hm⟩ := bindE hm
    refine WL.call 70 #[.slice a29 x22.First.length c30, .int .i64 0, .int .i64 (wI64 (st4 - 1))] rfl rfl (by kernel_rfl) (c_70 n x22.First a29 c30 0 (wI64 (st4 - 1)) w94 hx102 (Rd.below hR31 hb97) hle32) ?_
    rintro _ w103 ⟨rfl, hE104⟩
    refine ⟨_, rfl, ?_⟩
    have hb106 : Ext w w103 := Ext.trans hb97 hE104
    have hL107 : w.heap.size ≤ w103.heap.size := Nat.le_trans hL98 hE104.size
    have hS108 : SH w103 w.heap.size [] := SH.ext hS99 hE104
    refine WL.runk 3 [0, 3, 4, 39] [(0, .slice a0' list_0.length c0'), (3, .int .i64 st4), (4, .pointer (some (at_ a0' (Int.toNat st4 * 5)))), (39, .bool (!x101))] (by kernel_rfl) ?_
    refine WL.case (!x101) [39] ⟨rfl, trivial⟩ (fun hc109 => ?_) (fun hc109 => ?_)
    · have hm := iteT hm hc109
      refine WL.runk 15 [0, 3, 4, 54] [(0, .slice a0' list_0.length c0'), (3, .int .i64 st4), (4, .pointer (some (at_ a0' (Int.toNat st4 * 5)))), (54, .bool true)] (by kernel_rfl) ?_
      refine WL.nil ?_
      obtain rfl := Option.some.inj hm
      exact WQ.post' ⟨rfl, hb106, hL107, hS108⟩ ⟨rfl, rfl, rfl, rfl, trivial⟩
    have hm := iteF hm hc109
    refine WL.runk 3 [0, 3, 4, 39, 42] [(0, .slice a0' list_0.length c0'), (3, .int .i64 st4), (4, .pointer (some (at_ a0' (Int.toNat st4 * 5)))), (39, .bool false), (42, .pointer (some (at_ a0' (Int.toNat st4 * 5 + 3))))] (by kernel_rfl) ?_
    refine WL.st (.int .i64 x22.Price) (ST.load (cell_ext ((cells_ext hc34 hb106) 3 _ rfl)) rfl rfl Tryz.underlying2 rfl) rfl rfl rfl ?_
    obtain ⟨x110, hx111, hm⟩ := bindE hm
    refine WL.call 53 #[.int .i64 x22.Price, .int .i64 0, .int .i64 100000] rfl rfl (by kernel_rfl) (c_53 n x22.Price 0 100000 w103 hx111 ) ?_
    rintro _ w112 ⟨rfl, hE113⟩
    refine ⟨_, rfl, ?_⟩
    have hb115 : Ext w w112 := Ext.trans hb106 hE113
    have hL116 : w.heap.size ≤ w112.heap.size := Nat.le_trans hL107 hE113.size
    have hS117 : SH w112 w.heap.size [] := SH.ext hS108 hE113
    refine WL.runk 3 [0, 3, 4, 47] [(0, .slice a0' list_0.length c0'), (3, .int .i64 st4), (4, .pointer (some (at_ a0' (Int.toNat st4 * 5)))), (47, .bool (!x110))] (by kernel_rfl) ?_
    refine WL.case (!x110) [47] ⟨rfl, trivial⟩ (fun hc118 => ?_) (fun hc118 => ?_)
    · have hm := iteT hm hc118
      refine WL.runk 7 [0, 3, 4, 54] [(0, .slice a0' list_0.length c0'), (3, .int .i64 st4), (4, .pointer (some (at_ a0' (Int.toNat st4 * 5)))), (54, .bool true)] (by kernel_rfl) ?_
      refine WL.nil ?_
      obtain rfl := Option.some.inj hm
      exact WQ.post' ⟨rfl, hb115, hL116, hS117⟩ ⟨rfl, rfl, rfl, rfl, trivial⟩
    have hm := iteF hm hc118
    refine WL.runk 3 [0, 3, 4, 47, 50] [(0, .slice a0' list_0.length c0'), (3, .int .i64 st4), (4, .pointer (some (at_ a0' (Int.toNat st4 * 5)))), (47, .bool false), (50, .pointer (some (at_ a0' (Int.toNat st4 * 5 + 4))))] (by kernel_rfl) ?_
    refine WL.st (.int .i64 x22.Hours) (ST.load (cell_ext ((cells_ext hc34 hb115) 4 _ rfl)) rfl rfl Tryz.underlying2 rfl) rfl rfl rfl ?_
    obtain ⟨x119, hx120, hm⟩ := bindE hm
    refine WL.call 53 #[.int .i64 x22.Hours, .int .i64 0, .int .i64 1000] rfl rfl (by kernel_rfl) (c_53 n x22.Hours 0 1000 w112 hx120 ) ?_
    rintro _ w121 ⟨rfl, hE122⟩
    refine ⟨_, rfl, ?_⟩
    have hb124 : Ext w w121 := Ext.trans hb115 hE122
    have hL125 : w.heap.size ≤ w121.heap.size := Nat.le_trans hL116 hE122.size
    have hS126 : SH w121 w.heap.size [] := SH.ext hS117 hE122
    refine WL.runk 2 [0, 3, 4, 54] [(0, .slice a0' list_0.length c0'), (3, .int .i64 st4), (4, .pointer (some (at_ a0' (Int.toNat st4 * 5)))), (54, .bool (!x119))] (by kernel_rfl) ?_
    refine WL.nil ?_
    obtain rfl := Option.some.inj hm
    exact WQ.post' ⟨rfl, hb124, hL125, hS126⟩ ⟨rfl, rfl, rfl, rfl, trivial⟩
  clear hx82
  rintro _ w127 ⟨rfl, hb128, hL129, hS130⟩
  refine WQ.then_normal (hK36 _ _ _ ?_)
  refine WP.cond x81 rfl rfl (fun hc131 => ?_) (fun hc131 => ?_)
  · have hm := iteT hm hc131
    refine WP.seq (fun K132 hK132 => ?_)
    refine WP.region ?_
    refine WL.runk 1 [2] [(2, .bool false)] (by kernel_rfl) ?_
    refine WL.nil ?_
    refine WQ.then_normal (hK132 _ _ _ ?_)
    refine WP.ret ?_
    refine WQ.then_ret ?_
    refine WQ.block_ret ?_
    refine WQ.then_ret ?_
    refine WQ.then_ret ?_
    refine WQ.block_ret ?_
    refine WQ.then_ret ?_
    obtain rfl := Option.some.inj hm
    obtain rfl := afterN_done hl9
    have hm := hmo10
    obtain rfl := Option.some.inj hm
    exact WQ.ret1 _ rfl rfl ⟨rfl, hb128⟩
  have hm := iteF hm hc131
  refine WP.skip ?_
  refine WQ.then_normal (hK35 _ _ _ ?_)
  refine WP.seq (fun K133 hK133 => ?_)
  refine WP.region ?_
  refine WL.runk 1 [0, 3, 4, 5] [(0, .slice a0' list_0.length c0'), (3, .int .i64 st4), (4, .pointer (some (at_ a0' (Int.toNat st4 * 5)))), (5, .int .i64 0)] (by kernel_rfl) ?_
  refine WL.nil ?_
  refine WQ.then_normal (hK133 _ _ _ ?_)
  refine WP.block ?_
  obtain ⟨t145, ht146, hm⟩ := bindE hm
  have hmo140 := hm; clear hm
  refine WP.sub [(0, .slice a0' list_0.length c0'), (3, .int .i64 st4), (4, .pointer (some (at_ a0' (Int.toNat st4 * 5)))), (5, .int .i64 0)] ⟨rfl, rfl, rfl, rfl, trivial⟩ ?_
  refine WP.loop (fun n' env' w' => ∃ (st134 : Int) , env' = [(0, .slice a0' list_0.length c0'), (3, .int .i64 st4), (4, .pointer (some (at_ a0' (Int.toNat st4 * 5)))), (5, .int .i64 st134)] ∧ Ext w w' ∧ w.heap.size ≤ w'.heap.size ∧ SH w' w.heap.size [] ∧ loopN (m_spec_l21Ok_l2 n list_0 st4 x22) n' st134 = some t145) n ⟨0, rfl, hb128, hL129, hS130, ht146⟩ ?_
  rintro n142 _ w135 ⟨st134, rfl, hb136, hL137, hS138, hl139⟩ K141 hK141
  obtain ⟨n143, s144, rfl, hm, hl139⟩ := loopN_some hl139
  unfold m_spec_l21Ok_l2 at hm
  refine WP.seq (fun K147 hK147 => ?_)
  refine WP.seq (fun K148 hK148 => ?_)
  refine WP.region ?_
  refine WL.runk 3 [0, 3, 4, 5, 57] [(0, .slice a0' list_0.length c0'), (3, .int .i64 st4), (4, .pointer (some (at_ a0' (Int.toNat st4 * 5)))), (5, .int .i64 st134), (57, .bool (decide (st134 < st4)))] (by kernel_rfl) ?_
  refine WL.nil ?_
  refine WQ.then_normal (hK148 _ _ _ ?_)
  refine WP.cond (decide (st134 < st4)) rfl rfl (fun hc149 => ?_) (fun hc149 => ?_)
  rotate_left
  · have hm := iteF hm hc149
    refine WP.exit ?_
    refine WQ.then_exit ?_
    refine WQ.then_exit ?_
    refine WQ.block_here ?_
    obtain rfl := Option.some.inj hm
    obtain rfl := afterN_done hl139
    have hm := hmo140
    refine WQ.block_normal ?_
    refine WQ.then_normal (hK20 _ _ _ ?_)
    refine WP.region ?_
    refine WL.runk 3 [0, 3] [(0, .slice a0' list_0.length c0'), (3, .int .i64 (wI64 (st4 + 1)))] (by kernel_rfl) ?_
    refine WL.nil ?_
    obtain rfl := Option.some.inj hm
    exact WQ.round hK11 ⟨(wI64 (st4 + 1)), rfl, hb136, hL137, hS138, hl9⟩ (Nat.lt_succ_self _) ⟨rfl, rfl, trivial⟩
  have hm := iteT hm hc149
  refine WP.skip ?_
  refine WQ.then_normal (hK147 _ _ _ ?_)
  refine WP.seq (fun K150 hK150 => ?_)
  refine WP.block ?_
  refine WP.seq (fun K151 hK151 => ?_)
  refine WP.quiet (by kernel_rfl) (by kernel_rfl) ?_
  refine QL.step1v 60 (.slice a0' list_0.length c0') rfl (fun _ => by kernel_rfl) ?_
  refine QL.step1v 61 (.int .i64 st134) rfl (fun _ => by kernel_rfl) ?_
  refine QL.subk [0, 3, 4, 5, 60, 61] [(0, .slice a0' list_0.length c0'), (3, .int .i64 st4), (4, .pointer (some (at_ a0' (Int.toNat st4 * 5)))), (5, .int .i64 st134), (60, .slice a0' list_0.length c0'), (61, .int .i64 st134)] (by kernel_rfl) ?_
  obtain ⟨x152, hx153, hm⟩ := bindE hm
  obtain ⟨a154, c155, a159, c160, hc164, hR156, hle157, hR161, hle162⟩ := nest_Repair h0 hx153
  refine QL.st (.pointer (some (at_ a0' (Int.toNat st134 * 5)))) (ST.index (T := fRepair.ty) (xs := list_0) (Rd.below h0 hb136) hx153 rfl rfl rfl Tryz.underlying24 (info48).1 (info48).2.1) rfl rfl rfl ?_
  refine QL.step1v 63 (.pointer (some (at_ a0' (Int.toNat st134 * 5)))) rfl (fun _ => by kernel_rfl) ?_
  refine QL.subk [0, 3, 4, 5, 63] [(0, .slice a0' list_0.length c0'), (3, .int .i64 st4), (4, .pointer (some (at_ a0' (Int.toNat st4 * 5)))), (5, .int .i64 st134), (63, .pointer (some (at_ a0' (Int.toNat st134 * 5))))] (by kernel_rfl) ?_
  refine QL.st (.string (bs x152.Name)) (ST.load (cell_ext ((cells_ext hc164 hb136) 0 _ rfl)) rfl rfl Tryz.underlying9 rfl) rfl rfl rfl ?_
  refine QL.step1v 65 (.pointer (some (at_ a0' (Int.toNat st4 * 5)))) rfl (fun _ => by kernel_rfl) ?_
  refine QL.step1v 66 (.pointer (some (at_ a0' (Int.toNat st4 * 5)))) rfl (fun _ => by kernel_rfl) ?_
  refine QL.step1v 67 (.pointer (some (at_ a0' (Int.toNat st4 * 5)))) rfl (fun _ => by kernel_rfl) ?_
  refine QL.subk [0, 3, 4, 5, 64, 67] [(0, .slice a0' list_0.length c0'), (3, .int .i64 st4), (4, .pointer (some (at_ a0' (Int.toNat st4 * 5)))), (5, .int .i64 st134), (64, .string (bs x152.Name)), (67, .pointer (some (at_ a0' (Int.toNat st4 * 5))))] (by kernel_rfl) ?_
  refine QL.st (.string (bs x22.Name)) (ST.load (cell_ext ((cells_ext hc34 hb136) 0 _ rfl)) rfl rfl Tryz.underlying9 rfl) rfl rfl rfl ?_
  refine QL.st (.bool (x152.Name == x22.Name)) (ST.streq (x := x152.Name) (y := x22.Name) rfl rfl rfl) rfl rfl rfl ?_
  refine QL.subk [0, 3, 4, 5, 69] [(0, .slice a0' list_0.length c0'), (3, .int .i64 st4), (4, .pointer (some (at_ a0' (Int.toNat st4 * 5)))), (5, .int .i64 st134), (69, .bool (x152.Name == x22.Name))] (by kernel_rfl) ?_
  refine QL.nil ?_
  intro w165 hE166
  have hb167 : Ext w w165 := Ext.trans hb136 hE166
  have hL168 : w.heap.size ≤ w165.heap.size := Nat.le_trans hL137 hE166.size
  have hS169 : SH w165 w.heap.size [] := SH.ext hS138 hE166
  refine WQ.then_normal (hK151 _ _ _ ?_)
  refine WP.cond (x152.Name == x22.Name) rfl rfl (fun hc170 => ?_) (fun hc170 => ?_)
  rotate_left
  · have hm := iteF hm hc170
    refine WP.skip ?_
    refine WQ.block_normal ?_
    refine WQ.then_normal (hK150 _ _ _ ?_)
    refine WP.region ?_
    refine WL.runk 3 [0, 3, 4, 5] [(0, .slice a0' list_0.length c0'), (3, .int .i64 st4), (4, .pointer (some (at_ a0' (Int.toNat st4 * 5)))), (5, .int .i64 (wI64 (st134 + 1)))] (by kernel_rfl) ?_
    refine WL.nil ?_
    obtain rfl := Option.some.inj hm
    exact WQ.round hK141 ⟨(wI64 (st134 + 1)), rfl, hb167, hL168, hS169, hl139⟩ (Nat.lt_succ_self _) ⟨rfl, rfl, rfl, rfl, trivial⟩
  have hm := iteT hm hc170
  refine WP.seq (fun K171 hK171 => ?_)
  refine WP.region ?_
  refine WL.runk 1 [2] [(2, .bool false)] (by kernel_rfl) ?_
  refine WL.nil ?_
  refine WQ.then_normal (hK171 _ _ _ ?_)
  refine WP.ret ?_
  refine WQ.block_ret ?_
  refine WQ.then_ret ?_
  refine WQ.then_ret ?_
  refine WQ.block_ret ?_
  refine WQ.block_ret ?_
  refine WQ.then_ret ?_
  refine WQ.then_ret ?_
  refine WQ.block_ret ?_
  refine WQ.then_ret ?_
  obtain rfl := Option.some.inj hm
  obtain rfl := afterN_done hl139
  have hm := hmo140
  obtain rfl := Option.some.inj hm
  obtain rfl := afterN_done hl9
  have hm := hmo10
  obtain rfl := Option.some.inj hm
  exact WQ.ret1 _ rfl rfl ⟨rfl, hb167⟩

theorem c_33 (n : Nat) (list_0 : List SRepair) (a0' : Option Addr) (c0' : Nat) (some_1 : List Int) (a1' : Option Addr) (c1' : Nat) (w : World) {r : Int} (hm : m_spec_l21Some n list_0 some_1 = some r) (h0 : Rd fRepair.ty w a0' list_0) (hle0 : list_0.length ≤ c0') (h1 : Rd fInt.ty w a1' some_1) (hle1 : some_1.length ≤ c1') :
    CallV Tryz.prog 33 #[.slice a0' list_0.length c0', .slice a1' some_1.length c1'] w (fun v w' => v = .int .i64 r ∧ Ext w w') := by
  unfold m_spec_l21Some at hm
  refine CallV.enter Tryz.func33 rfl (by kernel_rfl) Tryz.ntmps33 (env := [(0, .slice a0' list_0.length c0'), (1, .slice a1' some_1.length c1')]) ⟨rfl, rfl, trivial⟩ ?_
  refine WP.seq (fun K1 hK1 => ?_)
  refine WP.region ?_
  refine WL.runk 1 [0, 1] [(0, .slice a0' list_0.length c0'), (1, .slice a1' some_1.length c1')] (by kernel_rfl) ?_
  refine WL.nil ?_
  refine WQ.then_normal (hK1 _ _ _ ?_)
  refine WP.seq (fun K2 hK2 => ?_)
  refine WP.seq (fun K3 hK3 => ?_)
  refine WP.region ?_
  refine WL.runk 1 [0, 1, 5] [(0, .slice a0' list_0.length c0'), (1, .slice a1' some_1.length c1'), (5, .slice a0' list_0.length c0')] (by kernel_rfl) ?_
  obtain ⟨x4, hx5, hm⟩ := bindE hm
  refine WL.call 52 #[.slice a0' list_0.length c0'] rfl rfl (by kernel_rfl) (c_52 n list_0 a0' c0' w hx5 (Rd.below h0 (Ext.refl w)) hle0) ?_
  rintro _ w6 ⟨rfl, hE7⟩
  refine ⟨_, rfl, ?_⟩
  have hb9 : Ext w w6 := Ext.trans (Ext.refl w) hE7
  have hL10 : w.heap.size ≤ w6.heap.size := Nat.le_trans (Nat.le_refl _) hE7.size
  have hS11 : SH w6 w.heap.size [] := SH.ext (SH.nil _ _) hE7
  refine WL.runk 1 [0, 1, 7] [(0, .slice a0' list_0.length c0'), (1, .slice a1' some_1.length c1'), (7, .bool (!x4))] (by kernel_rfl) ?_
  refine WL.nil ?_
  refine WQ.then_normal (hK3 _ _ _ ?_)
  refine WP.cond (!x4) rfl rfl (fun hc12 => ?_) (fun hc12 => ?_)
  · have hm := iteT hm hc12
    refine WP.seq (fun K13 hK13 => ?_)
    refine WP.region ?_
    refine WL.runk 1 [4] [(4, .int .i64 1)] (by kernel_rfl) ?_
    refine WL.nil ?_
    refine WQ.then_normal (hK13 _ _ _ ?_)
    refine WP.ret ?_
    refine WQ.then_ret ?_
    obtain rfl := Option.some.inj hm
    exact WQ.ret1 _ rfl rfl ⟨rfl, hb9⟩
  have hm := iteF hm hc12
  refine WP.skip ?_
  refine WQ.then_normal (hK2 _ _ _ ?_)
  refine WP.seq (fun K14 hK14 => ?_)
  refine WP.seq (fun K15 hK15 => ?_)
  refine WP.region ?_
  refine WL.runk 4 [8, 11] [(8, .slice a1' some_1.length c1'), (11, .int .i64 (wI64 ((list_0.length : Int) - 1)))] (by kernel_rfl) ?_
  obtain ⟨x16, hx17, hm⟩ := bindE hm
  refine WL.call 70 #[.slice a1' some_1.length c1', .int .i64 0, .int .i64 (wI64 ((list_0.length : Int) - 1))] rfl rfl (by kernel_rfl) (c_70 n some_1 a1' c1' 0 (wI64 ((list_0.length : Int) - 1)) w6 hx17 (Rd.below h1 hb9) hle1) ?_
  rintro _ w18 ⟨rfl, hE19⟩
  refine ⟨_, rfl, ?_⟩
  have hb21 : Ext w w18 := Ext.trans hb9 hE19
  have hL22 : w.heap.size ≤ w18.heap.size := Nat.le_trans hL10 hE19.size
  have hS23 : SH w18 w.heap.size [] := SH.ext hS11 hE19
  refine WL.runk 1 [13] [(13, .bool (!x16))] (by kernel_rfl) ?_
  refine WL.nil ?_
  refine WQ.then_normal (hK15 _ _ _ ?_)
  refine WP.cond (!x16) rfl rfl (fun hc24 => ?_) (fun hc24 => ?_)
  · have hm := iteT hm hc24
    refine WP.seq (fun K25 hK25 => ?_)
    refine WP.region ?_
    refine WL.runk 1 [4] [(4, .int .i64 2)] (by kernel_rfl) ?_
    refine WL.nil ?_
    refine WQ.then_normal (hK25 _ _ _ ?_)
    refine WP.ret ?_
    refine WQ.then_ret ?_
    obtain rfl := Option.some.inj hm
    exact WQ.ret1 _ rfl rfl ⟨rfl, hb21⟩
  have hm := iteF hm hc24
  refine WP.skip ?_
  refine WQ.then_normal (hK14 _ _ _ ?_)
  refine WP.seq (fun K26 hK26 => ?_)
  refine WP.region ?_
  refine WL.runk 1 [4] [(4, .int .i64 0)] (by kernel_rfl) ?_
  refine WL.nil ?_
  refine WQ.then_normal (hK26 _ _ _ ?_)
  refine WP.ret ?_
  obtain rfl := Option.some.inj hm
  exact WQ.ret1 _ rfl rfl ⟨rfl, hb21⟩

theorem c_54 (n : Nat) (list_0 : List Int) (a0' : Option Addr) (c0' : Nat) (n_1 : Int) (w : World) {r : Bool} (hm : m_spec_l00Has n list_0 n_1 = some r) (h0 : Rd fInt.ty w a0' list_0) (_hle0 : list_0.length ≤ c0') :
    CallV Tryz.prog 54 #[.slice a0' list_0.length c0', .int .i64 n_1] w (fun v w' => v = .bool r ∧ Ext w w') := by
  unfold m_spec_l00Has at hm
  refine CallV.enter Tryz.func54 rfl (by kernel_rfl) Tryz.ntmps54 (env := [(0, .slice a0' list_0.length c0'), (1, .int .i64 n_1)]) ⟨rfl, rfl, trivial⟩ ?_
  refine WP.seq (fun K1 hK1 => ?_)
  refine WP.region ?_
  refine WL.runk 1 [0, 1] [(0, .slice a0' list_0.length c0'), (1, .int .i64 n_1)] (by kernel_rfl) ?_
  refine WL.nil ?_
  refine WQ.then_normal (hK1 _ _ _ ?_)
  refine WP.seq (fun K2 hK2 => ?_)
  refine WP.seq (fun K3 hK3 => ?_)
  refine WP.region ?_
  refine WL.runk 1 [0, 1, 5] [(0, .slice a0' list_0.length c0'), (1, .int .i64 n_1), (5, .int .i64 0)] (by kernel_rfl) ?_
  refine WL.nil ?_
  refine WQ.then_normal (hK3 _ _ _ ?_)
  refine WP.block ?_
  obtain ⟨t15, ht16, hm⟩ := bindE hm
  have hmo10 := hm; clear hm
  refine WP.sub [(0, .slice a0' list_0.length c0'), (1, .int .i64 n_1), (5, .int .i64 0)] ⟨rfl, rfl, rfl, trivial⟩ ?_
  refine WP.loop (fun n' env' w' => ∃ (st4 : Int) , env' = [(0, .slice a0' list_0.length c0'), (1, .int .i64 n_1), (5, .int .i64 st4)] ∧ Ext w w' ∧ w.heap.size ≤ w'.heap.size ∧ SH w' w.heap.size [] ∧ loopN (m_spec_l00Has_l1 n list_0 n_1) n' st4 = some t15) n ⟨0, rfl, (Ext.refl w), (Nat.le_refl _), (SH.nil _ _), ht16⟩ ?_
  rintro n12 _ w5 ⟨st4, rfl, hb6, hL7, hS8, hl9⟩ K11 hK11
  obtain ⟨n13, s14, rfl, hm, hl9⟩ := loopN_some hl9
  unfold m_spec_l00Has_l1 at hm
  refine WP.seq (fun K17 hK17 => ?_)
  refine WP.seq (fun K18 hK18 => ?_)
  refine WP.region ?_
  refine WL.runk 4 [0, 1, 5, 9] [(0, .slice a0' list_0.length c0'), (1, .int .i64 n_1), (5, .int .i64 st4), (9, .bool (decide (st4 < (list_0.length : Int))))] (by kernel_rfl) ?_
  refine WL.nil ?_
  refine WQ.then_normal (hK18 _ _ _ ?_)
  refine WP.cond (decide (st4 < (list_0.length : Int))) rfl rfl (fun hc19 => ?_) (fun hc19 => ?_)
  rotate_left
  · have hm := iteF hm hc19
    refine WP.exit ?_
    refine WQ.then_exit ?_
    refine WQ.then_exit ?_
    refine WQ.block_here ?_
    obtain rfl := Option.some.inj hm
    obtain rfl := afterN_done hl9
    have hm := hmo10
    refine WQ.then_normal (hK2 _ _ _ ?_)
    refine WP.seq (fun K26 hK26 => ?_)
    refine WP.region ?_
    refine WL.runk 1 [4] [(4, .bool false)] (by kernel_rfl) ?_
    refine WL.nil ?_
    refine WQ.then_normal (hK26 _ _ _ ?_)
    refine WP.ret ?_
    obtain rfl := Option.some.inj hm
    exact WQ.ret1 _ rfl rfl ⟨rfl, hb6⟩
  have hm := iteT hm hc19
  refine WP.skip ?_
  refine WQ.then_normal (hK17 _ _ _ ?_)
  refine WP.seq (fun K20 hK20 => ?_)
  refine WP.block ?_
  refine WP.seq (fun K21 hK21 => ?_)
  refine WP.region ?_
  refine WL.runk 2 [0, 1, 5, 12, 13] [(0, .slice a0' list_0.length c0'), (1, .int .i64 n_1), (5, .int .i64 st4), (12, .slice a0' list_0.length c0'), (13, .int .i64 st4)] (by kernel_rfl) ?_
  obtain ⟨x22, hx23, hm⟩ := bindE hm
  refine WL.st (.pointer (some (at_ a0' (Int.toNat st4 * 1)))) (ST.index (T := fInt.ty) (xs := list_0) (Rd.below h0 hb6) hx23 rfl rfl rfl Tryz.underlying25 (info2).1 (info2).2.1) rfl rfl rfl ?_
  refine WL.st (.int .i64 x22) (ST.load (cell_ext (Rd.flat (F := fInt) (Rd.below h0 hb6) hx23 0 rfl)) rfl rfl Tryz.underlying2 rfl) rfl rfl rfl ?_
  refine WL.runk 2 [0, 1, 5, 17] [(0, .slice a0' list_0.length c0'), (1, .int .i64 n_1), (5, .int .i64 st4), (17, .bool (x22 == n_1))] (by kernel_rfl) ?_
  refine WL.nil ?_
  refine WQ.then_normal (hK21 _ _ _ ?_)
  refine WP.cond (x22 == n_1) rfl rfl (fun hc24 => ?_) (fun hc24 => ?_)
  rotate_left
  · have hm := iteF hm hc24
    refine WP.skip ?_
    refine WQ.block_normal ?_
    refine WQ.then_normal (hK20 _ _ _ ?_)
    refine WP.region ?_
    refine WL.runk 3 [0, 1, 5] [(0, .slice a0' list_0.length c0'), (1, .int .i64 n_1), (5, .int .i64 (wI64 (st4 + 1)))] (by kernel_rfl) ?_
    refine WL.nil ?_
    obtain rfl := Option.some.inj hm
    exact WQ.round hK11 ⟨(wI64 (st4 + 1)), rfl, hb6, hL7, hS8, hl9⟩ (Nat.lt_succ_self _) ⟨rfl, rfl, rfl, trivial⟩
  have hm := iteT hm hc24
  refine WP.seq (fun K25 hK25 => ?_)
  refine WP.region ?_
  refine WL.runk 1 [4] [(4, .bool true)] (by kernel_rfl) ?_
  refine WL.nil ?_
  refine WQ.then_normal (hK25 _ _ _ ?_)
  refine WP.ret ?_
  refine WQ.block_ret ?_
  refine WQ.then_ret ?_
  refine WQ.then_ret ?_
  refine WQ.block_ret ?_
  refine WQ.then_ret ?_
  obtain rfl := Option.some.inj hm
  obtain rfl := afterN_done hl9
  have hm := hmo10
  obtain rfl := Option.some.inj hm
  exact WQ.ret1 _ rfl rfl ⟨rfl, hb6⟩

theorem c_56 (n : Nat) (list_0 : List Int) (a0' : Option Addr) (c0' : Nat) (w : World) {r : List Int} (hm : m_spec_l00Own n list_0 = some r) (h0 : Rd fInt.ty w a0' list_0) (_hle0 : list_0.length ≤ c0') :
    CallV Tryz.prog 56 #[.slice a0' list_0.length c0'] w (fun v w' => ∃ (ra0 : Option Addr) (rc0 : Nat), v = .slice ra0 r.length rc0 ∧ Ext w w' ∧ SH w' w.heap.size [aOwn fInt 2 ra0 rc0 r]) := by
  unfold m_spec_l00Own at hm
  refine CallV.enter Tryz.func56 rfl (by kernel_rfl) Tryz.ntmps56 (env := [(0, .slice a0' list_0.length c0')]) ⟨rfl, trivial⟩ ?_
  refine WP.seq (fun K1 hK1 => ?_)
  refine WP.region ?_
  refine WL.runk 1 [0] [(0, .slice a0' list_0.length c0')] (by kernel_rfl) ?_
  refine WL.nil ?_
  refine WQ.then_normal (hK1 _ _ _ ?_)
  refine WP.seq (fun K2 hK2 => ?_)
  refine WP.region ?_
  refine WL.row fInt 2 ([] : List Int) 0 #[] 3 (by kernel_rfl) rfl rfl rfl rfl rfl rfl rfl ?_
  intro a3 c4 w5 hE6 hR7
  have hb9 : Ext w w5 := Ext.trans (Ext.refl w) hE6
  have hL10 : w.heap.size ≤ w5.heap.size := Nat.le_trans (Nat.le_refl _) hE6.size
  have hS11 : SH w5 w.heap.size [aOwn fInt 2 a3 c4 ([] : List Int)] := SH.add (SH.nil _ _) hE6 (Nat.le_refl _) hR7
  refine WL.runk 1 [3, 4] [(3, .slice a3 (([] : List Int).length) c4), (4, .slice a0' list_0.length c0')] (by kernel_rfl) ?_
  obtain ⟨x12, hx13, hm⟩ := bindE hm
  refine WL.append (F := fInt) (xs := ([] : List Int)) (ys := list_0) 5 (SH.front 0 hS11) hL10 (Rd.below h0 hb9) hx13 rfl rfl rfl Tryz.underlying25 (info2).1 (info2).2.2.1 (info2).2.1 (info2).2.2.2 rfl rfl rfl rfl rfl ?_
  intro a14 c15 w16 hB17 hS18
  have hb19 : Ext w w16 := Below.trans hb9 hB17
  have hL20 : w.heap.size ≤ w16.heap.size := Nat.le_trans hL10 hB17.size
  refine WL.runk 1 [2] [(2, .slice a14 x12.length c15)] (by kernel_rfl) ?_
  refine WL.nil ?_
  refine WQ.then_normal (hK2 _ _ _ ?_)
  refine WP.ret ?_
  obtain rfl := Option.some.inj hm
  exact WQ.ret1 _ rfl rfl ⟨_, _, rfl, hb19, hS18⟩

theorem c_71 (n : Nat) (list_0 : List Int) (a0' : Option Addr) (c0' : Nat) (n_1 : Int) (w : World) {r : List Int} (hm : m_spec_l00Put n list_0 n_1 = some r) (h0 : Rd fInt.ty w a0' list_0) (_hle0 : list_0.length ≤ c0') :
    CallV Tryz.prog 71 #[.slice a0' list_0.length c0', .int .i64 n_1] w (fun v w' => ∃ (ra0 : Option Addr) (rc0 : Nat), v = .slice ra0 r.length rc0 ∧ Ext w w' ∧ SH w' w.heap.size [aOwn fInt 2 ra0 rc0 r]) := by
  unfold m_spec_l00Put at hm
  refine CallV.enter Tryz.func71 rfl (by kernel_rfl) Tryz.ntmps71 (env := [(0, .slice a0' list_0.length c0'), (1, .int .i64 n_1)]) ⟨rfl, rfl, trivial⟩ ?_
  refine WP.seq (fun K1 hK1 => ?_)
  refine WP.region ?_
  refine WL.runk 1 [0, 1] [(0, .slice a0' list_0.length c0'), (1, .int .i64 n_1)] (by kernel_rfl) ?_
  refine WL.nil ?_
  refine WQ.then_normal (hK1 _ _ _ ?_)
  refine WP.seq (fun K2 hK2 => ?_)
  refine WP.region ?_
  refine WL.row fInt 2 ([] : List Int) 0 #[] 8 (by kernel_rfl) rfl rfl rfl rfl rfl rfl rfl ?_
  intro a3 c4 w5 hE6 hR7
  have hb9 : Ext w w5 := Ext.trans (Ext.refl w) hE6
  have hL10 : w.heap.size ≤ w5.heap.size := Nat.le_trans (Nat.le_refl _) hE6.size
  have hS11 : SH w5 w.heap.size [aOwn fInt 2 a3 c4 ([] : List Int)] := SH.add (SH.nil _ _) hE6 (Nat.le_refl _) hR7
  refine WL.runk 1 [0, 1, 5] [(0, .slice a0' list_0.length c0'), (1, .int .i64 n_1), (5, .slice a3 (([] : List Int).length) c4)] (by kernel_rfl) ?_
  refine WL.nil ?_
  refine WQ.then_normal (hK2 _ _ _ ?_)
  refine WP.seq (fun K12 hK12 => ?_)
  refine WP.region ?_
  refine WL.runk 1 [0, 1, 5, 6] [(0, .slice a0' list_0.length c0'), (1, .int .i64 n_1), (5, .slice a3 (([] : List Int).length) c4), (6, .bool false)] (by kernel_rfl) ?_
  refine WL.nil ?_
  refine WQ.then_normal (hK12 _ _ _ ?_)
  refine WP.seq (fun K13 hK13 => ?_)
  refine WP.seq (fun K14 hK14 => ?_)
  refine WP.region ?_
  refine WL.runk 1 [0, 1, 5, 6, 7] [(0, .slice a0' list_0.length c0'), (1, .int .i64 n_1), (5, .slice a3 (([] : List Int).length) c4), (6, .bool false), (7, .int .i64 0)] (by kernel_rfl) ?_
  refine WL.nil ?_
  refine WQ.then_normal (hK14 _ _ _ ?_)
  refine WP.block ?_
  obtain ⟨t29, ht30, hm⟩ := bindE hm
  have hmo24 := hm; clear hm
  refine WP.sub [(0, .slice a0' list_0.length c0'), (1, .int .i64 n_1), (5, .slice a3 (([] : List Int).length) c4), (6, .bool false), (7, .int .i64 0)] ⟨rfl, rfl, rfl, rfl, rfl, trivial⟩ ?_
  refine WP.loop (fun n' env' w' => ∃ (st15 : List Int × Bool × Int) (a16 : Option Addr) (c17 : Nat), env' = [(0, .slice a0' list_0.length c0'), (1, .int .i64 n_1), (5, .slice a16 st15.1.length c17), (6, .bool st15.2.1), (7, .int .i64 st15.2.2)] ∧ Ext w w' ∧ w.heap.size ≤ w'.heap.size ∧ SH w' w.heap.size [aOwn fInt 2 a16 c17 st15.1] ∧ loopN (m_spec_l00Put_l1 n list_0 n_1) n' st15 = some t29) n ⟨(([] : List Int), false, 0), _, _, rfl, hb9, hL10, hS11, ht30⟩ ?_
  rintro n26 _ w19 ⟨st15, a16, c17, rfl, hb20, hL21, hS22, hl23⟩ K25 hK25
  obtain ⟨n27, s28, rfl, hm, hl23⟩ := loopN_some hl23
  unfold m_spec_l00Put_l1 at hm
  refine WP.seq (fun K31 hK31 => ?_)
  refine WP.seq (fun K32 hK32 => ?_)
  refine WP.region ?_
  refine WL.runk 4 [0, 1, 5, 6, 7, 12] [(0, .slice a0' list_0.length c0'), (1, .int .i64 n_1), (5, .slice a16 st15.1.length c17), (6, .bool st15.2.1), (7, .int .i64 st15.2.2), (12, .bool (decide (st15.2.2 < (list_0.length : Int))))] (by kernel_rfl) ?_
  refine WL.nil ?_
  refine WQ.then_normal (hK32 _ _ _ ?_)
  refine WP.cond (decide (st15.2.2 < (list_0.length : Int))) rfl rfl (fun hc33 => ?_) (fun hc33 => ?_)
  rotate_left
  · have hm := iteF hm hc33
    refine WP.exit ?_
    refine WQ.then_exit ?_
    refine WQ.then_exit ?_
    refine WQ.block_here ?_
    obtain rfl := Option.some.inj hm
    obtain rfl := afterN_done hl23
    have hm := hmo24
    refine WQ.then_normal (hK13 _ _ _ ?_)
    refine WP.seq (fun K179 hK179 => ?_)
    refine WP.seq (fun K180 hK180 => ?_)
    refine WP.region ?_
    refine WL.runk 2 [1, 5, 43] [(1, .int .i64 n_1), (5, .slice a16 st15.1.length c17), (43, .bool (!st15.2.1))] (by kernel_rfl) ?_
    refine WL.nil ?_
    refine WQ.then_normal (hK180 _ _ _ ?_)
    obtain ⟨x200, hx201, hm⟩ := bindE hm
    refine WP.cut (fun env' w' => ∃ (a202 : Option Addr) (c203 : Nat), env' = [(5, .slice a202 x200.length c203)] ∧ Ext w w' ∧ w.heap.size ≤ w'.heap.size ∧ SH w' w.heap.size [aOwn fInt 2 a202 c203 x200]) ?_ ?_
    rotate_left
    · clear hx201
      rintro _ w223 ⟨a202, c203, rfl, hb224, hL225, hS226⟩
      refine WQ.then_normal (hK179 _ _ _ ?_)
      refine WP.seq (fun K227 hK227 => ?_)
      refine WP.region ?_
      refine WL.runk 2 [4] [(4, .slice a202 x200.length c203)] (by kernel_rfl) ?_
      refine WL.nil ?_
      refine WQ.then_normal (hK227 _ _ _ ?_)
      refine WP.ret ?_
      obtain rfl := Option.some.inj hm
      exact WQ.ret1 _ rfl rfl ⟨_, _, rfl, hb224, hS226⟩
    have hm := hx201; clear hx201
    refine WP.cond (!st15.2.1) rfl rfl (fun hc181 => ?_) (fun hc181 => ?_)
    rotate_left
    · have hm := iteF hm hc181
      refine WP.skip ?_
      obtain rfl := Option.some.inj hm
      exact WQ.post' ⟨_, _, rfl, hb20, hL21, hS22⟩ ⟨rfl, trivial⟩
    have hm := iteT hm hc181
    refine WP.region ?_
    refine WL.runk 2 [44, 45] [(44, .slice a16 st15.1.length c17), (45, .int .i64 n_1)] (by kernel_rfl) ?_
    refine WL.row fInt 2 ([n_1] : List Int) 1 #[.int .i64 n_1] 46 (by kernel_rfl) rfl rfl rfl rfl rfl rfl rfl ?_
    intro a205 c206 w207 hE208 hR209
    have hb211 : Ext w w207 := Ext.trans hb20 hE208
    have hL212 : w.heap.size ≤ w207.heap.size := Nat.le_trans hL21 hE208.size
    have hS213 : SH w207 w.heap.size [aOwn fInt 2 a205 c206 ([n_1] : List Int), aOwn fInt 2 a16 c17 st15.1] := SH.add hS22 hE208 hL21 hR209
    obtain ⟨x214, hx215, hm⟩ := bindE hm
    refine WL.append (F := fInt) (xs := st15.1) (ys := ([n_1] : List Int)) 47 (SH.front 1 hS213) hL212 (SH.rd (SH.front 0 hS213)) hx215 rfl rfl rfl Tryz.underlying25 (info2).1 (info2).2.2.1 (info2).2.1 (info2).2.2.2 rfl rfl rfl rfl rfl ?_
    intro a216 c217 w218 hB219 hS220
    have hb221 : Ext w w218 := Below.trans hb211 hB219
    have hL222 : w.heap.size ≤ w218.heap.size := Nat.le_trans hL212 hB219.size
    refine WL.runk 1 [5] [(5, .slice a216 x214.length c217)] (by kernel_rfl) ?_
    refine WL.nil ?_
    obtain rfl := Option.some.inj hm
    exact WQ.post' ⟨_, _, rfl, hb221, hL222, (SH.take 1 hS220)⟩ ⟨rfl, trivial⟩
  have hm := iteT hm hc33
  refine WP.skip ?_
  refine WQ.then_normal (hK31 _ _ _ ?_)
  refine WP.seq (fun K34 hK34 => ?_)
  refine WP.block ?_
  refine WP.seq (fun K35 hK35 => ?_)
  refine WP.seq (fun K36 hK36 => ?_)
  obtain ⟨x40, hx41, hm⟩ := bindE hm
  refine WP.cut (fun env' w' => env' = [(0, .slice a0' list_0.length c0'), (1, .int .i64 n_1), (5, .slice a16 st15.1.length c17), (6, .bool st15.2.1), (7, .int .i64 st15.2.2), (24, .bool x40)] ∧ Ext w w' ∧ w.heap.size ≤ w'.heap.size ∧ SH w' w.heap.size [aOwn fInt 2 a16 c17 st15.1]) ?_ ?_
  · have hm := hx41; clear hx41
    refine WP.region ?_
    refine WL.runk 3 [0, 1, 5, 6, 7, 17] [(0, .slice a0' list_0.length c0'), (1, .int .i64 n_1), (5, .slice a16 st15.1.length c17), (6, .bool st15.2.1), (7, .int .i64 st15.2.2), (17, .bool (!st15.2.1))] (by kernel_rfl) ?_
    refine WL.case (!st15.2.1) [17] ⟨rfl, trivial⟩ (fun hc42 => ?_) (fun hc42 => ?_)
    rotate_left
    · have hm := iteF hm hc42
      refine WL.runk 7 [0, 1, 5, 6, 7, 24] [(0, .slice a0' list_0.length c0'), (1, .int .i64 n_1), (5, .slice a16 st15.1.length c17), (6, .bool st15.2.1), (7, .int .i64 st15.2.2), (24, .bool false)] (by kernel_rfl) ?_
      refine WL.nil ?_
      obtain rfl := Option.some.inj hm
      exact WQ.post' ⟨rfl, hb20, hL21, hS22⟩ ⟨rfl, rfl, rfl, rfl, rfl, rfl, trivial⟩
    have hm := iteT hm hc42
    refine WL.runk 2 [0, 1, 5, 6, 7, 17, 18, 19] [(0, .slice a0' list_0.length c0'), (1, .int .i64 n_1), (5, .slice a16 st15.1.length c17), (6, .bool st15.2.1), (7, .int .i64 st15.2.2), (17, .bool true), (18, .slice a0' list_0.length c0'), (19, .int .i64 st15.2.2)] (by kernel_rfl) ?_
    obtain ⟨x43, hx44, hm⟩ := bindE hm
    refine WL.st (.pointer (some (at_ a0' (Int.toNat st15.2.2 * 1)))) (ST.index (T := fInt.ty) (xs := list_0) (Rd.below h0 hb20) hx44 rfl rfl rfl Tryz.underlying25 (info2).1 (info2).2.1) rfl rfl rfl ?_
    refine WL.st (.int .i64 x43) (ST.load (cell_ext (Rd.flat (F := fInt) (Rd.below h0 hb20) hx44 0 rfl)) rfl rfl Tryz.underlying2 rfl) rfl rfl rfl ?_
    refine WL.runk 3 [0, 1, 5, 6, 7, 24] [(0, .slice a0' list_0.length c0'), (1, .int .i64 n_1), (5, .slice a16 st15.1.length c17), (6, .bool st15.2.1), (7, .int .i64 st15.2.2), (24, .bool (decide (x43 ≥ n_1)))] (by kernel_rfl) ?_
    refine WL.nil ?_
    obtain rfl := Option.some.inj hm
    exact WQ.post' ⟨rfl, hb20, hL21, hS22⟩ ⟨rfl, rfl, rfl, rfl, rfl, rfl, trivial⟩
  clear hx41
  rintro _ w45 ⟨rfl, hb46, hL47, hS48⟩
  refine WQ.then_normal (hK36 _ _ _ ?_)
  obtain ⟨x100, hx101, hm⟩ := bindE hm
  refine WP.cut (fun env' w' => ∃ (a102 : Option Addr) (c103 : Nat), env' = [(0, .slice a0' list_0.length c0'), (1, .int .i64 n_1), (5, .slice a102 x100.1.length c103), (6, .bool x100.2), (7, .int .i64 st15.2.2)] ∧ Ext w w' ∧ w.heap.size ≤ w'.heap.size ∧ SH w' w.heap.size [aOwn fInt 2 a102 c103 x100.1]) ?_ ?_
  rotate_left
  · clear hx101
    rintro _ w155 ⟨a102, c103, rfl, hb156, hL157, hS158⟩
    refine WQ.then_normal (hK35 _ _ _ ?_)
    refine WP.region ?_
    refine WL.runk 3 [0, 1, 6, 7, 35, 36, 37] [(0, .slice a0' list_0.length c0'), (1, .int .i64 n_1), (6, .bool x100.2), (7, .int .i64 st15.2.2), (35, .slice a102 x100.1.length c103), (36, .slice a0' list_0.length c0'), (37, .int .i64 st15.2.2)] (by kernel_rfl) ?_
    obtain ⟨x159, hx160, hm⟩ := bindE hm
    refine WL.st (.pointer (some (at_ a0' (Int.toNat st15.2.2 * 1)))) (ST.index (T := fInt.ty) (xs := list_0) (Rd.below h0 hb156) hx160 rfl rfl rfl Tryz.underlying25 (info2).1 (info2).2.1) rfl rfl rfl ?_
    refine WL.st (.int .i64 x159) (ST.load (cell_ext (Rd.flat (F := fInt) (Rd.below h0 hb156) hx160 0 rfl)) rfl rfl Tryz.underlying2 rfl) rfl rfl rfl ?_
    refine WL.row fInt 2 ([x159] : List Int) 1 #[.int .i64 x159] 40 (by kernel_rfl) rfl rfl rfl rfl rfl rfl rfl ?_
    intro a161 c162 w163 hE164 hR165
    have hb167 : Ext w w163 := Ext.trans hb156 hE164
    have hL168 : w.heap.size ≤ w163.heap.size := Nat.le_trans hL157 hE164.size
    have hS169 : SH w163 w.heap.size [aOwn fInt 2 a161 c162 ([x159] : List Int), aOwn fInt 2 a102 c103 x100.1] := SH.add hS158 hE164 hL157 hR165
    obtain ⟨x170, hx171, hm⟩ := bindE hm
    refine WL.append (F := fInt) (xs := x100.1) (ys := ([x159] : List Int)) 41 (SH.front 1 hS169) hL168 (SH.rd (SH.front 0 hS169)) hx171 rfl rfl rfl Tryz.underlying25 (info2).1 (info2).2.2.1 (info2).2.1 (info2).2.2.2 rfl rfl rfl rfl rfl ?_
    intro a172 c173 w174 hB175 hS176
    have hb177 : Ext w w174 := Below.trans hb167 hB175
    have hL178 : w.heap.size ≤ w174.heap.size := Nat.le_trans hL168 hB175.size
    refine WL.runk 1 [0, 1, 5, 6, 7] [(0, .slice a0' list_0.length c0'), (1, .int .i64 n_1), (6, .bool x100.2), (7, .int .i64 st15.2.2), (5, .slice a172 x170.length c173)] (by kernel_rfl) ?_
    refine WL.nil ?_
    refine WQ.block_normal ?_
    refine WQ.then_normal (hK34 _ _ _ ?_)
    refine WP.region ?_
    refine WL.runk 3 [0, 1, 5, 6, 7] [(0, .slice a0' list_0.length c0'), (1, .int .i64 n_1), (6, .bool x100.2), (7, .int .i64 (wI64 (st15.2.2 + 1))), (5, .slice a172 x170.length c173)] (by kernel_rfl) ?_
    refine WL.nil ?_
    obtain rfl := Option.some.inj hm
    exact WQ.round hK25 ⟨(x170, x100.2, (wI64 (st15.2.2 + 1))), _, _, rfl, hb177, hL178, (SH.take 1 hS176), hl23⟩ (Nat.lt_succ_self _) ⟨rfl, rfl, rfl, rfl, rfl, trivial⟩
  have hm := hx101; clear hx101
  refine WP.cond x40 rfl rfl (fun hc49 => ?_) (fun hc49 => ?_)
  rotate_left
  · have hm := iteF hm hc49
    refine WP.skip ?_
    obtain rfl := Option.some.inj hm
    exact WQ.post' ⟨_, _, rfl, hb46, hL47, hS48⟩ ⟨rfl, rfl, rfl, rfl, rfl, trivial⟩
  have hm := iteT hm hc49
  refine WP.seq (fun K105 hK105 => ?_)
  refine WP.region ?_
  refine WL.runk 1 [0, 1, 5, 6, 7] [(0, .slice a0' list_0.length c0'), (1, .int .i64 n_1), (5, .slice a16 st15.1.length c17), (6, .bool true), (7, .int .i64 st15.2.2)] (by kernel_rfl) ?_
  refine WL.nil ?_
  refine WQ.then_normal (hK105 _ _ _ ?_)
  refine WP.seq (fun K106 hK106 => ?_)
  refine WP.region ?_
  refine WL.runk 2 [0, 1, 5, 6, 7, 25, 26] [(0, .slice a0' list_0.length c0'), (1, .int .i64 n_1), (5, .slice a16 st15.1.length c17), (6, .bool true), (7, .int .i64 st15.2.2), (25, .slice a0' list_0.length c0'), (26, .int .i64 st15.2.2)] (by kernel_rfl) ?_
  obtain ⟨x107, hx108, hm⟩ := bindE hm
  refine WL.st (.pointer (some (at_ a0' (Int.toNat st15.2.2 * 1)))) (ST.index (T := fInt.ty) (xs := list_0) (Rd.below h0 hb46) hx108 rfl rfl rfl Tryz.underlying25 (info2).1 (info2).2.1) rfl rfl rfl ?_
  refine WL.st (.int .i64 x107) (ST.load (cell_ext (Rd.flat (F := fInt) (Rd.below h0 hb46) hx108 0 rfl)) rfl rfl Tryz.underlying2 rfl) rfl rfl rfl ?_
  refine WL.runk 2 [0, 1, 5, 6, 7, 30] [(0, .slice a0' list_0.length c0'), (1, .int .i64 n_1), (5, .slice a16 st15.1.length c17), (6, .bool true), (7, .int .i64 st15.2.2), (30, .bool (decide (x107 > n_1)))] (by kernel_rfl) ?_
  refine WL.nil ?_
  refine WQ.then_normal (hK106 _ _ _ ?_)
  obtain ⟨x128, hx129, hm⟩ := bindE hm
  refine WP.cut (fun env' w' => ∃ (a130 : Option Addr) (c131 : Nat), env' = [(0, .slice a0' list_0.length c0'), (1, .int .i64 n_1), (5, .slice a130 x128.length c131), (6, .bool true), (7, .int .i64 st15.2.2)] ∧ Ext w w' ∧ w.heap.size ≤ w'.heap.size ∧ SH w' w.heap.size [aOwn fInt 2 a130 c131 x128]) ?_ ?_
  rotate_left
  · clear hx129
    rintro _ w151 ⟨a130, c131, rfl, hb152, hL153, hS154⟩
    obtain rfl := Option.some.inj hm
    exact WQ.post' ⟨_, _, rfl, hb152, hL153, hS154⟩ ⟨rfl, rfl, rfl, rfl, rfl, trivial⟩
  have hm := hx129; clear hx129
  refine WP.cond (decide (x107 > n_1)) rfl rfl (fun hc109 => ?_) (fun hc109 => ?_)
  rotate_left
  · have hm := iteF hm hc109
    refine WP.skip ?_
    obtain rfl := Option.some.inj hm
    exact WQ.post' ⟨_, _, rfl, hb46, hL47, hS48⟩ ⟨rfl, rfl, rfl, rfl, rfl, trivial⟩
  have hm := iteT hm hc109
  refine WP.region ?_
  refine WL.runk 2 [0, 1, 6, 7, 31, 32] [(0, .slice a0' list_0.length c0'), (1, .int .i64 n_1), (6, .bool true), (7, .int .i64 st15.2.2), (31, .slice a16 st15.1.length c17), (32, .int .i64 n_1)] (by kernel_rfl) ?_
  refine WL.row fInt 2 ([n_1] : List Int) 1 #[.int .i64 n_1] 33 (by kernel_rfl) rfl rfl rfl rfl rfl rfl rfl ?_
  intro a133 c134 w135 hE136 hR137
  have hb139 : Ext w w135 := Ext.trans hb46 hE136
  have hL140 : w.heap.size ≤ w135.heap.size := Nat.le_trans hL47 hE136.size
  have hS141 : SH w135 w.heap.size [aOwn fInt 2 a133 c134 ([n_1] : List Int), aOwn fInt 2 a16 c17 st15.1] := SH.add hS48 hE136 hL47 hR137
  obtain ⟨x142, hx143, hm⟩ := bindE hm
  refine WL.append (F := fInt) (xs := st15.1) (ys := ([n_1] : List Int)) 34 (SH.front 1 hS141) hL140 (SH.rd (SH.front 0 hS141)) hx143 rfl rfl rfl Tryz.underlying25 (info2).1 (info2).2.2.1 (info2).2.1 (info2).2.2.2 rfl rfl rfl rfl rfl ?_
  intro a144 c145 w146 hB147 hS148
  have hb149 : Ext w w146 := Below.trans hb139 hB147
  have hL150 : w.heap.size ≤ w146.heap.size := Nat.le_trans hL140 hB147.size
  refine WL.runk 1 [0, 1, 5, 6, 7] [(0, .slice a0' list_0.length c0'), (1, .int .i64 n_1), (6, .bool true), (7, .int .i64 st15.2.2), (5, .slice a144 x142.length c145)] (by kernel_rfl) ?_
  refine WL.nil ?_
  obtain rfl := Option.some.inj hm
  exact WQ.post' ⟨_, _, rfl, hb149, hL150, (SH.take 1 hS148)⟩ ⟨rfl, rfl, rfl, rfl, rfl, trivial⟩

theorem c_34 (n : Nat) (list_0 : List SRepair) (a0' : Option Addr) (c0' : Nat) (some_1 : List Int) (a1' : Option Addr) (c1' : Nat) (w : World) {r : List Int} (hm : m_spec_l21With n list_0 some_1 = some r) (h0 : Rd fRepair.ty w a0' list_0) (_hle0 : list_0.length ≤ c0') (h1 : Rd fInt.ty w a1' some_1) (hle1 : some_1.length ≤ c1') :
    CallV Tryz.prog 34 #[.slice a0' list_0.length c0', .slice a1' some_1.length c1'] w (fun v w' => ∃ (ra0 : Option Addr) (rc0 : Nat), v = .slice ra0 r.length rc0 ∧ Ext w w' ∧ SH w' w.heap.size [aOwn fInt 2 ra0 rc0 r]) := by
  unfold m_spec_l21With at hm
  refine CallV.enter Tryz.func34 rfl (by kernel_rfl) Tryz.ntmps34 (env := [(0, .slice a0' list_0.length c0'), (1, .slice a1' some_1.length c1')]) ⟨rfl, rfl, trivial⟩ ?_
  refine WP.seq (fun K1 hK1 => ?_)
  refine WP.region ?_
  refine WL.runk 1 [0, 1] [(0, .slice a0' list_0.length c0'), (1, .slice a1' some_1.length c1')] (by kernel_rfl) ?_
  refine WL.nil ?_
  refine WQ.then_normal (hK1 _ _ _ ?_)
  refine WP.seq (fun K2 hK2 => ?_)
  refine WP.region ?_
  refine WL.runk 1 [0, 8] [(0, .slice a0' list_0.length c0'), (8, .slice a1' some_1.length c1')] (by kernel_rfl) ?_
  obtain ⟨x3, hx4, hm⟩ := bindE hm
  refine WL.call 56 #[.slice a1' some_1.length c1'] rfl rfl (by kernel_rfl) (c_56 n some_1 a1' c1' w hx4 (Rd.below h1 (Ext.refl w)) hle1) ?_
  rintro _ w8 ⟨a5, c6, rfl, hE9, hR10⟩
  refine ⟨_, rfl, ?_⟩
  have hb11 : Ext w w8 := Ext.trans (Ext.refl w) hE9
  have hL12 : w.heap.size ≤ w8.heap.size := Nat.le_trans (Nat.le_refl _) hE9.size
  have hS13 : SH w8 w.heap.size [aOwn fInt 2 a5 c6 x3] := SH.add (SH.nil _ _) hE9 (Nat.le_refl _) hR10
  refine WL.runk 1 [0, 5] [(0, .slice a0' list_0.length c0'), (5, .slice a5 x3.length c6)] (by kernel_rfl) ?_
  refine WL.nil ?_
  refine WQ.then_normal (hK2 _ _ _ ?_)
  refine WP.seq (fun K14 hK14 => ?_)
  refine WP.seq (fun K15 hK15 => ?_)
  refine WP.region ?_
  refine WL.runk 4 [0, 5, 6] [(0, .slice a0' list_0.length c0'), (5, .slice a5 x3.length c6), (6, .int .i64 (wI64 ((list_0.length : Int) - 1)))] (by kernel_rfl) ?_
  refine WL.nil ?_
  refine WQ.then_normal (hK15 _ _ _ ?_)
  refine WP.block ?_
  obtain ⟨t30, ht31, hm⟩ := bindE hm
  have hmo25 := hm; clear hm
  refine WP.sub [(0, .slice a0' list_0.length c0'), (5, .slice a5 x3.length c6), (6, .int .i64 (wI64 ((list_0.length : Int) - 1)))] ⟨rfl, rfl, rfl, trivial⟩ ?_
  refine WP.loop (fun n' env' w' => ∃ (st16 : List Int × Int) (a17 : Option Addr) (c18 : Nat), env' = [(0, .slice a0' list_0.length c0'), (5, .slice a17 st16.1.length c18), (6, .int .i64 st16.2)] ∧ Ext w w' ∧ w.heap.size ≤ w'.heap.size ∧ SH w' w.heap.size [aOwn fInt 2 a17 c18 st16.1] ∧ loopN (m_spec_l21With_l1 n list_0) n' st16 = some t30) n ⟨(x3, (wI64 ((list_0.length : Int) - 1))), _, _, rfl, hb11, hL12, hS13, ht31⟩ ?_
  rintro n27 _ w20 ⟨st16, a17, c18, rfl, hb21, hL22, hS23, hl24⟩ K26 hK26
  obtain ⟨n28, s29, rfl, hm, hl24⟩ := loopN_some hl24
  unfold m_spec_l21With_l1 at hm
  refine WP.seq (fun K32 hK32 => ?_)
  refine WP.seq (fun K33 hK33 => ?_)
  refine WP.region ?_
  refine WL.runk 2 [0, 5, 6, 14] [(0, .slice a0' list_0.length c0'), (5, .slice a17 st16.1.length c18), (6, .int .i64 st16.2), (14, .bool (decide (st16.2 ≥ 0)))] (by kernel_rfl) ?_
  refine WL.nil ?_
  refine WQ.then_normal (hK33 _ _ _ ?_)
  refine WP.cond (decide (st16.2 ≥ 0)) rfl rfl (fun hc34 => ?_) (fun hc34 => ?_)
  rotate_left
  · have hm := iteF hm hc34
    refine WP.exit ?_
    refine WQ.then_exit ?_
    refine WQ.then_exit ?_
    refine WQ.block_here ?_
    obtain rfl := Option.some.inj hm
    obtain rfl := afterN_done hl24
    have hm := hmo25
    refine WQ.then_normal (hK14 _ _ _ ?_)
    refine WP.seq (fun K183 hK183 => ?_)
    refine WP.region ?_
    refine WL.runk 2 [4] [(4, .slice a17 st16.1.length c18)] (by kernel_rfl) ?_
    refine WL.nil ?_
    refine WQ.then_normal (hK183 _ _ _ ?_)
    refine WP.ret ?_
    obtain rfl := Option.some.inj hm
    exact WQ.ret1 _ rfl rfl ⟨_, _, rfl, hb21, hS23⟩
  have hm := iteT hm hc34
  refine WP.skip ?_
  refine WQ.then_normal (hK32 _ _ _ ?_)
  refine WP.seq (fun K35 hK35 => ?_)
  refine WP.block ?_
  refine WP.seq (fun K36 hK36 => ?_)
  refine WP.region ?_
  refine WL.runk 2 [0, 5, 6, 17, 18] [(0, .slice a0' list_0.length c0'), (5, .slice a17 st16.1.length c18), (6, .int .i64 st16.2), (17, .slice a17 st16.1.length c18), (18, .int .i64 st16.2)] (by kernel_rfl) ?_
  obtain ⟨x37, hx38, hm⟩ := bindE hm
  refine WL.call 54 #[.slice a17 st16.1.length c18, .int .i64 st16.2] rfl rfl (by kernel_rfl) (c_54 n st16.1 a17 c18 st16.2 w20 hx38 (SH.rd (SH.front 0 hS23)) (SH.le (SH.front 0 hS23)).1) ?_
  rintro _ w39 ⟨rfl, hE40⟩
  refine ⟨_, rfl, ?_⟩
  have hb42 : Ext w w39 := Ext.trans hb21 hE40
  have hL43 : w.heap.size ≤ w39.heap.size := Nat.le_trans hL22 hE40.size
  have hS44 : SH w39 w.heap.size [aOwn fInt 2 a17 c18 st16.1] := SH.ext hS23 hE40
  refine WL.sub [(0, .slice a0' list_0.length c0'), (5, .slice a17 st16.1.length c18), (6, .int .i64 st16.2), (19, .bool x37)] ⟨rfl, rfl, rfl, rfl, trivial⟩ ?_
  refine WL.nil ?_
  refine WQ.then_normal (hK36 _ _ _ ?_)
  obtain ⟨x110, hx111, hm⟩ := bindE hm
  refine WP.cut (fun env' w' => ∃ (a112 : Option Addr) (c113 : Nat), env' = [(0, .slice a0' list_0.length c0'), (5, .slice a112 x110.length c113), (6, .int .i64 st16.2)] ∧ Ext w w' ∧ w.heap.size ≤ w'.heap.size ∧ SH w' w.heap.size [aOwn fInt 2 a112 c113 x110]) ?_ ?_
  rotate_left
  · clear hx111
    rintro _ w179 ⟨a112, c113, rfl, hb180, hL181, hS182⟩
    refine WQ.block_normal ?_
    refine WQ.then_normal (hK35 _ _ _ ?_)
    refine WP.region ?_
    refine WL.runk 3 [0, 5, 6] [(0, .slice a0' list_0.length c0'), (5, .slice a112 x110.length c113), (6, .int .i64 (wI64 (st16.2 - 1)))] (by kernel_rfl) ?_
    refine WL.nil ?_
    obtain rfl := Option.some.inj hm
    exact WQ.round hK26 ⟨(x110, (wI64 (st16.2 - 1))), _, _, rfl, hb180, hL181, hS182, hl24⟩ (Nat.lt_succ_self _) ⟨rfl, rfl, rfl, trivial⟩
  have hm := hx111; clear hx111
  refine WP.cond x37 rfl rfl (fun hc45 => ?_) (fun hc45 => ?_)
  rotate_left
  · have hm := iteF hm hc45
    refine WP.skip ?_
    obtain rfl := Option.some.inj hm
    exact WQ.post' ⟨_, _, rfl, hb42, hL43, hS44⟩ ⟨rfl, rfl, rfl, trivial⟩
  have hm := iteT hm hc45
  refine WP.seq (fun K115 hK115 => ?_)
  refine WP.region ?_
  refine WL.runk 1 [0, 5, 6, 7] [(0, .slice a0' list_0.length c0'), (5, .slice a17 st16.1.length c18), (6, .int .i64 st16.2), (7, .int .i64 0)] (by kernel_rfl) ?_
  refine WL.nil ?_
  refine WQ.then_normal (hK115 _ _ _ ?_)
  refine WP.block ?_
  obtain ⟨t130, ht131, hm⟩ := bindE hm
  have hmo125 := hm; clear hm
  refine WP.sub [(0, .slice a0' list_0.length c0'), (5, .slice a17 st16.1.length c18), (6, .int .i64 st16.2), (7, .int .i64 0)] ⟨rfl, rfl, rfl, rfl, trivial⟩ ?_
  refine WP.loop (fun n' env' w' => ∃ (st116 : List Int × Int) (a117 : Option Addr) (c118 : Nat), env' = [(0, .slice a0' list_0.length c0'), (5, .slice a117 st116.1.length c118), (6, .int .i64 st16.2), (7, .int .i64 st116.2)] ∧ Ext w w' ∧ w.heap.size ≤ w'.heap.size ∧ SH w' w.heap.size [aOwn fInt 2 a117 c118 st116.1] ∧ loopN (m_spec_l21With_l3 n list_0 st16) n' st116 = some t130) n ⟨(st16.1, 0), _, _, rfl, hb42, hL43, hS44, ht131⟩ ?_
  rintro n127 _ w120 ⟨st116, a117, c118, rfl, hb121, hL122, hS123, hl124⟩ K126 hK126
  obtain ⟨n128, s129, rfl, hm, hl124⟩ := loopN_some hl124
  unfold m_spec_l21With_l3 at hm
  refine WP.seq (fun K132 hK132 => ?_)
  refine WP.seq (fun K133 hK133 => ?_)
  refine WP.region ?_
  refine WL.runk 3 [0, 5, 6, 7, 20, 21, 22] [(0, .slice a0' list_0.length c0'), (5, .slice a117 st116.1.length c118), (6, .int .i64 st16.2), (7, .int .i64 st116.2), (20, .int .i64 st116.2), (21, .slice a0' list_0.length c0'), (22, .int .i64 st16.2)] (by kernel_rfl) ?_
  obtain ⟨x134, hx135, hm⟩ := bindE hm
  obtain ⟨a136, c137, a141, c142, hc146, hR138, hle139, hR143, hle144⟩ := nest_Repair h0 hx135
  refine WL.st (.pointer (some (at_ a0' (Int.toNat st16.2 * 5)))) (ST.index (T := fRepair.ty) (xs := list_0) (Rd.below h0 hb121) hx135 rfl rfl rfl Tryz.underlying24 (info48).1 (info48).2.1) rfl rfl rfl ?_
  refine WL.runk 1 [0, 5, 6, 7, 20, 24] [(0, .slice a0' list_0.length c0'), (5, .slice a117 st116.1.length c118), (6, .int .i64 st16.2), (7, .int .i64 st116.2), (20, .int .i64 st116.2), (24, .pointer (some (at_ a0' (Int.toNat st16.2 * 5 + 2))))] (by kernel_rfl) ?_
  refine WL.st (.slice a141 x134.First.length c142) (ST.load (cell_ext ((cells_ext hc146 hb121) 2 _ rfl)) rfl rfl Tryz.underlying25 rfl) rfl rfl rfl ?_
  refine WL.runk 2 [0, 5, 6, 7, 27] [(0, .slice a0' list_0.length c0'), (5, .slice a117 st116.1.length c118), (6, .int .i64 st16.2), (7, .int .i64 st116.2), (27, .bool (decide (st116.2 < (x134.First.length : Int))))] (by kernel_rfl) ?_
  refine WL.nil ?_
  refine WQ.then_normal (hK133 _ _ _ ?_)
  refine WP.cond (decide (st116.2 < (x134.First.length : Int))) rfl rfl (fun hc147 => ?_) (fun hc147 => ?_)
  rotate_left
  · have hm := iteF hm hc147
    refine WP.exit ?_
    refine WQ.then_exit ?_
    refine WQ.then_exit ?_
    refine WQ.block_here ?_
    obtain rfl := Option.some.inj hm
    obtain rfl := afterN_done hl124
    have hm := hmo125
    obtain rfl := Option.some.inj hm
    exact WQ.post' ⟨_, _, rfl, hb121, hL122, hS123⟩ ⟨rfl, rfl, rfl, trivial⟩
  have hm := iteT hm hc147
  refine WP.skip ?_
  refine WQ.then_normal (hK132 _ _ _ ?_)
  refine WP.seq (fun K148 hK148 => ?_)
  refine WP.block ?_
  refine WP.region ?_
  refine WL.runk 3 [0, 6, 7, 30, 31, 32] [(0, .slice a0' list_0.length c0'), (6, .int .i64 st16.2), (7, .int .i64 st116.2), (30, .slice a117 st116.1.length c118), (31, .slice a0' list_0.length c0'), (32, .int .i64 st16.2)] (by kernel_rfl) ?_
  obtain ⟨x149, hx150, hm⟩ := bindE hm
  obtain ⟨a151, c152, a156, c157, hc161, hR153, hle154, hR158, hle159⟩ := nest_Repair h0 hx150
  refine WL.st (.pointer (some (at_ a0' (Int.toNat st16.2 * 5)))) (ST.index (T := fRepair.ty) (xs := list_0) (Rd.below h0 hb121) hx150 rfl rfl rfl Tryz.underlying24 (info48).1 (info48).2.1) rfl rfl rfl ?_
  refine WL.runk 1 [0, 6, 7, 30, 34] [(0, .slice a0' list_0.length c0'), (6, .int .i64 st16.2), (7, .int .i64 st116.2), (30, .slice a117 st116.1.length c118), (34, .pointer (some (at_ a0' (Int.toNat st16.2 * 5 + 2))))] (by kernel_rfl) ?_
  refine WL.st (.slice a156 x149.First.length c157) (ST.load (cell_ext ((cells_ext hc161 hb121) 2 _ rfl)) rfl rfl Tryz.underlying25 rfl) rfl rfl rfl ?_
  refine WL.runk 1 [0, 6, 7, 30, 35, 36] [(0, .slice a0' list_0.length c0'), (6, .int .i64 st16.2), (7, .int .i64 st116.2), (30, .slice a117 st116.1.length c118), (35, .slice a156 x149.First.length c157), (36, .int .i64 st116.2)] (by kernel_rfl) ?_
  obtain ⟨x162, hx163, hm⟩ := bindE hm
  refine WL.st (.pointer (some (at_ a156 (Int.toNat st116.2 * 1)))) (ST.index (T := fInt.ty) (xs := x149.First) (Rd.below hR158 hb121) hx163 rfl rfl rfl Tryz.underlying25 (info2).1 (info2).2.1) rfl rfl rfl ?_
  refine WL.st (.int .i64 x162) (ST.load (cell_ext (Rd.flat (F := fInt) (Rd.below hR158 hb121) hx163 0 rfl)) rfl rfl Tryz.underlying2 rfl) rfl rfl rfl ?_
  obtain ⟨x164, hx165, hm⟩ := bindE hm
  refine WL.call 71 #[.slice a117 st116.1.length c118, .int .i64 x162] rfl rfl (by kernel_rfl) (c_71 n st116.1 a117 c118 x162 w120 hx165 (SH.rd (SH.front 0 hS123)) (SH.le (SH.front 0 hS123)).1) ?_
  rintro _ w169 ⟨a166, c167, rfl, hE170, hR171⟩
  refine ⟨_, rfl, ?_⟩
  have hb172 : Ext w w169 := Ext.trans hb121 hE170
  have hL173 : w.heap.size ≤ w169.heap.size := Nat.le_trans hL122 hE170.size
  have hS174 : SH w169 w.heap.size [aOwn fInt 2 a166 c167 x164, aOwn fInt 2 a117 c118 st116.1] := SH.add hS123 hE170 hL122 hR171
  refine WL.runk 1 [0, 5, 6, 7] [(0, .slice a0' list_0.length c0'), (6, .int .i64 st16.2), (7, .int .i64 st116.2), (5, .slice a166 x164.length c167)] (by kernel_rfl) ?_
  refine WL.nil ?_
  refine WQ.block_normal ?_
  refine WQ.then_normal (hK148 _ _ _ ?_)
  refine WP.region ?_
  refine WL.runk 3 [0, 5, 6, 7] [(0, .slice a0' list_0.length c0'), (6, .int .i64 st16.2), (7, .int .i64 (wI64 (st116.2 + 1))), (5, .slice a166 x164.length c167)] (by kernel_rfl) ?_
  refine WL.nil ?_
  obtain rfl := Option.some.inj hm
  exact WQ.round hK126 ⟨(x164, (wI64 (st116.2 + 1))), _, _, rfl, hb172, hL173, (SH.take 1 hS174), hl124⟩ (Nat.lt_succ_self _) ⟨rfl, rfl, rfl, rfl, trivial⟩

theorem c_46 (n : Nat) (code_0 : List Int) (a0' : Option Addr) (c0' : Nat) (w : World) {r : (Int × Int)} (hm : m_spec_l00From n code_0 = some r) (_h0 : Rd fU8.ty w a0' code_0) (_hle0 : code_0.length ≤ c0') :
    CallV Tryz.prog 46 #[.slice a0' code_0.length c0'] w (fun v w' => ∃ (rb0 : Nat), v = .pointer (some ⟨rb0, 0, none⟩) ∧ Ext w w' ∧ SH w' w.heap.size [aBox 82 rb0 [.slice a0' code_0.length c0', .int .i64 r.1, .int .u64 r.2]]) := by
  unfold m_spec_l00From at hm
  refine CallV.enter Tryz.func46 rfl (by kernel_rfl) Tryz.ntmps46 (env := [(0, .slice a0' code_0.length c0')]) ⟨rfl, trivial⟩ ?_
  refine WP.seq (fun K1 hK1 => ?_)
  refine WP.region ?_
  refine WL.runk 1 [0] [(0, .slice a0' code_0.length c0')] (by kernel_rfl) ?_
  refine WL.nil ?_
  refine WQ.then_normal (hK1 _ _ _ ?_)
  refine WP.seq (fun K2 hK2 => ?_)
  refine WP.region ?_
  refine WL.runk 2 [4] [(4, .agg #[.slice a0' code_0.length c0', .int .i64 0, .int .u64 0])] (by kernel_rfl) ?_
  refine WL.box 82 [.slice a0' code_0.length c0', .int .i64 0, .int .u64 0] 5 (by kernel_rfl) rfl rfl rfl rfl ?_
  intro b3 w4 hE5 hR6
  have hb8 : Ext w w4 := Ext.trans (Ext.refl w) hE5
  have hL9 : w.heap.size ≤ w4.heap.size := Nat.le_trans (Nat.le_refl _) hE5.size
  have hS10 : SH w4 w.heap.size [aBox 82 b3 [.slice a0' code_0.length c0', .int .i64 0, .int .u64 0]] := SH.add (SH.nil _ _) hE5 (Nat.le_refl _) hR6
  refine WL.runk 1 [2] [(2, .pointer (some ⟨b3, 0, none⟩))] (by kernel_rfl) ?_
  refine WL.nil ?_
  refine WQ.then_normal (hK2 _ _ _ ?_)
  refine WP.ret ?_
  obtain rfl := Option.some.inj hm
  exact WQ.ret1 _ rfl rfl ⟨_, rfl, hb8, hS10⟩

theorem c_76 (n : Nat) (s_0_code : List Int) (a0_code' : Option Addr) (c0_code' : Nat) (s_0_at_ : Int) (s_0_seed : Int) (b0' : Nat) (w : World) (w0 : World) (B : Nat) (L : List Asrt) {r : Int × Int × Int} (hm : m_spec_l00Src_next n s_0_code s_0_at_ s_0_seed = some r) (hE0 : Ext w0 w) (hW : w0.heap.size ≤ B) (hL : B ≤ w.heap.size) (h0_code : Rd fU8.ty w0 a0_code' s_0_code) (_hle0_code : s_0_code.length ≤ c0_code') (hS : SH w B (aBox 82 b0' [.slice a0_code' s_0_code.length c0_code', .int .i64 s_0_at_, .int .u64 s_0_seed] :: L)) :
    CallV Tryz.prog 76 #[.pointer (some ⟨b0', 0, none⟩)] w (fun v w' => v = .int .i64 r.1 ∧ Below B w w' ∧ SH w' B (aBox 82 b0' [.slice a0_code' s_0_code.length c0_code', .int .i64 r.2.1, .int .u64 r.2.2] :: L)) := by
  unfold m_spec_l00Src_next at hm
  refine CallV.enter Tryz.func76 rfl (by kernel_rfl) Tryz.ntmps76 (env := [(0, .pointer (some ⟨b0', 0, none⟩))]) ⟨rfl, trivial⟩ ?_
  refine WP.seq (fun K1 hK1 => ?_)
  refine WP.region ?_
  refine WL.runk 1 [0] [(0, .pointer (some ⟨b0', 0, none⟩))] (by kernel_rfl) ?_
  refine WL.nil ?_
  refine WQ.then_normal (hK1 _ _ _ ?_)
  refine WP.seq (fun K2 hK2 => ?_)
  refine WP.region ?_
  refine WL.runk 1 [0, 3] [(0, .pointer (some ⟨b0', 0, none⟩)), (3, .int .i64 0)] (by kernel_rfl) ?_
  refine WL.nil ?_
  refine WQ.then_normal (hK2 _ _ _ ?_)
  refine WP.seq (fun K3 hK3 => ?_)
  refine WP.seq (fun K4 hK4 => ?_)
  refine WP.quiet (by kernel_rfl) (by kernel_rfl) ?_
  refine QL.step1v 4 (.pointer (some ⟨b0', 0, none⟩)) rfl (fun _ => by kernel_rfl) ?_
  refine QL.step1v 5 (.pointer (some ⟨b0', 0, none⟩)) rfl (fun _ => by kernel_rfl) ?_
  refine QL.step1v 6 (.pointer (some ⟨b0', 1, none⟩)) rfl (fun _ => by kernel_rfl) ?_
  refine QL.subk [0, 3, 6] [(0, .pointer (some ⟨b0', 0, none⟩)), (3, .int .i64 0), (6, .pointer (some ⟨b0', 1, none⟩))] (by kernel_rfl) ?_
  refine QL.st (.int .i64 s_0_at_) (ST.load (cell_ext (SH.boxAt (SH.front 0 hS) 1 _ rfl)) rfl rfl Tryz.underlying3 rfl) rfl rfl rfl ?_
  refine QL.step1v 8 (.pointer (some ⟨b0', 0, none⟩)) rfl (fun _ => by kernel_rfl) ?_
  refine QL.step1v 9 (.pointer (some ⟨b0', 0, none⟩)) rfl (fun _ => by kernel_rfl) ?_
  refine QL.step1v 10 (.pointer (some ⟨b0', 0, none⟩)) rfl (fun _ => by kernel_rfl) ?_
  refine QL.subk [0, 3, 7, 10] [(0, .pointer (some ⟨b0', 0, none⟩)), (3, .int .i64 0), (7, .int .i64 s_0_at_), (10, .pointer (some ⟨b0', 0, none⟩))] (by kernel_rfl) ?_
  refine QL.st (.slice a0_code' s_0_code.length c0_code') (ST.load (cell_ext (SH.boxAt (SH.front 0 hS) 0 _ rfl)) rfl rfl Tryz.underlying22 rfl) rfl rfl rfl ?_
  refine QL.step1v 12 (.int .i64 (s_0_code.length : Int)) rfl (fun _ => by kernel_rfl) ?_
  refine QL.step1v 13 (.bool (decide (s_0_at_ < (s_0_code.length : Int)))) rfl (fun _ => by kernel_rfl) ?_
  refine QL.subk [0, 3, 13] [(0, .pointer (some ⟨b0', 0, none⟩)), (3, .int .i64 0), (13, .bool (decide (s_0_at_ < (s_0_code.length : Int))))] (by kernel_rfl) ?_
  refine QL.nil ?_
  intro w5 hE6
  have hb7 : Below B w w5 := Below.trans (Below.refl _ _) (Below.mono hE6 hL)
  have hL8 : B ≤ w5.heap.size := Nat.le_trans hL hE6.size
  have hS9 : SH w5 B (aBox 82 b0' [.slice a0_code' s_0_code.length c0_code', .int .i64 s_0_at_, .int .u64 s_0_seed] :: L) := SH.ext hS hE6
  refine WQ.then_normal (hK4 _ _ _ ?_)
  obtain ⟨x18, hx19, hm⟩ := bindE hm
  refine WP.cut (fun env' w' => env' = [(0, .pointer (some ⟨b0', 0, none⟩)), (3, .int .i64 x18)] ∧ Below B w w' ∧ B ≤ w'.heap.size ∧ SH w' B (aBox 82 b0' [.slice a0_code' s_0_code.length c0_code', .int .i64 s_0_at_, .int .u64 s_0_seed] :: L)) ?_ ?_
  · have hm := hx19; clear hx19
    refine WP.cond (decide (s_0_at_ < (s_0_code.length : Int))) rfl rfl (fun hc10 => ?_) (fun hc10 => ?_)
    rotate_left
    · have hm := iteF hm hc10
      refine WP.skip ?_
      obtain rfl := Option.some.inj hm
      exact WQ.post' ⟨rfl, hb7, hL8, hS9⟩ ⟨rfl, rfl, trivial⟩
    have hm := iteT hm hc10
    refine WP.quiet (by kernel_rfl) (by kernel_rfl) ?_
    refine QL.step1v 14 (.pointer (some ⟨b0', 0, none⟩)) rfl (fun _ => by kernel_rfl) ?_
    refine QL.step1v 15 (.pointer (some ⟨b0', 0, none⟩)) rfl (fun _ => by kernel_rfl) ?_
    refine QL.step1v 16 (.pointer (some ⟨b0', 0, none⟩)) rfl (fun _ => by kernel_rfl) ?_
    refine QL.subk [0, 16] [(0, .pointer (some ⟨b0', 0, none⟩)), (16, .pointer (some ⟨b0', 0, none⟩))] (by kernel_rfl) ?_
    refine QL.st (.slice a0_code' s_0_code.length c0_code') (ST.load (cell_ext (SH.boxAt (SH.front 0 hS9) 0 _ rfl)) rfl rfl Tryz.underlying22 rfl) rfl rfl rfl ?_
    refine QL.step1v 18 (.pointer (some ⟨b0', 0, none⟩)) rfl (fun _ => by kernel_rfl) ?_
    refine QL.step1v 19 (.pointer (some ⟨b0', 0, none⟩)) rfl (fun _ => by kernel_rfl) ?_
    refine QL.step1v 20 (.pointer (some ⟨b0', 1, none⟩)) rfl (fun _ => by kernel_rfl) ?_
    refine QL.subk [0, 17, 20] [(0, .pointer (some ⟨b0', 0, none⟩)), (17, .slice a0_code' s_0_code.length c0_code'), (20, .pointer (some ⟨b0', 1, none⟩))] (by kernel_rfl) ?_
    refine QL.st (.int .i64 s_0_at_) (ST.load (cell_ext (SH.boxAt (SH.front 0 hS9) 1 _ rfl)) rfl rfl Tryz.underlying3 rfl) rfl rfl rfl ?_
    obtain ⟨x20, hx21, hm⟩ := bindE hm
    refine QL.st (.pointer (some (at_ a0_code' (Int.toNat s_0_at_ * 1)))) (ST.index (T := fU8.ty) (xs := s_0_code) (Rd.below h0_code (Below.trans hE0 (Below.mono hb7 hW))) hx21 rfl rfl rfl Tryz.underlying22 (info5).1 (info5).2.1) rfl rfl rfl ?_
    refine QL.st (.int .u8 x20) (ST.load (cell_ext (Rd.flat (F := fU8) (Rd.below h0_code (Below.trans hE0 (Below.mono hb7 hW))) hx21 0 rfl)) rfl rfl Tryz.underlying5 rfl) rfl rfl rfl ?_
    refine QL.step1v 24 (.int .i64 (wI64 x20)) rfl (fun _ => by kernel_rfl) ?_
    refine QL.step1v 3 (.int .i64 (wI64 x20)) rfl (fun _ => by kernel_rfl) ?_
    refine QL.subk [0, 3] [(0, .pointer (some ⟨b0', 0, none⟩)), (3, .int .i64 (wI64 x20))] (by kernel_rfl) ?_
    refine QL.nil ?_
    intro w22 hE23
    have hb24 : Below B w w22 := Below.trans hb7 (Below.mono hE23 hL8)
    have hL25 : B ≤ w22.heap.size := Nat.le_trans hL8 hE23.size
    have hS26 : SH w22 B (aBox 82 b0' [.slice a0_code' s_0_code.length c0_code', .int .i64 s_0_at_, .int .u64 s_0_seed] :: L) := SH.ext hS9 hE23
    obtain rfl := Option.some.inj hm
    exact WQ.post' ⟨rfl, hb24, hL25, hS26⟩ ⟨rfl, rfl, trivial⟩
  clear hx19
  rintro _ w27 ⟨rfl, hb28, hL29, hS30⟩
  refine WQ.then_normal (hK3 _ _ _ ?_)
  refine WP.seq (fun K31 hK31 => ?_)
  refine WP.region ?_
  refine WL.runk 3 [0, 3, 25, 27] [(0, .pointer (some ⟨b0', 0, none⟩)), (3, .int .i64 x18), (25, .pointer (some ⟨b0', 0, none⟩)), (27, .pointer (some ⟨b0', 1, none⟩))] (by kernel_rfl) ?_
  refine WL.st (.int .i64 s_0_at_) (ST.load (cell_ext (SH.boxAt (SH.front 0 hS30) 1 _ rfl)) rfl rfl Tryz.underlying3 rfl) rfl rfl rfl ?_
  refine WL.runk 3 [0, 3, 29, 31] [(0, .pointer (some ⟨b0', 0, none⟩)), (3, .int .i64 x18), (29, .int .i64 (wI64 (s_0_at_ + 1))), (31, .pointer (some ⟨b0', 1, none⟩))] (by kernel_rfl) ?_
  refine WL.boxStore 1 [.int .i64 (wI64 (s_0_at_ + 1))] [.slice a0_code' s_0_code.length c0_code', .int .i64 (wI64 (s_0_at_ + 1)), .int .u64 s_0_seed] (SH.front 0 hS30) hL29 rfl rfl rfl rfl rfl rfl rfl (info3).1 (info3).2.1 rfl rfl rfl ?_
  intro w32 hB33 hS34
  have hb35 : Below B w w32 := Below.trans hb28 hB33
  have hL36 : B ≤ w32.heap.size := Nat.le_trans hL29 hB33.size
  refine WL.sub [(0, .pointer (some ⟨b0', 0, none⟩)), (3, .int .i64 x18)] ⟨rfl, rfl, trivial⟩ ?_
  refine WL.nil ?_
  refine WQ.then_normal (hK31 _ _ _ ?_)
  refine WP.seq (fun K37 hK37 => ?_)
  refine WP.region ?_
  refine WL.runk 4 [0, 3, 32, 35] [(0, .pointer (some ⟨b0', 0, none⟩)), (3, .int .i64 x18), (32, .pointer (some ⟨b0', 0, none⟩)), (35, .pointer (some ⟨b0', 2, none⟩))] (by kernel_rfl) ?_
  refine WL.st (.int .u64 s_0_seed) (ST.load (cell_ext (SH.boxAt (SH.front 0 hS34) 2 _ rfl)) rfl rfl Tryz.underlying80 rfl) rfl rfl rfl ?_
  refine WL.runk 7 [0, 3, 41, 43] [(0, .pointer (some ⟨b0', 0, none⟩)), (3, .int .i64 x18), (41, .int .u64 (IntKind.u64.wrap ((IntKind.u64.wrap ((IntKind.u64.wrap (s_0_seed * 6364136223846793005)) + (IntKind.u64.wrap x18))) + 1442695040888963407))), (43, .pointer (some ⟨b0', 2, none⟩))] (by kernel_rfl) ?_
  refine WL.boxStore 2 [.int .u64 (IntKind.u64.wrap ((IntKind.u64.wrap ((IntKind.u64.wrap (s_0_seed * 6364136223846793005)) + (IntKind.u64.wrap x18))) + 1442695040888963407))] [.slice a0_code' s_0_code.length c0_code', .int .i64 (wI64 (s_0_at_ + 1)), .int .u64 (IntKind.u64.wrap ((IntKind.u64.wrap ((IntKind.u64.wrap (s_0_seed * 6364136223846793005)) + (IntKind.u64.wrap x18))) + 1442695040888963407))] (SH.front 0 hS34) hL36 rfl rfl rfl rfl rfl rfl rfl (info80).1 (info80).2.1 rfl rfl rfl ?_
  intro w38 hB39 hS40
  have hb41 : Below B w w38 := Below.trans hb35 hB39
  have hL42 : B ≤ w38.heap.size := Nat.le_trans hL36 hB39.size
  refine WL.sub [(0, .pointer (some ⟨b0', 0, none⟩)), (3, .int .i64 x18)] ⟨rfl, rfl, trivial⟩ ?_
  refine WL.nil ?_
  refine WQ.then_normal (hK37 _ _ _ ?_)
  refine WP.seq (fun K43 hK43 => ?_)
  refine WP.seq (fun K44 hK44 => ?_)
  refine WP.quiet (by kernel_rfl) (by kernel_rfl) ?_
  refine QL.step1v 44 (.pointer (some ⟨b0', 0, none⟩)) rfl (fun _ => by kernel_rfl) ?_
  refine QL.step1v 45 (.pointer (some ⟨b0', 0, none⟩)) rfl (fun _ => by kernel_rfl) ?_
  refine QL.step1v 46 (.pointer (some ⟨b0', 1, none⟩)) rfl (fun _ => by kernel_rfl) ?_
  refine QL.subk [0, 3, 46] [(0, .pointer (some ⟨b0', 0, none⟩)), (3, .int .i64 x18), (46, .pointer (some ⟨b0', 1, none⟩))] (by kernel_rfl) ?_
  refine QL.st (.int .i64 (wI64 (s_0_at_ + 1))) (ST.load (cell_ext (SH.boxAt (SH.front 0 hS40) 1 _ rfl)) rfl rfl Tryz.underlying3 rfl) rfl rfl rfl ?_
  refine QL.step1v 48 (.pointer (some ⟨b0', 0, none⟩)) rfl (fun _ => by kernel_rfl) ?_
  refine QL.step1v 49 (.pointer (some ⟨b0', 0, none⟩)) rfl (fun _ => by kernel_rfl) ?_
  refine QL.step1v 50 (.pointer (some ⟨b0', 0, none⟩)) rfl (fun _ => by kernel_rfl) ?_
  refine QL.subk [0, 3, 47, 50] [(0, .pointer (some ⟨b0', 0, none⟩)), (3, .int .i64 x18), (47, .int .i64 (wI64 (s_0_at_ + 1))), (50, .pointer (some ⟨b0', 0, none⟩))] (by kernel_rfl) ?_
  refine QL.st (.slice a0_code' s_0_code.length c0_code') (ST.load (cell_ext (SH.boxAt (SH.front 0 hS40) 0 _ rfl)) rfl rfl Tryz.underlying22 rfl) rfl rfl rfl ?_
  refine QL.step1v 52 (.int .i64 (s_0_code.length : Int)) rfl (fun _ => by kernel_rfl) ?_
  refine QL.step1v 53 (.bool (decide ((wI64 (s_0_at_ + 1)) ≤ (s_0_code.length : Int)))) rfl (fun _ => by kernel_rfl) ?_
  refine QL.subk [0, 3, 53] [(0, .pointer (some ⟨b0', 0, none⟩)), (3, .int .i64 x18), (53, .bool (decide ((wI64 (s_0_at_ + 1)) ≤ (s_0_code.length : Int))))] (by kernel_rfl) ?_
  refine QL.nil ?_
  intro w45 hE46
  have hb47 : Below B w w45 := Below.trans hb41 (Below.mono hE46 hL42)
  have hL48 : B ≤ w45.heap.size := Nat.le_trans hL42 hE46.size
  have hS49 : SH w45 B (aBox 82 b0' [.slice a0_code' s_0_code.length c0_code', .int .i64 (wI64 (s_0_at_ + 1)), .int .u64 (IntKind.u64.wrap ((IntKind.u64.wrap ((IntKind.u64.wrap (s_0_seed * 6364136223846793005)) + (IntKind.u64.wrap x18))) + 1442695040888963407))] :: L) := SH.ext hS40 hE46
  refine WQ.then_normal (hK44 _ _ _ ?_)
  refine WP.cond (decide ((wI64 (s_0_at_ + 1)) ≤ (s_0_code.length : Int))) rfl rfl (fun hc50 => ?_) (fun hc50 => ?_)
  · have hm := iteT hm hc50
    refine WP.seq (fun K51 hK51 => ?_)
    refine WP.region ?_
    refine WL.runk 2 [2] [(2, .int .i64 x18)] (by kernel_rfl) ?_
    refine WL.nil ?_
    refine WQ.then_normal (hK51 _ _ _ ?_)
    refine WP.ret ?_
    refine WQ.then_ret ?_
    obtain rfl := Option.some.inj hm
    exact WQ.ret1 _ rfl rfl ⟨rfl, hb47, hS49⟩
  have hm := iteF hm hc50
  refine WP.skip ?_
  refine WQ.then_normal (hK43 _ _ _ ?_)
  refine WP.seq (fun K52 hK52 => ?_)
  refine WP.region ?_
  refine WL.runk 3 [57] [(57, .pointer (some ⟨b0', 2, none⟩))] (by kernel_rfl) ?_
  refine WL.st (.int .u64 (IntKind.u64.wrap ((IntKind.u64.wrap ((IntKind.u64.wrap (s_0_seed * 6364136223846793005)) + (IntKind.u64.wrap x18))) + 1442695040888963407))) (ST.load (cell_ext (SH.boxAt (SH.front 0 hS49) 2 _ rfl)) rfl rfl Tryz.underlying80 rfl) rfl rfl rfl ?_
  obtain ⟨x53, hx54, hm⟩ := bindE hm
  refine WL.st (.int .u64 x53) (ST.shr (k := .u64) hx54 rfl rfl rfl) rfl rfl rfl ?_
  refine WL.runk 3 [2] [(2, .int .i64 (wI64 (iand .u64 x53 255)))] (by kernel_rfl) ?_
  refine WL.nil ?_
  refine WQ.then_normal (hK52 _ _ _ ?_)
  refine WP.ret ?_
  obtain rfl := Option.some.inj hm
  exact WQ.ret1 _ rfl rfl ⟨rfl, hb47, hS49⟩

theorem c_50 (n : Nat) (s_0_code : List Int) (a0_code' : Option Addr) (c0_code' : Nat) (s_0_at_ : Int) (s_0_seed : Int) (b0' : Nat) (n_1 : Int) (w : World) (w0 : World) (B : Nat) (L : List Asrt) {r : Int × Int × Int} (hm : m_spec_l00Src_pick n s_0_code s_0_at_ s_0_seed n_1 = some r) (hE0 : Ext w0 w) (hW : w0.heap.size ≤ B) (hL : B ≤ w.heap.size) (h0_code : Rd fU8.ty w0 a0_code' s_0_code) (hle0_code : s_0_code.length ≤ c0_code') (hS : SH w B (aBox 82 b0' [.slice a0_code' s_0_code.length c0_code', .int .i64 s_0_at_, .int .u64 s_0_seed] :: L)) :
    CallV Tryz.prog 50 #[.pointer (some ⟨b0', 0, none⟩), .int .i64 n_1] w (fun v w' => v = .int .i64 r.1 ∧ Below B w w' ∧ SH w' B (aBox 82 b0' [.slice a0_code' s_0_code.length c0_code', .int .i64 r.2.1, .int .u64 r.2.2] :: L)) := by
  unfold m_spec_l00Src_pick at hm
  refine CallV.enter Tryz.func50 rfl (by kernel_rfl) Tryz.ntmps50 (env := [(0, .pointer (some ⟨b0', 0, none⟩)), (1, .int .i64 n_1)]) ⟨rfl, rfl, trivial⟩ ?_
  refine WP.seq (fun K1 hK1 => ?_)
  refine WP.region ?_
  refine WL.runk 1 [0, 1] [(0, .pointer (some ⟨b0', 0, none⟩)), (1, .int .i64 n_1)] (by kernel_rfl) ?_
  refine WL.nil ?_
  refine WQ.then_normal (hK1 _ _ _ ?_)
  refine WP.seq (fun K2 hK2 => ?_)
  refine WP.seq (fun K3 hK3 => ?_)
  refine WP.region ?_
  refine WL.runk 2 [0, 1, 7] [(0, .pointer (some ⟨b0', 0, none⟩)), (1, .int .i64 n_1), (7, .bool (decide (n_1 ≤ 1)))] (by kernel_rfl) ?_
  refine WL.nil ?_
  refine WQ.then_normal (hK3 _ _ _ ?_)
  refine WP.cond (decide (n_1 ≤ 1)) rfl rfl (fun hc4 => ?_) (fun hc4 => ?_)
  · have hm := iteT hm hc4
    refine WP.seq (fun K5 hK5 => ?_)
    refine WP.region ?_
    refine WL.runk 1 [4] [(4, .int .i64 0)] (by kernel_rfl) ?_
    refine WL.nil ?_
    refine WQ.then_normal (hK5 _ _ _ ?_)
    refine WP.ret ?_
    refine WQ.then_ret ?_
    obtain rfl := Option.some.inj hm
    exact WQ.ret1 _ rfl rfl ⟨rfl, (Below.refl _ _), hS⟩
  have hm := iteF hm hc4
  refine WP.skip ?_
  refine WQ.then_normal (hK2 _ _ _ ?_)
  refine WP.seq (fun K6 hK6 => ?_)
  refine WP.region ?_
  refine WL.runk 1 [0, 1, 8] [(0, .pointer (some ⟨b0', 0, none⟩)), (1, .int .i64 n_1), (8, .pointer (some ⟨b0', 0, none⟩))] (by kernel_rfl) ?_
  obtain ⟨x7, hx8, hm⟩ := bindE hm
  refine WL.call 76 #[.pointer (some ⟨b0', 0, none⟩)] rfl rfl (by kernel_rfl) (c_76 n s_0_code a0_code' c0_code' s_0_at_ s_0_seed b0' w w0 B (L) hx8 (Below.trans hE0 (Below.mono (Below.refl _ _) hW)) hW hL h0_code hle0_code hS) ?_
  rintro _ w9 ⟨rfl, hB13, hS12⟩
  refine ⟨_, rfl, ?_⟩
  have hb14 : Below B w w9 := Below.trans (Below.refl _ _) hB13
  have hL15 : B ≤ w9.heap.size := Nat.le_trans hL hB13.size
  refine WL.runk 1 [0, 1, 5] [(0, .pointer (some ⟨b0', 0, none⟩)), (1, .int .i64 n_1), (5, .int .i64 x7.1)] (by kernel_rfl) ?_
  refine WL.nil ?_
  refine WQ.then_normal (hK6 _ _ _ ?_)
  refine WP.seq (fun K16 hK16 => ?_)
  refine WP.seq (fun K17 hK17 => ?_)
  refine WP.region ?_
  refine WL.runk 2 [0, 1, 5, 11] [(0, .pointer (some ⟨b0', 0, none⟩)), (1, .int .i64 n_1), (5, .int .i64 x7.1), (11, .bool (decide (n_1 > 200)))] (by kernel_rfl) ?_
  refine WL.nil ?_
  refine WQ.then_normal (hK17 _ _ _ ?_)
  obtain ⟨x48, hx49, hm⟩ := bindE hm
  refine WP.cut (fun env' w' => env' = [(1, .int .i64 n_1), (5, .int .i64 x48.1)] ∧ Below B w w' ∧ B ≤ w'.heap.size ∧ SH w' B (aBox 82 b0' [.slice a0_code' s_0_code.length c0_code', .int .i64 x48.2.1, .int .u64 x48.2.2] :: L)) ?_ ?_
  rotate_left
  · clear hx49
    rintro _ w59 ⟨rfl, hb60, hL61, hS62⟩
    refine WQ.then_normal (hK16 _ _ _ ?_)
    refine WP.seq (fun K63 hK63 => ?_)
    refine WP.region ?_
    refine WL.runk 2 [17, 18] [(17, .int .i64 x48.1), (18, .int .i64 n_1)] (by kernel_rfl) ?_
    obtain ⟨x64, hx65, hm⟩ := bindE hm
    refine WL.st (.int .i64 x64) (ST.rem (k := .i64) hx65 rfl rfl rfl) rfl rfl rfl ?_
    refine WL.runk 1 [4] [(4, .int .i64 x64)] (by kernel_rfl) ?_
    refine WL.nil ?_
    refine WQ.then_normal (hK63 _ _ _ ?_)
    refine WP.ret ?_
    obtain rfl := Option.some.inj hm
    exact WQ.ret1 _ rfl rfl ⟨rfl, hb60, hS62⟩
  have hm := hx49; clear hx49
  refine WP.cond (decide (n_1 > 200)) rfl rfl (fun hc18 => ?_) (fun hc18 => ?_)
  rotate_left
  · have hm := iteF hm hc18
    refine WP.skip ?_
    obtain rfl := Option.some.inj hm
    exact WQ.post' ⟨rfl, hb14, hL15, hS12⟩ ⟨rfl, rfl, trivial⟩
  have hm := iteT hm hc18
  refine WP.region ?_
  refine WL.runk 3 [1, 13, 14] [(1, .int .i64 n_1), (13, .int .i64 (wI64 (x7.1 * 256))), (14, .pointer (some ⟨b0', 0, none⟩))] (by kernel_rfl) ?_
  obtain ⟨x50, hx51, hm⟩ := bindE hm
  refine WL.call 76 #[.pointer (some ⟨b0', 0, none⟩)] rfl rfl (by kernel_rfl) (c_76 n s_0_code a0_code' c0_code' x7.2.1 x7.2.2 b0' w9 w0 B (L) hx51 (Below.trans hE0 (Below.mono hb14 hW)) hW hL15 h0_code hle0_code hS12) ?_
  rintro _ w52 ⟨rfl, hB56, hS55⟩
  refine ⟨_, rfl, ?_⟩
  have hb57 : Below B w w52 := Below.trans hb14 hB56
  have hL58 : B ≤ w52.heap.size := Nat.le_trans hL15 hB56.size
  refine WL.runk 2 [1, 5] [(1, .int .i64 n_1), (5, .int .i64 (wI64 ((wI64 (x7.1 * 256)) + x50.1)))] (by kernel_rfl) ?_
  refine WL.nil ?_
  obtain rfl := Option.some.inj hm
  exact WQ.post' ⟨rfl, hb57, hL58, hS55⟩ ⟨rfl, rfl, trivial⟩

theorem c_48 (n : Nat) (s_0_code : List Int) (a0_code' : Option Addr) (c0_code' : Nat) (s_0_at_ : Int) (s_0_seed : Int) (b0' : Nat) (n_1 : Int) (w : World) (w0 : World) (B : Nat) (L : List Asrt) {r : Bool × Int × Int} (hm : m_spec_l00Src_one n s_0_code s_0_at_ s_0_seed n_1 = some r) (hE0 : Ext w0 w) (hW : w0.heap.size ≤ B) (hL : B ≤ w.heap.size) (h0_code : Rd fU8.ty w0 a0_code' s_0_code) (hle0_code : s_0_code.length ≤ c0_code') (hS : SH w B (aBox 82 b0' [.slice a0_code' s_0_code.length c0_code', .int .i64 s_0_at_, .int .u64 s_0_seed] :: L)) :
    CallV Tryz.prog 48 #[.pointer (some ⟨b0', 0, none⟩), .int .i64 n_1] w (fun v w' => v = .bool r.1 ∧ Below B w w' ∧ SH w' B (aBox 82 b0' [.slice a0_code' s_0_code.length c0_code', .int .i64 r.2.1, .int .u64 r.2.2] :: L)) := by
  unfold m_spec_l00Src_one at hm
  refine CallV.enter Tryz.func48 rfl (by kernel_rfl) Tryz.ntmps48 (env := [(0, .pointer (some ⟨b0', 0, none⟩)), (1, .int .i64 n_1)]) ⟨rfl, rfl, trivial⟩ ?_
  refine WP.seq (fun K1 hK1 => ?_)
  refine WP.region ?_
  refine WL.runk 1 [0, 1] [(0, .pointer (some ⟨b0', 0, none⟩)), (1, .int .i64 n_1)] (by kernel_rfl) ?_
  refine WL.nil ?_
  refine WQ.then_normal (hK1 _ _ _ ?_)
  refine WP.seq (fun K2 hK2 => ?_)
  refine WP.region ?_
  refine WL.runk 2 [5, 6] [(5, .pointer (some ⟨b0', 0, none⟩)), (6, .int .i64 n_1)] (by kernel_rfl) ?_
  obtain ⟨x3, hx4, hm⟩ := bindE hm
  refine WL.call 50 #[.pointer (some ⟨b0', 0, none⟩), .int .i64 n_1] rfl rfl (by kernel_rfl) (c_50 n s_0_code a0_code' c0_code' s_0_at_ s_0_seed b0' n_1 w w0 B (L) hx4 (Below.trans hE0 (Below.mono (Below.refl _ _) hW)) hW hL h0_code hle0_code hS) ?_
  rintro _ w5 ⟨rfl, hB9, hS8⟩
  refine ⟨_, rfl, ?_⟩
  have hb10 : Below B w w5 := Below.trans (Below.refl _ _) hB9
  have hL11 : B ≤ w5.heap.size := Nat.le_trans hL hB9.size
  refine WL.runk 2 [4] [(4, .bool (x3.1 == 0))] (by kernel_rfl) ?_
  refine WL.nil ?_
  refine WQ.then_normal (hK2 _ _ _ ?_)
  refine WP.ret ?_
  obtain rfl := Option.some.inj hm
  exact WQ.ret1 _ rfl rfl ⟨rfl, hb10, hS8⟩

theorem c_55 (n : Nat) (s_0_code : List Int) (a0_code' : Option Addr) (c0_code' : Nat) (s_0_at_ : Int) (s_0_seed : Int) (b0' : Nat) (w : World) (w0 : World) (B : Nat) (L : List Asrt) {r : List SRepair × Int × Int} (hm : m_spec_l21Draw n s_0_code s_0_at_ s_0_seed = some r) (hE0 : Ext w0 w) (hW : w0.heap.size ≤ B) (hL : B ≤ w.heap.size) (h0_code : Rd fU8.ty w0 a0_code' s_0_code) (hle0_code : s_0_code.length ≤ c0_code') (hS : SH w B (aBox 82 b0' [.slice a0_code' s_0_code.length c0_code', .int .i64 s_0_at_, .int .u64 s_0_seed] :: L)) :
    CallV Tryz.prog 55 #[.pointer (some ⟨b0', 0, none⟩)] w (fun v w' => ∃ (ra0 : Option Addr) (rc0 : Nat), v = .slice ra0 r.1.length rc0 ∧ Below B w w' ∧ SH w' B (aNest fRepair 48 2 ra0 rc0 r.1 :: aBox 82 b0' [.slice a0_code' s_0_code.length c0_code', .int .i64 r.2.1, .int .u64 r.2.2] :: L)) := by
  unfold m_spec_l21Draw at hm
  refine CallV.enter Tryz.func55 rfl (by kernel_rfl) Tryz.ntmps55 (env := [(0, .pointer (some ⟨b0', 0, none⟩))]) ⟨rfl, trivial⟩ ?_
  refine WP.seq (fun K1 hK1 => ?_)
  refine WP.region ?_
  refine WL.runk 1 [0] [(0, .pointer (some ⟨b0', 0, none⟩))] (by kernel_rfl) ?_
  refine WL.nil ?_
  refine WQ.then_normal (hK1 _ _ _ ?_)
  refine WP.seq (fun K2 hK2 => ?_)
  refine WP.region ?_
  refine WL.row fStr 9 ([[104, 101, 101, 108], [104, 97, 108, 102, 45, 115, 111, 108, 101], [119, 101, 108, 116], [108, 105, 110, 105, 110, 103], [112, 97, 116, 99, 104], [100, 121, 101], [101, 121, 101, 108, 101, 116, 45, 49], [115, 116, 114, 101, 116, 99, 104]] : List (List UInt8)) 8 #[.string (bs [104, 101, 101, 108]), .string (bs [104, 97, 108, 102, 45, 115, 111, 108, 101]), .string (bs [119, 101, 108, 116]), .string (bs [108, 105, 110, 105, 110, 103]), .string (bs [112, 97, 116, 99, 104]), .string (bs [100, 121, 101]), .string (bs [101, 121, 101, 108, 101, 116, 45, 49]), .string (bs [115, 116, 114, 101, 116, 99, 104])] 10 (by kernel_rfl) rfl rfl rfl rfl rfl rfl rfl ?_
  intro a3 c4 w5 hE6 hR7
  have hb9 : Below B w w5 := Below.trans (Below.refl _ _) (Below.mono hE6 hL)
  have hL10 : B ≤ w5.heap.size := Nat.le_trans hL hE6.size
  have hS11 : SH w5 B (aOwn fStr 9 a3 c4 ([[104, 101, 101, 108], [104, 97, 108, 102, 45, 115, 111, 108, 101], [119, 101, 108, 116], [108, 105, 110, 105, 110, 103], [112, 97, 116, 99, 104], [100, 121, 101], [101, 121, 101, 108, 101, 116, 45, 49], [115, 116, 114, 101, 116, 99, 104]] : List (List UInt8)) :: aBox 82 b0' [.slice a0_code' s_0_code.length c0_code', .int .i64 s_0_at_, .int .u64 s_0_seed] :: L) := SH.add hS hE6 hL hR7
  refine WL.runk 1 [0, 3] [(0, .pointer (some ⟨b0', 0, none⟩)), (3, .slice a3 (([[104, 101, 101, 108], [104, 97, 108, 102, 45, 115, 111, 108, 101], [119, 101, 108, 116], [108, 105, 110, 105, 110, 103], [112, 97, 116, 99, 104], [100, 121, 101], [101, 121, 101, 108, 101, 116, 45, 49], [115, 116, 114, 101, 116, 99, 104]] : List (List UInt8)).length) c4)] (by kernel_rfl) ?_
  refine WL.nil ?_
  refine WQ.then_normal (hK2 _ _ _ ?_)
  refine WP.seq (fun K12 hK12 => ?_)
  refine WP.region ?_
  refine WL.rowN fRepair 48 2 #[] 11 (by kernel_rfl) rfl rfl rfl rfl rfl ?_
  intro a13 c14 w15 hE16 hR17
  have hb19 : Below B w w15 := Below.trans hb9 (Below.mono hE16 hL10)
  have hL20 : B ≤ w15.heap.size := Nat.le_trans hL10 hE16.size
  have hS21 : SH w15 B (aNest fRepair 48 2 a13 c14 ([] : List SRepair) :: aOwn fStr 9 a3 c4 ([[104, 101, 101, 108], [104, 97, 108, 102, 45, 115, 111, 108, 101], [119, 101, 108, 116], [108, 105, 110, 105, 110, 103], [112, 97, 116, 99, 104], [100, 121, 101], [101, 121, 101, 108, 101, 116, 45, 49], [115, 116, 114, 101, 116, 99, 104]] : List (List UInt8)) :: aBox 82 b0' [.slice a0_code' s_0_code.length c0_code', .int .i64 s_0_at_, .int .u64 s_0_seed] :: L) := SH.add hS11 hE16 hL10 hR17
  refine WL.runk 1 [0, 3, 4] [(0, .pointer (some ⟨b0', 0, none⟩)), (3, .slice a3 (([[104, 101, 101, 108], [104, 97, 108, 102, 45, 115, 111, 108, 101], [119, 101, 108, 116], [108, 105, 110, 105, 110, 103], [112, 97, 116, 99, 104], [100, 121, 101], [101, 121, 101, 108, 101, 116, 45, 49], [115, 116, 114, 101, 116, 99, 104]] : List (List UInt8)).length) c4), (4, .slice a13 (([] : List SRepair).length) c14)] (by kernel_rfl) ?_
  refine WL.nil ?_
  refine WQ.then_normal (hK12 _ _ _ ?_)
  refine WP.seq (fun K22 hK22 => ?_)
  refine WP.region ?_
  refine WL.runk 1 [0, 3, 4, 12] [(0, .pointer (some ⟨b0', 0, none⟩)), (3, .slice a3 (([[104, 101, 101, 108], [104, 97, 108, 102, 45, 115, 111, 108, 101], [119, 101, 108, 116], [108, 105, 110, 105, 110, 103], [112, 97, 116, 99, 104], [100, 121, 101], [101, 121, 101, 108, 101, 116, 45, 49], [115, 116, 114, 101, 116, 99, 104]] : List (List UInt8)).length) c4), (4, .slice a13 (([] : List SRepair).length) c14), (12, .pointer (some ⟨b0', 0, none⟩))] (by kernel_rfl) ?_
  obtain ⟨x23, hx24, hm⟩ := bindE hm
  refine WL.call 50 #[.pointer (some ⟨b0', 0, none⟩), .int .i64 8] rfl rfl (by kernel_rfl) (c_50 n s_0_code a0_code' c0_code' s_0_at_ s_0_seed b0' 8 w15 w0 B (aNest fRepair 48 2 a13 c14 ([] : List SRepair) :: aOwn fStr 9 a3 c4 ([[104, 101, 101, 108], [104, 97, 108, 102, 45, 115, 111, 108, 101], [119, 101, 108, 116], [108, 105, 110, 105, 110, 103], [112, 97, 116, 99, 104], [100, 121, 101], [101, 121, 101, 108, 101, 116, 45, 49], [115, 116, 114, 101, 116, 99, 104]] : List (List UInt8)) :: L) hx24 (Below.trans hE0 (Below.mono hb19 hW)) hW hL20 h0_code hle0_code (SH.front 2 (SH.front 1 (SH.front 1 hS21)))) ?_
  rintro _ w25 ⟨rfl, hB29, hS28⟩
  refine ⟨_, rfl, ?_⟩
  have hb30 : Below B w w25 := Below.trans hb19 hB29
  have hL31 : B ≤ w25.heap.size := Nat.le_trans hL20 hB29.size
  refine WL.runk 1 [0, 3, 4, 5] [(0, .pointer (some ⟨b0', 0, none⟩)), (3, .slice a3 (([[104, 101, 101, 108], [104, 97, 108, 102, 45, 115, 111, 108, 101], [119, 101, 108, 116], [108, 105, 110, 105, 110, 103], [112, 97, 116, 99, 104], [100, 121, 101], [101, 121, 101, 108, 101, 116, 45, 49], [115, 116, 114, 101, 116, 99, 104]] : List (List UInt8)).length) c4), (4, .slice a13 (([] : List SRepair).length) c14), (5, .int .i64 x23.1)] (by kernel_rfl) ?_
  refine WL.nil ?_
  refine WQ.then_normal (hK22 _ _ _ ?_)
  refine WP.seq (fun K32 hK32 => ?_)
  refine WP.seq (fun K33 hK33 => ?_)
  refine WP.region ?_
  refine WL.runk 1 [0, 3, 4, 5, 6] [(0, .pointer (some ⟨b0', 0, none⟩)), (3, .slice a3 (([[104, 101, 101, 108], [104, 97, 108, 102, 45, 115, 111, 108, 101], [119, 101, 108, 116], [108, 105, 110, 105, 110, 103], [112, 97, 116, 99, 104], [100, 121, 101], [101, 121, 101, 108, 101, 116, 45, 49], [115, 116, 114, 101, 116, 99, 104]] : List (List UInt8)).length) c4), (4, .slice a13 (([] : List SRepair).length) c14), (5, .int .i64 x23.1), (6, .int .i64 0)] (by kernel_rfl) ?_
  refine WL.nil ?_
  refine WQ.then_normal (hK33 _ _ _ ?_)
  refine WP.block ?_
  obtain ⟨t1563, ht1564, hm⟩ := bindE hm
  have hmo1558 := hm; clear hm
  refine WP.sub [(0, .pointer (some ⟨b0', 0, none⟩)), (3, .slice a3 (([[104, 101, 101, 108], [104, 97, 108, 102, 45, 115, 111, 108, 101], [119, 101, 108, 116], [108, 105, 110, 105, 110, 103], [112, 97, 116, 99, 104], [100, 121, 101], [101, 121, 101, 108, 101, 116, 45, 49], [115, 116, 114, 101, 116, 99, 104]] : List (List UInt8)).length) c4), (4, .slice a13 (([] : List SRepair).length) c14), (5, .int .i64 x23.1), (6, .int .i64 0)] ⟨rfl, rfl, rfl, rfl, rfl, trivial⟩ ?_
  refine WP.loop (fun n' env' w' => ∃ (st1549 : List SRepair × Int × Int × Int) (a1550 : Option Addr) (c1551 : Nat), env' = [(0, .pointer (some ⟨b0', 0, none⟩)), (3, .slice a3 (([[104, 101, 101, 108], [104, 97, 108, 102, 45, 115, 111, 108, 101], [119, 101, 108, 116], [108, 105, 110, 105, 110, 103], [112, 97, 116, 99, 104], [100, 121, 101], [101, 121, 101, 108, 101, 116, 45, 49], [115, 116, 114, 101, 116, 99, 104]] : List (List UInt8)).length) c4), (4, .slice a1550 st1549.1.length c1551), (5, .int .i64 x23.1), (6, .int .i64 st1549.2.1)] ∧ Below B w w' ∧ B ≤ w'.heap.size ∧ SH w' B (aNest fRepair 48 2 a1550 c1551 st1549.1 :: aBox 82 b0' [.slice a0_code' s_0_code.length c0_code', .int .i64 st1549.2.2.1, .int .u64 st1549.2.2.2] :: aOwn fStr 9 a3 c4 ([[104, 101, 101, 108], [104, 97, 108, 102, 45, 115, 111, 108, 101], [119, 101, 108, 116], [108, 105, 110, 105, 110, 103], [112, 97, 116, 99, 104], [100, 121, 101], [101, 121, 101, 108, 101, 116, 45, 49], [115, 116, 114, 101, 116, 99, 104]] : List (List UInt8)) :: L) ∧ loopN (m_spec_l21Draw_l1 n s_0_code x23) n' st1549 = some t1563) n ⟨(([] : List SRepair), 0, x23.2.1, x23.2.2), _, _, rfl, hb30, hL31, (SH.front 2 (SH.front 1 (SH.front 2 hS28))), ht1564⟩ ?_
  rintro n1560 _ w1553 ⟨st1549, a1550, c1551, rfl, hb1554, hL1555, hS1556, hl1557⟩ K1559 hK1559
  obtain ⟨n1561, s1562, rfl, hm, hl1557⟩ := loopN_some hl1557
  unfold m_spec_l21Draw_l1 at hm
  refine WP.seq (fun K1565 hK1565 => ?_)
  refine WP.seq (fun K1566 hK1566 => ?_)
  refine WP.region ?_
  refine WL.runk 3 [0, 3, 4, 5, 6, 16] [(0, .pointer (some ⟨b0', 0, none⟩)), (3, .slice a3 (([[104, 101, 101, 108], [104, 97, 108, 102, 45, 115, 111, 108, 101], [119, 101, 108, 116], [108, 105, 110, 105, 110, 103], [112, 97, 116, 99, 104], [100, 121, 101], [101, 121, 101, 108, 101, 116, 45, 49], [115, 116, 114, 101, 116, 99, 104]] : List (List UInt8)).length) c4), (4, .slice a1550 st1549.1.length c1551), (5, .int .i64 x23.1), (6, .int .i64 st1549.2.1), (16, .bool (decide (st1549.2.1 < x23.1)))] (by kernel_rfl) ?_
  refine WL.nil ?_
  refine WQ.then_normal (hK1566 _ _ _ ?_)
  refine WP.cond (decide (st1549.2.1 < x23.1)) rfl rfl (fun hc1567 => ?_) (fun hc1567 => ?_)
  rotate_left
  · have hm := iteF hm hc1567
    refine WP.exit ?_
    refine WQ.then_exit ?_
    refine WQ.then_exit ?_
    refine WQ.block_here ?_
    obtain rfl := Option.some.inj hm
    obtain rfl := afterN_done hl1557
    have hm := hmo1558
    refine WQ.then_normal (hK32 _ _ _ ?_)
    refine WP.seq (fun K3063 hK3063 => ?_)
    refine WP.region ?_
    refine WL.runk 2 [2] [(2, .slice a1550 st1549.1.length c1551)] (by kernel_rfl) ?_
    refine WL.nil ?_
    refine WQ.then_normal (hK3063 _ _ _ ?_)
    refine WP.ret ?_
    obtain rfl := Option.some.inj hm
    exact WQ.ret1 _ rfl rfl ⟨_, _, rfl, hb1554, (SH.cutOut 2 1 (SH.front 1 (SH.front 1 hS1556)))⟩
  have hm := iteT hm hc1567
  refine WP.skip ?_
  refine WQ.then_normal (hK1565 _ _ _ ?_)
  refine WP.seq (fun K1568 hK1568 => ?_)
  refine WP.block ?_
  refine WP.seq (fun K1569 hK1569 => ?_)
  refine WP.open (n := 12) (by kernel_rfl) rfl (fun w1570 hE1571 => ?_)
  have hb1572 : Below B w w1570 := Below.trans hb1554 (Below.mono hE1571 hL1555)
  have hL1573 : B ≤ w1570.heap.size := Nat.le_trans hL1555 hE1571.size
  have hS1574 : SH w1570 B (aNest fRepair 48 2 a1550 c1551 st1549.1 :: aBox 82 b0' [.slice a0_code' s_0_code.length c0_code', .int .i64 st1549.2.2.1, .int .u64 st1549.2.2.2] :: aOwn fStr 9 a3 c4 ([[104, 101, 101, 108], [104, 97, 108, 102, 45, 115, 111, 108, 101], [119, 101, 108, 116], [108, 105, 110, 105, 110, 103], [112, 97, 116, 99, 104], [100, 121, 101], [101, 121, 101, 108, 101, 116, 45, 49], [115, 116, 114, 101, 116, 99, 104]] : List (List UInt8)) :: L) := SH.ext hS1556 hE1571
  obtain ⟨x1595, hx1596, hm⟩ := bindE hm
  obtain ⟨x1645, hx1646, hm⟩ := bindE hm
  refine WA.par (R := L) (f' := 1) (D' := [0, 1, 2, 3, 4, 5, 6, 7, 8, 9, 10]) [⟨0, [], fun _ => .slice a3 (([[104, 101, 101, 108], [104, 97, 108, 102, 45, 115, 111, 108, 101], [119, 101, 108, 116], [108, 105, 110, 105, 110, 103], [112, 97, 116, 99, 104], [100, 121, 101], [101, 121, 101, 108, 101, 116, 45, 49], [115, 116, 114, 101, 116, 99, 104]] : List (List UInt8)).length) c4⟩, ⟨1, [], fun _ => .int .i64 st1549.2.1⟩, ⟨2, [], fun _ => .pointer (some (at_ a3 (Int.toNat st1549.2.1 * 1)))⟩, ⟨3, [], fun _ => .string (bs x1595)⟩, ⟨4, [4], fun g1575 => .slice ((g1575 4 0).1) (([] : List Int).length) ((g1575 4 0).2)⟩, ⟨5, [5], fun g1575 => .slice ((g1575 5 0).1) (([] : List Int).length) ((g1575 5 0).2)⟩, ⟨6, [], fun _ => .pointer (some ⟨b0', 0, none⟩)⟩, ⟨7, [], fun _ => .int .i64 x1645.1⟩, ⟨8, [], fun _ => .int .i64 (wI64 (50 * x1645.1))⟩, ⟨9, [4, 5], fun g1575 => .agg #[.string (bs x1595), .slice ((g1575 4 0).1) (([] : List Int).length) ((g1575 4 0).2), .slice ((g1575 5 0).1) (([] : List Int).length) ((g1575 5 0).2), .int .i64 (wI64 (50 * x1645.1)), .int .i64 0]⟩, ⟨10, [10], fun g1575 => .pointer (some ⟨(g1575 10 0).2, 0, none⟩)⟩] [⟨[aNest fRepair 48 2 a1550 c1551 st1549.1], []⟩, ⟨[aBox 82 b0' [.slice a0_code' s_0_code.length c0_code', .int .i64 st1549.2.2.1, .int .u64 st1549.2.2.2]], [⟨7, [], fun _ => [aBox 82 b0' [.slice a0_code' s_0_code.length c0_code', .int .i64 x1645.2.1, .int .u64 x1645.2.2]]⟩]⟩, ⟨[aOwn fStr 9 a3 c4 ([[104, 101, 101, 108], [104, 97, 108, 102, 45, 115, 111, 108, 101], [119, 101, 108, 116], [108, 105, 110, 105, 110, 103], [112, 97, 116, 99, 104], [100, 121, 101], [101, 121, 101, 108, 101, 116, 45, 49], [115, 116, 114, 101, 116, 99, 104]] : List (List UInt8))], []⟩, ⟨[], [⟨4, [4], fun g1575 => [aOwn fInt 2 ((g1575 4 0).1) ((g1575 4 0).2) ([] : List Int)]⟩]⟩, ⟨[], [⟨5, [5], fun g1575 => [aOwn fInt 2 ((g1575 5 0).1) ((g1575 5 0).2) ([] : List Int)]⟩]⟩, ⟨[], [⟨10, [10], fun g1575 => [aBox 48 (g1575 10 0).2 [.string (bs []), .slice none 0 0, .slice none 0 0, .int .i64 0, .int .i64 0]]⟩]⟩] rfl rfl hS1574 (by kernel_rfl) (by kernel_rfl) ⟨?_, ?_, ?_, ?_, ?_, ?_, ?_, ?_, ?_, ?_, ?_, trivial⟩ ?_
  · intro g1575 w1577 R1576 hB1578 hS1579
    have hS1580 : SH w1577 B (aNest fRepair 48 2 a1550 c1551 st1549.1 :: aOwn fStr 9 a3 c4 ([[104, 101, 101, 108], [104, 97, 108, 102, 45, 115, 111, 108, 101], [119, 101, 108, 116], [108, 105, 110, 105, 110, 103], [112, 97, 116, 99, 104], [100, 121, 101], [101, 121, 101, 108, 101, 116, 45, 49], [115, 116, 114, 101, 116, 99, 104]] : List (List UInt8)) :: R1576) := memEq hS1579 (by kernel_rfl)
    have hb1581 : Below B w w1577 := Below.trans hb1572 hB1578
    have hL1582 : B ≤ w1577.heap.size := Nat.le_trans hL1573 hB1578.size
    refine WL.subk [3] [(3, .slice a3 (([[104, 101, 101, 108], [104, 97, 108, 102, 45, 115, 111, 108, 101], [119, 101, 108, 116], [108, 105, 110, 105, 110, 103], [112, 97, 116, 99, 104], [100, 121, 101], [101, 121, 101, 108, 101, 116, 45, 49], [115, 116, 114, 101, 116, 99, 104]] : List (List UInt8)).length) c4)] (by kernel_rfl) ?_
    refine WL.runk 1 [19] [(19, .slice a3 (([[104, 101, 101, 108], [104, 97, 108, 102, 45, 115, 111, 108, 101], [119, 101, 108, 116], [108, 105, 110, 105, 110, 103], [112, 97, 116, 99, 104], [100, 121, 101], [101, 121, 101, 108, 101, 116, 45, 49], [115, 116, 114, 101, 116, 99, 104]] : List (List UInt8)).length) c4)] (by kernel_rfl) ?_
    refine WL.nil ?_
    exact QP.intro (fun k => ([] : List (Option Addr × Nat)).getD k (none, 0)) (d := 19) (by kernel_rfl) (by kernel_rfl) (Below.refl _ _) hS1580 (by kernel_rfl)
  · intro g1575 w1583 R1576 hB1584 hS1585
    have hS1586 : SH w1583 B (aNest fRepair 48 2 a1550 c1551 st1549.1 :: aOwn fStr 9 a3 c4 ([[104, 101, 101, 108], [104, 97, 108, 102, 45, 115, 111, 108, 101], [119, 101, 108, 116], [108, 105, 110, 105, 110, 103], [112, 97, 116, 99, 104], [100, 121, 101], [101, 121, 101, 108, 101, 116, 45, 49], [115, 116, 114, 101, 116, 99, 104]] : List (List UInt8)) :: R1576) := memEq hS1585 (by kernel_rfl)
    have hb1587 : Below B w w1583 := Below.trans hb1572 hB1584
    have hL1588 : B ≤ w1583.heap.size := Nat.le_trans hL1573 hB1584.size
    refine WL.subk [6] [(6, .int .i64 st1549.2.1)] (by kernel_rfl) ?_
    refine WL.runk 1 [20] [(20, .int .i64 st1549.2.1)] (by kernel_rfl) ?_
    refine WL.nil ?_
    exact QP.intro (fun k => ([] : List (Option Addr × Nat)).getD k (none, 0)) (d := 20) (by kernel_rfl) (by kernel_rfl) (Below.refl _ _) hS1586 (by kernel_rfl)
  · intro g1575 w1589 R1576 hB1590 hS1591
    have hS1592 : SH w1589 B (aNest fRepair 48 2 a1550 c1551 st1549.1 :: aOwn fStr 9 a3 c4 ([[104, 101, 101, 108], [104, 97, 108, 102, 45, 115, 111, 108, 101], [119, 101, 108, 116], [108, 105, 110, 105, 110, 103], [112, 97, 116, 99, 104], [100, 121, 101], [101, 121, 101, 108, 101, 116, 45, 49], [115, 116, 114, 101, 116, 99, 104]] : List (List UInt8)) :: R1576) := memEq hS1591 (by kernel_rfl)
    have hb1593 : Below B w w1589 := Below.trans hb1572 hB1590
    have hL1594 : B ≤ w1589.heap.size := Nat.le_trans hL1573 hB1590.size
    refine WL.subk [19, 20] [(19, .slice a3 (([[104, 101, 101, 108], [104, 97, 108, 102, 45, 115, 111, 108, 101], [119, 101, 108, 116], [108, 105, 110, 105, 110, 103], [112, 97, 116, 99, 104], [100, 121, 101], [101, 121, 101, 108, 101, 116, 45, 49], [115, 116, 114, 101, 116, 99, 104]] : List (List UInt8)).length) c4), (20, .int .i64 st1549.2.1)] (by kernel_rfl) ?_
    refine WL.st (.pointer (some (at_ a3 (Int.toNat st1549.2.1 * 1)))) (ST.index (T := fStr.ty) (xs := ([[104, 101, 101, 108], [104, 97, 108, 102, 45, 115, 111, 108, 101], [119, 101, 108, 116], [108, 105, 110, 105, 110, 103], [112, 97, 116, 99, 104], [100, 121, 101], [101, 121, 101, 108, 101, 116, 45, 49], [115, 116, 114, 101, 116, 99, 104]] : List (List UInt8))) (SH.rd (SH.front 1 hS1592)) hx1596 rfl rfl rfl Tryz.underlying66 (info9).1 (info9).2.1) rfl rfl rfl ?_
    refine WL.nil ?_
    exact QP.intro (fun k => ([] : List (Option Addr × Nat)).getD k (none, 0)) (d := 21) (by kernel_rfl) (by kernel_rfl) (Below.refl _ _) hS1592 (by kernel_rfl)
  · intro g1575 w1597 R1576 hB1598 hS1599
    have hS1600 : SH w1597 B (aNest fRepair 48 2 a1550 c1551 st1549.1 :: aOwn fStr 9 a3 c4 ([[104, 101, 101, 108], [104, 97, 108, 102, 45, 115, 111, 108, 101], [119, 101, 108, 116], [108, 105, 110, 105, 110, 103], [112, 97, 116, 99, 104], [100, 121, 101], [101, 121, 101, 108, 101, 116, 45, 49], [115, 116, 114, 101, 116, 99, 104]] : List (List UInt8)) :: R1576) := memEq hS1599 (by kernel_rfl)
    have hb1601 : Below B w w1597 := Below.trans hb1572 hB1598
    have hL1602 : B ≤ w1597.heap.size := Nat.le_trans hL1573 hB1598.size
    refine WL.subk [21] [(21, .pointer (some (at_ a3 (Int.toNat st1549.2.1 * 1))))] (by kernel_rfl) ?_
    refine WL.st (.string (bs x1595)) (ST.load (cell_ext (Rd.flat (F := fStr) (SH.rd (SH.front 1 hS1600)) hx1596 0 rfl)) rfl rfl Tryz.underlying9 rfl) rfl rfl rfl ?_
    refine WL.nil ?_
    exact QP.intro (fun k => ([] : List (Option Addr × Nat)).getD k (none, 0)) (d := 22) (by kernel_rfl) (by kernel_rfl) (Below.refl _ _) hS1600 (by kernel_rfl)
  · intro g1575 w1603 R1576 hB1604 hS1605
    have hS1606 : SH w1603 B (aNest fRepair 48 2 a1550 c1551 st1549.1 :: aOwn fStr 9 a3 c4 ([[104, 101, 101, 108], [104, 97, 108, 102, 45, 115, 111, 108, 101], [119, 101, 108, 116], [108, 105, 110, 105, 110, 103], [112, 97, 116, 99, 104], [100, 121, 101], [101, 121, 101, 108, 101, 116, 45, 49], [115, 116, 114, 101, 116, 99, 104]] : List (List UInt8)) :: R1576) := memEq hS1605 (by kernel_rfl)
    have hb1607 : Below B w w1603 := Below.trans hb1572 hB1604
    have hL1608 : B ≤ w1603.heap.size := Nat.le_trans hL1573 hB1604.size
    refine WL.subk [] [] (by kernel_rfl) ?_
    refine WL.row fInt 2 ([] : List Int) 0 #[] 23 (by kernel_rfl) rfl rfl rfl rfl rfl rfl rfl ?_
    intro a1609 c1610 w1611 hE1612 hR1613
    have hb1615 : Below B w w1611 := Below.trans hb1607 (Below.mono hE1612 hL1608)
    have hL1616 : B ≤ w1611.heap.size := Nat.le_trans hL1608 hE1612.size
    have hS1617 : SH w1611 B (aOwn fInt 2 a1609 c1610 ([] : List Int) :: aNest fRepair 48 2 a1550 c1551 st1549.1 :: aOwn fStr 9 a3 c4 ([[104, 101, 101, 108], [104, 97, 108, 102, 45, 115, 111, 108, 101], [119, 101, 108, 116], [108, 105, 110, 105, 110, 103], [112, 97, 116, 99, 104], [100, 121, 101], [101, 121, 101, 108, 101, 116, 45, 49], [115, 116, 114, 101, 116, 99, 104]] : List (List UInt8)) :: R1576) := SH.add hS1606 hE1612 hL1608 hR1613
    refine WL.nil ?_
    exact QP.intro (fun k => ([(a1609, c1610)] : List (Option Addr × Nat)).getD k (none, 0)) (d := 23) (by kernel_rfl) (by kernel_rfl) (Below.mono hE1612 hL1608) (SH.front 2 (SH.front 2 hS1617)) (by kernel_rfl)
  · intro g1575 w1618 R1576 hB1619 hS1620
    have hS1621 : SH w1618 B (aNest fRepair 48 2 a1550 c1551 st1549.1 :: aOwn fStr 9 a3 c4 ([[104, 101, 101, 108], [104, 97, 108, 102, 45, 115, 111, 108, 101], [119, 101, 108, 116], [108, 105, 110, 105, 110, 103], [112, 97, 116, 99, 104], [100, 121, 101], [101, 121, 101, 108, 101, 116, 45, 49], [115, 116, 114, 101, 116, 99, 104]] : List (List UInt8)) :: R1576) := memEq hS1620 (by kernel_rfl)
    have hb1622 : Below B w w1618 := Below.trans hb1572 hB1619
    have hL1623 : B ≤ w1618.heap.size := Nat.le_trans hL1573 hB1619.size
    refine WL.subk [] [] (by kernel_rfl) ?_
    refine WL.row fInt 2 ([] : List Int) 0 #[] 24 (by kernel_rfl) rfl rfl rfl rfl rfl rfl rfl ?_
    intro a1624 c1625 w1626 hE1627 hR1628
    have hb1630 : Below B w w1626 := Below.trans hb1622 (Below.mono hE1627 hL1623)
    have hL1631 : B ≤ w1626.heap.size := Nat.le_trans hL1623 hE1627.size
    have hS1632 : SH w1626 B (aOwn fInt 2 a1624 c1625 ([] : List Int) :: aNest fRepair 48 2 a1550 c1551 st1549.1 :: aOwn fStr 9 a3 c4 ([[104, 101, 101, 108], [104, 97, 108, 102, 45, 115, 111, 108, 101], [119, 101, 108, 116], [108, 105, 110, 105, 110, 103], [112, 97, 116, 99, 104], [100, 121, 101], [101, 121, 101, 108, 101, 116, 45, 49], [115, 116, 114, 101, 116, 99, 104]] : List (List UInt8)) :: R1576) := SH.add hS1621 hE1627 hL1623 hR1628
    refine WL.nil ?_
    exact QP.intro (fun k => ([(a1624, c1625)] : List (Option Addr × Nat)).getD k (none, 0)) (d := 24) (by kernel_rfl) (by kernel_rfl) (Below.mono hE1627 hL1623) (SH.front 2 (SH.front 2 hS1632)) (by kernel_rfl)
  · intro g1575 w1633 R1576 hB1634 hS1635
    have hS1636 : SH w1633 B (aNest fRepair 48 2 a1550 c1551 st1549.1 :: aBox 82 b0' [.slice a0_code' s_0_code.length c0_code', .int .i64 st1549.2.2.1, .int .u64 st1549.2.2.2] :: aOwn fStr 9 a3 c4 ([[104, 101, 101, 108], [104, 97, 108, 102, 45, 115, 111, 108, 101], [119, 101, 108, 116], [108, 105, 110, 105, 110, 103], [112, 97, 116, 99, 104], [100, 121, 101], [101, 121, 101, 108, 101, 116, 45, 49], [115, 116, 114, 101, 116, 99, 104]] : List (List UInt8)) :: R1576) := memEq hS1635 (by kernel_rfl)
    have hb1637 : Below B w w1633 := Below.trans hb1572 hB1634
    have hL1638 : B ≤ w1633.heap.size := Nat.le_trans hL1573 hB1634.size
    refine WL.subk [0] [(0, .pointer (some ⟨b0', 0, none⟩))] (by kernel_rfl) ?_
    refine WL.runk 1 [25] [(25, .pointer (some ⟨b0', 0, none⟩))] (by kernel_rfl) ?_
    refine WL.nil ?_
    exact QP.intro (fun k => ([] : List (Option Addr × Nat)).getD k (none, 0)) (d := 25) (by kernel_rfl) (by kernel_rfl) (Below.refl _ _) hS1636 (by kernel_rfl)
  · intro g1575 w1639 R1576 hB1640 hS1641
    have hS1642 : SH w1639 B (aNest fRepair 48 2 a1550 c1551 st1549.1 :: aBox 82 b0' [.slice a0_code' s_0_code.length c0_code', .int .i64 st1549.2.2.1, .int .u64 st1549.2.2.2] :: aOwn fStr 9 a3 c4 ([[104, 101, 101, 108], [104, 97, 108, 102, 45, 115, 111, 108, 101], [119, 101, 108, 116], [108, 105, 110, 105, 110, 103], [112, 97, 116, 99, 104], [100, 121, 101], [101, 121, 101, 108, 101, 116, 45, 49], [115, 116, 114, 101, 116, 99, 104]] : List (List UInt8)) :: R1576) := memEq hS1641 (by kernel_rfl)
    have hb1643 : Below B w w1639 := Below.trans hb1572 hB1640
    have hL1644 : B ≤ w1639.heap.size := Nat.le_trans hL1573 hB1640.size
    refine WL.subk [25] [(25, .pointer (some ⟨b0', 0, none⟩))] (by kernel_rfl) ?_
    refine WL.call 50 #[.pointer (some ⟨b0', 0, none⟩), .int .i64 20] rfl rfl (by kernel_rfl) (c_50 n s_0_code a0_code' c0_code' st1549.2.2.1 st1549.2.2.2 b0' 20 w1639 w0 B (aNest fRepair 48 2 a1550 c1551 st1549.1 :: aOwn fStr 9 a3 c4 ([[104, 101, 101, 108], [104, 97, 108, 102, 45, 115, 111, 108, 101], [119, 101, 108, 116], [108, 105, 110, 105, 110, 103], [112, 97, 116, 99, 104], [100, 121, 101], [101, 121, 101, 108, 101, 116, 45, 49], [115, 116, 114, 101, 116, 99, 104]] : List (List UInt8)) :: R1576) hx1646 (Below.trans hE0 (Below.mono hb1643 hW)) hW hL1644 h0_code hle0_code (SH.front 2 (SH.front 1 (SH.front 2 hS1642)))) ?_
    rintro _ w1647 ⟨rfl, hB1651, hS1650⟩
    refine ⟨_, rfl, ?_⟩
    have hb1652 : Below B w w1647 := Below.trans hb1643 hB1651
    have hL1653 : B ≤ w1647.heap.size := Nat.le_trans hL1644 hB1651.size
    refine WL.nil ?_
    exact QP.intro (fun k => ([] : List (Option Addr × Nat)).getD k (none, 0)) (d := 26) (by kernel_rfl) (by kernel_rfl) hB1651 (SH.front 2 (SH.front 1 (SH.front 2 hS1650))) (by kernel_rfl)
  · intro g1575 w1654 R1576 hB1655 hS1656
    have hS1657 : SH w1654 B (aNest fRepair 48 2 a1550 c1551 st1549.1 :: aBox 82 b0' [.slice a0_code' s_0_code.length c0_code', .int .i64 x1645.2.1, .int .u64 x1645.2.2] :: aOwn fStr 9 a3 c4 ([[104, 101, 101, 108], [104, 97, 108, 102, 45, 115, 111, 108, 101], [119, 101, 108, 116], [108, 105, 110, 105, 110, 103], [112, 97, 116, 99, 104], [100, 121, 101], [101, 121, 101, 108, 101, 116, 45, 49], [115, 116, 114, 101, 116, 99, 104]] : List (List UInt8)) :: R1576) := memEq hS1656 (by kernel_rfl)
    have hb1658 : Below B w w1654 := Below.trans hb1572 hB1655
    have hL1659 : B ≤ w1654.heap.size := Nat.le_trans hL1573 hB1655.size
    refine WL.subk [26] [(26, .int .i64 x1645.1)] (by kernel_rfl) ?_
    refine WL.runk 1 [27] [(27, .int .i64 (wI64 (50 * x1645.1)))] (by kernel_rfl) ?_
    refine WL.nil ?_
    exact QP.intro (fun k => ([] : List (Option Addr × Nat)).getD k (none, 0)) (d := 27) (by kernel_rfl) (by kernel_rfl) (Below.refl _ _) hS1657 (by kernel_rfl)
  · intro g1575 w1660 R1576 hB1661 hS1662
    have hS1663 : SH w1660 B (aNest fRepair 48 2 a1550 c1551 st1549.1 :: aBox 82 b0' [.slice a0_code' s_0_code.length c0_code', .int .i64 x1645.2.1, .int .u64 x1645.2.2] :: aOwn fStr 9 a3 c4 ([[104, 101, 101, 108], [104, 97, 108, 102, 45, 115, 111, 108, 101], [119, 101, 108, 116], [108, 105, 110, 105, 110, 103], [112, 97, 116, 99, 104], [100, 121, 101], [101, 121, 101, 108, 101, 116, 45, 49], [115, 116, 114, 101, 116, 99, 104]] : List (List UInt8)) :: aOwn fInt 2 ((g1575 4 0).1) ((g1575 4 0).2) ([] : List Int) :: aOwn fInt 2 ((g1575 5 0).1) ((g1575 5 0).2) ([] : List Int) :: R1576) := memEq hS1662 (by kernel_rfl)
    have hb1664 : Below B w w1660 := Below.trans hb1572 hB1661
    have hL1665 : B ≤ w1660.heap.size := Nat.le_trans hL1573 hB1661.size
    refine WL.subk [22, 23, 24, 27] [(22, .string (bs x1595)), (23, .slice ((g1575 4 0).1) (([] : List Int).length) ((g1575 4 0).2)), (24, .slice ((g1575 5 0).1) (([] : List Int).length) ((g1575 5 0).2)), (27, .int .i64 (wI64 (50 * x1645.1)))] (by kernel_rfl) ?_
    refine WL.runk 1 [28] [(28, .agg #[.string (bs x1595), .slice ((g1575 4 0).1) (([] : List Int).length) ((g1575 4 0).2), .slice ((g1575 5 0).1) (([] : List Int).length) ((g1575 5 0).2), .int .i64 (wI64 (50 * x1645.1)), .int .i64 0])] (by kernel_rfl) ?_
    refine WL.nil ?_
    exact QP.intro (fun k => ([] : List (Option Addr × Nat)).getD k (none, 0)) (d := 28) (by kernel_rfl) (by kernel_rfl) (Below.refl _ _) hS1663 (by kernel_rfl)
  · intro g1575 w1666 R1576 hB1667 hS1668
    have hS1669 : SH w1666 B (aNest fRepair 48 2 a1550 c1551 st1549.1 :: aOwn fStr 9 a3 c4 ([[104, 101, 101, 108], [104, 97, 108, 102, 45, 115, 111, 108, 101], [119, 101, 108, 116], [108, 105, 110, 105, 110, 103], [112, 97, 116, 99, 104], [100, 121, 101], [101, 121, 101, 108, 101, 116, 45, 49], [115, 116, 114, 101, 116, 99, 104]] : List (List UInt8)) :: R1576) := memEq hS1668 (by kernel_rfl)
    have hb1670 : Below B w w1666 := Below.trans hb1572 hB1667
    have hL1671 : B ≤ w1666.heap.size := Nat.le_trans hL1573 hB1667.size
    refine WL.subk [] [] (by kernel_rfl) ?_
    refine WL.box 48 [.string (bs []), .slice none 0 0, .slice none 0 0, .int .i64 0, .int .i64 0] 7 (by kernel_rfl) rfl rfl rfl rfl ?_
    intro b1672 w1673 hE1674 hR1675
    have hb1677 : Below B w w1673 := Below.trans hb1670 (Below.mono hE1674 hL1671)
    have hL1678 : B ≤ w1673.heap.size := Nat.le_trans hL1671 hE1674.size
    have hS1679 : SH w1673 B (aBox 48 b1672 [.string (bs []), .slice none 0 0, .slice none 0 0, .int .i64 0, .int .i64 0] :: aNest fRepair 48 2 a1550 c1551 st1549.1 :: aOwn fStr 9 a3 c4 ([[104, 101, 101, 108], [104, 97, 108, 102, 45, 115, 111, 108, 101], [119, 101, 108, 116], [108, 105, 110, 105, 110, 103], [112, 97, 116, 99, 104], [100, 121, 101], [101, 121, 101, 108, 101, 116, 45, 49], [115, 116, 114, 101, 116, 99, 104]] : List (List UInt8)) :: R1576) := SH.add hS1669 hE1674 hL1671 hR1675
    refine WL.nil ?_
    exact QP.intro (fun k => ([(none, b1672)] : List (Option Addr × Nat)).getD k (none, 0)) (d := 7) (by kernel_rfl) (by kernel_rfl) (Below.mono hE1674 hL1671) (SH.front 2 (SH.front 2 hS1679)) (by kernel_rfl)
  intro g1575 w1680 hB1681 hS1682
  have hS1683 : SH w1680 B (aNest fRepair 48 2 a1550 c1551 st1549.1 :: aBox 82 b0' [.slice a0_code' s_0_code.length c0_code', .int .i64 x1645.2.1, .int .u64 x1645.2.2] :: aOwn fStr 9 a3 c4 ([[104, 101, 101, 108], [104, 97, 108, 102, 45, 115, 111, 108, 101], [119, 101, 108, 116], [108, 105, 110, 105, 110, 103], [112, 97, 116, 99, 104], [100, 121, 101], [101, 121, 101, 108, 101, 116, 45, 49], [115, 116, 114, 101, 116, 99, 104]] : List (List UInt8)) :: aOwn fInt 2 ((g1575 4 0).1) ((g1575 4 0).2) ([] : List Int) :: aOwn fInt 2 ((g1575 5 0).1) ((g1575 5 0).2) ([] : List Int) :: aBox 48 (g1575 10 0).2 [.string (bs []), .slice none 0 0, .slice none 0 0, .int .i64 0, .int .i64 0] :: L) := memEq hS1682 (by kernel_rfl)
  have hb1684 : Below B w w1680 := Below.trans hb1572 hB1681
  have hL1685 : B ≤ w1680.heap.size := Nat.le_trans hL1573 hB1681.size
  refine WQ.subk [0, 3, 4, 5, 6, 28, 7] [(0, .pointer (some ⟨b0', 0, none⟩)), (3, .slice a3 (([[104, 101, 101, 108], [104, 97, 108, 102, 45, 115, 111, 108, 101], [119, 101, 108, 116], [108, 105, 110, 105, 110, 103], [112, 97, 116, 99, 104], [100, 121, 101], [101, 121, 101, 108, 101, 116, 45, 49], [115, 116, 114, 101, 116, 99, 104]] : List (List UInt8)).length) c4), (4, .slice a1550 st1549.1.length c1551), (5, .int .i64 x23.1), (6, .int .i64 st1549.2.1), (28, .agg #[.string (bs x1595), .slice ((g1575 4 0).1) (([] : List Int).length) ((g1575 4 0).2), .slice ((g1575 5 0).1) (([] : List Int).length) ((g1575 5 0).2), .int .i64 (wI64 (50 * x1645.1)), .int .i64 0]), (7, .pointer (some ⟨(g1575 10 0).2, 0, none⟩))] (by kernel_rfl) ?_
  refine WA.one (i := 11) (D' := [0, 1, 2, 3, 4, 5, 6, 7, 8, 9, 10, 11]) rfl rfl (by kernel_rfl) ?_
  refine WL.boxStore 0 [.string (bs x1595), .slice ((g1575 4 0).1) (([] : List Int).length) ((g1575 4 0).2), .slice ((g1575 5 0).1) (([] : List Int).length) ((g1575 5 0).2), .int .i64 (wI64 (50 * x1645.1)), .int .i64 0] [.string (bs x1595), .slice ((g1575 4 0).1) (([] : List Int).length) ((g1575 4 0).2), .slice ((g1575 5 0).1) (([] : List Int).length) ((g1575 5 0).2), .int .i64 (wI64 (50 * x1645.1)), .int .i64 0] (SH.front 5 hS1683) hL1685 rfl rfl rfl rfl rfl rfl rfl (info48).1 (info48).2.1 rfl rfl rfl ?_
  intro w1686 hB1687 hS1688
  have hb1689 : Below B w w1686 := Below.trans hb1684 hB1687
  have hL1690 : B ≤ w1686.heap.size := Nat.le_trans hL1685 hB1687.size
  refine WL.sub [(0, .pointer (some ⟨b0', 0, none⟩)), (3, .slice a3 (([[104, 101, 101, 108], [104, 97, 108, 102, 45, 115, 111, 108, 101], [119, 101, 108, 116], [108, 105, 110, 105, 110, 103], [112, 97, 116, 99, 104], [100, 121, 101], [101, 121, 101, 108, 101, 116, 45, 49], [115, 116, 114, 101, 116, 99, 104]] : List (List UInt8)).length) c4), (4, .slice a1550 st1549.1.length c1551), (5, .int .i64 x23.1), (6, .int .i64 st1549.2.1), (7, .pointer (some ⟨(g1575 10 0).2, 0, none⟩))] ⟨rfl, rfl, rfl, rfl, rfl, rfl, trivial⟩ ?_
  refine WL.nil ?_
  refine WA.done (by kernel_rfl) ?_
  refine WQ.then_normal (hK1569 _ _ _ ?_)
  refine WP.seq (fun K1691 hK1691 => ?_)
  refine WP.seq (fun K1692 hK1692 => ?_)
  refine WP.region ?_
  refine WL.runk 1 [0, 3, 4, 5, 6, 7, 8] [(0, .pointer (some ⟨b0', 0, none⟩)), (3, .slice a3 (([[104, 101, 101, 108], [104, 97, 108, 102, 45, 115, 111, 108, 101], [119, 101, 108, 116], [108, 105, 110, 105, 110, 103], [112, 97, 116, 99, 104], [100, 121, 101], [101, 121, 101, 108, 101, 116, 45, 49], [115, 116, 114, 101, 116, 99, 104]] : List (List UInt8)).length) c4), (4, .slice a1550 st1549.1.length c1551), (5, .int .i64 x23.1), (6, .int .i64 st1549.2.1), (7, .pointer (some ⟨(g1575 10 0).2, 0, none⟩)), (8, .int .i64 0)] (by kernel_rfl) ?_
  refine WL.nil ?_
  refine WQ.then_normal (hK1692 _ _ _ ?_)
  refine WP.block ?_
  obtain ⟨t2205, ht2206, hm⟩ := bindE hm
  have hmo2200 := hm; clear hm
  refine WP.sub [(0, .pointer (some ⟨b0', 0, none⟩)), (3, .slice a3 (([[104, 101, 101, 108], [104, 97, 108, 102, 45, 115, 111, 108, 101], [119, 101, 108, 116], [108, 105, 110, 105, 110, 103], [112, 97, 116, 99, 104], [100, 121, 101], [101, 121, 101, 108, 101, 116, 45, 49], [115, 116, 114, 101, 116, 99, 104]] : List (List UInt8)).length) c4), (4, .slice a1550 st1549.1.length c1551), (5, .int .i64 x23.1), (6, .int .i64 st1549.2.1), (7, .pointer (some ⟨(g1575 10 0).2, 0, none⟩)), (8, .int .i64 0)] ⟨rfl, rfl, rfl, rfl, rfl, rfl, rfl, trivial⟩ ?_
  refine WP.loop (fun n' env' w' => ∃ (st2191 : Int × List Int × Int × Int) (a2192 : Option Addr) (c2193 : Nat), env' = [(0, .pointer (some ⟨b0', 0, none⟩)), (3, .slice a3 (([[104, 101, 101, 108], [104, 97, 108, 102, 45, 115, 111, 108, 101], [119, 101, 108, 116], [108, 105, 110, 105, 110, 103], [112, 97, 116, 99, 104], [100, 121, 101], [101, 121, 101, 108, 101, 116, 45, 49], [115, 116, 114, 101, 116, 99, 104]] : List (List UInt8)).length) c4), (4, .slice a1550 st1549.1.length c1551), (5, .int .i64 x23.1), (6, .int .i64 st1549.2.1), (7, .pointer (some ⟨(g1575 10 0).2, 0, none⟩)), (8, .int .i64 st2191.1)] ∧ Below B w w' ∧ B ≤ w'.heap.size ∧ SH w' B (aOwn fInt 2 a2192 c2193 st2191.2.1 :: aBox 48 (g1575 10 0).2 [.string (bs x1595), .slice a2192 st2191.2.1.length c2193, .slice ((g1575 5 0).1) (([] : List Int).length) ((g1575 5 0).2), .int .i64 (wI64 (50 * x1645.1)), .int .i64 0] :: aNest fRepair 48 2 a1550 c1551 st1549.1 :: aBox 82 b0' [.slice a0_code' s_0_code.length c0_code', .int .i64 st2191.2.2.1, .int .u64 st2191.2.2.2] :: aOwn fStr 9 a3 c4 ([[104, 101, 101, 108], [104, 97, 108, 102, 45, 115, 111, 108, 101], [119, 101, 108, 116], [108, 105, 110, 105, 110, 103], [112, 97, 116, 99, 104], [100, 121, 101], [101, 121, 101, 108, 101, 116, 45, 49], [115, 116, 114, 101, 116, 99, 104]] : List (List UInt8)) :: aOwn fInt 2 ((g1575 5 0).1) ((g1575 5 0).2) ([] : List Int) :: L) ∧ loopN (m_spec_l21Draw_l6 n s_0_code) n' st2191 = some t2205) n ⟨(0, ([] : List Int), x1645.2.1, x1645.2.2), _, _, rfl, hb1689, hL1690, (SH.front 5 (SH.front 4 (SH.front 4 (SH.front 4 (SH.front 4 (SH.front 5 hS1688)))))), ht2206⟩ ?_
  rintro n2202 _ w2195 ⟨st2191, a2192, c2193, rfl, hb2196, hL2197, hS2198, hl2199⟩ K2201 hK2201
  obtain ⟨n2203, s2204, rfl, hm, hl2199⟩ := loopN_some hl2199
  unfold m_spec_l21Draw_l6 at hm
  refine WP.seq (fun K2207 hK2207 => ?_)
  refine WP.seq (fun K2208 hK2208 => ?_)
  refine WP.region ?_
  refine WL.runk 2 [0, 3, 4, 5, 6, 7, 8, 30] [(0, .pointer (some ⟨b0', 0, none⟩)), (3, .slice a3 (([[104, 101, 101, 108], [104, 97, 108, 102, 45, 115, 111, 108, 101], [119, 101, 108, 116], [108, 105, 110, 105, 110, 103], [112, 97, 116, 99, 104], [100, 121, 101], [101, 121, 101, 108, 101, 116, 45, 49], [115, 116, 114, 101, 116, 99, 104]] : List (List UInt8)).length) c4), (4, .slice a1550 st1549.1.length c1551), (5, .int .i64 x23.1), (6, .int .i64 st1549.2.1), (7, .pointer (some ⟨(g1575 10 0).2, 0, none⟩)), (8, .int .i64 st2191.1), (30, .bool (decide (st2191.1 < 5)))] (by kernel_rfl) ?_
  refine WL.nil ?_
  refine WQ.then_normal (hK2208 _ _ _ ?_)
  refine WP.cond (decide (st2191.1 < 5)) rfl rfl (fun hc2209 => ?_) (fun hc2209 => ?_)
  · have hm := iteT hm hc2209
    refine WP.skip ?_
    refine WQ.then_normal (hK2207 _ _ _ ?_)
    refine WP.seq (fun K2210 hK2210 => ?_)
    refine WP.block ?_
    refine WP.seq (fun K2211 hK2211 => ?_)
    refine WP.region ?_
    refine WL.runk 1 [0, 3, 4, 5, 6, 7, 8, 33] [(0, .pointer (some ⟨b0', 0, none⟩)), (3, .slice a3 (([[104, 101, 101, 108], [104, 97, 108, 102, 45, 115, 111, 108, 101], [119, 101, 108, 116], [108, 105, 110, 105, 110, 103], [112, 97, 116, 99, 104], [100, 121, 101], [101, 121, 101, 108, 101, 116, 45, 49], [115, 116, 114, 101, 116, 99, 104]] : List (List UInt8)).length) c4), (4, .slice a1550 st1549.1.length c1551), (5, .int .i64 x23.1), (6, .int .i64 st1549.2.1), (7, .pointer (some ⟨(g1575 10 0).2, 0, none⟩)), (8, .int .i64 st2191.1), (33, .pointer (some ⟨b0', 0, none⟩))] (by kernel_rfl) ?_
    obtain ⟨x2212, hx2213, hm⟩ := bindE hm
    refine WL.call 48 #[.pointer (some ⟨b0', 0, none⟩), .int .i64 3] rfl rfl (by kernel_rfl) (c_48 n s_0_code a0_code' c0_code' st2191.2.2.1 st2191.2.2.2 b0' 3 w2195 w0 B (aOwn fInt 2 a2192 c2193 st2191.2.1 :: aBox 48 (g1575 10 0).2 [.string (bs x1595), .slice a2192 st2191.2.1.length c2193, .slice ((g1575 5 0).1) (([] : List Int).length) ((g1575 5 0).2), .int .i64 (wI64 (50 * x1645.1)), .int .i64 0] :: aNest fRepair 48 2 a1550 c1551 st1549.1 :: aOwn fStr 9 a3 c4 ([[104, 101, 101, 108], [104, 97, 108, 102, 45, 115, 111, 108, 101], [119, 101, 108, 116], [108, 105, 110, 105, 110, 103], [112, 97, 116, 99, 104], [100, 121, 101], [101, 121, 101, 108, 101, 116, 45, 49], [115, 116, 114, 101, 116, 99, 104]] : List (List UInt8)) :: aOwn fInt 2 ((g1575 5 0).1) ((g1575 5 0).2) ([] : List Int) :: L) hx2213 (Below.trans hE0 (Below.mono hb2196 hW)) hW hL2197 h0_code hle0_code (SH.front 5 (SH.front 4 (SH.front 4 (SH.front 4 (SH.front 5 (SH.front 5 hS2198))))))) ?_
    rintro _ w2214 ⟨rfl, hB2218, hS2217⟩
    refine ⟨_, rfl, ?_⟩
    have hb2219 : Below B w w2214 := Below.trans hb2196 hB2218
    have hL2220 : B ≤ w2214.heap.size := Nat.le_trans hL2197 hB2218.size
    refine WL.sub [(0, .pointer (some ⟨b0', 0, none⟩)), (3, .slice a3 (([[104, 101, 101, 108], [104, 97, 108, 102, 45, 115, 111, 108, 101], [119, 101, 108, 116], [108, 105, 110, 105, 110, 103], [112, 97, 116, 99, 104], [100, 121, 101], [101, 121, 101, 108, 101, 116, 45, 49], [115, 116, 114, 101, 116, 99, 104]] : List (List UInt8)).length) c4), (4, .slice a1550 st1549.1.length c1551), (5, .int .i64 x23.1), (6, .int .i64 st1549.2.1), (7, .pointer (some ⟨(g1575 10 0).2, 0, none⟩)), (8, .int .i64 st2191.1), (34, .bool x2212.1)] ⟨rfl, rfl, rfl, rfl, rfl, rfl, rfl, rfl, trivial⟩ ?_
    refine WL.nil ?_
    refine WQ.then_normal (hK2211 _ _ _ ?_)
    obtain ⟨x2293, hx2294, hm⟩ := bindE hm
    refine WP.cut (fun env' w' => ∃ (a2295 : Option Addr) (c2296 : Nat), env' = [(0, .pointer (some ⟨b0', 0, none⟩)), (3, .slice a3 (([[104, 101, 101, 108], [104, 97, 108, 102, 45, 115, 111, 108, 101], [119, 101, 108, 116], [108, 105, 110, 105, 110, 103], [112, 97, 116, 99, 104], [100, 121, 101], [101, 121, 101, 108, 101, 116, 45, 49], [115, 116, 114, 101, 116, 99, 104]] : List (List UInt8)).length) c4), (4, .slice a1550 st1549.1.length c1551), (5, .int .i64 x23.1), (6, .int .i64 st1549.2.1), (7, .pointer (some ⟨(g1575 10 0).2, 0, none⟩)), (8, .int .i64 st2191.1)] ∧ Below B w w' ∧ B ≤ w'.heap.size ∧ SH w' B (aOwn fInt 2 a2295 c2296 x2293 :: aBox 82 b0' [.slice a0_code' s_0_code.length c0_code', .int .i64 x2212.2.1, .int .u64 x2212.2.2] :: aBox 48 (g1575 10 0).2 [.string (bs x1595), .slice a2295 x2293.length c2296, .slice ((g1575 5 0).1) (([] : List Int).length) ((g1575 5 0).2), .int .i64 (wI64 (50 * x1645.1)), .int .i64 0] :: aNest fRepair 48 2 a1550 c1551 st1549.1 :: aOwn fStr 9 a3 c4 ([[104, 101, 101, 108], [104, 97, 108, 102, 45, 115, 111, 108, 101], [119, 101, 108, 116], [108, 105, 110, 105, 110, 103], [112, 97, 116, 99, 104], [100, 121, 101], [101, 121, 101, 108, 101, 116, 45, 49], [115, 116, 114, 101, 116, 99, 104]] : List (List UInt8)) :: aOwn fInt 2 ((g1575 5 0).1) ((g1575 5 0).2) ([] : List Int) :: L)) ?_ ?_
    rotate_left
    · clear hx2294
      rintro _ w2321 ⟨a2295, c2296, rfl, hb2322, hL2323, hS2324⟩
      refine WQ.block_normal ?_
      refine WQ.then_normal (hK2210 _ _ _ ?_)
      refine WP.region ?_
      refine WL.runk 3 [0, 3, 4, 5, 6, 7, 8] [(0, .pointer (some ⟨b0', 0, none⟩)), (3, .slice a3 (([[104, 101, 101, 108], [104, 97, 108, 102, 45, 115, 111, 108, 101], [119, 101, 108, 116], [108, 105, 110, 105, 110, 103], [112, 97, 116, 99, 104], [100, 121, 101], [101, 121, 101, 108, 101, 116, 45, 49], [115, 116, 114, 101, 116, 99, 104]] : List (List UInt8)).length) c4), (4, .slice a1550 st1549.1.length c1551), (5, .int .i64 x23.1), (6, .int .i64 st1549.2.1), (7, .pointer (some ⟨(g1575 10 0).2, 0, none⟩)), (8, .int .i64 (wI64 (st2191.1 + 1)))] (by kernel_rfl) ?_
      refine WL.nil ?_
      obtain rfl := Option.some.inj hm
      exact WQ.round hK2201 ⟨((wI64 (st2191.1 + 1)), x2293, x2212.2.1, x2212.2.2), _, _, rfl, hb2322, hL2323, (SH.front 5 (SH.front 5 (SH.front 5 (SH.front 3 (SH.front 5 (SH.front 5 hS2324)))))), hl2199⟩ (Nat.lt_succ_self _) ⟨rfl, rfl, rfl, rfl, rfl, rfl, rfl, trivial⟩
    have hm := hx2294; clear hx2294
    refine WP.cond x2212.1 rfl rfl (fun hc2221 => ?_) (fun hc2221 => ?_)
    rotate_left
    · have hm := iteF hm hc2221
      refine WP.skip ?_
      obtain rfl := Option.some.inj hm
      exact WQ.post' ⟨_, _, rfl, hb2219, hL2220, (SH.front 5 (SH.front 4 (SH.front 5 (SH.front 5 (SH.front 5 (SH.front 5 hS2217))))))⟩ ⟨rfl, rfl, rfl, rfl, rfl, rfl, rfl, trivial⟩
    have hm := iteT hm hc2221
    refine WP.region ?_
    refine WL.runk 1 [0, 3, 4, 5, 6, 7, 8, 35] [(0, .pointer (some ⟨b0', 0, none⟩)), (3, .slice a3 (([[104, 101, 101, 108], [104, 97, 108, 102, 45, 115, 111, 108, 101], [119, 101, 108, 116], [108, 105, 110, 105, 110, 103], [112, 97, 116, 99, 104], [100, 121, 101], [101, 121, 101, 108, 101, 116, 45, 49], [115, 116, 114, 101, 116, 99, 104]] : List (List UInt8)).length) c4), (4, .slice a1550 st1549.1.length c1551), (5, .int .i64 x23.1), (6, .int .i64 st1549.2.1), (7, .pointer (some ⟨(g1575 10 0).2, 0, none⟩)), (8, .int .i64 st2191.1), (35, .pointer (some ⟨(g1575 10 0).2, 1, none⟩))] (by kernel_rfl) ?_
    refine WL.st (.slice a2192 st2191.2.1.length c2193) (ST.load (cell_ext (SH.boxAt (SH.front 2 hS2217) 1 _ rfl)) rfl rfl Tryz.underlying25 rfl) rfl rfl rfl ?_
    refine WL.runk 1 [0, 3, 4, 5, 6, 7, 8, 36, 37] [(0, .pointer (some ⟨b0', 0, none⟩)), (3, .slice a3 (([[104, 101, 101, 108], [104, 97, 108, 102, 45, 115, 111, 108, 101], [119, 101, 108, 116], [108, 105, 110, 105, 110, 103], [112, 97, 116, 99, 104], [100, 121, 101], [101, 121, 101, 108, 101, 116, 45, 49], [115, 116, 114, 101, 116, 99, 104]] : List (List UInt8)).length) c4), (4, .slice a1550 st1549.1.length c1551), (5, .int .i64 x23.1), (6, .int .i64 st1549.2.1), (7, .pointer (some ⟨(g1575 10 0).2, 0, none⟩)), (8, .int .i64 st2191.1), (36, .slice a2192 st2191.2.1.length c2193), (37, .int .i64 st2191.1)] (by kernel_rfl) ?_
    refine WL.row fInt 2 ([st2191.1] : List Int) 1 #[.int .i64 st2191.1] 38 (by kernel_rfl) rfl rfl rfl rfl rfl rfl rfl ?_
    intro a2298 c2299 w2300 hE2301 hR2302
    have hb2304 : Below B w w2300 := Below.trans hb2219 (Below.mono hE2301 hL2220)
    have hL2305 : B ≤ w2300.heap.size := Nat.le_trans hL2220 hE2301.size
    have hS2306 : SH w2300 B (aOwn fInt 2 a2298 c2299 ([st2191.1] : List Int) :: aBox 82 b0' [.slice a0_code' s_0_code.length c0_code', .int .i64 x2212.2.1, .int .u64 x2212.2.2] :: aOwn fInt 2 a2192 c2193 st2191.2.1 :: aBox 48 (g1575 10 0).2 [.string (bs x1595), .slice a2192 st2191.2.1.length c2193, .slice ((g1575 5 0).1) (([] : List Int).length) ((g1575 5 0).2), .int .i64 (wI64 (50 * x1645.1)), .int .i64 0] :: aNest fRepair 48 2 a1550 c1551 st1549.1 :: aOwn fStr 9 a3 c4 ([[104, 101, 101, 108], [104, 97, 108, 102, 45, 115, 111, 108, 101], [119, 101, 108, 116], [108, 105, 110, 105, 110, 103], [112, 97, 116, 99, 104], [100, 121, 101], [101, 121, 101, 108, 101, 116, 45, 49], [115, 116, 114, 101, 116, 99, 104]] : List (List UInt8)) :: aOwn fInt 2 ((g1575 5 0).1) ((g1575 5 0).2) ([] : List Int) :: L) := SH.add hS2217 hE2301 hL2220 hR2302
    obtain ⟨x2307, hx2308, hm⟩ := bindE hm
    refine WL.append (F := fInt) (xs := st2191.2.1) (ys := ([st2191.1] : List Int)) 39 (SH.front 2 hS2306) hL2305 (SH.rd (SH.front 0 hS2306)) hx2308 rfl rfl rfl Tryz.underlying25 (info2).1 (info2).2.2.1 (info2).2.1 (info2).2.2.2 rfl rfl rfl rfl rfl ?_
    intro a2309 c2310 w2311 hB2312 hS2313
    have hb2314 : Below B w w2311 := Below.trans hb2304 hB2312
    have hL2315 : B ≤ w2311.heap.size := Nat.le_trans hL2305 hB2312.size
    refine WL.runk 1 [0, 3, 4, 5, 6, 7, 8, 39, 40] [(0, .pointer (some ⟨b0', 0, none⟩)), (3, .slice a3 (([[104, 101, 101, 108], [104, 97, 108, 102, 45, 115, 111, 108, 101], [119, 101, 108, 116], [108, 105, 110, 105, 110, 103], [112, 97, 116, 99, 104], [100, 121, 101], [101, 121, 101, 108, 101, 116, 45, 49], [115, 116, 114, 101, 116, 99, 104]] : List (List UInt8)).length) c4), (4, .slice a1550 st1549.1.length c1551), (5, .int .i64 x23.1), (6, .int .i64 st1549.2.1), (7, .pointer (some ⟨(g1575 10 0).2, 0, none⟩)), (8, .int .i64 st2191.1), (39, .slice a2309 x2307.length c2310), (40, .pointer (some ⟨(g1575 10 0).2, 1, none⟩))] (by kernel_rfl) ?_
    refine WL.boxStore 1 [.slice a2309 x2307.length c2310] [.string (bs x1595), .slice a2309 x2307.length c2310, .slice ((g1575 5 0).1) (([] : List Int).length) ((g1575 5 0).2), .int .i64 (wI64 (50 * x1645.1)), .int .i64 0] (SH.front 3 hS2313) hL2315 rfl rfl rfl rfl rfl rfl rfl (info25).1 (info25).2.1 rfl rfl rfl ?_
    intro w2316 hB2317 hS2318
    have hb2319 : Below B w w2316 := Below.trans hb2314 hB2317
    have hL2320 : B ≤ w2316.heap.size := Nat.le_trans hL2315 hB2317.size
    refine WL.sub [(0, .pointer (some ⟨b0', 0, none⟩)), (3, .slice a3 (([[104, 101, 101, 108], [104, 97, 108, 102, 45, 115, 111, 108, 101], [119, 101, 108, 116], [108, 105, 110, 105, 110, 103], [112, 97, 116, 99, 104], [100, 121, 101], [101, 121, 101, 108, 101, 116, 45, 49], [115, 116, 114, 101, 116, 99, 104]] : List (List UInt8)).length) c4), (4, .slice a1550 st1549.1.length c1551), (5, .int .i64 x23.1), (6, .int .i64 st1549.2.1), (7, .pointer (some ⟨(g1575 10 0).2, 0, none⟩)), (8, .int .i64 st2191.1)] ⟨rfl, rfl, rfl, rfl, rfl, rfl, rfl, trivial⟩ ?_
    refine WL.nil ?_
    obtain rfl := Option.some.inj hm
    exact WQ.post' ⟨_, _, rfl, hb2319, hL2320, (SH.cutOut 6 1 (SH.front 5 (SH.front 6 (SH.front 3 (SH.front 6 (SH.front 6 (SH.front 6 hS2318)))))))⟩ ⟨rfl, rfl, rfl, rfl, rfl, rfl, rfl, trivial⟩
  have hm := iteF hm hc2209
  refine WP.exit ?_
  refine WQ.then_exit ?_
  refine WQ.then_exit ?_
  refine WQ.block_here ?_
  obtain rfl := Option.some.inj hm
  obtain rfl := afterN_done hl2199
  have hm := hmo2200
  refine WQ.then_normal (hK1691 _ _ _ ?_)
  refine WP.seq (fun K2325 hK2325 => ?_)
  refine WP.seq (fun K2326 hK2326 => ?_)
  refine WP.region ?_
  refine WL.runk 1 [0, 3, 4, 5, 6, 7, 9] [(0, .pointer (some ⟨b0', 0, none⟩)), (3, .slice a3 (([[104, 101, 101, 108], [104, 97, 108, 102, 45, 115, 111, 108, 101], [119, 101, 108, 116], [108, 105, 110, 105, 110, 103], [112, 97, 116, 99, 104], [100, 121, 101], [101, 121, 101, 108, 101, 116, 45, 49], [115, 116, 114, 101, 116, 99, 104]] : List (List UInt8)).length) c4), (4, .slice a1550 st1549.1.length c1551), (5, .int .i64 x23.1), (6, .int .i64 st1549.2.1), (7, .pointer (some ⟨(g1575 10 0).2, 0, none⟩)), (9, .int .i64 0)] (by kernel_rfl) ?_
  refine WL.nil ?_
  refine WQ.then_normal (hK2326 _ _ _ ?_)
  refine WP.block ?_
  obtain ⟨t2504, ht2505, hm⟩ := bindE hm
  have hmo2499 := hm; clear hm
  refine WP.sub [(0, .pointer (some ⟨b0', 0, none⟩)), (3, .slice a3 (([[104, 101, 101, 108], [104, 97, 108, 102, 45, 115, 111, 108, 101], [119, 101, 108, 116], [108, 105, 110, 105, 110, 103], [112, 97, 116, 99, 104], [100, 121, 101], [101, 121, 101, 108, 101, 116, 45, 49], [115, 116, 114, 101, 116, 99, 104]] : List (List UInt8)).length) c4), (4, .slice a1550 st1549.1.length c1551), (5, .int .i64 x23.1), (6, .int .i64 st1549.2.1), (7, .pointer (some ⟨(g1575 10 0).2, 0, none⟩)), (9, .int .i64 0)] ⟨rfl, rfl, rfl, rfl, rfl, rfl, rfl, trivial⟩ ?_
  refine WP.loop (fun n' env' w' => ∃ (st2490 : Int × List Int × Int × Int) (a2491 : Option Addr) (c2492 : Nat), env' = [(0, .pointer (some ⟨b0', 0, none⟩)), (3, .slice a3 (([[104, 101, 101, 108], [104, 97, 108, 102, 45, 115, 111, 108, 101], [119, 101, 108, 116], [108, 105, 110, 105, 110, 103], [112, 97, 116, 99, 104], [100, 121, 101], [101, 121, 101, 108, 101, 116, 45, 49], [115, 116, 114, 101, 116, 99, 104]] : List (List UInt8)).length) c4), (4, .slice a1550 st1549.1.length c1551), (5, .int .i64 x23.1), (6, .int .i64 st1549.2.1), (7, .pointer (some ⟨(g1575 10 0).2, 0, none⟩)), (9, .int .i64 st2490.1)] ∧ Below B w w' ∧ B ≤ w'.heap.size ∧ SH w' B (aOwn fInt 2 a2491 c2492 st2490.2.1 :: aOwn fInt 2 a2192 c2193 st2191.2.1 :: aBox 48 (g1575 10 0).2 [.string (bs x1595), .slice a2192 st2191.2.1.length c2193, .slice a2491 st2490.2.1.length c2492, .int .i64 (wI64 (50 * x1645.1)), .int .i64 0] :: aNest fRepair 48 2 a1550 c1551 st1549.1 :: aBox 82 b0' [.slice a0_code' s_0_code.length c0_code', .int .i64 st2490.2.2.1, .int .u64 st2490.2.2.2] :: aOwn fStr 9 a3 c4 ([[104, 101, 101, 108], [104, 97, 108, 102, 45, 115, 111, 108, 101], [119, 101, 108, 116], [108, 105, 110, 105, 110, 103], [112, 97, 116, 99, 104], [100, 121, 101], [101, 121, 101, 108, 101, 116, 45, 49], [115, 116, 114, 101, 116, 99, 104]] : List (List UInt8)) :: L) ∧ loopN (m_spec_l21Draw_l8 n s_0_code st1549) n' st2490 = some t2504) n ⟨(0, ([] : List Int), st2191.2.2.1, st2191.2.2.2), _, _, rfl, hb2196, hL2197, (SH.front 5 (SH.front 4 (SH.front 4 (SH.front 4 (SH.front 4 (SH.front 4 hS2198)))))), ht2505⟩ ?_
  rintro n2501 _ w2494 ⟨st2490, a2491, c2492, rfl, hb2495, hL2496, hS2497, hl2498⟩ K2500 hK2500
  obtain ⟨n2502, s2503, rfl, hm, hl2498⟩ := loopN_some hl2498
  unfold m_spec_l21Draw_l8 at hm
  refine WP.seq (fun K2506 hK2506 => ?_)
  refine WP.seq (fun K2507 hK2507 => ?_)
  refine WP.region ?_
  refine WL.runk 3 [0, 3, 4, 5, 6, 7, 9, 43] [(0, .pointer (some ⟨b0', 0, none⟩)), (3, .slice a3 (([[104, 101, 101, 108], [104, 97, 108, 102, 45, 115, 111, 108, 101], [119, 101, 108, 116], [108, 105, 110, 105, 110, 103], [112, 97, 116, 99, 104], [100, 121, 101], [101, 121, 101, 108, 101, 116, 45, 49], [115, 116, 114, 101, 116, 99, 104]] : List (List UInt8)).length) c4), (4, .slice a1550 st1549.1.length c1551), (5, .int .i64 x23.1), (6, .int .i64 st1549.2.1), (7, .pointer (some ⟨(g1575 10 0).2, 0, none⟩)), (9, .int .i64 st2490.1), (43, .bool (decide (st2490.1 < st1549.2.1)))] (by kernel_rfl) ?_
  refine WL.nil ?_
  refine WQ.then_normal (hK2507 _ _ _ ?_)
  refine WP.cond (decide (st2490.1 < st1549.2.1)) rfl rfl (fun hc2508 => ?_) (fun hc2508 => ?_)
  rotate_left
  · have hm := iteF hm hc2508
    refine WP.exit ?_
    refine WQ.then_exit ?_
    refine WQ.then_exit ?_
    refine WQ.block_here ?_
    obtain rfl := Option.some.inj hm
    obtain rfl := afterN_done hl2498
    have hm := hmo2499
    refine WQ.then_normal (hK2325 _ _ _ ?_)
    refine WP.seq (fun K2624 hK2624 => ?_)
    refine WP.region ?_
    refine WL.runk 1 [0, 3, 4, 5, 6, 7, 54] [(0, .pointer (some ⟨b0', 0, none⟩)), (3, .slice a3 (([[104, 101, 101, 108], [104, 97, 108, 102, 45, 115, 111, 108, 101], [119, 101, 108, 116], [108, 105, 110, 105, 110, 103], [112, 97, 116, 99, 104], [100, 121, 101], [101, 121, 101, 108, 101, 116, 45, 49], [115, 116, 114, 101, 116, 99, 104]] : List (List UInt8)).length) c4), (4, .slice a1550 st1549.1.length c1551), (5, .int .i64 x23.1), (6, .int .i64 st1549.2.1), (7, .pointer (some ⟨(g1575 10 0).2, 0, none⟩)), (54, .pointer (some ⟨b0', 0, none⟩))] (by kernel_rfl) ?_
    obtain ⟨x2625, hx2626, hm⟩ := bindE hm
    refine WL.call 50 #[.pointer (some ⟨b0', 0, none⟩), .int .i64 9] rfl rfl (by kernel_rfl) (c_50 n s_0_code a0_code' c0_code' st2490.2.2.1 st2490.2.2.2 b0' 9 w2494 w0 B (aOwn fInt 2 a2491 c2492 st2490.2.1 :: aOwn fInt 2 a2192 c2193 st2191.2.1 :: aBox 48 (g1575 10 0).2 [.string (bs x1595), .slice a2192 st2191.2.1.length c2193, .slice a2491 st2490.2.1.length c2492, .int .i64 (wI64 (50 * x1645.1)), .int .i64 0] :: aNest fRepair 48 2 a1550 c1551 st1549.1 :: aOwn fStr 9 a3 c4 ([[104, 101, 101, 108], [104, 97, 108, 102, 45, 115, 111, 108, 101], [119, 101, 108, 116], [108, 105, 110, 105, 110, 103], [112, 97, 116, 99, 104], [100, 121, 101], [101, 121, 101, 108, 101, 116, 45, 49], [115, 116, 114, 101, 116, 99, 104]] : List (List UInt8)) :: L) hx2626 (Below.trans hE0 (Below.mono hb2495 hW)) hW hL2496 h0_code hle0_code (SH.front 5 (SH.front 4 (SH.front 4 (SH.front 4 (SH.front 4 (SH.front 5 hS2497))))))) ?_
    rintro _ w2627 ⟨rfl, hB2631, hS2630⟩
    refine ⟨_, rfl, ?_⟩
    have hb2632 : Below B w w2627 := Below.trans hb2495 hB2631
    have hL2633 : B ≤ w2627.heap.size := Nat.le_trans hL2496 hB2631.size
    refine WL.runk 1 [0, 3, 4, 5, 6, 7, 55, 56] [(0, .pointer (some ⟨b0', 0, none⟩)), (3, .slice a3 (([[104, 101, 101, 108], [104, 97, 108, 102, 45, 115, 111, 108, 101], [119, 101, 108, 116], [108, 105, 110, 105, 110, 103], [112, 97, 116, 99, 104], [100, 121, 101], [101, 121, 101, 108, 101, 116, 45, 49], [115, 116, 114, 101, 116, 99, 104]] : List (List UInt8)).length) c4), (4, .slice a1550 st1549.1.length c1551), (5, .int .i64 x23.1), (6, .int .i64 st1549.2.1), (7, .pointer (some ⟨(g1575 10 0).2, 0, none⟩)), (55, .int .i64 x2625.1), (56, .pointer (some ⟨(g1575 10 0).2, 4, none⟩))] (by kernel_rfl) ?_
    refine WL.boxStore 4 [.int .i64 x2625.1] [.string (bs x1595), .slice a2192 st2191.2.1.length c2193, .slice a2491 st2490.2.1.length c2492, .int .i64 (wI64 (50 * x1645.1)), .int .i64 x2625.1] (SH.front 3 hS2630) hL2633 rfl rfl rfl rfl rfl rfl rfl (info2).1 (info2).2.1 rfl rfl rfl ?_
    intro w2634 hB2635 hS2636
    have hb2637 : Below B w w2634 := Below.trans hb2632 hB2635
    have hL2638 : B ≤ w2634.heap.size := Nat.le_trans hL2633 hB2635.size
    refine WL.sub [(0, .pointer (some ⟨b0', 0, none⟩)), (3, .slice a3 (([[104, 101, 101, 108], [104, 97, 108, 102, 45, 115, 111, 108, 101], [119, 101, 108, 116], [108, 105, 110, 105, 110, 103], [112, 97, 116, 99, 104], [100, 121, 101], [101, 121, 101, 108, 101, 116, 45, 49], [115, 116, 114, 101, 116, 99, 104]] : List (List UInt8)).length) c4), (4, .slice a1550 st1549.1.length c1551), (5, .int .i64 x23.1), (6, .int .i64 st1549.2.1), (7, .pointer (some ⟨(g1575 10 0).2, 0, none⟩))] ⟨rfl, rfl, rfl, rfl, rfl, rfl, trivial⟩ ?_
    refine WL.nil ?_
    refine WQ.then_normal (hK2624 _ _ _ ?_)
    refine WP.region ?_
    refine WL.runk 1 [0, 3, 5, 6, 7, 57] [(0, .pointer (some ⟨b0', 0, none⟩)), (3, .slice a3 (([[104, 101, 101, 108], [104, 97, 108, 102, 45, 115, 111, 108, 101], [119, 101, 108, 116], [108, 105, 110, 105, 110, 103], [112, 97, 116, 99, 104], [100, 121, 101], [101, 121, 101, 108, 101, 116, 45, 49], [115, 116, 114, 101, 116, 99, 104]] : List (List UInt8)).length) c4), (5, .int .i64 x23.1), (6, .int .i64 st1549.2.1), (7, .pointer (some ⟨(g1575 10 0).2, 0, none⟩)), (57, .slice a1550 st1549.1.length c1551)] (by kernel_rfl) ?_
    refine WL.st (.agg #[.string (bs x1595), .slice a2192 st2191.2.1.length c2193, .slice a2491 st2490.2.1.length c2492, .int .i64 (wI64 (50 * x1645.1)), .int .i64 x2625.1]) (ST.loadAgg (vs := [.string (bs x1595), .slice a2192 st2191.2.1.length c2193, .slice a2491 st2490.2.1.length c2492, .int .i64 (wI64 (50 * x1645.1)), .int .i64 x2625.1]) (fun j v hv => SH.boxPart (us := [.string (bs x1595), .slice a2192 st2191.2.1.length c2193, .slice a2491 st2490.2.1.length c2492, .int .i64 (wI64 (50 * x1645.1)), .int .i64 x2625.1]) (SH.front 0 hS2636) 0 rfl j v hv) rfl rfl rfl Tryz.underlying48 rfl (info48).1 (info48).2.1) rfl rfl rfl ?_
    refine WL.row1N (ei := 2) fRepair 48 (I := [aOwn fInt 2 a2192 c2193 st2191.2.1, aOwn fInt 2 a2491 c2492 st2490.2.1]) (SRepair.mk x1595 st2191.2.1 st2490.2.1 (wI64 (50 * x1645.1)) x2625.1) [.string (bs x1595), .slice a2192 st2191.2.1.length c2193, .slice a2491 st2490.2.1.length c2492, .int .i64 (wI64 (50 * x1645.1)), .int .i64 x2625.1] (.val (Fit.row' rfl (Fit.row' rfl (.val (.val .nil))))) 59 (SH.front 5 (SH.front 4 (SH.front 3 (SH.front 3 (SH.front 5 (SH.front 5 hS2636)))))) hL2638 (by kernel_rfl) rfl rfl rfl rfl ?_
    intro a2639 c2640 w2641 hB2642 hS2643
    have hb2645 : Below B w w2641 := Below.trans hb2637 hB2642
    have hL2646 : B ≤ w2641.heap.size := Nat.le_trans hL2638 hB2642.size
    obtain ⟨x2647, hx2648, hm⟩ := bindE hm
    refine WL.appendN (F := fRepair) (ei := 2) (xs := st1549.1) (ys := ([(SRepair.mk x1595 st2191.2.1 st2490.2.1 (wI64 (50 * x1645.1)) x2625.1)] : List SRepair)) 60 (SH.front 4 (SH.front 3 (SH.front 3 (SH.front 3 (SH.front 4 hS2643))))) hL2646 hx2648 rfl rfl rfl Tryz.underlying24 (info48).1 (info48).2.2.1 (info48).2.1 (info48).2.2.2 rfl rfl rfl rfl rfl ?_
    intro a2649 c2650 w2651 hB2652 hS2653
    have hb2654 : Below B w w2651 := Below.trans hb2645 hB2652
    have hL2655 : B ≤ w2651.heap.size := Nat.le_trans hL2646 hB2652.size
    refine WL.runk 1 [0, 3, 4, 5, 6] [(0, .pointer (some ⟨b0', 0, none⟩)), (3, .slice a3 (([[104, 101, 101, 108], [104, 97, 108, 102, 45, 115, 111, 108, 101], [119, 101, 108, 116], [108, 105, 110, 105, 110, 103], [112, 97, 116, 99, 104], [100, 121, 101], [101, 121, 101, 108, 101, 116, 45, 49], [115, 116, 114, 101, 116, 99, 104]] : List (List UInt8)).length) c4), (5, .int .i64 x23.1), (6, .int .i64 st1549.2.1), (4, .slice a2649 x2647.length c2650)] (by kernel_rfl) ?_
    refine WL.nil ?_
    refine WQ.block_normal ?_
    refine WQ.then_normal (hK1568 _ _ _ ?_)
    refine WP.region ?_
    refine WL.runk 3 [0, 3, 4, 5, 6] [(0, .pointer (some ⟨b0', 0, none⟩)), (3, .slice a3 (([[104, 101, 101, 108], [104, 97, 108, 102, 45, 115, 111, 108, 101], [119, 101, 108, 116], [108, 105, 110, 105, 110, 103], [112, 97, 116, 99, 104], [100, 121, 101], [101, 121, 101, 108, 101, 116, 45, 49], [115, 116, 114, 101, 116, 99, 104]] : List (List UInt8)).length) c4), (5, .int .i64 x23.1), (6, .int .i64 (wI64 (st1549.2.1 + 1))), (4, .slice a2649 x2647.length c2650)] (by kernel_rfl) ?_
    refine WL.nil ?_
    obtain rfl := Option.some.inj hm
    exact WQ.round hK1559 ⟨(x2647, (wI64 (st1549.2.1 + 1)), x2625.2.1, x2625.2.2), _, _, rfl, hb2654, hL2655, (SH.cutOut 3 1 (SH.front 2 (SH.front 3 (SH.front 3 hS2653)))), hl1557⟩ (Nat.lt_succ_self _) ⟨rfl, rfl, rfl, rfl, rfl, trivial⟩
  have hm := iteT hm hc2508
  refine WP.skip ?_
  refine WQ.then_normal (hK2506 _ _ _ ?_)
  refine WP.seq (fun K2509 hK2509 => ?_)
  refine WP.block ?_
  refine WP.seq (fun K2510 hK2510 => ?_)
  refine WP.region ?_
  refine WL.runk 1 [0, 3, 4, 5, 6, 7, 9, 46] [(0, .pointer (some ⟨b0', 0, none⟩)), (3, .slice a3 (([[104, 101, 101, 108], [104, 97, 108, 102, 45, 115, 111, 108, 101], [119, 101, 108, 116], [108, 105, 110, 105, 110, 103], [112, 97, 116, 99, 104], [100, 121, 101], [101, 121, 101, 108, 101, 116, 45, 49], [115, 116, 114, 101, 116, 99, 104]] : List (List UInt8)).length) c4), (4, .slice a1550 st1549.1.length c1551), (5, .int .i64 x23.1), (6, .int .i64 st1549.2.1), (7, .pointer (some ⟨(g1575 10 0).2, 0, none⟩)), (9, .int .i64 st2490.1), (46, .pointer (some ⟨b0', 0, none⟩))] (by kernel_rfl) ?_
  obtain ⟨x2511, hx2512, hm⟩ := bindE hm
  refine WL.call 48 #[.pointer (some ⟨b0', 0, none⟩), .int .i64 5] rfl rfl (by kernel_rfl) (c_48 n s_0_code a0_code' c0_code' st2490.2.2.1 st2490.2.2.2 b0' 5 w2494 w0 B (aOwn fInt 2 a2491 c2492 st2490.2.1 :: aOwn fInt 2 a2192 c2193 st2191.2.1 :: aBox 48 (g1575 10 0).2 [.string (bs x1595), .slice a2192 st2191.2.1.length c2193, .slice a2491 st2490.2.1.length c2492, .int .i64 (wI64 (50 * x1645.1)), .int .i64 0] :: aNest fRepair 48 2 a1550 c1551 st1549.1 :: aOwn fStr 9 a3 c4 ([[104, 101, 101, 108], [104, 97, 108, 102, 45, 115, 111, 108, 101], [119, 101, 108, 116], [108, 105, 110, 105, 110, 103], [112, 97, 116, 99, 104], [100, 121, 101], [101, 121, 101, 108, 101, 116, 45, 49], [115, 116, 114, 101, 116, 99, 104]] : List (List UInt8)) :: L) hx2512 (Below.trans hE0 (Below.mono hb2495 hW)) hW hL2496 h0_code hle0_code (SH.front 5 (SH.front 4 (SH.front 4 (SH.front 4 (SH.front 4 (SH.front 5 hS2497))))))) ?_
  rintro _ w2513 ⟨rfl, hB2517, hS2516⟩
  refine ⟨_, rfl, ?_⟩
  have hb2518 : Below B w w2513 := Below.trans hb2495 hB2517
  have hL2519 : B ≤ w2513.heap.size := Nat.le_trans hL2496 hB2517.size
  refine WL.sub [(0, .pointer (some ⟨b0', 0, none⟩)), (3, .slice a3 (([[104, 101, 101, 108], [104, 97, 108, 102, 45, 115, 111, 108, 101], [119, 101, 108, 116], [108, 105, 110, 105, 110, 103], [112, 97, 116, 99, 104], [100, 121, 101], [101, 121, 101, 108, 101, 116, 45, 49], [115, 116, 114, 101, 116, 99, 104]] : List (List UInt8)).length) c4), (4, .slice a1550 st1549.1.length c1551), (5, .int .i64 x23.1), (6, .int .i64 st1549.2.1), (7, .pointer (some ⟨(g1575 10 0).2, 0, none⟩)), (9, .int .i64 st2490.1), (47, .bool x2511.1)] ⟨rfl, rfl, rfl, rfl, rfl, rfl, rfl, rfl, trivial⟩ ?_
  refine WL.nil ?_
  refine WQ.then_normal (hK2510 _ _ _ ?_)
  obtain ⟨x2592, hx2593, hm⟩ := bindE hm
  refine WP.cut (fun env' w' => ∃ (a2594 : Option Addr) (c2595 : Nat), env' = [(0, .pointer (some ⟨b0', 0, none⟩)), (3, .slice a3 (([[104, 101, 101, 108], [104, 97, 108, 102, 45, 115, 111, 108, 101], [119, 101, 108, 116], [108, 105, 110, 105, 110, 103], [112, 97, 116, 99, 104], [100, 121, 101], [101, 121, 101, 108, 101, 116, 45, 49], [115, 116, 114, 101, 116, 99, 104]] : List (List UInt8)).length) c4), (4, .slice a1550 st1549.1.length c1551), (5, .int .i64 x23.1), (6, .int .i64 st1549.2.1), (7, .pointer (some ⟨(g1575 10 0).2, 0, none⟩)), (9, .int .i64 st2490.1)] ∧ Below B w w' ∧ B ≤ w'.heap.size ∧ SH w' B (aOwn fInt 2 a2594 c2595 x2592 :: aBox 82 b0' [.slice a0_code' s_0_code.length c0_code', .int .i64 x2511.2.1, .int .u64 x2511.2.2] :: aOwn fInt 2 a2192 c2193 st2191.2.1 :: aBox 48 (g1575 10 0).2 [.string (bs x1595), .slice a2192 st2191.2.1.length c2193, .slice a2594 x2592.length c2595, .int .i64 (wI64 (50 * x1645.1)), .int .i64 0] :: aNest fRepair 48 2 a1550 c1551 st1549.1 :: aOwn fStr 9 a3 c4 ([[104, 101, 101, 108], [104, 97, 108, 102, 45, 115, 111, 108, 101], [119, 101, 108, 116], [108, 105, 110, 105, 110, 103], [112, 97, 116, 99, 104], [100, 121, 101], [101, 121, 101, 108, 101, 116, 45, 49], [115, 116, 114, 101, 116, 99, 104]] : List (List UInt8)) :: L)) ?_ ?_
  rotate_left
  · clear hx2593
    rintro _ w2620 ⟨a2594, c2595, rfl, hb2621, hL2622, hS2623⟩
    refine WQ.block_normal ?_
    refine WQ.then_normal (hK2509 _ _ _ ?_)
    refine WP.region ?_
    refine WL.runk 3 [0, 3, 4, 5, 6, 7, 9] [(0, .pointer (some ⟨b0', 0, none⟩)), (3, .slice a3 (([[104, 101, 101, 108], [104, 97, 108, 102, 45, 115, 111, 108, 101], [119, 101, 108, 116], [108, 105, 110, 105, 110, 103], [112, 97, 116, 99, 104], [100, 121, 101], [101, 121, 101, 108, 101, 116, 45, 49], [115, 116, 114, 101, 116, 99, 104]] : List (List UInt8)).length) c4), (4, .slice a1550 st1549.1.length c1551), (5, .int .i64 x23.1), (6, .int .i64 st1549.2.1), (7, .pointer (some ⟨(g1575 10 0).2, 0, none⟩)), (9, .int .i64 (wI64 (st2490.1 + 1)))] (by kernel_rfl) ?_
    refine WL.nil ?_
    obtain rfl := Option.some.inj hm
    exact WQ.round hK2500 ⟨((wI64 (st2490.1 + 1)), x2592, x2511.2.1, x2511.2.2), _, _, rfl, hb2621, hL2622, (SH.front 5 (SH.front 5 (SH.front 5 (SH.front 5 (SH.front 2 (SH.front 5 hS2623)))))), hl2498⟩ (Nat.lt_succ_self _) ⟨rfl, rfl, rfl, rfl, rfl, rfl, rfl, trivial⟩
  have hm := hx2593; clear hx2593
  refine WP.cond x2511.1 rfl rfl (fun hc2520 => ?_) (fun hc2520 => ?_)
  rotate_left
  · have hm := iteF hm hc2520
    refine WP.skip ?_
    obtain rfl := Option.some.inj hm
    exact WQ.post' ⟨_, _, rfl, hb2518, hL2519, (SH.front 5 (SH.front 4 (SH.front 5 (SH.front 5 (SH.front 5 (SH.front 5 hS2516))))))⟩ ⟨rfl, rfl, rfl, rfl, rfl, rfl, rfl, trivial⟩
  have hm := iteT hm hc2520
  refine WP.region ?_
  refine WL.runk 1 [0, 3, 4, 5, 6, 7, 9, 48] [(0, .pointer (some ⟨b0', 0, none⟩)), (3, .slice a3 (([[104, 101, 101, 108], [104, 97, 108, 102, 45, 115, 111, 108, 101], [119, 101, 108, 116], [108, 105, 110, 105, 110, 103], [112, 97, 116, 99, 104], [100, 121, 101], [101, 121, 101, 108, 101, 116, 45, 49], [115, 116, 114, 101, 116, 99, 104]] : List (List UInt8)).length) c4), (4, .slice a1550 st1549.1.length c1551), (5, .int .i64 x23.1), (6, .int .i64 st1549.2.1), (7, .pointer (some ⟨(g1575 10 0).2, 0, none⟩)), (9, .int .i64 st2490.1), (48, .pointer (some ⟨(g1575 10 0).2, 2, none⟩))] (by kernel_rfl) ?_
  refine WL.st (.slice a2491 st2490.2.1.length c2492) (ST.load (cell_ext (SH.boxAt (SH.front 3 hS2516) 2 _ rfl)) rfl rfl Tryz.underlying25 rfl) rfl rfl rfl ?_
  refine WL.runk 1 [0, 3, 4, 5, 6, 7, 9, 49, 50] [(0, .pointer (some ⟨b0', 0, none⟩)), (3, .slice a3 (([[104, 101, 101, 108], [104, 97, 108, 102, 45, 115, 111, 108, 101], [119, 101, 108, 116], [108, 105, 110, 105, 110, 103], [112, 97, 116, 99, 104], [100, 121, 101], [101, 121, 101, 108, 101, 116, 45, 49], [115, 116, 114, 101, 116, 99, 104]] : List (List UInt8)).length) c4), (4, .slice a1550 st1549.1.length c1551), (5, .int .i64 x23.1), (6, .int .i64 st1549.2.1), (7, .pointer (some ⟨(g1575 10 0).2, 0, none⟩)), (9, .int .i64 st2490.1), (49, .slice a2491 st2490.2.1.length c2492), (50, .int .i64 st2490.1)] (by kernel_rfl) ?_
  refine WL.row fInt 2 ([st2490.1] : List Int) 1 #[.int .i64 st2490.1] 51 (by kernel_rfl) rfl rfl rfl rfl rfl rfl rfl ?_
  intro a2597 c2598 w2599 hE2600 hR2601
  have hb2603 : Below B w w2599 := Below.trans hb2518 (Below.mono hE2600 hL2519)
  have hL2604 : B ≤ w2599.heap.size := Nat.le_trans hL2519 hE2600.size
  have hS2605 : SH w2599 B (aOwn fInt 2 a2597 c2598 ([st2490.1] : List Int) :: aBox 82 b0' [.slice a0_code' s_0_code.length c0_code', .int .i64 x2511.2.1, .int .u64 x2511.2.2] :: aOwn fInt 2 a2491 c2492 st2490.2.1 :: aOwn fInt 2 a2192 c2193 st2191.2.1 :: aBox 48 (g1575 10 0).2 [.string (bs x1595), .slice a2192 st2191.2.1.length c2193, .slice a2491 st2490.2.1.length c2492, .int .i64 (wI64 (50 * x1645.1)), .int .i64 0] :: aNest fRepair 48 2 a1550 c1551 st1549.1 :: aOwn fStr 9 a3 c4 ([[104, 101, 101, 108], [104, 97, 108, 102, 45, 115, 111, 108, 101], [119, 101, 108, 116], [108, 105, 110, 105, 110, 103], [112, 97, 116, 99, 104], [100, 121, 101], [101, 121, 101, 108, 101, 116, 45, 49], [115, 116, 114, 101, 116, 99, 104]] : List (List UInt8)) :: L) := SH.add hS2516 hE2600 hL2519 hR2601
  obtain ⟨x2606, hx2607, hm⟩ := bindE hm
  refine WL.append (F := fInt) (xs := st2490.2.1) (ys := ([st2490.1] : List Int)) 52 (SH.front 2 hS2605) hL2604 (SH.rd (SH.front 0 hS2605)) hx2607 rfl rfl rfl Tryz.underlying25 (info2).1 (info2).2.2.1 (info2).2.1 (info2).2.2.2 rfl rfl rfl rfl rfl ?_
  intro a2608 c2609 w2610 hB2611 hS2612
  have hb2613 : Below B w w2610 := Below.trans hb2603 hB2611
  have hL2614 : B ≤ w2610.heap.size := Nat.le_trans hL2604 hB2611.size
  refine WL.runk 1 [0, 3, 4, 5, 6, 7, 9, 52, 53] [(0, .pointer (some ⟨b0', 0, none⟩)), (3, .slice a3 (([[104, 101, 101, 108], [104, 97, 108, 102, 45, 115, 111, 108, 101], [119, 101, 108, 116], [108, 105, 110, 105, 110, 103], [112, 97, 116, 99, 104], [100, 121, 101], [101, 121, 101, 108, 101, 116, 45, 49], [115, 116, 114, 101, 116, 99, 104]] : List (List UInt8)).length) c4), (4, .slice a1550 st1549.1.length c1551), (5, .int .i64 x23.1), (6, .int .i64 st1549.2.1), (7, .pointer (some ⟨(g1575 10 0).2, 0, none⟩)), (9, .int .i64 st2490.1), (52, .slice a2608 x2606.length c2609), (53, .pointer (some ⟨(g1575 10 0).2, 2, none⟩))] (by kernel_rfl) ?_
  refine WL.boxStore 2 [.slice a2608 x2606.length c2609] [.string (bs x1595), .slice a2192 st2191.2.1.length c2193, .slice a2608 x2606.length c2609, .int .i64 (wI64 (50 * x1645.1)), .int .i64 0] (SH.front 4 hS2612) hL2614 rfl rfl rfl rfl rfl rfl rfl (info25).1 (info25).2.1 rfl rfl rfl ?_
  intro w2615 hB2616 hS2617
  have hb2618 : Below B w w2615 := Below.trans hb2613 hB2616
  have hL2619 : B ≤ w2615.heap.size := Nat.le_trans hL2614 hB2616.size
  refine WL.sub [(0, .pointer (some ⟨b0', 0, none⟩)), (3, .slice a3 (([[104, 101, 101, 108], [104, 97, 108, 102, 45, 115, 111, 108, 101], [119, 101, 108, 116], [108, 105, 110, 105, 110, 103], [112, 97, 116, 99, 104], [100, 121, 101], [101, 121, 101, 108, 101, 116, 45, 49], [115, 116, 114, 101, 116, 99, 104]] : List (List UInt8)).length) c4), (4, .slice a1550 st1549.1.length c1551), (5, .int .i64 x23.1), (6, .int .i64 st1549.2.1), (7, .pointer (some ⟨(g1575 10 0).2, 0, none⟩)), (9, .int .i64 st2490.1)] ⟨rfl, rfl, rfl, rfl, rfl, rfl, rfl, trivial⟩ ?_
  refine WL.nil ?_
  obtain rfl := Option.some.inj hm
  exact WQ.post' ⟨_, _, rfl, hb2618, hL2619, (SH.cutOut 6 1 (SH.front 5 (SH.front 6 (SH.front 6 (SH.front 2 (SH.front 6 (SH.front 6 hS2617)))))))⟩ ⟨rfl, rfl, rfl, rfl, rfl, rfl, rfl, trivial⟩

theorem c_75_o1 (n : Nat) (s_0_code : List Int) (a0_code' : Option Addr) (c0_code' : Nat) (s_0_at_ : Int) (s_0_seed : Int) (b0' : Nat) (list_1 : List (List UInt8)) (a1' : Option Addr) (c1' : Nat) (w : World) (w0 : World) (B : Nat) (L : List Asrt) {r : List UInt8 × Int × Int} (hm : m_spec_l00Src_text_o1 n s_0_code s_0_at_ s_0_seed list_1 = some r) (hE0 : Ext w0 w) (hW : w0.heap.size ≤ B) (hL : B ≤ w.heap.size) (h0_code : Rd fU8.ty w0 a0_code' s_0_code) (hle0_code : s_0_code.length ≤ c0_code') (hS : SH w B (aBox 82 b0' [.slice a0_code' s_0_code.length c0_code', .int .i64 s_0_at_, .int .u64 s_0_seed] :: aOwn fStr 9 a1' c1' list_1 :: L)) :
    CallV Tryz.prog 75 #[.pointer (some ⟨b0', 0, none⟩), .slice a1' list_1.length c1'] w (fun v w' => v = .string (bs r.1) ∧ Below B w w' ∧ SH w' B (aBox 82 b0' [.slice a0_code' s_0_code.length c0_code', .int .i64 r.2.1, .int .u64 r.2.2] :: aOwn fStr 9 a1' c1' list_1 :: L)) := by
  unfold m_spec_l00Src_text_o1 at hm
  refine CallV.enter Tryz.func75 rfl (by kernel_rfl) Tryz.ntmps75 (env := [(0, .pointer (some ⟨b0', 0, none⟩)), (1, .slice a1' list_1.length c1')]) ⟨rfl, rfl, trivial⟩ ?_
  refine WP.seq (fun K1 hK1 => ?_)
  refine WP.region ?_
  refine WL.runk 1 [0, 1] [(0, .pointer (some ⟨b0', 0, none⟩)), (1, .slice a1' list_1.length c1')] (by kernel_rfl) ?_
  refine WL.nil ?_
  refine WQ.then_normal (hK1 _ _ _ ?_)
  refine WP.seq (fun K2 hK2 => ?_)
  refine WP.region ?_
  refine WL.runk 4 [5, 6, 8] [(5, .slice a1' list_1.length c1'), (6, .pointer (some ⟨b0', 0, none⟩)), (8, .int .i64 (list_1.length : Int))] (by kernel_rfl) ?_
  obtain ⟨x3, hx4, hm⟩ := bindE hm
  refine WL.call 50 #[.pointer (some ⟨b0', 0, none⟩), .int .i64 (list_1.length : Int)] rfl rfl (by kernel_rfl) (c_50 n s_0_code a0_code' c0_code' s_0_at_ s_0_seed b0' (list_1.length : Int) w w0 B (aOwn fStr 9 a1' c1' list_1 :: L) hx4 (Below.trans hE0 (Below.mono (Below.refl _ _) hW)) hW hL h0_code hle0_code hS) ?_
  rintro _ w5 ⟨rfl, hB9, hS8⟩
  refine ⟨_, rfl, ?_⟩
  have hb10 : Below B w w5 := Below.trans (Below.refl _ _) hB9
  have hL11 : B ≤ w5.heap.size := Nat.le_trans hL hB9.size
  obtain ⟨x12, hx13, hm⟩ := bindE hm
  refine WL.st (.pointer (some (at_ a1' (Int.toNat x3.1 * 1)))) (ST.index (T := fStr.ty) (xs := list_1) (SH.rd (SH.front 1 hS8)) hx13 rfl rfl rfl Tryz.underlying66 (info9).1 (info9).2.1) rfl rfl rfl ?_
  refine WL.st (.string (bs x12)) (ST.load (cell_ext (Rd.flat (F := fStr) (SH.rd (SH.front 1 hS8)) hx13 0 rfl)) rfl rfl Tryz.underlying9 rfl) rfl rfl rfl ?_
  refine WL.runk 1 [4] [(4, .string (bs x12))] (by kernel_rfl) ?_
  refine WL.nil ?_
  refine WQ.then_normal (hK2 _ _ _ ?_)
  refine WP.ret ?_
  obtain rfl := Option.some.inj hm
  exact WQ.ret1 _ rfl rfl ⟨rfl, hb10, hS8⟩

theorem c_49_o1 (n : Nat) (s_0_code : List Int) (a0_code' : Option Addr) (c0_code' : Nat) (s_0_at_ : Int) (s_0_seed : Int) (b0' : Nat) (list_1 : List Int) (a1' : Option Addr) (c1' : Nat) (w : World) (w0 : World) (B : Nat) (L : List Asrt) {r : Int × Int × Int} (hm : m_spec_l00Src_among_o1 n s_0_code s_0_at_ s_0_seed list_1 = some r) (hE0 : Ext w0 w) (hW : w0.heap.size ≤ B) (hL : B ≤ w.heap.size) (h0_code : Rd fU8.ty w0 a0_code' s_0_code) (hle0_code : s_0_code.length ≤ c0_code') (hS : SH w B (aBox 82 b0' [.slice a0_code' s_0_code.length c0_code', .int .i64 s_0_at_, .int .u64 s_0_seed] :: aOwn fInt 2 a1' c1' list_1 :: L)) :
    CallV Tryz.prog 49 #[.pointer (some ⟨b0', 0, none⟩), .slice a1' list_1.length c1'] w (fun v w' => v = .int .i64 r.1 ∧ Below B w w' ∧ SH w' B (aBox 82 b0' [.slice a0_code' s_0_code.length c0_code', .int .i64 r.2.1, .int .u64 r.2.2] :: aOwn fInt 2 a1' c1' list_1 :: L)) := by
  unfold m_spec_l00Src_among_o1 at hm
  refine CallV.enter Tryz.func49 rfl (by kernel_rfl) Tryz.ntmps49 (env := [(0, .pointer (some ⟨b0', 0, none⟩)), (1, .slice a1' list_1.length c1')]) ⟨rfl, rfl, trivial⟩ ?_
  refine WP.seq (fun K1 hK1 => ?_)
  refine WP.region ?_
  refine WL.runk 1 [0, 1] [(0, .pointer (some ⟨b0', 0, none⟩)), (1, .slice a1' list_1.length c1')] (by kernel_rfl) ?_
  refine WL.nil ?_
  refine WQ.then_normal (hK1 _ _ _ ?_)
  refine WP.seq (fun K2 hK2 => ?_)
  refine WP.region ?_
  refine WL.runk 4 [5, 6, 8] [(5, .slice a1' list_1.length c1'), (6, .pointer (some ⟨b0', 0, none⟩)), (8, .int .i64 (list_1.length : Int))] (by kernel_rfl) ?_
  obtain ⟨x3, hx4, hm⟩ := bindE hm
  refine WL.call 50 #[.pointer (some ⟨b0', 0, none⟩), .int .i64 (list_1.length : Int)] rfl rfl (by kernel_rfl) (c_50 n s_0_code a0_code' c0_code' s_0_at_ s_0_seed b0' (list_1.length : Int) w w0 B (aOwn fInt 2 a1' c1' list_1 :: L) hx4 (Below.trans hE0 (Below.mono (Below.refl _ _) hW)) hW hL h0_code hle0_code hS) ?_
  rintro _ w5 ⟨rfl, hB9, hS8⟩
  refine ⟨_, rfl, ?_⟩
  have hb10 : Below B w w5 := Below.trans (Below.refl _ _) hB9
  have hL11 : B ≤ w5.heap.size := Nat.le_trans hL hB9.size
  obtain ⟨x12, hx13, hm⟩ := bindE hm
  refine WL.st (.pointer (some (at_ a1' (Int.toNat x3.1 * 1)))) (ST.index (T := fInt.ty) (xs := list_1) (SH.rd (SH.front 1 hS8)) hx13 rfl rfl rfl Tryz.underlying25 (info2).1 (info2).2.1) rfl rfl rfl ?_
  refine WL.st (.int .i64 x12) (ST.load (cell_ext (Rd.flat (F := fInt) (SH.rd (SH.front 1 hS8)) hx13 0 rfl)) rfl rfl Tryz.underlying2 rfl) rfl rfl rfl ?_
  refine WL.runk 1 [4] [(4, .int .i64 x12)] (by kernel_rfl) ?_
  refine WL.nil ?_
  refine WQ.then_normal (hK2 _ _ _ ?_)
  refine WP.ret ?_
  obtain rfl := Option.some.inj hm
  exact WQ.ret1 _ rfl rfl ⟨rfl, hb10, hS8⟩

theorem c_47 (n : Nat) (s_0_code : List Int) (a0_code' : Option Addr) (c0_code' : Nat) (s_0_at_ : Int) (s_0_seed : Int) (b0' : Nat) (w : World) (w0 : World) (B : Nat) (L : List Asrt) {r : List SRepair × Int × Int} (hm : m_spec_l21Bent n s_0_code s_0_at_ s_0_seed = some r) (hE0 : Ext w0 w) (hW : w0.heap.size ≤ B) (hL : B ≤ w.heap.size) (h0_code : Rd fU8.ty w0 a0_code' s_0_code) (hle0_code : s_0_code.length ≤ c0_code') (hS : SH w B (aBox 82 b0' [.slice a0_code' s_0_code.length c0_code', .int .i64 s_0_at_, .int .u64 s_0_seed] :: L)) :
    CallV Tryz.prog 47 #[.pointer (some ⟨b0', 0, none⟩)] w (fun v w' => ∃ (ra0 : Option Addr) (rc0 : Nat), v = .slice ra0 r.1.length rc0 ∧ Below B w w' ∧ SH w' B (aNest fRepair 48 2 ra0 rc0 r.1 :: aBox 82 b0' [.slice a0_code' s_0_code.length c0_code', .int .i64 r.2.1, .int .u64 r.2.2] :: L)) := by
  unfold m_spec_l21Bent at hm
  refine CallV.enter Tryz.func47 rfl (by kernel_rfl) Tryz.ntmps47 (env := [(0, .pointer (some ⟨b0', 0, none⟩))]) ⟨rfl, trivial⟩ ?_
  refine WP.seq (fun K1 hK1 => ?_)
  refine WP.region ?_
  refine WL.runk 1 [0] [(0, .pointer (some ⟨b0', 0, none⟩))] (by kernel_rfl) ?_
  refine WL.nil ?_
  refine WQ.then_normal (hK1 _ _ _ ?_)
  refine WP.seq (fun K2 hK2 => ?_)
  refine WP.region ?_
  refine WL.runk 1 [0, 6] [(0, .pointer (some ⟨b0', 0, none⟩)), (6, .pointer (some ⟨b0', 0, none⟩))] (by kernel_rfl) ?_
  obtain ⟨x3, hx4, hm⟩ := bindE hm
  refine WL.call 55 #[.pointer (some ⟨b0', 0, none⟩)] rfl rfl (by kernel_rfl) (c_55 n s_0_code a0_code' c0_code' s_0_at_ s_0_seed b0' w w0 B (L) hx4 (Below.trans hE0 (Below.mono (Below.refl _ _) hW)) hW hL h0_code hle0_code hS) ?_
  rintro _ w8 ⟨a5, c6, rfl, hB12, hS11⟩
  refine ⟨_, rfl, ?_⟩
  have hb13 : Below B w w8 := Below.trans (Below.refl _ _) hB12
  have hL14 : B ≤ w8.heap.size := Nat.le_trans hL hB12.size
  refine WL.runk 1 [0, 3] [(0, .pointer (some ⟨b0', 0, none⟩)), (3, .slice a5 x3.1.length c6)] (by kernel_rfl) ?_
  refine WL.nil ?_
  refine WQ.then_normal (hK2 _ _ _ ?_)
  refine WP.seq (fun K15 hK15 => ?_)
  refine WP.seq (fun K16 hK16 => ?_)
  refine WP.region ?_
  refine WL.runk 1 [0, 3, 8] [(0, .pointer (some ⟨b0', 0, none⟩)), (3, .slice a5 x3.1.length c6), (8, .pointer (some ⟨b0', 0, none⟩))] (by kernel_rfl) ?_
  obtain ⟨x17, hx18, hm⟩ := bindE hm
  refine WL.call 48 #[.pointer (some ⟨b0', 0, none⟩), .int .i64 30] rfl rfl (by kernel_rfl) (c_48 n s_0_code a0_code' c0_code' x3.2.1 x3.2.2 b0' 30 w8 w0 B (aNest fRepair 48 2 a5 c6 x3.1 :: L) hx18 (Below.trans hE0 (Below.mono hb13 hW)) hW hL14 h0_code hle0_code (SH.front 1 hS11)) ?_
  rintro _ w19 ⟨rfl, hB23, hS22⟩
  refine ⟨_, rfl, ?_⟩
  have hb24 : Below B w w19 := Below.trans hb13 hB23
  have hL25 : B ≤ w19.heap.size := Nat.le_trans hL14 hB23.size
  refine WL.sub [(0, .pointer (some ⟨b0', 0, none⟩)), (3, .slice a5 x3.1.length c6), (9, .bool x17.1)] ⟨rfl, rfl, rfl, trivial⟩ ?_
  refine WL.nil ?_
  refine WQ.then_normal (hK16 _ _ _ ?_)
  refine WP.cond x17.1 rfl rfl (fun hc26 => ?_) (fun hc26 => ?_)
  · have hm := iteT hm hc26
    refine WP.seq (fun K27 hK27 => ?_)
    refine WP.region ?_
    refine WL.rowN fRepair 48 2 #[] 10 (by kernel_rfl) rfl rfl rfl rfl rfl ?_
    intro a28 c29 w30 hE31 hR32
    have hb34 : Below B w w30 := Below.trans hb24 (Below.mono hE31 hL25)
    have hL35 : B ≤ w30.heap.size := Nat.le_trans hL25 hE31.size
    have hS36 : SH w30 B (aNest fRepair 48 2 a28 c29 ([] : List SRepair) :: aBox 82 b0' [.slice a0_code' s_0_code.length c0_code', .int .i64 x17.2.1, .int .u64 x17.2.2] :: aNest fRepair 48 2 a5 c6 x3.1 :: L) := SH.add hS22 hE31 hL25 hR32
    refine WL.runk 1 [0, 3] [(0, .pointer (some ⟨b0', 0, none⟩)), (3, .slice a28 (([] : List SRepair).length) c29)] (by kernel_rfl) ?_
    refine WL.nil ?_
    refine WQ.then_normal (hK27 _ _ _ ?_)
    refine WP.seq (fun K37 hK37 => ?_)
    refine WP.seq (fun K38 hK38 => ?_)
    refine WP.region ?_
    refine WL.runk 1 [3, 11] [(3, .slice a28 (([] : List SRepair).length) c29), (11, .pointer (some ⟨b0', 0, none⟩))] (by kernel_rfl) ?_
    obtain ⟨x39, hx40, hm⟩ := bindE hm
    refine WL.call 50 #[.pointer (some ⟨b0', 0, none⟩), .int .i64 2] rfl rfl (by kernel_rfl) (c_50 n s_0_code a0_code' c0_code' x17.2.1 x17.2.2 b0' 2 w30 w0 B (aNest fRepair 48 2 a28 c29 ([] : List SRepair) :: aNest fRepair 48 2 a5 c6 x3.1 :: L) hx40 (Below.trans hE0 (Below.mono hb34 hW)) hW hL35 h0_code hle0_code (SH.front 2 (SH.front 1 (SH.front 2 hS36)))) ?_
    rintro _ w41 ⟨rfl, hB45, hS44⟩
    refine ⟨_, rfl, ?_⟩
    have hb46 : Below B w w41 := Below.trans hb34 hB45
    have hL47 : B ≤ w41.heap.size := Nat.le_trans hL35 hB45.size
    refine WL.runk 2 [3, 4] [(3, .slice a28 (([] : List SRepair).length) c29), (4, .int .i64 (wI64 (10 + x39.1)))] (by kernel_rfl) ?_
    refine WL.nil ?_
    refine WQ.then_normal (hK38 _ _ _ ?_)
    refine WP.block ?_
    obtain ⟨t62, ht63, hm⟩ := bindE hm
    have hmo57 := hm; clear hm
    refine WP.sub [(3, .slice a28 (([] : List SRepair).length) c29), (4, .int .i64 (wI64 (10 + x39.1)))] ⟨rfl, rfl, trivial⟩ ?_
    refine WP.loop (fun n' env' w' => ∃ (st48 : List SRepair × Int) (a49 : Option Addr) (c50 : Nat), env' = [(3, .slice a49 st48.1.length c50), (4, .int .i64 st48.2)] ∧ Below B w w' ∧ B ≤ w'.heap.size ∧ SH w' B (aNest fRepair 48 2 a49 c50 st48.1 :: aBox 82 b0' [.slice a0_code' s_0_code.length c0_code', .int .i64 x39.2.1, .int .u64 x39.2.2] :: L) ∧ loopN (m_spec_l21Bent_l1 n) n' st48 = some t62) n ⟨(([] : List SRepair), (wI64 (10 + x39.1))), _, _, rfl, hb46, hL47, (SH.cutOut 2 1 (SH.front 1 hS44)), ht63⟩ ?_
    rintro n59 _ w52 ⟨st48, a49, c50, rfl, hb53, hL54, hS55, hl56⟩ K58 hK58
    obtain ⟨n60, s61, rfl, hm, hl56⟩ := loopN_some hl56
    unfold m_spec_l21Bent_l1 at hm
    refine WP.seq (fun K64 hK64 => ?_)
    refine WP.seq (fun K65 hK65 => ?_)
    refine WP.region ?_
    refine WL.runk 2 [3, 4, 15] [(3, .slice a49 st48.1.length c50), (4, .int .i64 st48.2), (15, .bool (decide (st48.2 > 0)))] (by kernel_rfl) ?_
    refine WL.nil ?_
    refine WQ.then_normal (hK65 _ _ _ ?_)
    refine WP.cond (decide (st48.2 > 0)) rfl rfl (fun hc66 => ?_) (fun hc66 => ?_)
    rotate_left
    · have hm := iteF hm hc66
      refine WP.exit ?_
      refine WQ.then_exit ?_
      refine WQ.then_exit ?_
      refine WQ.block_here ?_
      obtain rfl := Option.some.inj hm
      obtain rfl := afterN_done hl56
      have hm := hmo57
      refine WQ.then_normal (hK37 _ _ _ ?_)
      refine WP.seq (fun K107 hK107 => ?_)
      refine WP.region ?_
      refine WL.runk 2 [2] [(2, .slice a49 st48.1.length c50)] (by kernel_rfl) ?_
      refine WL.nil ?_
      refine WQ.then_normal (hK107 _ _ _ ?_)
      refine WP.ret ?_
      refine WQ.then_ret ?_
      obtain rfl := Option.some.inj hm
      exact WQ.ret1 _ rfl rfl ⟨_, _, rfl, hb53, hS55⟩
    have hm := iteT hm hc66
    refine WP.skip ?_
    refine WQ.then_normal (hK64 _ _ _ ?_)
    refine WP.seq (fun K67 hK67 => ?_)
    refine WP.block ?_
    refine WP.region ?_
    refine WL.runk 5 [4, 18, 22] [(4, .int .i64 st48.2), (18, .slice a49 st48.1.length c50), (22, .int .u8 (IntKind.u8.wrap (wI64 (97 + (st48.1.length : Int)))))] (by kernel_rfl) ?_
    refine WL.row fU8 5 ([(IntKind.u8.wrap (wI64 (97 + (st48.1.length : Int))))] : List Int) 1 #[.int .u8 (IntKind.u8.wrap (wI64 (97 + (st48.1.length : Int))))] 23 (by kernel_rfl) rfl rfl rfl rfl rfl rfl rfl ?_
    intro a68 c69 w70 hE71 hR72
    have hb74 : Below B w w70 := Below.trans hb53 (Below.mono hE71 hL54)
    have hL75 : B ≤ w70.heap.size := Nat.le_trans hL54 hE71.size
    have hS76 : SH w70 B (aOwn fU8 5 a68 c69 ([(IntKind.u8.wrap (wI64 (97 + (st48.1.length : Int))))] : List Int) :: aNest fRepair 48 2 a49 c50 st48.1 :: aBox 82 b0' [.slice a0_code' s_0_code.length c0_code', .int .i64 x39.2.1, .int .u64 x39.2.2] :: L) := SH.add hS55 hE71 hL54 hR72
    refine WL.st (.string (bs (ofBytes ([(IntKind.u8.wrap (wI64 (97 + (st48.1.length : Int))))] : List Int)))) (ST.b2s (SH.rd (SH.front 0 hS76)) (SH.le (SH.front 0 hS76)).2 rfl rfl Tryz.underlying22 Tryz.underlying9 Tryz.underlying5) rfl rfl rfl ?_
    obtain ⟨x77, hx78, hm⟩ := bindE hm
    refine WL.st (.string (bs x77)) (ST.cat hx78 rfl rfl rfl) rfl rfl rfl ?_
    refine WL.runk 2 [4, 18, 25, 27] [(4, .int .i64 st48.2), (18, .slice a49 st48.1.length c50), (25, .string (bs x77)), (27, .int .i64 (wI64 (st48.2 - 1)))] (by kernel_rfl) ?_
    refine WL.row fInt 2 ([(wI64 (st48.2 - 1))] : List Int) 1 #[.int .i64 (wI64 (st48.2 - 1))] 28 (by kernel_rfl) rfl rfl rfl rfl rfl rfl rfl ?_
    intro a79 c80 w81 hE82 hR83
    have hb85 : Below B w w81 := Below.trans hb74 (Below.mono hE82 hL75)
    have hL86 : B ≤ w81.heap.size := Nat.le_trans hL75 hE82.size
    have hS87 : SH w81 B (aOwn fInt 2 a79 c80 ([(wI64 (st48.2 - 1))] : List Int) :: aOwn fU8 5 a68 c69 ([(IntKind.u8.wrap (wI64 (97 + (st48.1.length : Int))))] : List Int) :: aNest fRepair 48 2 a49 c50 st48.1 :: aBox 82 b0' [.slice a0_code' s_0_code.length c0_code', .int .i64 x39.2.1, .int .u64 x39.2.2] :: L) := SH.add hS76 hE82 hL75 hR83
    refine WL.runk 2 [4, 18, 30] [(4, .int .i64 st48.2), (18, .slice a49 st48.1.length c50), (30, .agg #[.string (bs x77), .slice a79 (([(wI64 (st48.2 - 1))] : List Int).length) c80, .slice none 0 0, .int .i64 st48.2, .int .i64 0])] (by kernel_rfl) ?_
    have hS89 : SH w81 B (aOwn fInt 2 none 0 ([] : List Int) :: aOwn fInt 2 a79 c80 ([(wI64 (st48.2 - 1))] : List Int) :: aOwn fU8 5 a68 c69 ([(IntKind.u8.wrap (wI64 (97 + (st48.1.length : Int))))] : List Int) :: aNest fRepair 48 2 a49 c50 st48.1 :: aBox 82 b0' [.slice a0_code' s_0_code.length c0_code', .int .i64 x39.2.1, .int .u64 x39.2.2] :: L) := SH.nilOwn hS87
    refine WL.row1N (ei := 2) fRepair 48 (I := [aOwn fInt 2 a79 c80 ([(wI64 (st48.2 - 1))] : List Int), aOwn fInt 2 none 0 ([] : List Int)]) (SRepair.mk x77 ([(wI64 (st48.2 - 1))] : List Int) ([] : List Int) st48.2 0) [.string (bs x77), .slice a79 (([(wI64 (st48.2 - 1))] : List Int).length) c80, .slice none 0 0, .int .i64 st48.2, .int .i64 0] (.val (Fit.row' rfl (Fit.row' rfl (.val (.val .nil))))) 31 (SH.front 4 (SH.front 3 (SH.front 4 (SH.front 4 (SH.front 4 hS89))))) hL86 (by kernel_rfl) rfl rfl rfl rfl ?_
    intro a90 c91 w92 hB93 hS94
    have hb96 : Below B w w92 := Below.trans hb85 hB93
    have hL97 : B ≤ w92.heap.size := Nat.le_trans hL86 hB93.size
    obtain ⟨x98, hx99, hm⟩ := bindE hm
    refine WL.appendN (F := fRepair) (ei := 2) (xs := st48.1) (ys := ([(SRepair.mk x77 ([(wI64 (st48.2 - 1))] : List Int) ([] : List Int) st48.2 0)] : List SRepair)) 32 (SH.front 3 (SH.front 2 (SH.front 2 (SH.front 3 hS94)))) hL97 hx99 rfl rfl rfl Tryz.underlying24 (info48).1 (info48).2.2.1 (info48).2.1 (info48).2.2.2 rfl rfl rfl rfl rfl ?_
    intro a100 c101 w102 hB103 hS104
    have hb105 : Below B w w102 := Below.trans hb96 hB103
    have hL106 : B ≤ w102.heap.size := Nat.le_trans hL97 hB103.size
    refine WL.runk 1 [3, 4] [(4, .int .i64 st48.2), (3, .slice a100 x98.length c101)] (by kernel_rfl) ?_
    refine WL.nil ?_
    refine WQ.block_normal ?_
    refine WQ.then_normal (hK67 _ _ _ ?_)
    refine WP.region ?_
    refine WL.runk 3 [3, 4] [(4, .int .i64 (wI64 (st48.2 - 1))), (3, .slice a100 x98.length c101)] (by kernel_rfl) ?_
    refine WL.nil ?_
    obtain rfl := Option.some.inj hm
    exact WQ.round hK58 ⟨(x98, (wI64 (st48.2 - 1))), _, _, rfl, hb105, hL106, (SH.cutOut 2 1 (SH.front 1 (SH.front 2 hS104))), hl56⟩ (Nat.lt_succ_self _) ⟨rfl, rfl, trivial⟩
  have hm := iteF hm hc26
  refine WP.skip ?_
  refine WQ.then_normal (hK15 _ _ _ ?_)
  refine WP.seq (fun K113 hK113 => ?_)
  refine WP.seq (fun K114 hK114 => ?_)
  refine WP.region ?_
  refine WL.runk 3 [0, 3, 36] [(0, .pointer (some ⟨b0', 0, none⟩)), (3, .slice a5 x3.1.length c6), (36, .bool ((x3.1.length : Int) == 0))] (by kernel_rfl) ?_
  refine WL.nil ?_
  refine WQ.then_normal (hK114 _ _ _ ?_)
  refine WP.cond ((x3.1.length : Int) == 0) rfl rfl (fun hc115 => ?_) (fun hc115 => ?_)
  · have hm := iteT hm hc115
    refine WP.seq (fun K116 hK116 => ?_)
    refine WP.region ?_
    refine WL.runk 2 [2] [(2, .slice a5 x3.1.length c6)] (by kernel_rfl) ?_
    refine WL.nil ?_
    refine WQ.then_normal (hK116 _ _ _ ?_)
    refine WP.ret ?_
    refine WQ.then_ret ?_
    obtain rfl := Option.some.inj hm
    exact WQ.ret1 _ rfl rfl ⟨_, _, rfl, hb24, (SH.front 1 hS22)⟩
  have hm := iteF hm hc115
  refine WP.skip ?_
  refine WQ.then_normal (hK113 _ _ _ ?_)
  refine WP.seq (fun K117 hK117 => ?_)
  refine WP.region ?_
  refine WL.runk 4 [0, 3, 38, 39, 41] [(0, .pointer (some ⟨b0', 0, none⟩)), (3, .slice a5 x3.1.length c6), (38, .slice a5 x3.1.length c6), (39, .pointer (some ⟨b0', 0, none⟩)), (41, .int .i64 (x3.1.length : Int))] (by kernel_rfl) ?_
  obtain ⟨x118, hx119, hm⟩ := bindE hm
  refine WL.call 50 #[.pointer (some ⟨b0', 0, none⟩), .int .i64 (x3.1.length : Int)] rfl rfl (by kernel_rfl) (c_50 n s_0_code a0_code' c0_code' x17.2.1 x17.2.2 b0' (x3.1.length : Int) w19 w0 B (aNest fRepair 48 2 a5 c6 x3.1 :: L) hx119 (Below.trans hE0 (Below.mono hb24 hW)) hW hL25 h0_code hle0_code hS22) ?_
  rintro _ w120 ⟨rfl, hB124, hS123⟩
  refine ⟨_, rfl, ?_⟩
  have hb125 : Below B w w120 := Below.trans hb24 hB124
  have hL126 : B ≤ w120.heap.size := Nat.le_trans hL25 hB124.size
  obtain ⟨x127, hx128, hm⟩ := bindE hm
  obtain ⟨a129, c130, a132, c133, hS135⟩ := elem_Repair (SH.front 1 hS123) hx128
  refine WL.st (.pointer (some (at_ a5 (Int.toNat x118.1 * 5)))) (ST.index (T := fRepair.ty) (xs := x3.1) (SH.rdN (SH.front 1 hS123)) hx128 rfl rfl rfl Tryz.underlying24 (info48).1 (info48).2.1) rfl rfl rfl ?_
  refine WL.runk 1 [0, 3, 5] [(0, .pointer (some ⟨b0', 0, none⟩)), (3, .slice a5 x3.1.length c6), (5, .pointer (some (at_ a5 (Int.toNat x118.1 * 5))))] (by kernel_rfl) ?_
  refine WL.nil ?_
  refine WQ.then_normal (hK117 _ _ _ ?_)
  refine WP.seq (fun K136 hK136 => ?_)
  refine WP.seq (fun K137 hK137 => ?_)
  refine WP.region ?_
  refine WL.runk 1 [0, 3, 5, 44] [(0, .pointer (some ⟨b0', 0, none⟩)), (3, .slice a5 x3.1.length c6), (5, .pointer (some (at_ a5 (Int.toNat x118.1 * 5)))), (44, .pointer (some ⟨b0', 0, none⟩))] (by kernel_rfl) ?_
  obtain ⟨x138, hx139, hm⟩ := bindE hm
  refine WL.call 50 #[.pointer (some ⟨b0', 0, none⟩), .int .i64 24] rfl rfl (by kernel_rfl) (c_50 n s_0_code a0_code' c0_code' x118.2.1 x118.2.2 b0' 24 w120 w0 B (aOwn fInt 2 a129 c130 x127.Mends :: aOwn fInt 2 a132 c133 x127.First :: aHole fRepair 48 2 a5 c6 x3.1 (Int.toNat x118.1) [.string (bs x127.Name), .slice a129 x127.Mends.length c130, .slice a132 x127.First.length c133, .int .i64 x127.Price, .int .i64 x127.Hours] :: L) hx139 (Below.trans hE0 (Below.mono hb125 hW)) hW hL126 h0_code hle0_code (SH.front 3 (SH.front 2 (SH.front 2 (SH.front 2 hS135))))) ?_
  rintro _ w140 ⟨rfl, hB144, hS143⟩
  refine ⟨_, rfl, ?_⟩
  have hb145 : Below B w w140 := Below.trans hb125 hB144
  have hL146 : B ≤ w140.heap.size := Nat.le_trans hL126 hB144.size
  refine WL.sub [(0, .pointer (some ⟨b0', 0, none⟩)), (3, .slice a5 x3.1.length c6), (5, .pointer (some (at_ a5 (Int.toNat x118.1 * 5)))), (45, .int .i64 x138.1)] ⟨rfl, rfl, rfl, rfl, trivial⟩ ?_
  refine WL.nil ?_
  refine WQ.then_normal (hK137 _ _ _ ?_)
  refine WP.block ?_
  refine WP.seq (fun K147 hK147 => ?_)
  refine WP.region ?_
  refine WL.runk 2 [0, 3, 5, 45, 46] [(0, .pointer (some ⟨b0', 0, none⟩)), (3, .slice a5 x3.1.length c6), (5, .pointer (some (at_ a5 (Int.toNat x118.1 * 5)))), (45, .int .i64 x138.1), (46, .bool (x138.1 == 0))] (by kernel_rfl) ?_
  refine WL.nil ?_
  refine WQ.then_normal (hK147 _ _ _ ?_)
  obtain ⟨x33481, hx33482, hm⟩ := bindE hm
  refine WP.cut (fun env' w' => env' = [(3, .slice a5 x33481.1.length c6)] ∧ Below B w w' ∧ B ≤ w'.heap.size ∧ SH w' B (aBox 82 b0' [.slice a0_code' s_0_code.length c0_code', .int .i64 x33481.2.1, .int .u64 x33481.2.2] :: aNest fRepair 48 2 a5 c6 x33481.1 :: L)) ?_ ?_
  rotate_left
  · clear hx33482
    rintro _ w44593 ⟨rfl, hb44594, hL44595, hS44596⟩
    refine WQ.block_normal ?_
    refine WQ.then_normal (hK136 _ _ _ ?_)
    refine WP.seq (fun K44597 hK44597 => ?_)
    refine WP.region ?_
    refine WL.runk 2 [2] [(2, .slice a5 x33481.1.length c6)] (by kernel_rfl) ?_
    refine WL.nil ?_
    refine WQ.then_normal (hK44597 _ _ _ ?_)
    refine WP.ret ?_
    obtain rfl := Option.some.inj hm
    exact WQ.ret1 _ rfl rfl ⟨_, _, rfl, hb44594, (SH.front 1 hS44596)⟩
  have hm := hx33482; clear hx33482
  refine WP.cond (x138.1 == 0) rfl rfl (fun hc148 => ?_) (fun hc148 => ?_)
  · have hm := iteT hm hc148
    refine WP.region ?_
    refine WL.runk 2 [3, 48, 49] [(3, .slice a5 x3.1.length c6), (48, .pointer (some (at_ a5 (Int.toNat x118.1 * 5)))), (49, .pointer (some ⟨b0', 0, none⟩))] (by kernel_rfl) ?_
    refine WL.row fStr 9 ([[], [72, 101, 101, 108], [104, 101, 101, 108]] : List (List UInt8)) 3 #[.string (bs []), .string (bs [72, 101, 101, 108]), .string (bs [104, 101, 101, 108])] 50 (by kernel_rfl) rfl rfl rfl rfl rfl rfl rfl ?_
    intro a33483 c33484 w33485 hE33486 hR33487
    have hb33489 : Below B w w33485 := Below.trans hb145 (Below.mono hE33486 hL146)
    have hL33490 : B ≤ w33485.heap.size := Nat.le_trans hL146 hE33486.size
    have hS33491 : SH w33485 B (aOwn fStr 9 a33483 c33484 ([[], [72, 101, 101, 108], [104, 101, 101, 108]] : List (List UInt8)) :: aBox 82 b0' [.slice a0_code' s_0_code.length c0_code', .int .i64 x138.2.1, .int .u64 x138.2.2] :: aOwn fInt 2 a129 c130 x127.Mends :: aOwn fInt 2 a132 c133 x127.First :: aHole fRepair 48 2 a5 c6 x3.1 (Int.toNat x118.1) [.string (bs x127.Name), .slice a129 x127.Mends.length c130, .slice a132 x127.First.length c133, .int .i64 x127.Price, .int .i64 x127.Hours] :: L) := SH.add hS143 hE33486 hL146 hR33487
    obtain ⟨x33492, hx33493, hm⟩ := bindE hm
    refine WL.call 75 #[.pointer (some ⟨b0', 0, none⟩), .slice a33483 (([[], [72, 101, 101, 108], [104, 101, 101, 108]] : List (List UInt8)).length) c33484] rfl rfl (by kernel_rfl) (c_75_o1 n s_0_code a0_code' c0_code' x138.2.1 x138.2.2 b0' ([[], [72, 101, 101, 108], [104, 101, 101, 108]] : List (List UInt8)) a33483 c33484 w33485 w0 B (aOwn fInt 2 a129 c130 x127.Mends :: aOwn fInt 2 a132 c133 x127.First :: aHole fRepair 48 2 a5 c6 x3.1 (Int.toNat x118.1) [.string (bs x127.Name), .slice a129 x127.Mends.length c130, .slice a132 x127.First.length c133, .int .i64 x127.Price, .int .i64 x127.Hours] :: L) hx33493 (Below.trans hE0 (Below.mono hb33489 hW)) hW hL33490 h0_code hle0_code (SH.front 4 (SH.front 3 (SH.front 4 (SH.front 4 (SH.front 4 hS33491)))))) ?_
    rintro _ w33494 ⟨rfl, hB33498, hS33497⟩
    refine ⟨_, rfl, ?_⟩
    have hb33499 : Below B w w33494 := Below.trans hb33489 hB33498
    have hL33500 : B ≤ w33494.heap.size := Nat.le_trans hL33490 hB33498.size
    refine WL.runk 2 [3, 51, 53] [(3, .slice a5 x3.1.length c6), (51, .string (bs x33492.1)), (53, .pointer (some (at_ a5 (Int.toNat x118.1 * 5))))] (by kernel_rfl) ?_
    refine WL.holeStore 0 [.string (bs x33492.1)] [.string (bs x33492.1), .slice a129 x127.Mends.length c130, .slice a132 x127.First.length c133, .int .i64 x127.Price, .int .i64 x127.Hours] (SH.front 4 hS33497) hL33500 rfl rfl rfl rfl rfl rfl rfl (info9).1 (info9).2.1 rfl rfl rfl ?_
    intro w33501 hB33502 hS33503
    have hb33504 : Below B w w33501 := Below.trans hb33499 hB33502
    have hL33505 : B ≤ w33501.heap.size := Nat.le_trans hL33500 hB33502.size
    refine WL.sub [(3, .slice a5 x3.1.length c6)] ⟨rfl, trivial⟩ ?_
    have hS33506 : SH w33501 B (aNest fRepair 48 2 a5 c6 (x3.1.set (Int.toNat x118.1) (SRepair.mk x33492.1 x127.Mends x127.First x127.Price x127.Hours)) :: aBox 82 b0' [.slice a0_code' s_0_code.length c0_code', .int .i64 x33492.2.1, .int .u64 x33492.2.2] :: aOwn fStr 9 a33483 c33484 ([[], [72, 101, 101, 108], [104, 101, 101, 108]] : List (List UInt8)) :: L) := SH.elemBack (Ix := [aOwn fInt 2 a129 c130 x127.Mends, aOwn fInt 2 a132 c133 x127.First]) (x' := (SRepair.mk x33492.1 x127.Mends x127.First x127.Price x127.Hours)) (SH.front 4 (SH.front 4 (SH.front 2 (SH.front 2 (SH.front 2 hS33503))))) (.val (Fit.row' rfl (Fit.row' rfl (.val (.val .nil)))))
    refine WL.sub [(3, .slice a5 ((x3.1.set (Int.toNat x118.1) (SRepair.mk x33492.1 x127.Mends x127.First x127.Price x127.Hours)).length) c6)] ⟨by first | (simp only [List.length_set]; done) | (simp only [List.length_set]; rfl), trivial⟩ ?_
    refine WL.nil ?_
    obtain rfl := Option.some.inj hm
    exact WQ.post' ⟨rfl, hb33504, hL33505, (SH.cutOut 2 1 (SH.front 1 hS33506))⟩ ⟨rfl, trivial⟩
  have hm := iteF hm hc148
  refine WP.seq (fun K33507 hK33507 => ?_)
  refine WP.region ?_
  refine WL.runk 2 [0, 3, 5, 45, 54] [(0, .pointer (some ⟨b0', 0, none⟩)), (3, .slice a5 x3.1.length c6), (5, .pointer (some (at_ a5 (Int.toNat x118.1 * 5)))), (45, .int .i64 x138.1), (54, .bool (x138.1 == 1))] (by kernel_rfl) ?_
  refine WL.nil ?_
  refine WQ.then_normal (hK33507 _ _ _ ?_)
  obtain ⟨x41818, hx41819, hm⟩ := bindE hm
  refine WP.cut (fun env' w' => env' = [(3, .slice a5 x41818.1.length c6)] ∧ Below B w w' ∧ B ≤ w'.heap.size ∧ SH w' B (aBox 82 b0' [.slice a0_code' s_0_code.length c0_code', .int .i64 x41818.2.1, .int .u64 x41818.2.2] :: aNest fRepair 48 2 a5 c6 x41818.1 :: L)) ?_ ?_
  rotate_left
  · clear hx41819
    rintro _ w44589 ⟨rfl, hb44590, hL44591, hS44592⟩
    obtain rfl := Option.some.inj hm
    exact WQ.post' ⟨rfl, hb44590, hL44591, hS44592⟩ ⟨rfl, trivial⟩
  have hm := hx41819; clear hx41819
  refine WP.cond (x138.1 == 1) rfl rfl (fun hc33508 => ?_) (fun hc33508 => ?_)
  · have hm := iteT hm hc33508
    refine WP.open (n := 13) (by kernel_rfl) rfl (fun w41820 hE41821 => ?_)
    have hb41822 : Below B w w41820 := Below.trans hb145 (Below.mono hE41821 hL146)
    have hL41823 : B ≤ w41820.heap.size := Nat.le_trans hL146 hE41821.size
    have hS41824 : SH w41820 B (aBox 82 b0' [.slice a0_code' s_0_code.length c0_code', .int .i64 x138.2.1, .int .u64 x138.2.2] :: aOwn fInt 2 a129 c130 x127.Mends :: aOwn fInt 2 a132 c133 x127.First :: aHole fRepair 48 2 a5 c6 x3.1 (Int.toNat x118.1) [.string (bs x127.Name), .slice a129 x127.Mends.length c130, .slice a132 x127.First.length c133, .int .i64 x127.Price, .int .i64 x127.Hours] :: L) := SH.ext hS143 hE41821
    obtain ⟨x41884, hx41885, hm⟩ := bindE hm
    obtain ⟨x41914, hx41915, hm⟩ := bindE hm
    refine WA.par (R := L) (f' := 3) (D' := [0, 1, 2, 3, 4, 5, 6, 7, 8, 9]) [⟨0, [], fun _ => .pointer (some (at_ a5 (Int.toNat x118.1 * 5)))⟩, ⟨1, [], fun _ => .pointer (some (at_ a5 (Int.toNat x118.1 * 5)))⟩, ⟨2, [], fun _ => .pointer (some (at_ a5 (Int.toNat x118.1 * 5)))⟩, ⟨3, [], fun _ => .pointer (some (at_ a5 (Int.toNat x118.1 * 5 + 1)))⟩, ⟨4, [], fun _ => .slice a129 x127.Mends.length c130⟩, ⟨5, [], fun _ => .pointer (some ⟨b0', 0, none⟩)⟩, ⟨6, [6], fun g41825 => .slice ((g41825 6 0).1) (([(-1), 9, 10] : List Int).length) ((g41825 6 0).2)⟩, ⟨7, [], fun _ => .int .i64 x41884.1⟩, ⟨8, [8], fun g41825 => .slice ((g41825 8 0).1) (([x41884.1] : List Int).length) ((g41825 8 0).2)⟩, ⟨9, [9], fun g41825 => .slice ((g41825 9 0).1) x41914.length ((g41825 9 0).2)⟩] [⟨[aBox 82 b0' [.slice a0_code' s_0_code.length c0_code', .int .i64 x138.2.1, .int .u64 x138.2.2]], [⟨7, [], fun _ => [aBox 82 b0' [.slice a0_code' s_0_code.length c0_code', .int .i64 x41884.2.1, .int .u64 x41884.2.2]]⟩]⟩, ⟨[aOwn fInt 2 a129 c130 x127.Mends], [⟨9, [9], fun g41825 => [aOwn fInt 2 ((g41825 9 0).1) ((g41825 9 0).2) x41914]⟩]⟩, ⟨[aOwn fInt 2 a132 c133 x127.First], []⟩, ⟨[aHole fRepair 48 2 a5 c6 x3.1 (Int.toNat x118.1) [.string (bs x127.Name), .slice a129 x127.Mends.length c130, .slice a132 x127.First.length c133, .int .i64 x127.Price, .int .i64 x127.Hours]], []⟩, ⟨[], [⟨6, [6], fun g41825 => [aOwn fInt 2 ((g41825 6 0).1) ((g41825 6 0).2) ([(-1), 9, 10] : List Int)]⟩]⟩, ⟨[], [⟨8, [8], fun g41825 => [aOwn fInt 2 ((g41825 8 0).1) ((g41825 8 0).2) ([x41884.1] : List Int)]⟩]⟩] rfl rfl hS41824 (by kernel_rfl) (by kernel_rfl) ⟨?_, ?_, ?_, ?_, ?_, ?_, ?_, ?_, ?_, ?_, trivial⟩ ?_
    · intro g41825 w41827 R41826 hB41828 hS41829
      have hS41830 : SH w41827 B (aOwn fInt 2 a132 c133 x127.First :: aHole fRepair 48 2 a5 c6 x3.1 (Int.toNat x118.1) [.string (bs x127.Name), .slice a129 x127.Mends.length c130, .slice a132 x127.First.length c133, .int .i64 x127.Price, .int .i64 x127.Hours] :: R41826) := memEq hS41829 (by kernel_rfl)
      have hb41831 : Below B w w41827 := Below.trans hb41822 hB41828
      have hL41832 : B ≤ w41827.heap.size := Nat.le_trans hL41823 hB41828.size
      refine WL.subk [5] [(5, .pointer (some (at_ a5 (Int.toNat x118.1 * 5))))] (by kernel_rfl) ?_
      refine WL.runk 1 [56] [(56, .pointer (some (at_ a5 (Int.toNat x118.1 * 5))))] (by kernel_rfl) ?_
      refine WL.nil ?_
      exact QP.intro (fun k => ([] : List (Option Addr × Nat)).getD k (none, 0)) (d := 56) (by kernel_rfl) (by kernel_rfl) (Below.refl _ _) hS41830 (by kernel_rfl)
    · intro g41825 w41833 R41826 hB41834 hS41835
      have hS41836 : SH w41833 B (aOwn fInt 2 a129 c130 x127.Mends :: aOwn fInt 2 a132 c133 x127.First :: aHole fRepair 48 2 a5 c6 x3.1 (Int.toNat x118.1) [.string (bs x127.Name), .slice a129 x127.Mends.length c130, .slice a132 x127.First.length c133, .int .i64 x127.Price, .int .i64 x127.Hours] :: R41826) := memEq hS41835 (by kernel_rfl)
      have hb41837 : Below B w w41833 := Below.trans hb41822 hB41834
      have hL41838 : B ≤ w41833.heap.size := Nat.le_trans hL41823 hB41834.size
      refine WL.subk [5] [(5, .pointer (some (at_ a5 (Int.toNat x118.1 * 5))))] (by kernel_rfl) ?_
      refine WL.runk 1 [57] [(57, .pointer (some (at_ a5 (Int.toNat x118.1 * 5))))] (by kernel_rfl) ?_
      refine WL.nil ?_
      exact QP.intro (fun k => ([] : List (Option Addr × Nat)).getD k (none, 0)) (d := 57) (by kernel_rfl) (by kernel_rfl) (Below.refl _ _) hS41836 (by kernel_rfl)
    · intro g41825 w41839 R41826 hB41840 hS41841
      have hS41842 : SH w41839 B (aOwn fInt 2 a129 c130 x127.Mends :: aOwn fInt 2 a132 c133 x127.First :: aHole fRepair 48 2 a5 c6 x3.1 (Int.toNat x118.1) [.string (bs x127.Name), .slice a129 x127.Mends.length c130, .slice a132 x127.First.length c133, .int .i64 x127.Price, .int .i64 x127.Hours] :: R41826) := memEq hS41841 (by kernel_rfl)
      have hb41843 : Below B w w41839 := Below.trans hb41822 hB41840
      have hL41844 : B ≤ w41839.heap.size := Nat.le_trans hL41823 hB41840.size
      refine WL.subk [57] [(57, .pointer (some (at_ a5 (Int.toNat x118.1 * 5))))] (by kernel_rfl) ?_
      refine WL.runk 1 [58] [(58, .pointer (some (at_ a5 (Int.toNat x118.1 * 5))))] (by kernel_rfl) ?_
      refine WL.nil ?_
      exact QP.intro (fun k => ([] : List (Option Addr × Nat)).getD k (none, 0)) (d := 58) (by kernel_rfl) (by kernel_rfl) (Below.refl _ _) hS41842 (by kernel_rfl)
    · intro g41825 w41845 R41826 hB41846 hS41847
      have hS41848 : SH w41845 B (aOwn fInt 2 a129 c130 x127.Mends :: aOwn fInt 2 a132 c133 x127.First :: aHole fRepair 48 2 a5 c6 x3.1 (Int.toNat x118.1) [.string (bs x127.Name), .slice a129 x127.Mends.length c130, .slice a132 x127.First.length c133, .int .i64 x127.Price, .int .i64 x127.Hours] :: R41826) := memEq hS41847 (by kernel_rfl)
      have hb41849 : Below B w w41845 := Below.trans hb41822 hB41846
      have hL41850 : B ≤ w41845.heap.size := Nat.le_trans hL41823 hB41846.size
      refine WL.subk [58] [(58, .pointer (some (at_ a5 (Int.toNat x118.1 * 5))))] (by kernel_rfl) ?_
      refine WL.runk 1 [59] [(59, .pointer (some (at_ a5 (Int.toNat x118.1 * 5 + 1))))] (by kernel_rfl) ?_
      refine WL.nil ?_
      exact QP.intro (fun k => ([] : List (Option Addr × Nat)).getD k (none, 0)) (d := 59) (by kernel_rfl) (by kernel_rfl) (Below.refl _ _) hS41848 (by kernel_rfl)
    · intro g41825 w41851 R41826 hB41852 hS41853
      have hS41854 : SH w41851 B (aOwn fInt 2 a129 c130 x127.Mends :: aOwn fInt 2 a132 c133 x127.First :: aHole fRepair 48 2 a5 c6 x3.1 (Int.toNat x118.1) [.string (bs x127.Name), .slice a129 x127.Mends.length c130, .slice a132 x127.First.length c133, .int .i64 x127.Price, .int .i64 x127.Hours] :: R41826) := memEq hS41853 (by kernel_rfl)
      have hb41855 : Below B w w41851 := Below.trans hb41822 hB41852
      have hL41856 : B ≤ w41851.heap.size := Nat.le_trans hL41823 hB41852.size
      refine WL.subk [59] [(59, .pointer (some (at_ a5 (Int.toNat x118.1 * 5 + 1))))] (by kernel_rfl) ?_
      refine WL.st (.slice a129 x127.Mends.length c130) (ST.load (cell_ext ((SH.holeAt (SH.front 2 hS41854)) 1 _ rfl)) rfl rfl Tryz.underlying25 rfl) rfl rfl rfl ?_
      refine WL.nil ?_
      exact QP.intro (fun k => ([] : List (Option Addr × Nat)).getD k (none, 0)) (d := 60) (by kernel_rfl) (by kernel_rfl) (Below.refl _ _) hS41854 (by kernel_rfl)
    · intro g41825 w41857 R41826 hB41858 hS41859
      have hS41860 : SH w41857 B (aBox 82 b0' [.slice a0_code' s_0_code.length c0_code', .int .i64 x138.2.1, .int .u64 x138.2.2] :: aOwn fInt 2 a129 c130 x127.Mends :: aOwn fInt 2 a132 c133 x127.First :: aHole fRepair 48 2 a5 c6 x3.1 (Int.toNat x118.1) [.string (bs x127.Name), .slice a129 x127.Mends.length c130, .slice a132 x127.First.length c133, .int .i64 x127.Price, .int .i64 x127.Hours] :: R41826) := memEq hS41859 (by kernel_rfl)
      have hb41861 : Below B w w41857 := Below.trans hb41822 hB41858
      have hL41862 : B ≤ w41857.heap.size := Nat.le_trans hL41823 hB41858.size
      refine WL.subk [0] [(0, .pointer (some ⟨b0', 0, none⟩))] (by kernel_rfl) ?_
      refine WL.runk 1 [61] [(61, .pointer (some ⟨b0', 0, none⟩))] (by kernel_rfl) ?_
      refine WL.nil ?_
      exact QP.intro (fun k => ([] : List (Option Addr × Nat)).getD k (none, 0)) (d := 61) (by kernel_rfl) (by kernel_rfl) (Below.refl _ _) hS41860 (by kernel_rfl)
    · intro g41825 w41863 R41826 hB41864 hS41865
      have hS41866 : SH w41863 B (aBox 82 b0' [.slice a0_code' s_0_code.length c0_code', .int .i64 x138.2.1, .int .u64 x138.2.2] :: aOwn fInt 2 a129 c130 x127.Mends :: aOwn fInt 2 a132 c133 x127.First :: aHole fRepair 48 2 a5 c6 x3.1 (Int.toNat x118.1) [.string (bs x127.Name), .slice a129 x127.Mends.length c130, .slice a132 x127.First.length c133, .int .i64 x127.Price, .int .i64 x127.Hours] :: R41826) := memEq hS41865 (by kernel_rfl)
      have hb41867 : Below B w w41863 := Below.trans hb41822 hB41864
      have hL41868 : B ≤ w41863.heap.size := Nat.le_trans hL41823 hB41864.size
      refine WL.subk [] [] (by kernel_rfl) ?_
      refine WL.row fInt 2 ([(-1), 9, 10] : List Int) 3 #[.int .i64 (-1), .int .i64 9, .int .i64 10] 62 (by kernel_rfl) rfl rfl rfl rfl rfl rfl rfl ?_
      intro a41869 c41870 w41871 hE41872 hR41873
      have hb41875 : Below B w w41871 := Below.trans hb41867 (Below.mono hE41872 hL41868)
      have hL41876 : B ≤ w41871.heap.size := Nat.le_trans hL41868 hE41872.size
      have hS41877 : SH w41871 B (aOwn fInt 2 a41869 c41870 ([(-1), 9, 10] : List Int) :: aBox 82 b0' [.slice a0_code' s_0_code.length c0_code', .int .i64 x138.2.1, .int .u64 x138.2.2] :: aOwn fInt 2 a129 c130 x127.Mends :: aOwn fInt 2 a132 c133 x127.First :: aHole fRepair 48 2 a5 c6 x3.1 (Int.toNat x118.1) [.string (bs x127.Name), .slice a129 x127.Mends.length c130, .slice a132 x127.First.length c133, .int .i64 x127.Price, .int .i64 x127.Hours] :: R41826) := SH.add hS41866 hE41872 hL41868 hR41873
      refine WL.nil ?_
      exact QP.intro (fun k => ([(a41869, c41870)] : List (Option Addr × Nat)).getD k (none, 0)) (d := 62) (by kernel_rfl) (by kernel_rfl) (Below.mono hE41872 hL41868) (SH.front 4 (SH.front 4 (SH.front 4 (SH.front 4 hS41877)))) (by kernel_rfl)
    · intro g41825 w41878 R41826 hB41879 hS41880
      have hS41881 : SH w41878 B (aBox 82 b0' [.slice a0_code' s_0_code.length c0_code', .int .i64 x138.2.1, .int .u64 x138.2.2] :: aOwn fInt 2 a129 c130 x127.Mends :: aOwn fInt 2 a132 c133 x127.First :: aHole fRepair 48 2 a5 c6 x3.1 (Int.toNat x118.1) [.string (bs x127.Name), .slice a129 x127.Mends.length c130, .slice a132 x127.First.length c133, .int .i64 x127.Price, .int .i64 x127.Hours] :: aOwn fInt 2 ((g41825 6 0).1) ((g41825 6 0).2) ([(-1), 9, 10] : List Int) :: R41826) := memEq hS41880 (by kernel_rfl)
      have hb41882 : Below B w w41878 := Below.trans hb41822 hB41879
      have hL41883 : B ≤ w41878.heap.size := Nat.le_trans hL41823 hB41879.size
      refine WL.subk [61, 62] [(61, .pointer (some ⟨b0', 0, none⟩)), (62, .slice ((g41825 6 0).1) (([(-1), 9, 10] : List Int).length) ((g41825 6 0).2))] (by kernel_rfl) ?_
      refine WL.call 49 #[.pointer (some ⟨b0', 0, none⟩), .slice ((g41825 6 0).1) (([(-1), 9, 10] : List Int).length) ((g41825 6 0).2)] rfl rfl (by kernel_rfl) (c_49_o1 n s_0_code a0_code' c0_code' x138.2.1 x138.2.2 b0' ([(-1), 9, 10] : List Int) ((g41825 6 0).1) ((g41825 6 0).2) w41878 w0 B (aOwn fInt 2 a129 c130 x127.Mends :: aOwn fInt 2 a132 c133 x127.First :: aHole fRepair 48 2 a5 c6 x3.1 (Int.toNat x118.1) [.string (bs x127.Name), .slice a129 x127.Mends.length c130, .slice a132 x127.First.length c133, .int .i64 x127.Price, .int .i64 x127.Hours] :: R41826) hx41885 (Below.trans hE0 (Below.mono hb41882 hW)) hW hL41883 h0_code hle0_code (SH.front 4 (SH.front 4 (SH.front 3 (SH.front 3 (SH.front 3 hS41881)))))) ?_
      rintro _ w41886 ⟨rfl, hB41890, hS41889⟩
      refine ⟨_, rfl, ?_⟩
      have hb41891 : Below B w w41886 := Below.trans hb41882 hB41890
      have hL41892 : B ≤ w41886.heap.size := Nat.le_trans hL41883 hB41890.size
      refine WL.nil ?_
      exact QP.intro (fun k => ([] : List (Option Addr × Nat)).getD k (none, 0)) (d := 63) (by kernel_rfl) (by kernel_rfl) hB41890 (SH.front 4 (SH.front 4 (SH.front 4 (SH.front 4 (SH.front 1 hS41889))))) (by kernel_rfl)
    · intro g41825 w41893 R41826 hB41894 hS41895
      have hS41896 : SH w41893 B (aBox 82 b0' [.slice a0_code' s_0_code.length c0_code', .int .i64 x41884.2.1, .int .u64 x41884.2.2] :: aOwn fInt 2 a129 c130 x127.Mends :: aOwn fInt 2 a132 c133 x127.First :: aHole fRepair 48 2 a5 c6 x3.1 (Int.toNat x118.1) [.string (bs x127.Name), .slice a129 x127.Mends.length c130, .slice a132 x127.First.length c133, .int .i64 x127.Price, .int .i64 x127.Hours] :: aOwn fInt 2 ((g41825 6 0).1) ((g41825 6 0).2) ([(-1), 9, 10] : List Int) :: R41826) := memEq hS41895 (by kernel_rfl)
      have hb41897 : Below B w w41893 := Below.trans hb41822 hB41894
      have hL41898 : B ≤ w41893.heap.size := Nat.le_trans hL41823 hB41894.size
      refine WL.subk [63] [(63, .int .i64 x41884.1)] (by kernel_rfl) ?_
      refine WL.row fInt 2 ([x41884.1] : List Int) 1 #[.int .i64 x41884.1] 64 (by kernel_rfl) rfl rfl rfl rfl rfl rfl rfl ?_
      intro a41899 c41900 w41901 hE41902 hR41903
      have hb41905 : Below B w w41901 := Below.trans hb41897 (Below.mono hE41902 hL41898)
      have hL41906 : B ≤ w41901.heap.size := Nat.le_trans hL41898 hE41902.size
      have hS41907 : SH w41901 B (aOwn fInt 2 a41899 c41900 ([x41884.1] : List Int) :: aBox 82 b0' [.slice a0_code' s_0_code.length c0_code', .int .i64 x41884.2.1, .int .u64 x41884.2.2] :: aOwn fInt 2 a129 c130 x127.Mends :: aOwn fInt 2 a132 c133 x127.First :: aHole fRepair 48 2 a5 c6 x3.1 (Int.toNat x118.1) [.string (bs x127.Name), .slice a129 x127.Mends.length c130, .slice a132 x127.First.length c133, .int .i64 x127.Price, .int .i64 x127.Hours] :: aOwn fInt 2 ((g41825 6 0).1) ((g41825 6 0).2) ([(-1), 9, 10] : List Int) :: R41826) := SH.add hS41896 hE41902 hL41898 hR41903
      refine WL.nil ?_
      exact QP.intro (fun k => ([(a41899, c41900)] : List (Option Addr × Nat)).getD k (none, 0)) (d := 64) (by kernel_rfl) (by kernel_rfl) (Below.mono hE41902 hL41898) (SH.front 5 (SH.front 5 (SH.front 5 (SH.front 5 (SH.front 5 hS41907))))) (by kernel_rfl)
    · intro g41825 w41908 R41826 hB41909 hS41910
      have hS41911 : SH w41908 B (aBox 82 b0' [.slice a0_code' s_0_code.length c0_code', .int .i64 x41884.2.1, .int .u64 x41884.2.2] :: aOwn fInt 2 a129 c130 x127.Mends :: aOwn fInt 2 a132 c133 x127.First :: aHole fRepair 48 2 a5 c6 x3.1 (Int.toNat x118.1) [.string (bs x127.Name), .slice a129 x127.Mends.length c130, .slice a132 x127.First.length c133, .int .i64 x127.Price, .int .i64 x127.Hours] :: aOwn fInt 2 ((g41825 6 0).1) ((g41825 6 0).2) ([(-1), 9, 10] : List Int) :: aOwn fInt 2 ((g41825 8 0).1) ((g41825 8 0).2) ([x41884.1] : List Int) :: R41826) := memEq hS41910 (by kernel_rfl)
      have hb41912 : Below B w w41908 := Below.trans hb41822 hB41909
      have hL41913 : B ≤ w41908.heap.size := Nat.le_trans hL41823 hB41909.size
      refine WL.subk [60, 64] [(60, .slice a129 x127.Mends.length c130), (64, .slice ((g41825 8 0).1) (([x41884.1] : List Int).length) ((g41825 8 0).2))] (by kernel_rfl) ?_
      refine WL.append (F := fInt) (xs := x127.Mends) (ys := ([x41884.1] : List Int)) 65 (SH.front 1 hS41911) hL41913 (SH.rd (SH.front 5 hS41911)) hx41915 rfl rfl rfl Tryz.underlying25 (info2).1 (info2).2.2.1 (info2).2.1 (info2).2.2.2 rfl rfl rfl rfl rfl ?_
      intro a41916 c41917 w41918 hB41919 hS41920
      have hb41921 : Below B w w41918 := Below.trans hb41912 hB41919
      have hL41922 : B ≤ w41918.heap.size := Nat.le_trans hL41913 hB41919.size
      refine WL.nil ?_
      exact QP.intro (fun k => ([(a41916, c41917)] : List (Option Addr × Nat)).getD k (none, 0)) (d := 65) (by kernel_rfl) (by kernel_rfl) hB41919 (SH.front 5 (SH.front 4 (SH.front 5 (SH.front 5 (SH.front 5 (SH.front 5 hS41920)))))) (by kernel_rfl)
    intro g41825 w41923 hB41924 hS41925
    have hS41926 : SH w41923 B (aBox 82 b0' [.slice a0_code' s_0_code.length c0_code', .int .i64 x41884.2.1, .int .u64 x41884.2.2] :: aOwn fInt 2 ((g41825 9 0).1) ((g41825 9 0).2) x41914 :: aOwn fInt 2 a132 c133 x127.First :: aHole fRepair 48 2 a5 c6 x3.1 (Int.toNat x118.1) [.string (bs x127.Name), .slice a129 x127.Mends.length c130, .slice a132 x127.First.length c133, .int .i64 x127.Price, .int .i64 x127.Hours] :: aOwn fInt 2 ((g41825 6 0).1) ((g41825 6 0).2) ([(-1), 9, 10] : List Int) :: aOwn fInt 2 ((g41825 8 0).1) ((g41825 8 0).2) ([x41884.1] : List Int) :: L) := memEq hS41925 (by kernel_rfl)
    have hb41927 : Below B w w41923 := Below.trans hb41822 hB41924
    have hL41928 : B ≤ w41923.heap.size := Nat.le_trans hL41823 hB41924.size
    refine WQ.subk [3, 56, 65] [(3, .slice a5 x3.1.length c6), (56, .pointer (some (at_ a5 (Int.toNat x118.1 * 5)))), (65, .slice ((g41825 9 0).1) x41914.length ((g41825 9 0).2))] (by kernel_rfl) ?_
    refine WA.one (i := 10) (D' := [0, 1, 2, 3, 4, 5, 6, 7, 8, 9, 10]) rfl rfl (by kernel_rfl) ?_
    refine WL.runk 1 [3, 65, 66, 67] [(3, .slice a5 x3.1.length c6), (65, .slice ((g41825 9 0).1) x41914.length ((g41825 9 0).2)), (66, .pointer (some (at_ a5 (Int.toNat x118.1 * 5))))] (by kernel_rfl) ?_
    refine WL.nil ?_
    refine WA.one (i := 11) (D' := [0, 1, 2, 3, 4, 5, 6, 7, 8, 9, 10, 11]) rfl rfl (by kernel_rfl) ?_
    refine WL.runk 1 [3, 65, 67] [(3, .slice a5 x3.1.length c6), (65, .slice ((g41825 9 0).1) x41914.length ((g41825 9 0).2)), (67, .pointer (some (at_ a5 (Int.toNat x118.1 * 5 + 1))))] (by kernel_rfl) ?_
    refine WL.nil ?_
    refine WA.one (i := 12) (D' := [0, 1, 2, 3, 4, 5, 6, 7, 8, 9, 10, 11, 12]) rfl rfl (by kernel_rfl) ?_
    refine WL.holeStore 1 [.slice ((g41825 9 0).1) x41914.length ((g41825 9 0).2)] [.string (bs x127.Name), .slice ((g41825 9 0).1) x41914.length ((g41825 9 0).2), .slice a132 x127.First.length c133, .int .i64 x127.Price, .int .i64 x127.Hours] (SH.front 3 hS41926) hL41928 rfl rfl rfl rfl rfl rfl rfl (info25).1 (info25).2.1 rfl rfl rfl ?_
    intro w41929 hB41930 hS41931
    have hb41932 : Below B w w41929 := Below.trans hb41927 hB41930
    have hL41933 : B ≤ w41929.heap.size := Nat.le_trans hL41928 hB41930.size
    refine WL.sub [(3, .slice a5 x3.1.length c6)] ⟨rfl, trivial⟩ ?_
    have hS41934 : SH w41929 B (aNest fRepair 48 2 a5 c6 (x3.1.set (Int.toNat x118.1) (SRepair.mk x127.Name x41914 x127.First x127.Price x127.Hours)) :: aBox 82 b0' [.slice a0_code' s_0_code.length c0_code', .int .i64 x41884.2.1, .int .u64 x41884.2.2] :: aOwn fInt 2 ((g41825 6 0).1) ((g41825 6 0).2) ([(-1), 9, 10] : List Int) :: aOwn fInt 2 ((g41825 8 0).1) ((g41825 8 0).2) ([x41884.1] : List Int) :: L) := SH.elemBack (Ix := [aOwn fInt 2 ((g41825 9 0).1) ((g41825 9 0).2) x41914, aOwn fInt 2 a132 c133 x127.First]) (x' := (SRepair.mk x127.Name x41914 x127.First x127.Price x127.Hours)) (SH.front 5 (SH.front 5 (SH.front 3 (SH.front 3 (SH.front 5 (SH.front 5 hS41931)))))) (.val (Fit.row' rfl (Fit.row' rfl (.val (.val .nil)))))
    refine WL.sub [(3, .slice a5 ((x3.1.set (Int.toNat x118.1) (SRepair.mk x127.Name x41914 x127.First x127.Price x127.Hours)).length) c6)] ⟨by first | (simp only [List.length_set]; done) | (simp only [List.length_set]; rfl), trivial⟩ ?_
    refine WL.nil ?_
    refine WA.done (by kernel_rfl) ?_
    obtain rfl := Option.some.inj hm
    exact WQ.post' ⟨rfl, hb41932, hL41933, (SH.cutOut 2 2 (SH.front 1 hS41934))⟩ ⟨rfl, trivial⟩
  have hm := iteF hm hc33508
  refine WP.seq (fun K41935 hK41935 => ?_)
  refine WP.region ?_
  refine WL.runk 2 [0, 3, 5, 45, 68] [(0, .pointer (some ⟨b0', 0, none⟩)), (3, .slice a5 x3.1.length c6), (5, .pointer (some (at_ a5 (Int.toNat x118.1 * 5)))), (45, .int .i64 x138.1), (68, .bool (x138.1 == 2))] (by kernel_rfl) ?_
  refine WL.nil ?_
  refine WQ.then_normal (hK41935 _ _ _ ?_)
  obtain ⟨x43922, hx43923, hm⟩ := bindE hm
  refine WP.cut (fun env' w' => env' = [(3, .slice a5 x43922.1.length c6)] ∧ Below B w w' ∧ B ≤ w'.heap.size ∧ SH w' B (aBox 82 b0' [.slice a0_code' s_0_code.length c0_code', .int .i64 x43922.2.1, .int .u64 x43922.2.2] :: aNest fRepair 48 2 a5 c6 x43922.1 :: L)) ?_ ?_
  rotate_left
  · clear hx43923
    rintro _ w44585 ⟨rfl, hb44586, hL44587, hS44588⟩
    obtain rfl := Option.some.inj hm
    exact WQ.post' ⟨rfl, hb44586, hL44587, hS44588⟩ ⟨rfl, trivial⟩
  have hm := hx43923; clear hx43923
  refine WP.cond (x138.1 == 2) rfl rfl (fun hc41936 => ?_) (fun hc41936 => ?_)
  rotate_left
  · have hm := iteF hm hc41936
    refine WP.seq (fun K44039 hK44039 => ?_)
    refine WP.region ?_
    refine WL.runk 2 [0, 3, 5, 45, 82] [(0, .pointer (some ⟨b0', 0, none⟩)), (3, .slice a5 x3.1.length c6), (5, .pointer (some (at_ a5 (Int.toNat x118.1 * 5)))), (45, .int .i64 x138.1), (82, .bool (x138.1 == 3))] (by kernel_rfl) ?_
    refine WL.nil ?_
    refine WQ.then_normal (hK44039 _ _ _ ?_)
    obtain ⟨x44445, hx44446, hm⟩ := bindE hm
    refine WP.cut (fun env' w' => env' = [(3, .slice a5 x44445.1.length c6)] ∧ Below B w w' ∧ B ≤ w'.heap.size ∧ SH w' B (aBox 82 b0' [.slice a0_code' s_0_code.length c0_code', .int .i64 x44445.2.1, .int .u64 x44445.2.2] :: aNest fRepair 48 2 a5 c6 x44445.1 :: L)) ?_ ?_
    rotate_left
    · clear hx44446
      rintro _ w44581 ⟨rfl, hb44582, hL44583, hS44584⟩
      obtain rfl := Option.some.inj hm
      exact WQ.post' ⟨rfl, hb44582, hL44583, hS44584⟩ ⟨rfl, trivial⟩
    have hm := hx44446; clear hx44446
    refine WP.cond (x138.1 == 3) rfl rfl (fun hc44040 => ?_) (fun hc44040 => ?_)
    · have hm := iteT hm hc44040
      refine WP.region ?_
      refine WL.runk 2 [3, 84, 85] [(3, .slice a5 x3.1.length c6), (84, .pointer (some (at_ a5 (Int.toNat x118.1 * 5)))), (85, .pointer (some ⟨b0', 0, none⟩))] (by kernel_rfl) ?_
      refine WL.row fInt 2 ([(-1), 0, 100000, 100001, (-9223372036854775808)] : List Int) 5 #[.int .i64 (-1), .int .i64 0, .int .i64 100000, .int .i64 100001, .int .i64 (-9223372036854775808)] 86 (by kernel_rfl) rfl rfl rfl rfl rfl rfl rfl ?_
      intro a44447 c44448 w44449 hE44450 hR44451
      have hb44453 : Below B w w44449 := Below.trans hb145 (Below.mono hE44450 hL146)
      have hL44454 : B ≤ w44449.heap.size := Nat.le_trans hL146 hE44450.size
      have hS44455 : SH w44449 B (aOwn fInt 2 a44447 c44448 ([(-1), 0, 100000, 100001, (-9223372036854775808)] : List Int) :: aBox 82 b0' [.slice a0_code' s_0_code.length c0_code', .int .i64 x138.2.1, .int .u64 x138.2.2] :: aOwn fInt 2 a129 c130 x127.Mends :: aOwn fInt 2 a132 c133 x127.First :: aHole fRepair 48 2 a5 c6 x3.1 (Int.toNat x118.1) [.string (bs x127.Name), .slice a129 x127.Mends.length c130, .slice a132 x127.First.length c133, .int .i64 x127.Price, .int .i64 x127.Hours] :: L) := SH.add hS143 hE44450 hL146 hR44451
      obtain ⟨x44456, hx44457, hm⟩ := bindE hm
      refine WL.call 49 #[.pointer (some ⟨b0', 0, none⟩), .slice a44447 (([(-1), 0, 100000, 100001, (-9223372036854775808)] : List Int).length) c44448] rfl rfl (by kernel_rfl) (c_49_o1 n s_0_code a0_code' c0_code' x138.2.1 x138.2.2 b0' ([(-1), 0, 100000, 100001, (-9223372036854775808)] : List Int) a44447 c44448 w44449 w0 B (aOwn fInt 2 a129 c130 x127.Mends :: aOwn fInt 2 a132 c133 x127.First :: aHole fRepair 48 2 a5 c6 x3.1 (Int.toNat x118.1) [.string (bs x127.Name), .slice a129 x127.Mends.length c130, .slice a132 x127.First.length c133, .int .i64 x127.Price, .int .i64 x127.Hours] :: L) hx44457 (Below.trans hE0 (Below.mono hb44453 hW)) hW hL44454 h0_code hle0_code (SH.front 4 (SH.front 3 (SH.front 4 (SH.front 4 (SH.front 4 hS44455)))))) ?_
      rintro _ w44458 ⟨rfl, hB44462, hS44461⟩
      refine ⟨_, rfl, ?_⟩
      have hb44463 : Below B w w44458 := Below.trans hb44453 hB44462
      have hL44464 : B ≤ w44458.heap.size := Nat.le_trans hL44454 hB44462.size
      refine WL.runk 2 [3, 87, 89] [(3, .slice a5 x3.1.length c6), (87, .int .i64 x44456.1), (89, .pointer (some (at_ a5 (Int.toNat x118.1 * 5 + 3))))] (by kernel_rfl) ?_
      refine WL.holeStore 3 [.int .i64 x44456.1] [.string (bs x127.Name), .slice a129 x127.Mends.length c130, .slice a132 x127.First.length c133, .int .i64 x44456.1, .int .i64 x127.Hours] (SH.front 4 hS44461) hL44464 rfl rfl rfl rfl rfl rfl rfl (info2).1 (info2).2.1 rfl rfl rfl ?_
      intro w44465 hB44466 hS44467
      have hb44468 : Below B w w44465 := Below.trans hb44463 hB44466
      have hL44469 : B ≤ w44465.heap.size := Nat.le_trans hL44464 hB44466.size
      refine WL.sub [(3, .slice a5 x3.1.length c6)] ⟨rfl, trivial⟩ ?_
      have hS44470 : SH w44465 B (aNest fRepair 48 2 a5 c6 (x3.1.set (Int.toNat x118.1) (SRepair.mk x127.Name x127.Mends x127.First x44456.1 x127.Hours)) :: aBox 82 b0' [.slice a0_code' s_0_code.length c0_code', .int .i64 x44456.2.1, .int .u64 x44456.2.2] :: aOwn fInt 2 a44447 c44448 ([(-1), 0, 100000, 100001, (-9223372036854775808)] : List Int) :: L) := SH.elemBack (Ix := [aOwn fInt 2 a129 c130 x127.Mends, aOwn fInt 2 a132 c133 x127.First]) (x' := (SRepair.mk x127.Name x127.Mends x127.First x44456.1 x127.Hours)) (SH.front 4 (SH.front 4 (SH.front 2 (SH.front 2 (SH.front 2 hS44467))))) (.val (Fit.row' rfl (Fit.row' rfl (.val (.val .nil)))))
      refine WL.sub [(3, .slice a5 ((x3.1.set (Int.toNat x118.1) (SRepair.mk x127.Name x127.Mends x127.First x44456.1 x127.Hours)).length) c6)] ⟨by first | (simp only [List.length_set]; done) | (simp only [List.length_set]; rfl), trivial⟩ ?_
      refine WL.nil ?_
      obtain rfl := Option.some.inj hm
      exact WQ.post' ⟨rfl, hb44468, hL44469, (SH.cutOut 2 1 (SH.front 1 hS44470))⟩ ⟨rfl, trivial⟩
    have hm := iteF hm hc44040
    refine WP.seq (fun K44471 hK44471 => ?_)
    refine WP.region ?_
    refine WL.runk 2 [0, 3, 5, 90] [(0, .pointer (some ⟨b0', 0, none⟩)), (3, .slice a5 x3.1.length c6), (5, .pointer (some (at_ a5 (Int.toNat x118.1 * 5)))), (90, .bool (x138.1 == 4))] (by kernel_rfl) ?_
    refine WL.nil ?_
    refine WQ.then_normal (hK44471 _ _ _ ?_)
    obtain ⟨x44550, hx44551, hm⟩ := bindE hm
    refine WP.cut (fun env' w' => env' = [(3, .slice a5 x44550.1.length c6)] ∧ Below B w w' ∧ B ≤ w'.heap.size ∧ SH w' B (aBox 82 b0' [.slice a0_code' s_0_code.length c0_code', .int .i64 x44550.2.1, .int .u64 x44550.2.2] :: aNest fRepair 48 2 a5 c6 x44550.1 :: L)) ?_ ?_
    rotate_left
    · clear hx44551
      rintro _ w44577 ⟨rfl, hb44578, hL44579, hS44580⟩
      obtain rfl := Option.some.inj hm
      exact WQ.post' ⟨rfl, hb44578, hL44579, hS44580⟩ ⟨rfl, trivial⟩
    have hm := hx44551; clear hx44551
    refine WP.cond (x138.1 == 4) rfl rfl (fun hc44472 => ?_) (fun hc44472 => ?_)
    rotate_left
    · have hm := iteF hm hc44472
      refine WP.skip ?_
      have hS44576 : SH w140 B (aNest fRepair 48 2 a5 c6 (x3.1.set (Int.toNat x118.1) x127) :: aBox 82 b0' [.slice a0_code' s_0_code.length c0_code', .int .i64 x138.2.1, .int .u64 x138.2.2] :: L) := SH.elemBack (Ix := [aOwn fInt 2 a129 c130 x127.Mends, aOwn fInt 2 a132 c133 x127.First]) (x' := x127) (SH.front 3 (SH.front 3 (SH.front 3 hS143))) (.val (Fit.row' rfl (Fit.row' rfl (.val (.val .nil)))))
      refine WQ.sub [(0, .pointer (some ⟨b0', 0, none⟩)), (3, .slice a5 ((x3.1.set (Int.toNat x118.1) x127).length) c6), (90, .bool (x138.1 == 4))] ⟨rfl, by first | (simp only [List.length_set]; done) | (simp only [List.length_set]; rfl), rfl, trivial⟩ ?_
      obtain rfl := Option.some.inj hm
      exact WQ.post' ⟨rfl, hb145, hL146, (SH.front 1 hS44576)⟩ ⟨rfl, trivial⟩
    have hm := iteT hm hc44472
    refine WP.region ?_
    refine WL.runk 2 [3, 92, 93] [(3, .slice a5 x3.1.length c6), (92, .pointer (some (at_ a5 (Int.toNat x118.1 * 5)))), (93, .pointer (some ⟨b0', 0, none⟩))] (by kernel_rfl) ?_
    refine WL.row fInt 2 ([(-1), 0, 1000, 1001] : List Int) 4 #[.int .i64 (-1), .int .i64 0, .int .i64 1000, .int .i64 1001] 94 (by kernel_rfl) rfl rfl rfl rfl rfl rfl rfl ?_
    intro a44552 c44553 w44554 hE44555 hR44556
    have hb44558 : Below B w w44554 := Below.trans hb145 (Below.mono hE44555 hL146)
    have hL44559 : B ≤ w44554.heap.size := Nat.le_trans hL146 hE44555.size
    have hS44560 : SH w44554 B (aOwn fInt 2 a44552 c44553 ([(-1), 0, 1000, 1001] : List Int) :: aBox 82 b0' [.slice a0_code' s_0_code.length c0_code', .int .i64 x138.2.1, .int .u64 x138.2.2] :: aOwn fInt 2 a129 c130 x127.Mends :: aOwn fInt 2 a132 c133 x127.First :: aHole fRepair 48 2 a5 c6 x3.1 (Int.toNat x118.1) [.string (bs x127.Name), .slice a129 x127.Mends.length c130, .slice a132 x127.First.length c133, .int .i64 x127.Price, .int .i64 x127.Hours] :: L) := SH.add hS143 hE44555 hL146 hR44556
    obtain ⟨x44561, hx44562, hm⟩ := bindE hm
    refine WL.call 49 #[.pointer (some ⟨b0', 0, none⟩), .slice a44552 (([(-1), 0, 1000, 1001] : List Int).length) c44553] rfl rfl (by kernel_rfl) (c_49_o1 n s_0_code a0_code' c0_code' x138.2.1 x138.2.2 b0' ([(-1), 0, 1000, 1001] : List Int) a44552 c44553 w44554 w0 B (aOwn fInt 2 a129 c130 x127.Mends :: aOwn fInt 2 a132 c133 x127.First :: aHole fRepair 48 2 a5 c6 x3.1 (Int.toNat x118.1) [.string (bs x127.Name), .slice a129 x127.Mends.length c130, .slice a132 x127.First.length c133, .int .i64 x127.Price, .int .i64 x127.Hours] :: L) hx44562 (Below.trans hE0 (Below.mono hb44558 hW)) hW hL44559 h0_code hle0_code (SH.front 4 (SH.front 3 (SH.front 4 (SH.front 4 (SH.front 4 hS44560)))))) ?_
    rintro _ w44563 ⟨rfl, hB44567, hS44566⟩
    refine ⟨_, rfl, ?_⟩
    have hb44568 : Below B w w44563 := Below.trans hb44558 hB44567
    have hL44569 : B ≤ w44563.heap.size := Nat.le_trans hL44559 hB44567.size
    refine WL.runk 2 [3, 95, 97] [(3, .slice a5 x3.1.length c6), (95, .int .i64 x44561.1), (97, .pointer (some (at_ a5 (Int.toNat x118.1 * 5 + 4))))] (by kernel_rfl) ?_
    refine WL.holeStore 4 [.int .i64 x44561.1] [.string (bs x127.Name), .slice a129 x127.Mends.length c130, .slice a132 x127.First.length c133, .int .i64 x127.Price, .int .i64 x44561.1] (SH.front 4 hS44566) hL44569 rfl rfl rfl rfl rfl rfl rfl (info2).1 (info2).2.1 rfl rfl rfl ?_
    intro w44570 hB44571 hS44572
    have hb44573 : Below B w w44570 := Below.trans hb44568 hB44571
    have hL44574 : B ≤ w44570.heap.size := Nat.le_trans hL44569 hB44571.size
    refine WL.sub [(3, .slice a5 x3.1.length c6)] ⟨rfl, trivial⟩ ?_
    have hS44575 : SH w44570 B (aNest fRepair 48 2 a5 c6 (x3.1.set (Int.toNat x118.1) (SRepair.mk x127.Name x127.Mends x127.First x127.Price x44561.1)) :: aBox 82 b0' [.slice a0_code' s_0_code.length c0_code', .int .i64 x44561.2.1, .int .u64 x44561.2.2] :: aOwn fInt 2 a44552 c44553 ([(-1), 0, 1000, 1001] : List Int) :: L) := SH.elemBack (Ix := [aOwn fInt 2 a129 c130 x127.Mends, aOwn fInt 2 a132 c133 x127.First]) (x' := (SRepair.mk x127.Name x127.Mends x127.First x127.Price x44561.1)) (SH.front 4 (SH.front 4 (SH.front 2 (SH.front 2 (SH.front 2 hS44572))))) (.val (Fit.row' rfl (Fit.row' rfl (.val (.val .nil)))))
    refine WL.sub [(3, .slice a5 ((x3.1.set (Int.toNat x118.1) (SRepair.mk x127.Name x127.Mends x127.First x127.Price x44561.1)).length) c6)] ⟨by first | (simp only [List.length_set]; done) | (simp only [List.length_set]; rfl), trivial⟩ ?_
    refine WL.nil ?_
    obtain rfl := Option.some.inj hm
    exact WQ.post' ⟨rfl, hb44573, hL44574, (SH.cutOut 2 1 (SH.front 1 hS44575))⟩ ⟨rfl, trivial⟩
  have hm := iteT hm hc41936
  refine WP.open (n := 13) (by kernel_rfl) rfl (fun w43924 hE43925 => ?_)
  have hb43926 : Below B w w43924 := Below.trans hb145 (Below.mono hE43925 hL146)
  have hL43927 : B ≤ w43924.heap.size := Nat.le_trans hL146 hE43925.size
  have hS43928 : SH w43924 B (aBox 82 b0' [.slice a0_code' s_0_code.length c0_code', .int .i64 x138.2.1, .int .u64 x138.2.2] :: aOwn fInt 2 a129 c130 x127.Mends :: aOwn fInt 2 a132 c133 x127.First :: aHole fRepair 48 2 a5 c6 x3.1 (Int.toNat x118.1) [.string (bs x127.Name), .slice a129 x127.Mends.length c130, .slice a132 x127.First.length c133, .int .i64 x127.Price, .int .i64 x127.Hours] :: L) := SH.ext hS143 hE43925
  obtain ⟨x43988, hx43989, hm⟩ := bindE hm
  obtain ⟨x44018, hx44019, hm⟩ := bindE hm
  refine WA.par (R := L) (f' := 3) (D' := [0, 1, 2, 3, 4, 5, 6, 7, 8, 9]) [⟨0, [], fun _ => .pointer (some (at_ a5 (Int.toNat x118.1 * 5)))⟩, ⟨1, [], fun _ => .pointer (some (at_ a5 (Int.toNat x118.1 * 5)))⟩, ⟨2, [], fun _ => .pointer (some (at_ a5 (Int.toNat x118.1 * 5)))⟩, ⟨3, [], fun _ => .pointer (some (at_ a5 (Int.toNat x118.1 * 5 + 2)))⟩, ⟨4, [], fun _ => .slice a132 x127.First.length c133⟩, ⟨5, [], fun _ => .pointer (some ⟨b0', 0, none⟩)⟩, ⟨6, [6], fun g43929 => .slice ((g43929 6 0).1) (([(-1), 6, 7] : List Int).length) ((g43929 6 0).2)⟩, ⟨7, [], fun _ => .int .i64 x43988.1⟩, ⟨8, [8], fun g43929 => .slice ((g43929 8 0).1) (([x43988.1] : List Int).length) ((g43929 8 0).2)⟩, ⟨9, [9], fun g43929 => .slice ((g43929 9 0).1) x44018.length ((g43929 9 0).2)⟩] [⟨[aBox 82 b0' [.slice a0_code' s_0_code.length c0_code', .int .i64 x138.2.1, .int .u64 x138.2.2]], [⟨7, [], fun _ => [aBox 82 b0' [.slice a0_code' s_0_code.length c0_code', .int .i64 x43988.2.1, .int .u64 x43988.2.2]]⟩]⟩, ⟨[aOwn fInt 2 a129 c130 x127.Mends], []⟩, ⟨[aOwn fInt 2 a132 c133 x127.First], [⟨9, [9], fun g43929 => [aOwn fInt 2 ((g43929 9 0).1) ((g43929 9 0).2) x44018]⟩]⟩, ⟨[aHole fRepair 48 2 a5 c6 x3.1 (Int.toNat x118.1) [.string (bs x127.Name), .slice a129 x127.Mends.length c130, .slice a132 x127.First.length c133, .int .i64 x127.Price, .int .i64 x127.Hours]], []⟩, ⟨[], [⟨6, [6], fun g43929 => [aOwn fInt 2 ((g43929 6 0).1) ((g43929 6 0).2) ([(-1), 6, 7] : List Int)]⟩]⟩, ⟨[], [⟨8, [8], fun g43929 => [aOwn fInt 2 ((g43929 8 0).1) ((g43929 8 0).2) ([x43988.1] : List Int)]⟩]⟩] rfl rfl hS43928 (by kernel_rfl) (by kernel_rfl) ⟨?_, ?_, ?_, ?_, ?_, ?_, ?_, ?_, ?_, ?_, trivial⟩ ?_
  · intro g43929 w43931 R43930 hB43932 hS43933
    have hS43934 : SH w43931 B (aOwn fInt 2 a129 c130 x127.Mends :: aHole fRepair 48 2 a5 c6 x3.1 (Int.toNat x118.1) [.string (bs x127.Name), .slice a129 x127.Mends.length c130, .slice a132 x127.First.length c133, .int .i64 x127.Price, .int .i64 x127.Hours] :: R43930) := memEq hS43933 (by kernel_rfl)
    have hb43935 : Below B w w43931 := Below.trans hb43926 hB43932
    have hL43936 : B ≤ w43931.heap.size := Nat.le_trans hL43927 hB43932.size
    refine WL.subk [5] [(5, .pointer (some (at_ a5 (Int.toNat x118.1 * 5))))] (by kernel_rfl) ?_
    refine WL.runk 1 [70] [(70, .pointer (some (at_ a5 (Int.toNat x118.1 * 5))))] (by kernel_rfl) ?_
    refine WL.nil ?_
    exact QP.intro (fun k => ([] : List (Option Addr × Nat)).getD k (none, 0)) (d := 70) (by kernel_rfl) (by kernel_rfl) (Below.refl _ _) hS43934 (by kernel_rfl)
  · intro g43929 w43937 R43930 hB43938 hS43939
    have hS43940 : SH w43937 B (aOwn fInt 2 a129 c130 x127.Mends :: aOwn fInt 2 a132 c133 x127.First :: aHole fRepair 48 2 a5 c6 x3.1 (Int.toNat x118.1) [.string (bs x127.Name), .slice a129 x127.Mends.length c130, .slice a132 x127.First.length c133, .int .i64 x127.Price, .int .i64 x127.Hours] :: R43930) := memEq hS43939 (by kernel_rfl)
    have hb43941 : Below B w w43937 := Below.trans hb43926 hB43938
    have hL43942 : B ≤ w43937.heap.size := Nat.le_trans hL43927 hB43938.size
    refine WL.subk [5] [(5, .pointer (some (at_ a5 (Int.toNat x118.1 * 5))))] (by kernel_rfl) ?_
    refine WL.runk 1 [71] [(71, .pointer (some (at_ a5 (Int.toNat x118.1 * 5))))] (by kernel_rfl) ?_
    refine WL.nil ?_
    exact QP.intro (fun k => ([] : List (Option Addr × Nat)).getD k (none, 0)) (d := 71) (by kernel_rfl) (by kernel_rfl) (Below.refl _ _) hS43940 (by kernel_rfl)
  · intro g43929 w43943 R43930 hB43944 hS43945
    have hS43946 : SH w43943 B (aOwn fInt 2 a129 c130 x127.Mends :: aOwn fInt 2 a132 c133 x127.First :: aHole fRepair 48 2 a5 c6 x3.1 (Int.toNat x118.1) [.string (bs x127.Name), .slice a129 x127.Mends.length c130, .slice a132 x127.First.length c133, .int .i64 x127.Price, .int .i64 x127.Hours] :: R43930) := memEq hS43945 (by kernel_rfl)
    have hb43947 : Below B w w43943 := Below.trans hb43926 hB43944
    have hL43948 : B ≤ w43943.heap.size := Nat.le_trans hL43927 hB43944.size
    refine WL.subk [71] [(71, .pointer (some (at_ a5 (Int.toNat x118.1 * 5))))] (by kernel_rfl) ?_
    refine WL.runk 1 [72] [(72, .pointer (some (at_ a5 (Int.toNat x118.1 * 5))))] (by kernel_rfl) ?_
    refine WL.nil ?_
    exact QP.intro (fun k => ([] : List (Option Addr × Nat)).getD k (none, 0)) (d := 72) (by kernel_rfl) (by kernel_rfl) (Below.refl _ _) hS43946 (by kernel_rfl)
  · intro g43929 w43949 R43930 hB43950 hS43951
    have hS43952 : SH w43949 B (aOwn fInt 2 a129 c130 x127.Mends :: aOwn fInt 2 a132 c133 x127.First :: aHole fRepair 48 2 a5 c6 x3.1 (Int.toNat x118.1) [.string (bs x127.Name), .slice a129 x127.Mends.length c130, .slice a132 x127.First.length c133, .int .i64 x127.Price, .int .i64 x127.Hours] :: R43930) := memEq hS43951 (by kernel_rfl)
    have hb43953 : Below B w w43949 := Below.trans hb43926 hB43950
    have hL43954 : B ≤ w43949.heap.size := Nat.le_trans hL43927 hB43950.size
    refine WL.subk [72] [(72, .pointer (some (at_ a5 (Int.toNat x118.1 * 5))))] (by kernel_rfl) ?_
    refine WL.runk 1 [73] [(73, .pointer (some (at_ a5 (Int.toNat x118.1 * 5 + 2))))] (by kernel_rfl) ?_
    refine WL.nil ?_
    exact QP.intro (fun k => ([] : List (Option Addr × Nat)).getD k (none, 0)) (d := 73) (by kernel_rfl) (by kernel_rfl) (Below.refl _ _) hS43952 (by kernel_rfl)
  · intro g43929 w43955 R43930 hB43956 hS43957
    have hS43958 : SH w43955 B (aOwn fInt 2 a129 c130 x127.Mends :: aOwn fInt 2 a132 c133 x127.First :: aHole fRepair 48 2 a5 c6 x3.1 (Int.toNat x118.1) [.string (bs x127.Name), .slice a129 x127.Mends.length c130, .slice a132 x127.First.length c133, .int .i64 x127.Price, .int .i64 x127.Hours] :: R43930) := memEq hS43957 (by kernel_rfl)
    have hb43959 : Below B w w43955 := Below.trans hb43926 hB43956
    have hL43960 : B ≤ w43955.heap.size := Nat.le_trans hL43927 hB43956.size
    refine WL.subk [73] [(73, .pointer (some (at_ a5 (Int.toNat x118.1 * 5 + 2))))] (by kernel_rfl) ?_
    refine WL.st (.slice a132 x127.First.length c133) (ST.load (cell_ext ((SH.holeAt (SH.front 2 hS43958)) 2 _ rfl)) rfl rfl Tryz.underlying25 rfl) rfl rfl rfl ?_
    refine WL.nil ?_
    exact QP.intro (fun k => ([] : List (Option Addr × Nat)).getD k (none, 0)) (d := 74) (by kernel_rfl) (by kernel_rfl) (Below.refl _ _) hS43958 (by kernel_rfl)
  · intro g43929 w43961 R43930 hB43962 hS43963
    have hS43964 : SH w43961 B (aBox 82 b0' [.slice a0_code' s_0_code.length c0_code', .int .i64 x138.2.1, .int .u64 x138.2.2] :: aOwn fInt 2 a129 c130 x127.Mends :: aOwn fInt 2 a132 c133 x127.First :: aHole fRepair 48 2 a5 c6 x3.1 (Int.toNat x118.1) [.string (bs x127.Name), .slice a129 x127.Mends.length c130, .slice a132 x127.First.length c133, .int .i64 x127.Price, .int .i64 x127.Hours] :: R43930) := memEq hS43963 (by kernel_rfl)
    have hb43965 : Below B w w43961 := Below.trans hb43926 hB43962
    have hL43966 : B ≤ w43961.heap.size := Nat.le_trans hL43927 hB43962.size
    refine WL.subk [0] [(0, .pointer (some ⟨b0', 0, none⟩))] (by kernel_rfl) ?_
    refine WL.runk 1 [75] [(75, .pointer (some ⟨b0', 0, none⟩))] (by kernel_rfl) ?_
    refine WL.nil ?_
    exact QP.intro (fun k => ([] : List (Option Addr × Nat)).getD k (none, 0)) (d := 75) (by kernel_rfl) (by kernel_rfl) (Below.refl _ _) hS43964 (by kernel_rfl)
  · intro g43929 w43967 R43930 hB43968 hS43969
    have hS43970 : SH w43967 B (aBox 82 b0' [.slice a0_code' s_0_code.length c0_code', .int .i64 x138.2.1, .int .u64 x138.2.2] :: aOwn fInt 2 a129 c130 x127.Mends :: aOwn fInt 2 a132 c133 x127.First :: aHole fRepair 48 2 a5 c6 x3.1 (Int.toNat x118.1) [.string (bs x127.Name), .slice a129 x127.Mends.length c130, .slice a132 x127.First.length c133, .int .i64 x127.Price, .int .i64 x127.Hours] :: R43930) := memEq hS43969 (by kernel_rfl)
    have hb43971 : Below B w w43967 := Below.trans hb43926 hB43968
    have hL43972 : B ≤ w43967.heap.size := Nat.le_trans hL43927 hB43968.size
    refine WL.subk [] [] (by kernel_rfl) ?_
    refine WL.row fInt 2 ([(-1), 6, 7] : List Int) 3 #[.int .i64 (-1), .int .i64 6, .int .i64 7] 76 (by kernel_rfl) rfl rfl rfl rfl rfl rfl rfl ?_
    intro a43973 c43974 w43975 hE43976 hR43977
    have hb43979 : Below B w w43975 := Below.trans hb43971 (Below.mono hE43976 hL43972)
    have hL43980 : B ≤ w43975.heap.size := Nat.le_trans hL43972 hE43976.size
    have hS43981 : SH w43975 B (aOwn fInt 2 a43973 c43974 ([(-1), 6, 7] : List Int) :: aBox 82 b0' [.slice a0_code' s_0_code.length c0_code', .int .i64 x138.2.1, .int .u64 x138.2.2] :: aOwn fInt 2 a129 c130 x127.Mends :: aOwn fInt 2 a132 c133 x127.First :: aHole fRepair 48 2 a5 c6 x3.1 (Int.toNat x118.1) [.string (bs x127.Name), .slice a129 x127.Mends.length c130, .slice a132 x127.First.length c133, .int .i64 x127.Price, .int .i64 x127.Hours] :: R43930) := SH.add hS43970 hE43976 hL43972 hR43977
    refine WL.nil ?_
    exact QP.intro (fun k => ([(a43973, c43974)] : List (Option Addr × Nat)).getD k (none, 0)) (d := 76) (by kernel_rfl) (by kernel_rfl) (Below.mono hE43976 hL43972) (SH.front 4 (SH.front 4 (SH.front 4 (SH.front 4 hS43981)))) (by kernel_rfl)
  · intro g43929 w43982 R43930 hB43983 hS43984
    have hS43985 : SH w43982 B (aBox 82 b0' [.slice a0_code' s_0_code.length c0_code', .int .i64 x138.2.1, .int .u64 x138.2.2] :: aOwn fInt 2 a129 c130 x127.Mends :: aOwn fInt 2 a132 c133 x127.First :: aHole fRepair 48 2 a5 c6 x3.1 (Int.toNat x118.1) [.string (bs x127.Name), .slice a129 x127.Mends.length c130, .slice a132 x127.First.length c133, .int .i64 x127.Price, .int .i64 x127.Hours] :: aOwn fInt 2 ((g43929 6 0).1) ((g43929 6 0).2) ([(-1), 6, 7] : List Int) :: R43930) := memEq hS43984 (by kernel_rfl)
    have hb43986 : Below B w w43982 := Below.trans hb43926 hB43983
    have hL43987 : B ≤ w43982.heap.size := Nat.le_trans hL43927 hB43983.size
    refine WL.subk [75, 76] [(75, .pointer (some ⟨b0', 0, none⟩)), (76, .slice ((g43929 6 0).1) (([(-1), 6, 7] : List Int).length) ((g43929 6 0).2))] (by kernel_rfl) ?_
    refine WL.call 49 #[.pointer (some ⟨b0', 0, none⟩), .slice ((g43929 6 0).1) (([(-1), 6, 7] : List Int).length) ((g43929 6 0).2)] rfl rfl (by kernel_rfl) (c_49_o1 n s_0_code a0_code' c0_code' x138.2.1 x138.2.2 b0' ([(-1), 6, 7] : List Int) ((g43929 6 0).1) ((g43929 6 0).2) w43982 w0 B (aOwn fInt 2 a129 c130 x127.Mends :: aOwn fInt 2 a132 c133 x127.First :: aHole fRepair 48 2 a5 c6 x3.1 (Int.toNat x118.1) [.string (bs x127.Name), .slice a129 x127.Mends.length c130, .slice a132 x127.First.length c133, .int .i64 x127.Price, .int .i64 x127.Hours] :: R43930) hx43989 (Below.trans hE0 (Below.mono hb43986 hW)) hW hL43987 h0_code hle0_code (SH.front 4 (SH.front 4 (SH.front 3 (SH.front 3 (SH.front 3 hS43985)))))) ?_
    rintro _ w43990 ⟨rfl, hB43994, hS43993⟩
    refine ⟨_, rfl, ?_⟩
    have hb43995 : Below B w w43990 := Below.trans hb43986 hB43994
    have hL43996 : B ≤ w43990.heap.size := Nat.le_trans hL43987 hB43994.size
    refine WL.nil ?_
    exact QP.intro (fun k => ([] : List (Option Addr × Nat)).getD k (none, 0)) (d := 77) (by kernel_rfl) (by kernel_rfl) hB43994 (SH.front 4 (SH.front 4 (SH.front 4 (SH.front 4 (SH.front 1 hS43993))))) (by kernel_rfl)
  · intro g43929 w43997 R43930 hB43998 hS43999
    have hS44000 : SH w43997 B (aBox 82 b0' [.slice a0_code' s_0_code.length c0_code', .int .i64 x43988.2.1, .int .u64 x43988.2.2] :: aOwn fInt 2 a129 c130 x127.Mends :: aOwn fInt 2 a132 c133 x127.First :: aHole fRepair 48 2 a5 c6 x3.1 (Int.toNat x118.1) [.string (bs x127.Name), .slice a129 x127.Mends.length c130, .slice a132 x127.First.length c133, .int .i64 x127.Price, .int .i64 x127.Hours] :: aOwn fInt 2 ((g43929 6 0).1) ((g43929 6 0).2) ([(-1), 6, 7] : List Int) :: R43930) := memEq hS43999 (by kernel_rfl)
    have hb44001 : Below B w w43997 := Below.trans hb43926 hB43998
    have hL44002 : B ≤ w43997.heap.size := Nat.le_trans hL43927 hB43998.size
    refine WL.subk [77] [(77, .int .i64 x43988.1)] (by kernel_rfl) ?_
    refine WL.row fInt 2 ([x43988.1] : List Int) 1 #[.int .i64 x43988.1] 78 (by kernel_rfl) rfl rfl rfl rfl rfl rfl rfl ?_
    intro a44003 c44004 w44005 hE44006 hR44007
    have hb44009 : Below B w w44005 := Below.trans hb44001 (Below.mono hE44006 hL44002)
    have hL44010 : B ≤ w44005.heap.size := Nat.le_trans hL44002 hE44006.size
    have hS44011 : SH w44005 B (aOwn fInt 2 a44003 c44004 ([x43988.1] : List Int) :: aBox 82 b0' [.slice a0_code' s_0_code.length c0_code', .int .i64 x43988.2.1, .int .u64 x43988.2.2] :: aOwn fInt 2 a129 c130 x127.Mends :: aOwn fInt 2 a132 c133 x127.First :: aHole fRepair 48 2 a5 c6 x3.1 (Int.toNat x118.1) [.string (bs x127.Name), .slice a129 x127.Mends.length c130, .slice a132 x127.First.length c133, .int .i64 x127.Price, .int .i64 x127.Hours] :: aOwn fInt 2 ((g43929 6 0).1) ((g43929 6 0).2) ([(-1), 6, 7] : List Int) :: R43930) := SH.add hS44000 hE44006 hL44002 hR44007
    refine WL.nil ?_
    exact QP.intro (fun k => ([(a44003, c44004)] : List (Option Addr × Nat)).getD k (none, 0)) (d := 78) (by kernel_rfl) (by kernel_rfl) (Below.mono hE44006 hL44002) (SH.front 5 (SH.front 5 (SH.front 5 (SH.front 5 (SH.front 5 hS44011))))) (by kernel_rfl)
  · intro g43929 w44012 R43930 hB44013 hS44014
    have hS44015 : SH w44012 B (aBox 82 b0' [.slice a0_code' s_0_code.length c0_code', .int .i64 x43988.2.1, .int .u64 x43988.2.2] :: aOwn fInt 2 a129 c130 x127.Mends :: aOwn fInt 2 a132 c133 x127.First :: aHole fRepair 48 2 a5 c6 x3.1 (Int.toNat x118.1) [.string (bs x127.Name), .slice a129 x127.Mends.length c130, .slice a132 x127.First.length c133, .int .i64 x127.Price, .int .i64 x127.Hours] :: aOwn fInt 2 ((g43929 6 0).1) ((g43929 6 0).2) ([(-1), 6, 7] : List Int) :: aOwn fInt 2 ((g43929 8 0).1) ((g43929 8 0).2) ([x43988.1] : List Int) :: R43930) := memEq hS44014 (by kernel_rfl)
    have hb44016 : Below B w w44012 := Below.trans hb43926 hB44013
    have hL44017 : B ≤ w44012.heap.size := Nat.le_trans hL43927 hB44013.size
    refine WL.subk [74, 78] [(74, .slice a132 x127.First.length c133), (78, .slice ((g43929 8 0).1) (([x43988.1] : List Int).length) ((g43929 8 0).2))] (by kernel_rfl) ?_
    refine WL.append (F := fInt) (xs := x127.First) (ys := ([x43988.1] : List Int)) 79 (SH.front 2 hS44015) hL44017 (SH.rd (SH.front 5 hS44015)) hx44019 rfl rfl rfl Tryz.underlying25 (info2).1 (info2).2.2.1 (info2).2.1 (info2).2.2.2 rfl rfl rfl rfl rfl ?_
    intro a44020 c44021 w44022 hB44023 hS44024
    have hb44025 : Below B w w44022 := Below.trans hb44016 hB44023
    have hL44026 : B ≤ w44022.heap.size := Nat.le_trans hL44017 hB44023.size
    refine WL.nil ?_
    exact QP.intro (fun k => ([(a44020, c44021)] : List (Option Addr × Nat)).getD k (none, 0)) (d := 79) (by kernel_rfl) (by kernel_rfl) hB44023 (SH.front 5 (SH.front 5 (SH.front 3 (SH.front 5 (SH.front 5 (SH.front 5 hS44024)))))) (by kernel_rfl)
  intro g43929 w44027 hB44028 hS44029
  have hS44030 : SH w44027 B (aBox 82 b0' [.slice a0_code' s_0_code.length c0_code', .int .i64 x43988.2.1, .int .u64 x43988.2.2] :: aOwn fInt 2 a129 c130 x127.Mends :: aOwn fInt 2 ((g43929 9 0).1) ((g43929 9 0).2) x44018 :: aHole fRepair 48 2 a5 c6 x3.1 (Int.toNat x118.1) [.string (bs x127.Name), .slice a129 x127.Mends.length c130, .slice a132 x127.First.length c133, .int .i64 x127.Price, .int .i64 x127.Hours] :: aOwn fInt 2 ((g43929 6 0).1) ((g43929 6 0).2) ([(-1), 6, 7] : List Int) :: aOwn fInt 2 ((g43929 8 0).1) ((g43929 8 0).2) ([x43988.1] : List Int) :: L) := memEq hS44029 (by kernel_rfl)
  have hb44031 : Below B w w44027 := Below.trans hb43926 hB44028
  have hL44032 : B ≤ w44027.heap.size := Nat.le_trans hL43927 hB44028.size
  refine WQ.subk [3, 70, 79] [(3, .slice a5 x3.1.length c6), (70, .pointer (some (at_ a5 (Int.toNat x118.1 * 5)))), (79, .slice ((g43929 9 0).1) x44018.length ((g43929 9 0).2))] (by kernel_rfl) ?_
  refine WA.one (i := 10) (D' := [0, 1, 2, 3, 4, 5, 6, 7, 8, 9, 10]) rfl rfl (by kernel_rfl) ?_
  refine WL.runk 1 [3, 79, 80, 81] [(3, .slice a5 x3.1.length c6), (79, .slice ((g43929 9 0).1) x44018.length ((g43929 9 0).2)), (80, .pointer (some (at_ a5 (Int.toNat x118.1 * 5))))] (by kernel_rfl) ?_
  refine WL.nil ?_
  refine WA.one (i := 11) (D' := [0, 1, 2, 3, 4, 5, 6, 7, 8, 9, 10, 11]) rfl rfl (by kernel_rfl) ?_
  refine WL.runk 1 [3, 79, 81] [(3, .slice a5 x3.1.length c6), (79, .slice ((g43929 9 0).1) x44018.length ((g43929 9 0).2)), (81, .pointer (some (at_ a5 (Int.toNat x118.1 * 5 + 2))))] (by kernel_rfl) ?_
  refine WL.nil ?_
  refine WA.one (i := 12) (D' := [0, 1, 2, 3, 4, 5, 6, 7, 8, 9, 10, 11, 12]) rfl rfl (by kernel_rfl) ?_
  refine WL.holeStore 2 [.slice ((g43929 9 0).1) x44018.length ((g43929 9 0).2)] [.string (bs x127.Name), .slice a129 x127.Mends.length c130, .slice ((g43929 9 0).1) x44018.length ((g43929 9 0).2), .int .i64 x127.Price, .int .i64 x127.Hours] (SH.front 3 hS44030) hL44032 rfl rfl rfl rfl rfl rfl rfl (info25).1 (info25).2.1 rfl rfl rfl ?_
  intro w44033 hB44034 hS44035
  have hb44036 : Below B w w44033 := Below.trans hb44031 hB44034
  have hL44037 : B ≤ w44033.heap.size := Nat.le_trans hL44032 hB44034.size
  refine WL.sub [(3, .slice a5 x3.1.length c6)] ⟨rfl, trivial⟩ ?_
  have hS44038 : SH w44033 B (aNest fRepair 48 2 a5 c6 (x3.1.set (Int.toNat x118.1) (SRepair.mk x127.Name x127.Mends x44018 x127.Price x127.Hours)) :: aBox 82 b0' [.slice a0_code' s_0_code.length c0_code', .int .i64 x43988.2.1, .int .u64 x43988.2.2] :: aOwn fInt 2 ((g43929 6 0).1) ((g43929 6 0).2) ([(-1), 6, 7] : List Int) :: aOwn fInt 2 ((g43929 8 0).1) ((g43929 8 0).2) ([x43988.1] : List Int) :: L) := SH.elemBack (Ix := [aOwn fInt 2 a129 c130 x127.Mends, aOwn fInt 2 ((g43929 9 0).1) ((g43929 9 0).2) x44018]) (x' := (SRepair.mk x127.Name x127.Mends x44018 x127.Price x127.Hours)) (SH.front 5 (SH.front 5 (SH.front 3 (SH.front 3 (SH.front 5 (SH.front 5 hS44035)))))) (.val (Fit.row' rfl (Fit.row' rfl (.val (.val .nil)))))
  refine WL.sub [(3, .slice a5 ((x3.1.set (Int.toNat x118.1) (SRepair.mk x127.Name x127.Mends x44018 x127.Price x127.Hours)).length) c6)] ⟨by first | (simp only [List.length_set]; done) | (simp only [List.length_set]; rfl), trivial⟩ ?_
  refine WL.nil ?_
  refine WA.done (by kernel_rfl) ?_
  obtain rfl := Option.some.inj hm
  exact WQ.post' ⟨rfl, hb44036, hL44037, (SH.cutOut 2 2 (SH.front 1 hS44038))⟩ ⟨rfl, trivial⟩

end Go.Proofs.YtkglfbcelaphhaaGreatDoor
