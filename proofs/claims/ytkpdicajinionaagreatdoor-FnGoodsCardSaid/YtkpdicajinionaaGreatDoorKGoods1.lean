/- Each call does what its Lean function says. -/
import Derived.Test.YtkpdicajinionaaGreatDoorTi
import Derived.Test.YtkpdicajinionaaGreatDoorEq
import Derived.Test.YtkpdicajinionaaGreatDoorMo
import Derived.Test.YtkpdicajinionaaGreatDoorCh
set_option maxRecDepth 20000
set_option maxHeartbeats 40000000
namespace Go.Proofs.YtkpdicajinionaaGreatDoor
open Go Go.Gv Go.RowKit

theorem c_4 (n : Nat) (code_0 : List Int) (a0' : Option Addr) (c0' : Nat) (w : World) {r : Bool} (hm : m_laws_f6big n code_0 = some r) (_h0 : Rd fU8.ty w a0' code_0) (_hle0 : code_0.length ≤ c0') :
    CallV Tryz.prog 4 #[.slice a0' code_0.length c0'] w (fun v w' => v = .bool r ∧ Ext w w') := by
  unfold m_laws_f6big at hm
  refine CallV.enter Tryz.func4 rfl (by kernel_rfl) Tryz.ntmps4 (env := [(0, .slice a0' code_0.length c0')]) ⟨rfl, trivial⟩ ?_
  refine WP.seq (fun K1 hK1 => ?_)
  refine WP.region ?_
  refine WL.runk 1 [0] [(0, .slice a0' code_0.length c0')] (by kernel_rfl) ?_
  refine WL.nil ?_
  refine WQ.then_normal (hK1 _ _ _ ?_)
  refine WP.seq (fun K2 hK2 => ?_)
  refine WP.region ?_
  refine WL.runk 4 [2] [(2, .bool (decide ((code_0.length : Int) > 4096)))] (by kernel_rfl) ?_
  refine WL.nil ?_
  refine WQ.then_normal (hK2 _ _ _ ?_)
  refine WP.ret ?_
  obtain rfl := Option.some.inj hm
  exact WQ.ret1 _ rfl rfl ⟨rfl, (Ext.refl w)⟩

theorem c_25 (n : Nat) (code_0 : List Int) (a0' : Option Addr) (c0' : Nat) (w : World) {r : (Int × Int)} (hm : m_spec_l00From n code_0 = some r) (_h0 : Rd fU8.ty w a0' code_0) (_hle0 : code_0.length ≤ c0') :
    CallV Tryz.prog 25 #[.slice a0' code_0.length c0'] w (fun v w' => ∃ (rb0 : Nat), v = .pointer (some ⟨rb0, 0, none⟩) ∧ Ext w w' ∧ SH w' w.heap.size [aBox 87 rb0 [.slice a0' code_0.length c0', .int .i64 r.1, .int .u64 r.2]]) := by
  unfold m_spec_l00From at hm
  refine CallV.enter Tryz.func25 rfl (by kernel_rfl) Tryz.ntmps25 (env := [(0, .slice a0' code_0.length c0')]) ⟨rfl, trivial⟩ ?_
  refine WP.seq (fun K1 hK1 => ?_)
  refine WP.region ?_
  refine WL.runk 1 [0] [(0, .slice a0' code_0.length c0')] (by kernel_rfl) ?_
  refine WL.nil ?_
  refine WQ.then_normal (hK1 _ _ _ ?_)
  refine WP.seq (fun K2 hK2 => ?_)
  refine WP.region ?_
  refine WL.runk 2 [4] [(4, .agg #[.slice a0' code_0.length c0', .int .i64 0, .int .u64 0])] (by kernel_rfl) ?_
  refine WL.box 87 [.slice a0' code_0.length c0', .int .i64 0, .int .u64 0] 5 (by kernel_rfl) rfl rfl rfl rfl ?_
  intro b3 w4 hE5 hR6
  have hb8 : Ext w w4 := Ext.trans (Ext.refl w) hE5
  have hL9 : w.heap.size ≤ w4.heap.size := Nat.le_trans (Nat.le_refl _) hE5.size
  have hS10 : SH w4 w.heap.size [aBox 87 b3 [.slice a0' code_0.length c0', .int .i64 0, .int .u64 0]] := SH.add (SH.nil _ _) hE5 (Nat.le_refl _) hR6
  refine WL.runk 1 [2] [(2, .pointer (some ⟨b3, 0, none⟩))] (by kernel_rfl) ?_
  refine WL.nil ?_
  refine WQ.then_normal (hK2 _ _ _ ?_)
  refine WP.ret ?_
  obtain rfl := Option.some.inj hm
  exact WQ.ret1 _ rfl rfl ⟨_, rfl, hb8, hS10⟩

theorem c_58 (n : Nat) (s_0_code : List Int) (a0_code' : Option Addr) (c0_code' : Nat) (s_0_at_ : Int) (s_0_seed : Int) (b0' : Nat) (w : World) (w0 : World) (B : Nat) (L : List Asrt) {r : Int × Int × Int} (hm : m_spec_l00Src_next n s_0_code s_0_at_ s_0_seed = some r) (hE0 : Ext w0 w) (hW : w0.heap.size ≤ B) (hL : B ≤ w.heap.size) (h0_code : Rd fU8.ty w0 a0_code' s_0_code) (_hle0_code : s_0_code.length ≤ c0_code') (hS : SH w B (aBox 87 b0' [.slice a0_code' s_0_code.length c0_code', .int .i64 s_0_at_, .int .u64 s_0_seed] :: L)) :
    CallV Tryz.prog 58 #[.pointer (some ⟨b0', 0, none⟩)] w (fun v w' => v = .int .i64 r.1 ∧ Below B w w' ∧ SH w' B (aBox 87 b0' [.slice a0_code' s_0_code.length c0_code', .int .i64 r.2.1, .int .u64 r.2.2] :: L)) := by
  unfold m_spec_l00Src_next at hm
  refine CallV.enter Tryz.func58 rfl (by kernel_rfl) Tryz.ntmps58 (env := [(0, .pointer (some ⟨b0', 0, none⟩))]) ⟨rfl, trivial⟩ ?_
  refine WP.seq (fun K1 hK1 => ?_)
  refine WP.region ?_
  refine WL.runk 1 [0] [(0, .pointer (some ⟨b0', 0, none⟩))] (by kernel_rfl) ?_
  refine WL.nil ?_
  refine WQ.then_normal (hK1 _ _ _ ?_)
  refine WP.seq (fun K2 hK2 => ?_)
  refine WP.region ?_
  refine WL.runk 1 [0, 3] [(0, .pointer (some ⟨b0', 0, none⟩)), (3, .int .i64 0)] (by kernel_rfl) ?_
  refine WL.nil ?_
  refine WQ.then_normal (hK2 _ _ _ ?_)
  refine WP.seq (fun K3 hK3 => ?_)
  refine WP.seq (fun K4 hK4 => ?_)
  refine WP.quiet (by kernel_rfl) (by kernel_rfl) ?_
  refine QL.step1v 4 (.pointer (some ⟨b0', 0, none⟩)) rfl (fun _ => by kernel_rfl) ?_
  refine QL.step1v 5 (.pointer (some ⟨b0', 0, none⟩)) rfl (fun _ => by kernel_rfl) ?_
  refine QL.step1v 6 (.pointer (some ⟨b0', 1, none⟩)) rfl (fun _ => by kernel_rfl) ?_
  refine QL.subk [0, 3, 6] [(0, .pointer (some ⟨b0', 0, none⟩)), (3, .int .i64 0), (6, .pointer (some ⟨b0', 1, none⟩))] (by kernel_rfl) ?_
  refine QL.st (.int .i64 s_0_at_) (ST.load (cell_ext (SH.boxAt (SH.front 0 hS) 1 _ rfl)) rfl rfl Tryz.underlying3 rfl) rfl rfl rfl ?_
  refine QL.step1v 8 (.pointer (some ⟨b0', 0, none⟩)) rfl (fun _ => by kernel_rfl) ?_
  refine QL.step1v 9 (.pointer (some ⟨b0', 0, none⟩)) rfl (fun _ => by kernel_rfl) ?_
  refine QL.step1v 10 (.pointer (some ⟨b0', 0, none⟩)) rfl (fun _ => by kernel_rfl) ?_
  refine QL.subk [0, 3, 7, 10] [(0, .pointer (some ⟨b0', 0, none⟩)), (3, .int .i64 0), (7, .int .i64 s_0_at_), (10, .pointer (some ⟨b0', 0, none⟩))] (by kernel_rfl) ?_
  refine QL.st (.slice a0_code' s_0_code.length c0_code') (ST.load (cell_ext (SH.boxAt (SH.front 0 hS) 0 _ rfl)) rfl rfl Tryz.underlying22 rfl) rfl rfl rfl ?_
  refine QL.step1v 12 (.int .i64 (s_0_code.length : Int)) rfl (fun _ => by kernel_rfl) ?_
  refine QL.step1v 13 (.bool (decide (s_0_at_ < (s_0_code.length : Int)))) rfl (fun _ => by kernel_rfl) ?_
  refine QL.subk [0, 3, 13] [(0, .pointer (some ⟨b0', 0, none⟩)), (3, .int .i64 0), (13, .bool (decide (s_0_at_ < (s_0_code.length : Int))))] (by kernel_rfl) ?_
  refine QL.nil ?_
  intro w5 hE6
  have hb7 : Below B w w5 := Below.trans (Below.refl _ _) (Below.mono hE6 hL)
  have hL8 : B ≤ w5.heap.size := Nat.le_trans hL hE6.size
  have hS9 : SH w5 B (aBox 87 b0' [.slice a0_code' s_0_code.length c0_code', .int .i64 s_0_at_, .int .u64 s_0_seed] :: L) := SH.ext hS hE6
  refine WQ.then_normal (hK4 _ _ _ ?_)
  obtain ⟨x18, hx19, hm⟩ := bindE hm
  refine WP.cut (fun env' w' => env' = [(0, .pointer (some ⟨b0', 0, none⟩)), (3, .int .i64 x18)] ∧ Below B w w' ∧ B ≤ w'.heap.size ∧ SH w' B (aBox 87 b0' [.slice a0_code' s_0_code.length c0_code', .int .i64 s_0_at_, .int .u64 s_0_seed] :: L)) ?_ ?_
  · have hm := hx19; clear hx19
    refine WP.cond (decide (s_0_at_ < (s_0_code.length : Int))) rfl rfl (fun hc10 => ?_) (fun hc10 => ?_)
    rotate_left
    · have hm := iteF hm hc10
      refine WP.skip ?_
      obtain rfl := Option.some.inj hm
      exact WQ.post' ⟨rfl, hb7, hL8, hS9⟩ ⟨rfl, rfl, trivial⟩
    have hm := iteT hm hc10
    refine WP.quiet (by kernel_rfl) (by kernel_rfl) ?_
    refine QL.step1v 14 (.pointer (some ⟨b0', 0, none⟩)) rfl (fun _ => by kernel_rfl) ?_
    refine QL.step1v 15 (.pointer (some ⟨b0', 0, none⟩)) rfl (fun _ => by kernel_rfl) ?_
    refine QL.step1v 16 (.pointer (some ⟨b0', 0, none⟩)) rfl (fun _ => by kernel_rfl) ?_
    refine QL.subk [0, 16] [(0, .pointer (some ⟨b0', 0, none⟩)), (16, .pointer (some ⟨b0', 0, none⟩))] (by kernel_rfl) ?_
    refine QL.st (.slice a0_code' s_0_code.length c0_code') (ST.load (cell_ext (SH.boxAt (SH.front 0 hS9) 0 _ rfl)) rfl rfl Tryz.underlying22 rfl) rfl rfl rfl ?_
    refine QL.step1v 18 (.pointer (some ⟨b0', 0, none⟩)) rfl (fun _ => by kernel_rfl) ?_
    refine QL.step1v 19 (.pointer (some ⟨b0', 0, none⟩)) rfl (fun _ => by kernel_rfl) ?_
    refine QL.step1v 20 (.pointer (some ⟨b0', 1, none⟩)) rfl (fun _ => by kernel_rfl) ?_
    refine QL.subk [0, 17, 20] [(0, .pointer (some ⟨b0', 0, none⟩)), (17, .slice a0_code' s_0_code.length c0_code'), (20, .pointer (some ⟨b0', 1, none⟩))] (by kernel_rfl) ?_
    refine QL.st (.int .i64 s_0_at_) (ST.load (cell_ext (SH.boxAt (SH.front 0 hS9) 1 _ rfl)) rfl rfl Tryz.underlying3 rfl) rfl rfl rfl ?_
    obtain ⟨x20, hx21, hm⟩ := bindE hm
    refine QL.st (.pointer (some (at_ a0_code' (Int.toNat s_0_at_ * 1)))) (ST.index (T := fU8.ty) (xs := s_0_code) (Rd.below h0_code (Below.trans hE0 (Below.mono hb7 hW))) hx21 rfl rfl rfl Tryz.underlying22 (info5).1 (info5).2.1) rfl rfl rfl ?_
    refine QL.st (.int .u8 x20) (ST.load (cell_ext (Rd.flat (F := fU8) (Rd.below h0_code (Below.trans hE0 (Below.mono hb7 hW))) hx21 0 rfl)) rfl rfl Tryz.underlying5 rfl) rfl rfl rfl ?_
    refine QL.step1v 24 (.int .i64 (wI64 x20)) rfl (fun _ => by kernel_rfl) ?_
    refine QL.step1v 3 (.int .i64 (wI64 x20)) rfl (fun _ => by kernel_rfl) ?_
    refine QL.subk [0, 3] [(0, .pointer (some ⟨b0', 0, none⟩)), (3, .int .i64 (wI64 x20))] (by kernel_rfl) ?_
    refine QL.nil ?_
    intro w22 hE23
    have hb24 : Below B w w22 := Below.trans hb7 (Below.mono hE23 hL8)
    have hL25 : B ≤ w22.heap.size := Nat.le_trans hL8 hE23.size
    have hS26 : SH w22 B (aBox 87 b0' [.slice a0_code' s_0_code.length c0_code', .int .i64 s_0_at_, .int .u64 s_0_seed] :: L) := SH.ext hS9 hE23
    obtain rfl := Option.some.inj hm
    exact WQ.post' ⟨rfl, hb24, hL25, hS26⟩ ⟨rfl, rfl, trivial⟩
  clear hx19
  rintro _ w27 ⟨rfl, hb28, hL29, hS30⟩
  refine WQ.then_normal (hK3 _ _ _ ?_)
  refine WP.seq (fun K31 hK31 => ?_)
  refine WP.region ?_
  refine WL.runk 3 [0, 3, 25, 27] [(0, .pointer (some ⟨b0', 0, none⟩)), (3, .int .i64 x18), (25, .pointer (some ⟨b0', 0, none⟩)), (27, .pointer (some ⟨b0', 1, none⟩))] (by kernel_rfl) ?_
  refine WL.st (.int .i64 s_0_at_) (ST.load (cell_ext (SH.boxAt (SH.front 0 hS30) 1 _ rfl)) rfl rfl Tryz.underlying3 rfl) rfl rfl rfl ?_
  refine WL.runk 3 [0, 3, 29, 31] [(0, .pointer (some ⟨b0', 0, none⟩)), (3, .int .i64 x18), (29, .int .i64 (wI64 (s_0_at_ + 1))), (31, .pointer (some ⟨b0', 1, none⟩))] (by kernel_rfl) ?_
  refine WL.boxStore 1 [.int .i64 (wI64 (s_0_at_ + 1))] [.slice a0_code' s_0_code.length c0_code', .int .i64 (wI64 (s_0_at_ + 1)), .int .u64 s_0_seed] (SH.front 0 hS30) hL29 rfl rfl rfl rfl rfl rfl rfl (info3).1 (info3).2.1 rfl rfl rfl ?_
  intro w32 hB33 hS34
  have hb35 : Below B w w32 := Below.trans hb28 hB33
  have hL36 : B ≤ w32.heap.size := Nat.le_trans hL29 hB33.size
  refine WL.sub [(0, .pointer (some ⟨b0', 0, none⟩)), (3, .int .i64 x18)] ⟨rfl, rfl, trivial⟩ ?_
  refine WL.nil ?_
  refine WQ.then_normal (hK31 _ _ _ ?_)
  refine WP.seq (fun K37 hK37 => ?_)
  refine WP.region ?_
  refine WL.runk 4 [0, 3, 32, 35] [(0, .pointer (some ⟨b0', 0, none⟩)), (3, .int .i64 x18), (32, .pointer (some ⟨b0', 0, none⟩)), (35, .pointer (some ⟨b0', 2, none⟩))] (by kernel_rfl) ?_
  refine WL.st (.int .u64 s_0_seed) (ST.load (cell_ext (SH.boxAt (SH.front 0 hS34) 2 _ rfl)) rfl rfl Tryz.underlying85 rfl) rfl rfl rfl ?_
  refine WL.runk 7 [0, 3, 41, 43] [(0, .pointer (some ⟨b0', 0, none⟩)), (3, .int .i64 x18), (41, .int .u64 (IntKind.u64.wrap ((IntKind.u64.wrap ((IntKind.u64.wrap (s_0_seed * 6364136223846793005)) + (IntKind.u64.wrap x18))) + 1442695040888963407))), (43, .pointer (some ⟨b0', 2, none⟩))] (by kernel_rfl) ?_
  refine WL.boxStore 2 [.int .u64 (IntKind.u64.wrap ((IntKind.u64.wrap ((IntKind.u64.wrap (s_0_seed * 6364136223846793005)) + (IntKind.u64.wrap x18))) + 1442695040888963407))] [.slice a0_code' s_0_code.length c0_code', .int .i64 (wI64 (s_0_at_ + 1)), .int .u64 (IntKind.u64.wrap ((IntKind.u64.wrap ((IntKind.u64.wrap (s_0_seed * 6364136223846793005)) + (IntKind.u64.wrap x18))) + 1442695040888963407))] (SH.front 0 hS34) hL36 rfl rfl rfl rfl rfl rfl rfl (info85).1 (info85).2.1 rfl rfl rfl ?_
  intro w38 hB39 hS40
  have hb41 : Below B w w38 := Below.trans hb35 hB39
  have hL42 : B ≤ w38.heap.size := Nat.le_trans hL36 hB39.size
  refine WL.sub [(0, .pointer (some ⟨b0', 0, none⟩)), (3, .int .i64 x18)] ⟨rfl, rfl, trivial⟩ ?_
  refine WL.nil ?_
  refine WQ.then_normal (hK37 _ _ _ ?_)
  refine WP.seq (fun K43 hK43 => ?_)
  refine WP.seq (fun K44 hK44 => ?_)
  refine WP.quiet (by kernel_rfl) (by kernel_rfl) ?_
  refine QL.step1v 44 (.pointer (some ⟨b0', 0, none⟩)) rfl (fun _ => by kernel_rfl) ?_
  refine QL.step1v 45 (.pointer (some ⟨b0', 0, none⟩)) rfl (fun _ => by kernel_rfl) ?_
  refine QL.step1v 46 (.pointer (some ⟨b0', 1, none⟩)) rfl (fun _ => by kernel_rfl) ?_
  refine QL.subk [0, 3, 46] [(0, .pointer (some ⟨b0', 0, none⟩)), (3, .int .i64 x18), (46, .pointer (some ⟨b0', 1, none⟩))] (by kernel_rfl) ?_
  refine QL.st (.int .i64 (wI64 (s_0_at_ + 1))) (ST.load (cell_ext (SH.boxAt (SH.front 0 hS40) 1 _ rfl)) rfl rfl Tryz.underlying3 rfl) rfl rfl rfl ?_
  refine QL.step1v 48 (.pointer (some ⟨b0', 0, none⟩)) rfl (fun _ => by kernel_rfl) ?_
  refine QL.step1v 49 (.pointer (some ⟨b0', 0, none⟩)) rfl (fun _ => by kernel_rfl) ?_
  refine QL.step1v 50 (.pointer (some ⟨b0', 0, none⟩)) rfl (fun _ => by kernel_rfl) ?_
  refine QL.subk [0, 3, 47, 50] [(0, .pointer (some ⟨b0', 0, none⟩)), (3, .int .i64 x18), (47, .int .i64 (wI64 (s_0_at_ + 1))), (50, .pointer (some ⟨b0', 0, none⟩))] (by kernel_rfl) ?_
  refine QL.st (.slice a0_code' s_0_code.length c0_code') (ST.load (cell_ext (SH.boxAt (SH.front 0 hS40) 0 _ rfl)) rfl rfl Tryz.underlying22 rfl) rfl rfl rfl ?_
  refine QL.step1v 52 (.int .i64 (s_0_code.length : Int)) rfl (fun _ => by kernel_rfl) ?_
  refine QL.step1v 53 (.bool (decide ((wI64 (s_0_at_ + 1)) ≤ (s_0_code.length : Int)))) rfl (fun _ => by kernel_rfl) ?_
  refine QL.subk [0, 3, 53] [(0, .pointer (some ⟨b0', 0, none⟩)), (3, .int .i64 x18), (53, .bool (decide ((wI64 (s_0_at_ + 1)) ≤ (s_0_code.length : Int))))] (by kernel_rfl) ?_
  refine QL.nil ?_
  intro w45 hE46
  have hb47 : Below B w w45 := Below.trans hb41 (Below.mono hE46 hL42)
  have hL48 : B ≤ w45.heap.size := Nat.le_trans hL42 hE46.size
  have hS49 : SH w45 B (aBox 87 b0' [.slice a0_code' s_0_code.length c0_code', .int .i64 (wI64 (s_0_at_ + 1)), .int .u64 (IntKind.u64.wrap ((IntKind.u64.wrap ((IntKind.u64.wrap (s_0_seed * 6364136223846793005)) + (IntKind.u64.wrap x18))) + 1442695040888963407))] :: L) := SH.ext hS40 hE46
  refine WQ.then_normal (hK44 _ _ _ ?_)
  refine WP.cond (decide ((wI64 (s_0_at_ + 1)) ≤ (s_0_code.length : Int))) rfl rfl (fun hc50 => ?_) (fun hc50 => ?_)
  · have hm := iteT hm hc50
    refine WP.seq (fun K51 hK51 => ?_)
    refine WP.region ?_
    refine WL.runk 2 [2] [(2, .int .i64 x18)] (by kernel_rfl) ?_
    refine WL.nil ?_
    refine WQ.then_normal (hK51 _ _ _ ?_)
    refine WP.ret ?_
    refine WQ.then_ret ?_
    obtain rfl := Option.some.inj hm
    exact WQ.ret1 _ rfl rfl ⟨rfl, hb47, hS49⟩
  have hm := iteF hm hc50
  refine WP.skip ?_
  refine WQ.then_normal (hK43 _ _ _ ?_)
  refine WP.seq (fun K52 hK52 => ?_)
  refine WP.region ?_
  refine WL.runk 3 [57] [(57, .pointer (some ⟨b0', 2, none⟩))] (by kernel_rfl) ?_
  refine WL.st (.int .u64 (IntKind.u64.wrap ((IntKind.u64.wrap ((IntKind.u64.wrap (s_0_seed * 6364136223846793005)) + (IntKind.u64.wrap x18))) + 1442695040888963407))) (ST.load (cell_ext (SH.boxAt (SH.front 0 hS49) 2 _ rfl)) rfl rfl Tryz.underlying85 rfl) rfl rfl rfl ?_
  obtain ⟨x53, hx54, hm⟩ := bindE hm
  refine WL.st (.int .u64 x53) (ST.shr (k := .u64) hx54 rfl rfl rfl) rfl rfl rfl ?_
  refine WL.runk 3 [2] [(2, .int .i64 (wI64 (iand .u64 x53 255)))] (by kernel_rfl) ?_
  refine WL.nil ?_
  refine WQ.then_normal (hK52 _ _ _ ?_)
  refine WP.ret ?_
  obtain rfl := Option.some.inj hm
  exact WQ.ret1 _ rfl rfl ⟨rfl, hb47, hS49⟩

theorem c_27 (n : Nat) (s_0_code : List Int) (a0_code' : Option Addr) (c0_code' : Nat) (s_0_at_ : Int) (s_0_seed : Int) (b0' : Nat) (n_1 : Int) (w : World) (w0 : World) (B : Nat) (L : List Asrt) {r : Int × Int × Int} (hm : m_spec_l00Src_pick n s_0_code s_0_at_ s_0_seed n_1 = some r) (hE0 : Ext w0 w) (hW : w0.heap.size ≤ B) (hL : B ≤ w.heap.size) (h0_code : Rd fU8.ty w0 a0_code' s_0_code) (hle0_code : s_0_code.length ≤ c0_code') (hS : SH w B (aBox 87 b0' [.slice a0_code' s_0_code.length c0_code', .int .i64 s_0_at_, .int .u64 s_0_seed] :: L)) :
    CallV Tryz.prog 27 #[.pointer (some ⟨b0', 0, none⟩), .int .i64 n_1] w (fun v w' => v = .int .i64 r.1 ∧ Below B w w' ∧ SH w' B (aBox 87 b0' [.slice a0_code' s_0_code.length c0_code', .int .i64 r.2.1, .int .u64 r.2.2] :: L)) := by
  unfold m_spec_l00Src_pick at hm
  refine CallV.enter Tryz.func27 rfl (by kernel_rfl) Tryz.ntmps27 (env := [(0, .pointer (some ⟨b0', 0, none⟩)), (1, .int .i64 n_1)]) ⟨rfl, rfl, trivial⟩ ?_
  refine WP.seq (fun K1 hK1 => ?_)
  refine WP.region ?_
  refine WL.runk 1 [0, 1] [(0, .pointer (some ⟨b0', 0, none⟩)), (1, .int .i64 n_1)] (by kernel_rfl) ?_
  refine WL.nil ?_
  refine WQ.then_normal (hK1 _ _ _ ?_)
  refine WP.seq (fun K2 hK2 => ?_)
  refine WP.seq (fun K3 hK3 => ?_)
  refine WP.region ?_
  refine WL.runk 2 [0, 1, 7] [(0, .pointer (some ⟨b0', 0, none⟩)), (1, .int .i64 n_1), (7, .bool (decide (n_1 ≤ 1)))] (by kernel_rfl) ?_
  refine WL.nil ?_
  refine WQ.then_normal (hK3 _ _ _ ?_)
  refine WP.cond (decide (n_1 ≤ 1)) rfl rfl (fun hc4 => ?_) (fun hc4 => ?_)
  · have hm := iteT hm hc4
    refine WP.seq (fun K5 hK5 => ?_)
    refine WP.region ?_
    refine WL.runk 1 [4] [(4, .int .i64 0)] (by kernel_rfl) ?_
    refine WL.nil ?_
    refine WQ.then_normal (hK5 _ _ _ ?_)
    refine WP.ret ?_
    refine WQ.then_ret ?_
    obtain rfl := Option.some.inj hm
    exact WQ.ret1 _ rfl rfl ⟨rfl, (Below.refl _ _), hS⟩
  have hm := iteF hm hc4
  refine WP.skip ?_
  refine WQ.then_normal (hK2 _ _ _ ?_)
  refine WP.seq (fun K6 hK6 => ?_)
  refine WP.region ?_
  refine WL.runk 1 [0, 1, 8] [(0, .pointer (some ⟨b0', 0, none⟩)), (1, .int .i64 n_1), (8, .pointer (some ⟨b0', 0, none⟩))] (by kernel_rfl) ?_
  obtain ⟨x7, hx8, hm⟩ := bindE hm
  refine WL.call 58 #[.pointer (some ⟨b0', 0, none⟩)] rfl rfl (by kernel_rfl) (c_58 n s_0_code a0_code' c0_code' s_0_at_ s_0_seed b0' w w0 B (L) hx8 (Below.trans hE0 (Below.mono (Below.refl _ _) hW)) hW hL h0_code hle0_code hS) ?_
  rintro _ w9 ⟨rfl, hB13, hS12⟩
  refine ⟨_, rfl, ?_⟩
  have hb14 : Below B w w9 := Below.trans (Below.refl _ _) hB13
  have hL15 : B ≤ w9.heap.size := Nat.le_trans hL hB13.size
  refine WL.runk 1 [0, 1, 5] [(0, .pointer (some ⟨b0', 0, none⟩)), (1, .int .i64 n_1), (5, .int .i64 x7.1)] (by kernel_rfl) ?_
  refine WL.nil ?_
  refine WQ.then_normal (hK6 _ _ _ ?_)
  refine WP.seq (fun K16 hK16 => ?_)
  refine WP.seq (fun K17 hK17 => ?_)
  refine WP.region ?_
  refine WL.runk 2 [0, 1, 5, 11] [(0, .pointer (some ⟨b0', 0, none⟩)), (1, .int .i64 n_1), (5, .int .i64 x7.1), (11, .bool (decide (n_1 > 200)))] (by kernel_rfl) ?_
  refine WL.nil ?_
  refine WQ.then_normal (hK17 _ _ _ ?_)
  obtain ⟨x48, hx49, hm⟩ := bindE hm
  refine WP.cut (fun env' w' => env' = [(1, .int .i64 n_1), (5, .int .i64 x48.1)] ∧ Below B w w' ∧ B ≤ w'.heap.size ∧ SH w' B (aBox 87 b0' [.slice a0_code' s_0_code.length c0_code', .int .i64 x48.2.1, .int .u64 x48.2.2] :: L)) ?_ ?_
  rotate_left
  · clear hx49
    rintro _ w59 ⟨rfl, hb60, hL61, hS62⟩
    refine WQ.then_normal (hK16 _ _ _ ?_)
    refine WP.seq (fun K63 hK63 => ?_)
    refine WP.region ?_
    refine WL.runk 2 [17, 18] [(17, .int .i64 x48.1), (18, .int .i64 n_1)] (by kernel_rfl) ?_
    obtain ⟨x64, hx65, hm⟩ := bindE hm
    refine WL.st (.int .i64 x64) (ST.rem (k := .i64) hx65 rfl rfl rfl) rfl rfl rfl ?_
    refine WL.runk 1 [4] [(4, .int .i64 x64)] (by kernel_rfl) ?_
    refine WL.nil ?_
    refine WQ.then_normal (hK63 _ _ _ ?_)
    refine WP.ret ?_
    obtain rfl := Option.some.inj hm
    exact WQ.ret1 _ rfl rfl ⟨rfl, hb60, hS62⟩
  have hm := hx49; clear hx49
  refine WP.cond (decide (n_1 > 200)) rfl rfl (fun hc18 => ?_) (fun hc18 => ?_)
  rotate_left
  · have hm := iteF hm hc18
    refine WP.skip ?_
    obtain rfl := Option.some.inj hm
    exact WQ.post' ⟨rfl, hb14, hL15, hS12⟩ ⟨rfl, rfl, trivial⟩
  have hm := iteT hm hc18
  refine WP.region ?_
  refine WL.runk 3 [1, 13, 14] [(1, .int .i64 n_1), (13, .int .i64 (wI64 (x7.1 * 256))), (14, .pointer (some ⟨b0', 0, none⟩))] (by kernel_rfl) ?_
  obtain ⟨x50, hx51, hm⟩ := bindE hm
  refine WL.call 58 #[.pointer (some ⟨b0', 0, none⟩)] rfl rfl (by kernel_rfl) (c_58 n s_0_code a0_code' c0_code' x7.2.1 x7.2.2 b0' w9 w0 B (L) hx51 (Below.trans hE0 (Below.mono hb14 hW)) hW hL15 h0_code hle0_code hS12) ?_
  rintro _ w52 ⟨rfl, hB56, hS55⟩
  refine ⟨_, rfl, ?_⟩
  have hb57 : Below B w w52 := Below.trans hb14 hB56
  have hL58 : B ≤ w52.heap.size := Nat.le_trans hL15 hB56.size
  refine WL.runk 2 [1, 5] [(1, .int .i64 n_1), (5, .int .i64 (wI64 ((wI64 (x7.1 * 256)) + x50.1)))] (by kernel_rfl) ?_
  refine WL.nil ?_
  obtain rfl := Option.some.inj hm
  exact WQ.post' ⟨rfl, hb57, hL58, hS55⟩ ⟨rfl, rfl, trivial⟩

theorem c_29 (n : Nat) (s_0_code : List Int) (a0_code' : Option Addr) (c0_code' : Nat) (s_0_at_ : Int) (s_0_seed : Int) (b0' : Nat) (n_1 : Int) (w : World) (w0 : World) (B : Nat) (L : List Asrt) {r : Bool × Int × Int} (hm : m_spec_l00Src_one n s_0_code s_0_at_ s_0_seed n_1 = some r) (hE0 : Ext w0 w) (hW : w0.heap.size ≤ B) (hL : B ≤ w.heap.size) (h0_code : Rd fU8.ty w0 a0_code' s_0_code) (hle0_code : s_0_code.length ≤ c0_code') (hS : SH w B (aBox 87 b0' [.slice a0_code' s_0_code.length c0_code', .int .i64 s_0_at_, .int .u64 s_0_seed] :: L)) :
    CallV Tryz.prog 29 #[.pointer (some ⟨b0', 0, none⟩), .int .i64 n_1] w (fun v w' => v = .bool r.1 ∧ Below B w w' ∧ SH w' B (aBox 87 b0' [.slice a0_code' s_0_code.length c0_code', .int .i64 r.2.1, .int .u64 r.2.2] :: L)) := by
  unfold m_spec_l00Src_one at hm
  refine CallV.enter Tryz.func29 rfl (by kernel_rfl) Tryz.ntmps29 (env := [(0, .pointer (some ⟨b0', 0, none⟩)), (1, .int .i64 n_1)]) ⟨rfl, rfl, trivial⟩ ?_
  refine WP.seq (fun K1 hK1 => ?_)
  refine WP.region ?_
  refine WL.runk 1 [0, 1] [(0, .pointer (some ⟨b0', 0, none⟩)), (1, .int .i64 n_1)] (by kernel_rfl) ?_
  refine WL.nil ?_
  refine WQ.then_normal (hK1 _ _ _ ?_)
  refine WP.seq (fun K2 hK2 => ?_)
  refine WP.region ?_
  refine WL.runk 2 [5, 6] [(5, .pointer (some ⟨b0', 0, none⟩)), (6, .int .i64 n_1)] (by kernel_rfl) ?_
  obtain ⟨x3, hx4, hm⟩ := bindE hm
  refine WL.call 27 #[.pointer (some ⟨b0', 0, none⟩), .int .i64 n_1] rfl rfl (by kernel_rfl) (c_27 n s_0_code a0_code' c0_code' s_0_at_ s_0_seed b0' n_1 w w0 B (L) hx4 (Below.trans hE0 (Below.mono (Below.refl _ _) hW)) hW hL h0_code hle0_code hS) ?_
  rintro _ w5 ⟨rfl, hB9, hS8⟩
  refine ⟨_, rfl, ?_⟩
  have hb10 : Below B w w5 := Below.trans (Below.refl _ _) hB9
  have hL11 : B ≤ w5.heap.size := Nat.le_trans hL hB9.size
  refine WL.runk 2 [4] [(4, .bool (x3.1 == 0))] (by kernel_rfl) ?_
  refine WL.nil ?_
  refine WQ.then_normal (hK2 _ _ _ ?_)
  refine WP.ret ?_
  obtain rfl := Option.some.inj hm
  exact WQ.ret1 _ rfl rfl ⟨rfl, hb10, hS8⟩

theorem c_37_o1 (n : Nat) (s_0_code : List Int) (a0_code' : Option Addr) (c0_code' : Nat) (s_0_at_ : Int) (s_0_seed : Int) (b0' : Nat) (list_1 : List (List UInt8)) (a1' : Option Addr) (c1' : Nat) (w : World) (w0 : World) (B : Nat) (L : List Asrt) {r : List UInt8 × Int × Int} (hm : m_spec_l00Src_text_o1 n s_0_code s_0_at_ s_0_seed list_1 = some r) (hE0 : Ext w0 w) (hW : w0.heap.size ≤ B) (hL : B ≤ w.heap.size) (h0_code : Rd fU8.ty w0 a0_code' s_0_code) (hle0_code : s_0_code.length ≤ c0_code') (hS : SH w B (aBox 87 b0' [.slice a0_code' s_0_code.length c0_code', .int .i64 s_0_at_, .int .u64 s_0_seed] :: aOwn fStr 9 a1' c1' list_1 :: L)) :
    CallV Tryz.prog 37 #[.pointer (some ⟨b0', 0, none⟩), .slice a1' list_1.length c1'] w (fun v w' => v = .string (bs r.1) ∧ Below B w w' ∧ SH w' B (aBox 87 b0' [.slice a0_code' s_0_code.length c0_code', .int .i64 r.2.1, .int .u64 r.2.2] :: aOwn fStr 9 a1' c1' list_1 :: L)) := by
  unfold m_spec_l00Src_text_o1 at hm
  refine CallV.enter Tryz.func37 rfl (by kernel_rfl) Tryz.ntmps37 (env := [(0, .pointer (some ⟨b0', 0, none⟩)), (1, .slice a1' list_1.length c1')]) ⟨rfl, rfl, trivial⟩ ?_
  refine WP.seq (fun K1 hK1 => ?_)
  refine WP.region ?_
  refine WL.runk 1 [0, 1] [(0, .pointer (some ⟨b0', 0, none⟩)), (1, .slice a1' list_1.length c1')] (by kernel_rfl) ?_
  refine WL.nil ?_
  refine WQ.then_normal (hK1 _ _ _ ?_)
  refine WP.seq (fun K2 hK2 => ?_)
  refine WP.region ?_
  refine WL.runk 4 [5, 6, 8] [(5, .slice a1' list_1.length c1'), (6, .pointer (some ⟨b0', 0, none⟩)), (8, .int .i64 (list_1.length : Int))] (by kernel_rfl) ?_
  obtain ⟨x3, hx4, hm⟩ := bindE hm
  refine WL.call 27 #[.pointer (some ⟨b0', 0, none⟩), .int .i64 (list_1.length : Int)] rfl rfl (by kernel_rfl) (c_27 n s_0_code a0_code' c0_code' s_0_at_ s_0_seed b0' (list_1.length : Int) w w0 B (aOwn fStr 9 a1' c1' list_1 :: L) hx4 (Below.trans hE0 (Below.mono (Below.refl _ _) hW)) hW hL h0_code hle0_code hS) ?_
  rintro _ w5 ⟨rfl, hB9, hS8⟩
  refine ⟨_, rfl, ?_⟩
  have hb10 : Below B w w5 := Below.trans (Below.refl _ _) hB9
  have hL11 : B ≤ w5.heap.size := Nat.le_trans hL hB9.size
  obtain ⟨x12, hx13, hm⟩ := bindE hm
  refine WL.st (.pointer (some (at_ a1' (Int.toNat x3.1 * 1)))) (ST.index (T := fStr.ty) (xs := list_1) (SH.rd (SH.front 1 hS8)) hx13 rfl rfl rfl Tryz.underlying63 (info9).1 (info9).2.1) rfl rfl rfl ?_
  refine WL.st (.string (bs x12)) (ST.load (cell_ext (Rd.flat (F := fStr) (SH.rd (SH.front 1 hS8)) hx13 0 rfl)) rfl rfl Tryz.underlying9 rfl) rfl rfl rfl ?_
  refine WL.runk 1 [4] [(4, .string (bs x12))] (by kernel_rfl) ?_
  refine WL.nil ?_
  refine WQ.then_normal (hK2 _ _ _ ?_)
  refine WP.ret ?_
  obtain rfl := Option.some.inj hm
  exact WQ.ret1 _ rfl rfl ⟨rfl, hb10, hS8⟩

theorem c_60_o1 (n : Nat) (s_0_code : List Int) (a0_code' : Option Addr) (c0_code' : Nat) (s_0_at_ : Int) (s_0_seed : Int) (b0' : Nat) (list_1 : List Int) (a1' : Option Addr) (c1' : Nat) (w : World) (w0 : World) (B : Nat) (L : List Asrt) {r : Int × Int × Int} (hm : m_spec_l00Src_among_o1 n s_0_code s_0_at_ s_0_seed list_1 = some r) (hE0 : Ext w0 w) (hW : w0.heap.size ≤ B) (hL : B ≤ w.heap.size) (h0_code : Rd fU8.ty w0 a0_code' s_0_code) (hle0_code : s_0_code.length ≤ c0_code') (hS : SH w B (aBox 87 b0' [.slice a0_code' s_0_code.length c0_code', .int .i64 s_0_at_, .int .u64 s_0_seed] :: aOwn fInt 2 a1' c1' list_1 :: L)) :
    CallV Tryz.prog 60 #[.pointer (some ⟨b0', 0, none⟩), .slice a1' list_1.length c1'] w (fun v w' => v = .int .i64 r.1 ∧ Below B w w' ∧ SH w' B (aBox 87 b0' [.slice a0_code' s_0_code.length c0_code', .int .i64 r.2.1, .int .u64 r.2.2] :: aOwn fInt 2 a1' c1' list_1 :: L)) := by
  unfold m_spec_l00Src_among_o1 at hm
  refine CallV.enter Tryz.func60 rfl (by kernel_rfl) Tryz.ntmps60 (env := [(0, .pointer (some ⟨b0', 0, none⟩)), (1, .slice a1' list_1.length c1')]) ⟨rfl, rfl, trivial⟩ ?_
  refine WP.seq (fun K1 hK1 => ?_)
  refine WP.region ?_
  refine WL.runk 1 [0, 1] [(0, .pointer (some ⟨b0', 0, none⟩)), (1, .slice a1' list_1.length c1')] (by kernel_rfl) ?_
  refine WL.nil ?_
  refine WQ.then_normal (hK1 _ _ _ ?_)
  refine WP.seq (fun K2 hK2 => ?_)
  refine WP.region ?_
  refine WL.runk 4 [5, 6, 8] [(5, .slice a1' list_1.length c1'), (6, .pointer (some ⟨b0', 0, none⟩)), (8, .int .i64 (list_1.length : Int))] (by kernel_rfl) ?_
  obtain ⟨x3, hx4, hm⟩ := bindE hm
  refine WL.call 27 #[.pointer (some ⟨b0', 0, none⟩), .int .i64 (list_1.length : Int)] rfl rfl (by kernel_rfl) (c_27 n s_0_code a0_code' c0_code' s_0_at_ s_0_seed b0' (list_1.length : Int) w w0 B (aOwn fInt 2 a1' c1' list_1 :: L) hx4 (Below.trans hE0 (Below.mono (Below.refl _ _) hW)) hW hL h0_code hle0_code hS) ?_
  rintro _ w5 ⟨rfl, hB9, hS8⟩
  refine ⟨_, rfl, ?_⟩
  have hb10 : Below B w w5 := Below.trans (Below.refl _ _) hB9
  have hL11 : B ≤ w5.heap.size := Nat.le_trans hL hB9.size
  obtain ⟨x12, hx13, hm⟩ := bindE hm
  refine WL.st (.pointer (some (at_ a1' (Int.toNat x3.1 * 1)))) (ST.index (T := fInt.ty) (xs := list_1) (SH.rd (SH.front 1 hS8)) hx13 rfl rfl rfl Tryz.underlying77 (info2).1 (info2).2.1) rfl rfl rfl ?_
  refine WL.st (.int .i64 x12) (ST.load (cell_ext (Rd.flat (F := fInt) (SH.rd (SH.front 1 hS8)) hx13 0 rfl)) rfl rfl Tryz.underlying2 rfl) rfl rfl rfl ?_
  refine WL.runk 1 [4] [(4, .int .i64 x12)] (by kernel_rfl) ?_
  refine WL.nil ?_
  refine WQ.then_normal (hK2 _ _ _ ?_)
  refine WP.ret ?_
  obtain rfl := Option.some.inj hm
  exact WQ.ret1 _ rfl rfl ⟨rfl, hb10, hS8⟩

theorem c_40 (n : Nat) (s_0_code : List Int) (a0_code' : Option Addr) (c0_code' : Nat) (s_0_at_ : Int) (s_0_seed : Int) (b0' : Nat) (g_1_Name : List UInt8) (g_1_OnHand : Int) (g_1_Reserved : Int) (g_1_Least : Int) (b1' : Nat) (w : World) (w0 : World) (B : Nat) (L : List Asrt) {r : Int × Int × List UInt8 × Int × Int × Int} (hm : m_spec_l23Spoil n s_0_code s_0_at_ s_0_seed g_1_Name g_1_OnHand g_1_Reserved g_1_Least = some r) (hE0 : Ext w0 w) (hW : w0.heap.size ≤ B) (hL : B ≤ w.heap.size) (h0_code : Rd fU8.ty w0 a0_code' s_0_code) (hle0_code : s_0_code.length ≤ c0_code') (hS : SH w B (aBox 87 b0' [.slice a0_code' s_0_code.length c0_code', .int .i64 s_0_at_, .int .u64 s_0_seed] :: aBox 31 b1' [.string (bs g_1_Name), .int .i64 g_1_OnHand, .int .i64 g_1_Reserved, .int .i64 g_1_Least] :: L)) :
    CallV Tryz.prog 40 #[.pointer (some ⟨b0', 0, none⟩), .pointer (some ⟨b1', 0, none⟩)] w (fun v w' => v = .tuple #[] ∧ Below B w w' ∧ SH w' B (aBox 87 b0' [.slice a0_code' s_0_code.length c0_code', .int .i64 r.1, .int .u64 r.2.1] :: aBox 31 b1' [.string (bs r.2.2.1), .int .i64 r.2.2.2.1, .int .i64 r.2.2.2.2.1, .int .i64 r.2.2.2.2.2] :: L)) := by
  unfold m_spec_l23Spoil at hm
  refine CallV.enter Tryz.func40 rfl (by kernel_rfl) Tryz.ntmps40 (env := [(0, .pointer (some ⟨b0', 0, none⟩)), (1, .pointer (some ⟨b1', 0, none⟩))]) ⟨rfl, rfl, trivial⟩ ?_
  refine WP.seq (fun K1 hK1 => ?_)
  refine WP.region ?_
  refine WL.runk 1 [0, 1, 4] [(0, .pointer (some ⟨b0', 0, none⟩)), (1, .pointer (some ⟨b1', 0, none⟩)), (4, .pointer (some ⟨b0', 0, none⟩))] (by kernel_rfl) ?_
  obtain ⟨x2, hx3, hm⟩ := bindE hm
  refine WL.call 27 #[.pointer (some ⟨b0', 0, none⟩), .int .i64 4] rfl rfl (by kernel_rfl) (c_27 n s_0_code a0_code' c0_code' s_0_at_ s_0_seed b0' 4 w w0 B (aBox 31 b1' [.string (bs g_1_Name), .int .i64 g_1_OnHand, .int .i64 g_1_Reserved, .int .i64 g_1_Least] :: L) hx3 (Below.trans hE0 (Below.mono (Below.refl _ _) hW)) hW hL h0_code hle0_code hS) ?_
  rintro _ w4 ⟨rfl, hB8, hS7⟩
  refine ⟨_, rfl, ?_⟩
  have hb9 : Below B w w4 := Below.trans (Below.refl _ _) hB8
  have hL10 : B ≤ w4.heap.size := Nat.le_trans hL hB8.size
  refine WL.sub [(0, .pointer (some ⟨b0', 0, none⟩)), (1, .pointer (some ⟨b1', 0, none⟩)), (5, .int .i64 x2.1)] ⟨rfl, rfl, rfl, trivial⟩ ?_
  refine WL.nil ?_
  refine WQ.then_normal (hK1 _ _ _ ?_)
  refine WP.block ?_
  refine WP.seq (fun K11 hK11 => ?_)
  refine WP.region ?_
  refine WL.runk 2 [0, 1, 5, 6] [(0, .pointer (some ⟨b0', 0, none⟩)), (1, .pointer (some ⟨b1', 0, none⟩)), (5, .int .i64 x2.1), (6, .bool (x2.1 == 0))] (by kernel_rfl) ?_
  refine WL.nil ?_
  refine WQ.then_normal (hK11 _ _ _ ?_)
  obtain ⟨x6990, hx6991, hm⟩ := bindE hm
  refine WP.cut (fun env' w' => env' = [] ∧ Below B w w' ∧ B ≤ w'.heap.size ∧ SH w' B (aBox 87 b0' [.slice a0_code' s_0_code.length c0_code', .int .i64 x6990.1, .int .u64 x6990.2.1] :: aBox 31 b1' [.string (bs x6990.2.2.1), .int .i64 x6990.2.2.2.1, .int .i64 x6990.2.2.2.2.1, .int .i64 x6990.2.2.2.2.2] :: L)) ?_ ?_
  rotate_left
  · clear hx6991
    rintro _ w9317 ⟨rfl, hb9318, hL9319, hS9320⟩
    refine WQ.block_normal ?_
    obtain rfl := Option.some.inj hm
    exact WQ.end0 rfl ⟨rfl, hb9318, hS9320⟩
  have hm := hx6991; clear hx6991
  refine WP.cond (x2.1 == 0) rfl rfl (fun hc12 => ?_) (fun hc12 => ?_)
  · have hm := iteT hm hc12
    refine WP.region ?_
    refine WL.runk 2 [8, 9] [(8, .pointer (some ⟨b1', 0, none⟩)), (9, .pointer (some ⟨b0', 0, none⟩))] (by kernel_rfl) ?_
    refine WL.row fStr 9 ([[], [67, 97, 108, 102], [122, 122]] : List (List UInt8)) 3 #[.string (bs []), .string (bs [67, 97, 108, 102]), .string (bs [122, 122])] 10 (by kernel_rfl) rfl rfl rfl rfl rfl rfl rfl ?_
    intro a6992 c6993 w6994 hE6995 hR6996
    have hb6998 : Below B w w6994 := Below.trans hb9 (Below.mono hE6995 hL10)
    have hL6999 : B ≤ w6994.heap.size := Nat.le_trans hL10 hE6995.size
    have hS7000 : SH w6994 B (aOwn fStr 9 a6992 c6993 ([[], [67, 97, 108, 102], [122, 122]] : List (List UInt8)) :: aBox 87 b0' [.slice a0_code' s_0_code.length c0_code', .int .i64 x2.2.1, .int .u64 x2.2.2] :: aBox 31 b1' [.string (bs g_1_Name), .int .i64 g_1_OnHand, .int .i64 g_1_Reserved, .int .i64 g_1_Least] :: L) := SH.add hS7 hE6995 hL10 hR6996
    obtain ⟨x7001, hx7002, hm⟩ := bindE hm
    refine WL.call 37 #[.pointer (some ⟨b0', 0, none⟩), .slice a6992 (([[], [67, 97, 108, 102], [122, 122]] : List (List UInt8)).length) c6993] rfl rfl (by kernel_rfl) (c_37_o1 n s_0_code a0_code' c0_code' x2.2.1 x2.2.2 b0' ([[], [67, 97, 108, 102], [122, 122]] : List (List UInt8)) a6992 c6993 w6994 w0 B (aBox 31 b1' [.string (bs g_1_Name), .int .i64 g_1_OnHand, .int .i64 g_1_Reserved, .int .i64 g_1_Least] :: L) hx7002 (Below.trans hE0 (Below.mono hb6998 hW)) hW hL6999 h0_code hle0_code (SH.front 2 (SH.front 1 (SH.front 2 hS7000)))) ?_
    rintro _ w7003 ⟨rfl, hB7007, hS7006⟩
    refine ⟨_, rfl, ?_⟩
    have hb7008 : Below B w w7003 := Below.trans hb6998 hB7007
    have hL7009 : B ≤ w7003.heap.size := Nat.le_trans hL6999 hB7007.size
    refine WL.runk 2 [11, 13] [(11, .string (bs x7001.1)), (13, .pointer (some ⟨b1', 0, none⟩))] (by kernel_rfl) ?_
    refine WL.boxStore 0 [.string (bs x7001.1)] [.string (bs x7001.1), .int .i64 g_1_OnHand, .int .i64 g_1_Reserved, .int .i64 g_1_Least] (SH.front 2 hS7006) hL7009 rfl rfl rfl rfl rfl rfl rfl (info9).1 (info9).2.1 rfl rfl rfl ?_
    intro w7010 hB7011 hS7012
    have hb7013 : Below B w w7010 := Below.trans hb7008 hB7011
    have hL7014 : B ≤ w7010.heap.size := Nat.le_trans hL7009 hB7011.size
    refine WL.sub [] trivial ?_
    refine WL.nil ?_
    obtain rfl := Option.some.inj hm
    exact WQ.post' ⟨rfl, hb7013, hL7014, (SH.cutOut 2 1 (SH.front 1 hS7012))⟩ trivial
  have hm := iteF hm hc12
  refine WP.seq (fun K7015 hK7015 => ?_)
  refine WP.region ?_
  refine WL.runk 2 [0, 1, 5, 14] [(0, .pointer (some ⟨b0', 0, none⟩)), (1, .pointer (some ⟨b1', 0, none⟩)), (5, .int .i64 x2.1), (14, .bool (x2.1 == 1))] (by kernel_rfl) ?_
  refine WL.nil ?_
  refine WQ.then_normal (hK7015 _ _ _ ?_)
  obtain ⟨x8738, hx8739, hm⟩ := bindE hm
  refine WP.cut (fun env' w' => env' = [] ∧ Below B w w' ∧ B ≤ w'.heap.size ∧ SH w' B (aBox 87 b0' [.slice a0_code' s_0_code.length c0_code', .int .i64 x8738.1, .int .u64 x8738.2.1] :: aBox 31 b1' [.string (bs g_1_Name), .int .i64 x8738.2.2.1, .int .i64 x8738.2.2.2.1, .int .i64 x8738.2.2.2.2] :: L)) ?_ ?_
  rotate_left
  · clear hx8739
    rintro _ w9313 ⟨rfl, hb9314, hL9315, hS9316⟩
    obtain rfl := Option.some.inj hm
    exact WQ.post' ⟨rfl, hb9314, hL9315, hS9316⟩ trivial
  have hm := hx8739; clear hx8739
  refine WP.cond (x2.1 == 1) rfl rfl (fun hc7016 => ?_) (fun hc7016 => ?_)
  · have hm := iteT hm hc7016
    refine WP.region ?_
    refine WL.runk 2 [16, 17] [(16, .pointer (some ⟨b1', 0, none⟩)), (17, .pointer (some ⟨b0', 0, none⟩))] (by kernel_rfl) ?_
    refine WL.row fInt 2 ([(-1), 0, 1000000, 1000001] : List Int) 4 #[.int .i64 (-1), .int .i64 0, .int .i64 1000000, .int .i64 1000001] 18 (by kernel_rfl) rfl rfl rfl rfl rfl rfl rfl ?_
    intro a8740 c8741 w8742 hE8743 hR8744
    have hb8746 : Below B w w8742 := Below.trans hb9 (Below.mono hE8743 hL10)
    have hL8747 : B ≤ w8742.heap.size := Nat.le_trans hL10 hE8743.size
    have hS8748 : SH w8742 B (aOwn fInt 2 a8740 c8741 ([(-1), 0, 1000000, 1000001] : List Int) :: aBox 87 b0' [.slice a0_code' s_0_code.length c0_code', .int .i64 x2.2.1, .int .u64 x2.2.2] :: aBox 31 b1' [.string (bs g_1_Name), .int .i64 g_1_OnHand, .int .i64 g_1_Reserved, .int .i64 g_1_Least] :: L) := SH.add hS7 hE8743 hL10 hR8744
    obtain ⟨x8749, hx8750, hm⟩ := bindE hm
    refine WL.call 60 #[.pointer (some ⟨b0', 0, none⟩), .slice a8740 (([(-1), 0, 1000000, 1000001] : List Int).length) c8741] rfl rfl (by kernel_rfl) (c_60_o1 n s_0_code a0_code' c0_code' x2.2.1 x2.2.2 b0' ([(-1), 0, 1000000, 1000001] : List Int) a8740 c8741 w8742 w0 B (aBox 31 b1' [.string (bs g_1_Name), .int .i64 g_1_OnHand, .int .i64 g_1_Reserved, .int .i64 g_1_Least] :: L) hx8750 (Below.trans hE0 (Below.mono hb8746 hW)) hW hL8747 h0_code hle0_code (SH.front 2 (SH.front 1 (SH.front 2 hS8748)))) ?_
    rintro _ w8751 ⟨rfl, hB8755, hS8754⟩
    refine ⟨_, rfl, ?_⟩
    have hb8756 : Below B w w8751 := Below.trans hb8746 hB8755
    have hL8757 : B ≤ w8751.heap.size := Nat.le_trans hL8747 hB8755.size
    refine WL.runk 2 [19, 21] [(19, .int .i64 x8749.1), (21, .pointer (some ⟨b1', 1, none⟩))] (by kernel_rfl) ?_
    refine WL.boxStore 1 [.int .i64 x8749.1] [.string (bs g_1_Name), .int .i64 x8749.1, .int .i64 g_1_Reserved, .int .i64 g_1_Least] (SH.front 2 hS8754) hL8757 rfl rfl rfl rfl rfl rfl rfl (info2).1 (info2).2.1 rfl rfl rfl ?_
    intro w8758 hB8759 hS8760
    have hb8761 : Below B w w8758 := Below.trans hb8756 hB8759
    have hL8762 : B ≤ w8758.heap.size := Nat.le_trans hL8757 hB8759.size
    refine WL.sub [] trivial ?_
    refine WL.nil ?_
    obtain rfl := Option.some.inj hm
    exact WQ.post' ⟨rfl, hb8761, hL8762, (SH.cutOut 2 1 (SH.front 1 hS8760))⟩ trivial
  have hm := iteF hm hc7016
  refine WP.seq (fun K8763 hK8763 => ?_)
  refine WP.region ?_
  refine WL.runk 2 [0, 1, 5, 22] [(0, .pointer (some ⟨b0', 0, none⟩)), (1, .pointer (some ⟨b1', 0, none⟩)), (5, .int .i64 x2.1), (22, .bool (x2.1 == 2))] (by kernel_rfl) ?_
  refine WL.nil ?_
  refine WQ.then_normal (hK8763 _ _ _ ?_)
  obtain ⟨x9172, hx9173, hm⟩ := bindE hm
  refine WP.cut (fun env' w' => env' = [] ∧ Below B w w' ∧ B ≤ w'.heap.size ∧ SH w' B (aBox 87 b0' [.slice a0_code' s_0_code.length c0_code', .int .i64 x9172.1, .int .u64 x9172.2.1] :: aBox 31 b1' [.string (bs g_1_Name), .int .i64 g_1_OnHand, .int .i64 x9172.2.2.1, .int .i64 x9172.2.2.2] :: L)) ?_ ?_
  rotate_left
  · clear hx9173
    rintro _ w9309 ⟨rfl, hb9310, hL9311, hS9312⟩
    obtain rfl := Option.some.inj hm
    exact WQ.post' ⟨rfl, hb9310, hL9311, hS9312⟩ trivial
  have hm := hx9173; clear hx9173
  refine WP.cond (x2.1 == 2) rfl rfl (fun hc8764 => ?_) (fun hc8764 => ?_)
  rotate_left
  · have hm := iteF hm hc8764
    refine WP.seq (fun K9207 hK9207 => ?_)
    refine WP.region ?_
    refine WL.runk 2 [0, 1, 39] [(0, .pointer (some ⟨b0', 0, none⟩)), (1, .pointer (some ⟨b1', 0, none⟩)), (39, .bool (x2.1 == 3))] (by kernel_rfl) ?_
    refine WL.nil ?_
    refine WQ.then_normal (hK9207 _ _ _ ?_)
    obtain ⟨x9280, hx9281, hm⟩ := bindE hm
    refine WP.cut (fun env' w' => env' = [] ∧ Below B w w' ∧ B ≤ w'.heap.size ∧ SH w' B (aBox 87 b0' [.slice a0_code' s_0_code.length c0_code', .int .i64 x9280.1, .int .u64 x9280.2.1] :: aBox 31 b1' [.string (bs g_1_Name), .int .i64 g_1_OnHand, .int .i64 g_1_Reserved, .int .i64 x9280.2.2] :: L)) ?_ ?_
    rotate_left
    · clear hx9281
      rintro _ w9305 ⟨rfl, hb9306, hL9307, hS9308⟩
      obtain rfl := Option.some.inj hm
      exact WQ.post' ⟨rfl, hb9306, hL9307, hS9308⟩ trivial
    have hm := hx9281; clear hx9281
    refine WP.cond (x2.1 == 3) rfl rfl (fun hc9208 => ?_) (fun hc9208 => ?_)
    rotate_left
    · have hm := iteF hm hc9208
      refine WP.skip ?_
      obtain rfl := Option.some.inj hm
      exact WQ.post' ⟨rfl, hb9, hL10, hS7⟩ trivial
    have hm := iteT hm hc9208
    refine WP.region ?_
    refine WL.runk 2 [41, 42] [(41, .pointer (some ⟨b1', 0, none⟩)), (42, .pointer (some ⟨b0', 0, none⟩))] (by kernel_rfl) ?_
    refine WL.row fInt 2 ([(-1), 0, 1000000, 1000001] : List Int) 4 #[.int .i64 (-1), .int .i64 0, .int .i64 1000000, .int .i64 1000001] 43 (by kernel_rfl) rfl rfl rfl rfl rfl rfl rfl ?_
    intro a9282 c9283 w9284 hE9285 hR9286
    have hb9288 : Below B w w9284 := Below.trans hb9 (Below.mono hE9285 hL10)
    have hL9289 : B ≤ w9284.heap.size := Nat.le_trans hL10 hE9285.size
    have hS9290 : SH w9284 B (aOwn fInt 2 a9282 c9283 ([(-1), 0, 1000000, 1000001] : List Int) :: aBox 87 b0' [.slice a0_code' s_0_code.length c0_code', .int .i64 x2.2.1, .int .u64 x2.2.2] :: aBox 31 b1' [.string (bs g_1_Name), .int .i64 g_1_OnHand, .int .i64 g_1_Reserved, .int .i64 g_1_Least] :: L) := SH.add hS7 hE9285 hL10 hR9286
    obtain ⟨x9291, hx9292, hm⟩ := bindE hm
    refine WL.call 60 #[.pointer (some ⟨b0', 0, none⟩), .slice a9282 (([(-1), 0, 1000000, 1000001] : List Int).length) c9283] rfl rfl (by kernel_rfl) (c_60_o1 n s_0_code a0_code' c0_code' x2.2.1 x2.2.2 b0' ([(-1), 0, 1000000, 1000001] : List Int) a9282 c9283 w9284 w0 B (aBox 31 b1' [.string (bs g_1_Name), .int .i64 g_1_OnHand, .int .i64 g_1_Reserved, .int .i64 g_1_Least] :: L) hx9292 (Below.trans hE0 (Below.mono hb9288 hW)) hW hL9289 h0_code hle0_code (SH.front 2 (SH.front 1 (SH.front 2 hS9290)))) ?_
    rintro _ w9293 ⟨rfl, hB9297, hS9296⟩
    refine ⟨_, rfl, ?_⟩
    have hb9298 : Below B w w9293 := Below.trans hb9288 hB9297
    have hL9299 : B ≤ w9293.heap.size := Nat.le_trans hL9289 hB9297.size
    refine WL.runk 2 [44, 46] [(44, .int .i64 x9291.1), (46, .pointer (some ⟨b1', 3, none⟩))] (by kernel_rfl) ?_
    refine WL.boxStore 3 [.int .i64 x9291.1] [.string (bs g_1_Name), .int .i64 g_1_OnHand, .int .i64 g_1_Reserved, .int .i64 x9291.1] (SH.front 2 hS9296) hL9299 rfl rfl rfl rfl rfl rfl rfl (info2).1 (info2).2.1 rfl rfl rfl ?_
    intro w9300 hB9301 hS9302
    have hb9303 : Below B w w9300 := Below.trans hb9298 hB9301
    have hL9304 : B ≤ w9300.heap.size := Nat.le_trans hL9299 hB9301.size
    refine WL.sub [] trivial ?_
    refine WL.nil ?_
    obtain rfl := Option.some.inj hm
    exact WQ.post' ⟨rfl, hb9303, hL9304, (SH.cutOut 2 1 (SH.front 1 hS9302))⟩ trivial
  have hm := iteT hm hc8764
  refine WP.open (n := 16) (by kernel_rfl) rfl (fun w9174 hE9175 => ?_)
  have hb9176 : Below B w w9174 := Below.trans hb9 (Below.mono hE9175 hL10)
  have hL9177 : B ≤ w9174.heap.size := Nat.le_trans hL10 hE9175.size
  have hS9178 : SH w9174 B (aBox 87 b0' [.slice a0_code' s_0_code.length c0_code', .int .i64 x2.2.1, .int .u64 x2.2.2] :: aBox 31 b1' [.string (bs g_1_Name), .int .i64 g_1_OnHand, .int .i64 g_1_Reserved, .int .i64 g_1_Least] :: L) := SH.ext hS7 hE9175
  refine WA.pre (i := 0) (D' := [0]) [(0, .pointer (some ⟨b0', 0, none⟩)), (1, .pointer (some ⟨b1', 0, none⟩)), (5, .int .i64 x2.1), (22, .bool (x2.1 == 2)), (24, .pointer (some ⟨b1', 0, none⟩))] rfl (by kernel_rfl) rfl (fun _ => by kernel_rfl) rfl ?_
  refine WA.pre (i := 1) (D' := [0, 1]) [(0, .pointer (some ⟨b0', 0, none⟩)), (1, .pointer (some ⟨b1', 0, none⟩)), (5, .int .i64 x2.1), (22, .bool (x2.1 == 2)), (24, .pointer (some ⟨b1', 0, none⟩)), (25, .pointer (some ⟨b0', 0, none⟩))] rfl (by kernel_rfl) rfl (fun _ => by kernel_rfl) rfl ?_
  refine WA.quiet (f' := 5) (D' := [0, 1, 2, 3, 4, 5, 6, 7, 8, 9, 10]) [2, 3, 4, 5, 6, 7, 8, 9, 10] rfl rfl (by kernel_rfl) ?_
  refine QL.step1v 26 (.pointer (some ⟨b1', 0, none⟩)) rfl (fun _ => by kernel_rfl) ?_
  refine QL.step1v 27 (.pointer (some ⟨b1', 0, none⟩)) rfl (fun _ => by kernel_rfl) ?_
  refine QL.step1v 28 (.pointer (some ⟨b1', 1, none⟩)) rfl (fun _ => by kernel_rfl) ?_
  refine QL.subk [1, 24, 25, 28] [(1, .pointer (some ⟨b1', 0, none⟩)), (24, .pointer (some ⟨b1', 0, none⟩)), (25, .pointer (some ⟨b0', 0, none⟩)), (28, .pointer (some ⟨b1', 1, none⟩))] (by kernel_rfl) ?_
  refine QL.st (.int .i64 g_1_OnHand) (ST.load (cell_ext (SH.boxAt (SH.front 1 hS9178) 1 _ rfl)) rfl rfl Tryz.underlying2 rfl) rfl rfl rfl ?_
  refine QL.step1v 30 (.pointer (some ⟨b1', 0, none⟩)) rfl (fun _ => by kernel_rfl) ?_
  refine QL.step1v 31 (.pointer (some ⟨b1', 0, none⟩)) rfl (fun _ => by kernel_rfl) ?_
  refine QL.step1v 32 (.pointer (some ⟨b1', 1, none⟩)) rfl (fun _ => by kernel_rfl) ?_
  refine QL.subk [24, 25, 29, 32] [(24, .pointer (some ⟨b1', 0, none⟩)), (25, .pointer (some ⟨b0', 0, none⟩)), (29, .int .i64 g_1_OnHand), (32, .pointer (some ⟨b1', 1, none⟩))] (by kernel_rfl) ?_
  refine QL.st (.int .i64 g_1_OnHand) (ST.load (cell_ext (SH.boxAt (SH.front 1 hS9178) 1 _ rfl)) rfl rfl Tryz.underlying2 rfl) rfl rfl rfl ?_
  refine QL.step1v 34 (.int .i64 (wI64 (g_1_OnHand + 1))) rfl (fun _ => by kernel_rfl) ?_
  refine QL.subk [24, 25, 29, 34] [(24, .pointer (some ⟨b1', 0, none⟩)), (25, .pointer (some ⟨b0', 0, none⟩)), (29, .int .i64 g_1_OnHand), (34, .int .i64 (wI64 (g_1_OnHand + 1)))] (by kernel_rfl) ?_
  refine QL.nil ?_
  intro w9179 hE9180
  have hb9181 : Below B w w9179 := Below.trans hb9176 (Below.mono hE9180 hL9177)
  have hL9182 : B ≤ w9179.heap.size := Nat.le_trans hL9177 hE9180.size
  have hS9183 : SH w9179 B (aBox 87 b0' [.slice a0_code' s_0_code.length c0_code', .int .i64 x2.2.1, .int .u64 x2.2.2] :: aBox 31 b1' [.string (bs g_1_Name), .int .i64 g_1_OnHand, .int .i64 g_1_Reserved, .int .i64 g_1_Least] :: L) := SH.ext hS9178 hE9180
  refine WA.one (i := 11) (D' := [0, 1, 2, 3, 4, 5, 6, 7, 8, 9, 10, 11]) rfl rfl (by kernel_rfl) ?_
  refine WL.row fInt 2 ([(-1), g_1_OnHand, (wI64 (g_1_OnHand + 1)), (-9223372036854775808)] : List Int) 4 #[.int .i64 (-1), .int .i64 g_1_OnHand, .int .i64 (wI64 (g_1_OnHand + 1)), .int .i64 (-9223372036854775808)] 35 (by kernel_rfl) rfl rfl rfl rfl rfl rfl rfl ?_
  intro a9184 c9185 w9186 hE9187 hR9188
  have hb9190 : Below B w w9186 := Below.trans hb9181 (Below.mono hE9187 hL9182)
  have hL9191 : B ≤ w9186.heap.size := Nat.le_trans hL9182 hE9187.size
  have hS9192 : SH w9186 B (aOwn fInt 2 a9184 c9185 ([(-1), g_1_OnHand, (wI64 (g_1_OnHand + 1)), (-9223372036854775808)] : List Int) :: aBox 87 b0' [.slice a0_code' s_0_code.length c0_code', .int .i64 x2.2.1, .int .u64 x2.2.2] :: aBox 31 b1' [.string (bs g_1_Name), .int .i64 g_1_OnHand, .int .i64 g_1_Reserved, .int .i64 g_1_Least] :: L) := SH.add hS9183 hE9187 hL9182 hR9188
  refine WL.sub [(24, .pointer (some ⟨b1', 0, none⟩)), (25, .pointer (some ⟨b0', 0, none⟩)), (35, .slice a9184 (([(-1), g_1_OnHand, (wI64 (g_1_OnHand + 1)), (-9223372036854775808)] : List Int).length) c9185)] ⟨rfl, rfl, rfl, trivial⟩ ?_
  refine WL.nil ?_
  refine WA.one (i := 12) (D' := [0, 1, 2, 3, 4, 5, 6, 7, 8, 9, 10, 11, 12]) rfl rfl (by kernel_rfl) ?_
  obtain ⟨x9193, hx9194, hm⟩ := bindE hm
  refine WL.call 60 #[.pointer (some ⟨b0', 0, none⟩), .slice a9184 (([(-1), g_1_OnHand, (wI64 (g_1_OnHand + 1)), (-9223372036854775808)] : List Int).length) c9185] rfl rfl (by kernel_rfl) (c_60_o1 n s_0_code a0_code' c0_code' x2.2.1 x2.2.2 b0' ([(-1), g_1_OnHand, (wI64 (g_1_OnHand + 1)), (-9223372036854775808)] : List Int) a9184 c9185 w9186 w0 B (aBox 31 b1' [.string (bs g_1_Name), .int .i64 g_1_OnHand, .int .i64 g_1_Reserved, .int .i64 g_1_Least] :: L) hx9194 (Below.trans hE0 (Below.mono hb9190 hW)) hW hL9191 h0_code hle0_code (SH.front 2 (SH.front 1 (SH.front 2 hS9192)))) ?_
  rintro _ w9195 ⟨rfl, hB9199, hS9198⟩
  refine ⟨_, rfl, ?_⟩
  have hb9200 : Below B w w9195 := Below.trans hb9190 hB9199
  have hL9201 : B ≤ w9195.heap.size := Nat.le_trans hL9191 hB9199.size
  refine WL.sub [(24, .pointer (some ⟨b1', 0, none⟩)), (36, .int .i64 x9193.1)] ⟨rfl, rfl, trivial⟩ ?_
  refine WL.nil ?_
  refine WA.one (i := 13) (D' := [0, 1, 2, 3, 4, 5, 6, 7, 8, 9, 10, 11, 12, 13]) rfl rfl (by kernel_rfl) ?_
  refine WL.runk 1 [36, 37, 38] [(36, .int .i64 x9193.1), (37, .pointer (some ⟨b1', 0, none⟩))] (by kernel_rfl) ?_
  refine WL.nil ?_
  refine WA.one (i := 14) (D' := [0, 1, 2, 3, 4, 5, 6, 7, 8, 9, 10, 11, 12, 13, 14]) rfl rfl (by kernel_rfl) ?_
  refine WL.runk 1 [36, 38] [(36, .int .i64 x9193.1), (38, .pointer (some ⟨b1', 2, none⟩))] (by kernel_rfl) ?_
  refine WL.nil ?_
  refine WA.one (i := 15) (D' := [0, 1, 2, 3, 4, 5, 6, 7, 8, 9, 10, 11, 12, 13, 14, 15]) rfl rfl (by kernel_rfl) ?_
  refine WL.boxStore 2 [.int .i64 x9193.1] [.string (bs g_1_Name), .int .i64 g_1_OnHand, .int .i64 x9193.1, .int .i64 g_1_Least] (SH.front 2 hS9198) hL9201 rfl rfl rfl rfl rfl rfl rfl (info2).1 (info2).2.1 rfl rfl rfl ?_
  intro w9202 hB9203 hS9204
  have hb9205 : Below B w w9202 := Below.trans hb9200 hB9203
  have hL9206 : B ≤ w9202.heap.size := Nat.le_trans hL9201 hB9203.size
  refine WL.sub [] trivial ?_
  refine WL.nil ?_
  refine WA.done (by kernel_rfl) ?_
  obtain rfl := Option.some.inj hm
  exact WQ.post' ⟨rfl, hb9205, hL9206, (SH.cutOut 2 1 (SH.front 1 hS9204))⟩ trivial

theorem c_38 (n : Nat)  (w : World) {r : List (List UInt8)} (hm : m_spec_l23Names n  = some r)  :
    CallV Tryz.prog 38 #[] w (fun v w' => ∃ (ra0 : Option Addr) (rc0 : Nat), v = .slice ra0 r.length rc0 ∧ Ext w w' ∧ SH w' w.heap.size [aOwn fStr 9 ra0 rc0 r]) := by
  unfold m_spec_l23Names at hm
  refine CallV.enter Tryz.func38 rfl (by kernel_rfl) Tryz.ntmps38 (env := []) trivial ?_
  refine WP.seq (fun K1 hK1 => ?_)
  refine WP.region ?_
  refine WL.runk 1 [] [] (by kernel_rfl) ?_
  refine WL.nil ?_
  refine WQ.then_normal (hK1 _ _ _ ?_)
  refine WP.seq (fun K2 hK2 => ?_)
  refine WP.region ?_
  refine WL.row fStr 9 ([[99, 97, 108, 102], [99, 111, 114, 107], [101, 121, 101, 108, 101, 116], [104, 101, 101, 108, 45, 51], [108, 97, 99, 101], [110, 97, 105, 108], [116, 104, 114, 101, 97, 100], [119, 97, 120]] : List (List UInt8)) 8 #[.string (bs [99, 97, 108, 102]), .string (bs [99, 111, 114, 107]), .string (bs [101, 121, 101, 108, 101, 116]), .string (bs [104, 101, 101, 108, 45, 51]), .string (bs [108, 97, 99, 101]), .string (bs [110, 97, 105, 108]), .string (bs [116, 104, 114, 101, 97, 100]), .string (bs [119, 97, 120])] 1 (by kernel_rfl) rfl rfl rfl rfl rfl rfl rfl ?_
  intro a3 c4 w5 hE6 hR7
  have hb9 : Ext w w5 := Ext.trans (Ext.refl w) hE6
  have hL10 : w.heap.size ≤ w5.heap.size := Nat.le_trans (Nat.le_refl _) hE6.size
  have hS11 : SH w5 w.heap.size [aOwn fStr 9 a3 c4 ([[99, 97, 108, 102], [99, 111, 114, 107], [101, 121, 101, 108, 101, 116], [104, 101, 101, 108, 45, 51], [108, 97, 99, 101], [110, 97, 105, 108], [116, 104, 114, 101, 97, 100], [119, 97, 120]] : List (List UInt8))] := SH.add (SH.nil _ _) hE6 (Nat.le_refl _) hR7
  refine WL.runk 1 [0] [(0, .slice a3 (([[99, 97, 108, 102], [99, 111, 114, 107], [101, 121, 101, 108, 101, 116], [104, 101, 101, 108, 45, 51], [108, 97, 99, 101], [110, 97, 105, 108], [116, 104, 114, 101, 97, 100], [119, 97, 120]] : List (List UInt8)).length) c4)] (by kernel_rfl) ?_
  refine WL.nil ?_
  refine WQ.then_normal (hK2 _ _ _ ?_)
  refine WP.ret ?_
  obtain rfl := Option.some.inj hm
  exact WQ.ret1 _ rfl rfl ⟨_, _, rfl, hb9, hS11⟩

theorem c_39 (n : Nat) (s_0_code : List Int) (a0_code' : Option Addr) (c0_code' : Nat) (s_0_at_ : Int) (s_0_seed : Int) (b0' : Nat) (name_1 : List UInt8) (w : World) (w0 : World) (B : Nat) (L : List Asrt) {r : SGood × Int × Int} (hm : m_spec_l23New n s_0_code s_0_at_ s_0_seed name_1 = some r) (hE0 : Ext w0 w) (hW : w0.heap.size ≤ B) (hL : B ≤ w.heap.size) (h0_code : Rd fU8.ty w0 a0_code' s_0_code) (hle0_code : s_0_code.length ≤ c0_code') (hS : SH w B (aBox 87 b0' [.slice a0_code' s_0_code.length c0_code', .int .i64 s_0_at_, .int .u64 s_0_seed] :: L)) :
    CallV Tryz.prog 39 #[.pointer (some ⟨b0', 0, none⟩), .string (bs name_1)] w (fun v w' => v = .agg #[.string (bs r.1.Name), .int .i64 r.1.OnHand, .int .i64 r.1.Reserved, .int .i64 r.1.Least] ∧ Below B w w' ∧ SH w' B (aBox 87 b0' [.slice a0_code' s_0_code.length c0_code', .int .i64 r.2.1, .int .u64 r.2.2] :: L)) := by
  unfold m_spec_l23New at hm
  refine CallV.enter Tryz.func39 rfl (by kernel_rfl) Tryz.ntmps39 (env := [(0, .pointer (some ⟨b0', 0, none⟩)), (1, .string (bs name_1))]) ⟨rfl, rfl, trivial⟩ ?_
  refine WP.seq (fun K1 hK1 => ?_)
  refine WP.region ?_
  refine WL.box 31 [.string (bs []), .int .i64 0, .int .i64 0, .int .i64 0] 4 (by kernel_rfl) rfl rfl rfl rfl ?_
  intro b2 w3 hE4 hR5
  have hb7 : Below B w w3 := Below.trans (Below.refl _ _) (Below.mono hE4 hL)
  have hL8 : B ≤ w3.heap.size := Nat.le_trans hL hE4.size
  have hS9 : SH w3 B (aBox 31 b2 [.string (bs []), .int .i64 0, .int .i64 0, .int .i64 0] :: aBox 87 b0' [.slice a0_code' s_0_code.length c0_code', .int .i64 s_0_at_, .int .u64 s_0_seed] :: L) := SH.add hS hE4 hL hR5
  refine WL.sub [(0, .pointer (some ⟨b0', 0, none⟩)), (1, .string (bs name_1)), (4, .pointer (some ⟨b2, 0, none⟩))] ⟨rfl, rfl, rfl, trivial⟩ ?_
  refine WL.nil ?_
  refine WQ.then_normal (hK1 _ _ _ ?_)
  refine WP.seq (fun K10 hK10 => ?_)
  refine WP.region ?_
  refine WL.runk 2 [0, 4, 6, 7] [(0, .pointer (some ⟨b0', 0, none⟩)), (4, .pointer (some ⟨b2, 0, none⟩)), (6, .string (bs name_1)), (7, .pointer (some ⟨b0', 0, none⟩))] (by kernel_rfl) ?_
  obtain ⟨x11, hx12, hm⟩ := bindE hm
  refine WL.call 27 #[.pointer (some ⟨b0', 0, none⟩), .int .i64 120] rfl rfl (by kernel_rfl) (c_27 n s_0_code a0_code' c0_code' s_0_at_ s_0_seed b0' 120 w3 w0 B (aBox 31 b2 [.string (bs []), .int .i64 0, .int .i64 0, .int .i64 0] :: L) hx12 (Below.trans hE0 (Below.mono hb7 hW)) hW hL8 h0_code hle0_code (SH.front 1 hS9)) ?_
  rintro _ w13 ⟨rfl, hB17, hS16⟩
  refine ⟨_, rfl, ?_⟩
  have hb18 : Below B w w13 := Below.trans hb7 hB17
  have hL19 : B ≤ w13.heap.size := Nat.le_trans hL8 hB17.size
  refine WL.runk 1 [0, 4, 9] [(0, .pointer (some ⟨b0', 0, none⟩)), (4, .pointer (some ⟨b2, 0, none⟩)), (9, .agg #[.string (bs name_1), .int .i64 x11.1, .int .i64 0, .int .i64 0])] (by kernel_rfl) ?_
  refine WL.box 31 [.string (bs []), .int .i64 0, .int .i64 0, .int .i64 0] 5 (by kernel_rfl) rfl rfl rfl rfl ?_
  intro b20 w21 hE22 hR23
  have hb25 : Below B w w21 := Below.trans hb18 (Below.mono hE22 hL19)
  have hL26 : B ≤ w21.heap.size := Nat.le_trans hL19 hE22.size
  have hS27 : SH w21 B (aBox 31 b20 [.string (bs []), .int .i64 0, .int .i64 0, .int .i64 0] :: aBox 87 b0' [.slice a0_code' s_0_code.length c0_code', .int .i64 x11.2.1, .int .u64 x11.2.2] :: aBox 31 b2 [.string (bs []), .int .i64 0, .int .i64 0, .int .i64 0] :: L) := SH.add hS16 hE22 hL19 hR23
  refine WL.boxStore 0 [.string (bs name_1), .int .i64 x11.1, .int .i64 0, .int .i64 0] [.string (bs name_1), .int .i64 x11.1, .int .i64 0, .int .i64 0] (SH.front 0 hS27) hL26 rfl rfl rfl rfl rfl rfl rfl (info31).1 (info31).2.1 rfl rfl rfl ?_
  intro w28 hB29 hS30
  have hb31 : Below B w w28 := Below.trans hb25 hB29
  have hL32 : B ≤ w28.heap.size := Nat.le_trans hL26 hB29.size
  refine WL.sub [(0, .pointer (some ⟨b0', 0, none⟩)), (4, .pointer (some ⟨b2, 0, none⟩)), (5, .pointer (some ⟨b20, 0, none⟩))] ⟨rfl, rfl, rfl, trivial⟩ ?_
  refine WL.nil ?_
  refine WQ.then_normal (hK10 _ _ _ ?_)
  refine WP.seq (fun K33 hK33 => ?_)
  refine WP.region ?_
  refine WL.runk 2 [0, 4, 5, 10, 11] [(0, .pointer (some ⟨b0', 0, none⟩)), (4, .pointer (some ⟨b2, 0, none⟩)), (5, .pointer (some ⟨b20, 0, none⟩)), (10, .pointer (some ⟨b0', 0, none⟩)), (11, .pointer (some ⟨b20, 1, none⟩))] (by kernel_rfl) ?_
  refine WL.st (.int .i64 x11.1) (ST.load (cell_ext (SH.boxAt (SH.front 0 hS30) 1 _ rfl)) rfl rfl Tryz.underlying2 rfl) rfl rfl rfl ?_
  refine WL.runk 1 [0, 4, 5, 10, 13] [(0, .pointer (some ⟨b0', 0, none⟩)), (4, .pointer (some ⟨b2, 0, none⟩)), (5, .pointer (some ⟨b20, 0, none⟩)), (10, .pointer (some ⟨b0', 0, none⟩)), (13, .int .i64 (wI64 (x11.1 + 1)))] (by kernel_rfl) ?_
  obtain ⟨x34, hx35, hm⟩ := bindE hm
  refine WL.call 27 #[.pointer (some ⟨b0', 0, none⟩), .int .i64 (wI64 (x11.1 + 1))] rfl rfl (by kernel_rfl) (c_27 n s_0_code a0_code' c0_code' x11.2.1 x11.2.2 b0' (wI64 (x11.1 + 1)) w28 w0 B (aBox 31 b20 [.string (bs name_1), .int .i64 x11.1, .int .i64 0, .int .i64 0] :: aBox 31 b2 [.string (bs []), .int .i64 0, .int .i64 0, .int .i64 0] :: L) hx35 (Below.trans hE0 (Below.mono hb31 hW)) hW hL32 h0_code hle0_code (SH.front 2 (SH.front 1 (SH.front 2 hS30)))) ?_
  rintro _ w36 ⟨rfl, hB40, hS39⟩
  refine ⟨_, rfl, ?_⟩
  have hb41 : Below B w w36 := Below.trans hb31 hB40
  have hL42 : B ≤ w36.heap.size := Nat.le_trans hL32 hB40.size
  refine WL.runk 1 [0, 4, 5, 14, 15] [(0, .pointer (some ⟨b0', 0, none⟩)), (4, .pointer (some ⟨b2, 0, none⟩)), (5, .pointer (some ⟨b20, 0, none⟩)), (14, .int .i64 x34.1), (15, .pointer (some ⟨b20, 2, none⟩))] (by kernel_rfl) ?_
  refine WL.boxStore 2 [.int .i64 x34.1] [.string (bs name_1), .int .i64 x11.1, .int .i64 x34.1, .int .i64 0] (SH.front 1 hS39) hL42 rfl rfl rfl rfl rfl rfl rfl (info2).1 (info2).2.1 rfl rfl rfl ?_
  intro w43 hB44 hS45
  have hb46 : Below B w w43 := Below.trans hb41 hB44
  have hL47 : B ≤ w43.heap.size := Nat.le_trans hL42 hB44.size
  refine WL.sub [(0, .pointer (some ⟨b0', 0, none⟩)), (4, .pointer (some ⟨b2, 0, none⟩)), (5, .pointer (some ⟨b20, 0, none⟩))] ⟨rfl, rfl, rfl, trivial⟩ ?_
  refine WL.nil ?_
  refine WQ.then_normal (hK33 _ _ _ ?_)
  refine WP.seq (fun K48 hK48 => ?_)
  refine WP.seq (fun K49 hK49 => ?_)
  refine WP.region ?_
  refine WL.runk 1 [0, 4, 5, 16] [(0, .pointer (some ⟨b0', 0, none⟩)), (4, .pointer (some ⟨b2, 0, none⟩)), (5, .pointer (some ⟨b20, 0, none⟩)), (16, .pointer (some ⟨b0', 0, none⟩))] (by kernel_rfl) ?_
  obtain ⟨x50, hx51, hm⟩ := bindE hm
  refine WL.call 29 #[.pointer (some ⟨b0', 0, none⟩), .int .i64 2] rfl rfl (by kernel_rfl) (c_29 n s_0_code a0_code' c0_code' x34.2.1 x34.2.2 b0' 2 w43 w0 B (aBox 31 b20 [.string (bs name_1), .int .i64 x11.1, .int .i64 x34.1, .int .i64 0] :: aBox 31 b2 [.string (bs []), .int .i64 0, .int .i64 0, .int .i64 0] :: L) hx51 (Below.trans hE0 (Below.mono hb46 hW)) hW hL47 h0_code hle0_code (SH.front 2 (SH.front 1 (SH.front 2 hS45)))) ?_
  rintro _ w52 ⟨rfl, hB56, hS55⟩
  refine ⟨_, rfl, ?_⟩
  have hb57 : Below B w w52 := Below.trans hb46 hB56
  have hL58 : B ≤ w52.heap.size := Nat.le_trans hL47 hB56.size
  refine WL.sub [(0, .pointer (some ⟨b0', 0, none⟩)), (4, .pointer (some ⟨b2, 0, none⟩)), (5, .pointer (some ⟨b20, 0, none⟩)), (17, .bool x50.1)] ⟨rfl, rfl, rfl, rfl, trivial⟩ ?_
  refine WL.nil ?_
  refine WQ.then_normal (hK49 _ _ _ ?_)
  obtain ⟨x77, hx78, hm⟩ := bindE hm
  refine WP.cut (fun env' w' => env' = [(0, .pointer (some ⟨b0', 0, none⟩)), (4, .pointer (some ⟨b2, 0, none⟩)), (5, .pointer (some ⟨b20, 0, none⟩))] ∧ Below B w w' ∧ B ≤ w'.heap.size ∧ SH w' B (aBox 87 b0' [.slice a0_code' s_0_code.length c0_code', .int .i64 x50.2.1, .int .u64 x50.2.2] :: aBox 31 b20 [.string (bs name_1), .int .i64 x11.1, .int .i64 x77, .int .i64 0] :: aBox 31 b2 [.string (bs []), .int .i64 0, .int .i64 0, .int .i64 0] :: L)) ?_ ?_
  · have hm := hx78; clear hx78
    refine WP.cond x50.1 rfl rfl (fun hc59 => ?_) (fun hc59 => ?_)
    rotate_left
    · have hm := iteF hm hc59
      refine WP.skip ?_
      obtain rfl := Option.some.inj hm
      exact WQ.post' ⟨rfl, hb57, hL58, hS55⟩ ⟨rfl, rfl, rfl, trivial⟩
    have hm := iteT hm hc59
    refine WP.region ?_
    refine WL.runk 1 [0, 4, 5, 18] [(0, .pointer (some ⟨b0', 0, none⟩)), (4, .pointer (some ⟨b2, 0, none⟩)), (5, .pointer (some ⟨b20, 0, none⟩)), (18, .pointer (some ⟨b20, 2, none⟩))] (by kernel_rfl) ?_
    refine WL.boxStore 2 [.int .i64 0] [.string (bs name_1), .int .i64 x11.1, .int .i64 0, .int .i64 0] (SH.front 1 hS55) hL58 rfl rfl rfl rfl rfl rfl rfl (info2).1 (info2).2.1 rfl rfl rfl ?_
    intro w79 hB80 hS81
    have hb82 : Below B w w79 := Below.trans hb57 hB80
    have hL83 : B ≤ w79.heap.size := Nat.le_trans hL58 hB80.size
    refine WL.sub [(0, .pointer (some ⟨b0', 0, none⟩)), (4, .pointer (some ⟨b2, 0, none⟩)), (5, .pointer (some ⟨b20, 0, none⟩))] ⟨rfl, rfl, rfl, trivial⟩ ?_
    refine WL.nil ?_
    obtain rfl := Option.some.inj hm
    exact WQ.post' ⟨rfl, hb82, hL83, (SH.front 2 (SH.front 1 (SH.front 2 hS81)))⟩ ⟨rfl, rfl, rfl, trivial⟩
  clear hx78
  rintro _ w84 ⟨rfl, hb85, hL86, hS87⟩
  refine WQ.then_normal (hK48 _ _ _ ?_)
  refine WP.seq (fun K88 hK88 => ?_)
  refine WP.region ?_
  refine WL.runk 1 [4, 5, 19] [(4, .pointer (some ⟨b2, 0, none⟩)), (5, .pointer (some ⟨b20, 0, none⟩)), (19, .pointer (some ⟨b0', 0, none⟩))] (by kernel_rfl) ?_
  obtain ⟨x89, hx90, hm⟩ := bindE hm
  refine WL.call 27 #[.pointer (some ⟨b0', 0, none⟩), .int .i64 60] rfl rfl (by kernel_rfl) (c_27 n s_0_code a0_code' c0_code' x50.2.1 x50.2.2 b0' 60 w84 w0 B (aBox 31 b20 [.string (bs name_1), .int .i64 x11.1, .int .i64 x77, .int .i64 0] :: aBox 31 b2 [.string (bs []), .int .i64 0, .int .i64 0, .int .i64 0] :: L) hx90 (Below.trans hE0 (Below.mono hb85 hW)) hW hL86 h0_code hle0_code hS87) ?_
  rintro _ w91 ⟨rfl, hB95, hS94⟩
  refine ⟨_, rfl, ?_⟩
  have hb96 : Below B w w91 := Below.trans hb85 hB95
  have hL97 : B ≤ w91.heap.size := Nat.le_trans hL86 hB95.size
  refine WL.runk 1 [4, 5, 20, 21] [(4, .pointer (some ⟨b2, 0, none⟩)), (5, .pointer (some ⟨b20, 0, none⟩)), (20, .int .i64 x89.1), (21, .pointer (some ⟨b20, 3, none⟩))] (by kernel_rfl) ?_
  refine WL.boxStore 3 [.int .i64 x89.1] [.string (bs name_1), .int .i64 x11.1, .int .i64 x77, .int .i64 x89.1] (SH.front 1 hS94) hL97 rfl rfl rfl rfl rfl rfl rfl (info2).1 (info2).2.1 rfl rfl rfl ?_
  intro w98 hB99 hS100
  have hb101 : Below B w w98 := Below.trans hb96 hB99
  have hL102 : B ≤ w98.heap.size := Nat.le_trans hL97 hB99.size
  refine WL.sub [(4, .pointer (some ⟨b2, 0, none⟩)), (5, .pointer (some ⟨b20, 0, none⟩))] ⟨rfl, rfl, trivial⟩ ?_
  refine WL.nil ?_
  refine WQ.then_normal (hK88 _ _ _ ?_)
  refine WP.seq (fun K103 hK103 => ?_)
  refine WP.region ?_
  refine WL.st (.agg #[.string (bs name_1), .int .i64 x11.1, .int .i64 x77, .int .i64 x89.1]) (ST.loadAgg (vs := [.string (bs name_1), .int .i64 x11.1, .int .i64 x77, .int .i64 x89.1]) (fun j v hv => SH.boxPart (us := [.string (bs name_1), .int .i64 x11.1, .int .i64 x77, .int .i64 x89.1]) (SH.front 0 hS100) 0 rfl j v hv) rfl rfl rfl Tryz.underlying31 rfl (info31).1 (info31).2.1) rfl rfl rfl ?_
  refine WL.boxStore 0 [.string (bs name_1), .int .i64 x11.1, .int .i64 x77, .int .i64 x89.1] [.string (bs name_1), .int .i64 x11.1, .int .i64 x77, .int .i64 x89.1] (SH.front 2 hS100) hL102 rfl rfl rfl rfl rfl rfl rfl (info31).1 (info31).2.1 rfl rfl rfl ?_
  intro w104 hB105 hS106
  have hb107 : Below B w w104 := Below.trans hb101 hB105
  have hL108 : B ≤ w104.heap.size := Nat.le_trans hL102 hB105.size
  refine WL.sub [(4, .pointer (some ⟨b2, 0, none⟩))] ⟨rfl, trivial⟩ ?_
  refine WL.nil ?_
  refine WQ.then_normal (hK103 _ _ _ ?_)
  refine WP.ret ?_
  obtain rfl := Option.some.inj hm
  exact WQ.retv1 _ rfl (RVal.box (SH.front 0 hS106) rfl Tryz.underlying31 rfl (info31).1 (info31).2.1) ⟨rfl, hb107, (SH.cutOut 1 2 (SH.front 2 hS106))⟩

theorem c_56 (n : Nat) (s_0_code : List Int) (a0_code' : Option Addr) (c0_code' : Nat) (s_0_at_ : Int) (s_0_seed : Int) (b0' : Nat) (w : World) (w0 : World) (B : Nat) (L : List Asrt) {r : List SGood × Int × Int} (hm : m_spec_l23Draw n s_0_code s_0_at_ s_0_seed = some r) (hE0 : Ext w0 w) (hW : w0.heap.size ≤ B) (hL : B ≤ w.heap.size) (h0_code : Rd fU8.ty w0 a0_code' s_0_code) (hle0_code : s_0_code.length ≤ c0_code') (hS : SH w B (aBox 87 b0' [.slice a0_code' s_0_code.length c0_code', .int .i64 s_0_at_, .int .u64 s_0_seed] :: L)) :
    CallV Tryz.prog 56 #[.pointer (some ⟨b0', 0, none⟩)] w (fun v w' => ∃ (ra0 : Option Addr) (rc0 : Nat), v = .slice ra0 r.1.length rc0 ∧ Below B w w' ∧ SH w' B (aOwn fGood 31 ra0 rc0 r.1 :: aBox 87 b0' [.slice a0_code' s_0_code.length c0_code', .int .i64 r.2.1, .int .u64 r.2.2] :: L)) := by
  unfold m_spec_l23Draw at hm
  refine CallV.enter Tryz.func56 rfl (by kernel_rfl) Tryz.ntmps56 (env := [(0, .pointer (some ⟨b0', 0, none⟩))]) ⟨rfl, trivial⟩ ?_
  refine WP.seq (fun K1 hK1 => ?_)
  refine WP.region ?_
  refine WL.runk 1 [0] [(0, .pointer (some ⟨b0', 0, none⟩))] (by kernel_rfl) ?_
  refine WL.nil ?_
  refine WQ.then_normal (hK1 _ _ _ ?_)
  refine WP.seq (fun K2 hK2 => ?_)
  refine WP.region ?_
  refine WL.row fGood 31 ([] : List SGood) 0 #[] 6 (by kernel_rfl) rfl rfl rfl rfl rfl rfl rfl ?_
  intro a3 c4 w5 hE6 hR7
  have hb9 : Below B w w5 := Below.trans (Below.refl _ _) (Below.mono hE6 hL)
  have hL10 : B ≤ w5.heap.size := Nat.le_trans hL hE6.size
  have hS11 : SH w5 B (aOwn fGood 31 a3 c4 ([] : List SGood) :: aBox 87 b0' [.slice a0_code' s_0_code.length c0_code', .int .i64 s_0_at_, .int .u64 s_0_seed] :: L) := SH.add hS hE6 hL hR7
  refine WL.runk 1 [0, 3] [(0, .pointer (some ⟨b0', 0, none⟩)), (3, .slice a3 (([] : List SGood).length) c4)] (by kernel_rfl) ?_
  refine WL.nil ?_
  refine WQ.then_normal (hK2 _ _ _ ?_)
  refine WP.seq (fun K12 hK12 => ?_)
  refine WP.region ?_
  obtain ⟨x13, hx14, hm⟩ := bindE hm
  refine WL.call 38 #[] rfl rfl (by kernel_rfl) (c_38 n  w5 hx14 ) ?_
  rintro _ w18 ⟨a15, c16, rfl, hE19, hR20⟩
  refine ⟨_, rfl, ?_⟩
  have hb21 : Below B w w18 := Below.trans hb9 (Below.mono hE19 hL10)
  have hL22 : B ≤ w18.heap.size := Nat.le_trans hL10 hE19.size
  have hS23 : SH w18 B (aOwn fStr 9 a15 c16 x13 :: aOwn fGood 31 a3 c4 ([] : List SGood) :: aBox 87 b0' [.slice a0_code' s_0_code.length c0_code', .int .i64 s_0_at_, .int .u64 s_0_seed] :: L) := SH.add hS11 hE19 hL10 hR20
  refine WL.runk 1 [0, 3, 4] [(0, .pointer (some ⟨b0', 0, none⟩)), (3, .slice a3 (([] : List SGood).length) c4), (4, .slice a15 x13.length c16)] (by kernel_rfl) ?_
  refine WL.nil ?_
  refine WQ.then_normal (hK12 _ _ _ ?_)
  refine WP.seq (fun K24 hK24 => ?_)
  refine WP.seq (fun K25 hK25 => ?_)
  refine WP.region ?_
  refine WL.runk 1 [0, 3, 4, 5] [(0, .pointer (some ⟨b0', 0, none⟩)), (3, .slice a3 (([] : List SGood).length) c4), (4, .slice a15 x13.length c16), (5, .int .i64 0)] (by kernel_rfl) ?_
  refine WL.nil ?_
  refine WQ.then_normal (hK25 _ _ _ ?_)
  refine WP.block ?_
  obtain ⟨t202, ht203, hm⟩ := bindE hm
  have hmo197 := hm; clear hm
  refine WP.sub [(0, .pointer (some ⟨b0', 0, none⟩)), (3, .slice a3 (([] : List SGood).length) c4), (4, .slice a15 x13.length c16), (5, .int .i64 0)] ⟨rfl, rfl, rfl, rfl, trivial⟩ ?_
  refine WP.loop (fun n' env' w' => ∃ (st188 : List SGood × Int × Int × Int) (a189 : Option Addr) (c190 : Nat), env' = [(0, .pointer (some ⟨b0', 0, none⟩)), (3, .slice a189 st188.1.length c190), (4, .slice a15 x13.length c16), (5, .int .i64 st188.2.1)] ∧ Below B w w' ∧ B ≤ w'.heap.size ∧ SH w' B (aOwn fGood 31 a189 c190 st188.1 :: aOwn fStr 9 a15 c16 x13 :: aBox 87 b0' [.slice a0_code' s_0_code.length c0_code', .int .i64 st188.2.2.1, .int .u64 st188.2.2.2] :: L) ∧ loopN (m_spec_l23Draw_l1 n s_0_code x13) n' st188 = some t202) n ⟨(([] : List SGood), 0, s_0_at_, s_0_seed), _, _, rfl, hb21, hL22, (SH.front 2 (SH.front 1 (SH.front 2 hS23))), ht203⟩ ?_
  rintro n199 _ w192 ⟨st188, a189, c190, rfl, hb193, hL194, hS195, hl196⟩ K198 hK198
  obtain ⟨n200, s201, rfl, hm, hl196⟩ := loopN_some hl196
  unfold m_spec_l23Draw_l1 at hm
  refine WP.seq (fun K204 hK204 => ?_)
  refine WP.seq (fun K205 hK205 => ?_)
  refine WP.region ?_
  refine WL.runk 4 [0, 3, 4, 5, 11] [(0, .pointer (some ⟨b0', 0, none⟩)), (3, .slice a189 st188.1.length c190), (4, .slice a15 x13.length c16), (5, .int .i64 st188.2.1), (11, .bool (decide (st188.2.1 < (x13.length : Int))))] (by kernel_rfl) ?_
  refine WL.nil ?_
  refine WQ.then_normal (hK205 _ _ _ ?_)
  refine WP.cond (decide (st188.2.1 < (x13.length : Int))) rfl rfl (fun hc206 => ?_) (fun hc206 => ?_)
  rotate_left
  · have hm := iteF hm hc206
    refine WP.exit ?_
    refine WQ.then_exit ?_
    refine WQ.then_exit ?_
    refine WQ.block_here ?_
    obtain rfl := Option.some.inj hm
    obtain rfl := afterN_done hl196
    have hm := hmo197
    refine WQ.then_normal (hK24 _ _ _ ?_)
    refine WP.seq (fun K349 hK349 => ?_)
    refine WP.region ?_
    refine WL.runk 2 [2] [(2, .slice a189 st188.1.length c190)] (by kernel_rfl) ?_
    refine WL.nil ?_
    refine WQ.then_normal (hK349 _ _ _ ?_)
    refine WP.ret ?_
    obtain rfl := Option.some.inj hm
    exact WQ.ret1 _ rfl rfl ⟨_, _, rfl, hb193, (SH.cutOut 2 1 (SH.front 1 (SH.front 2 hS195)))⟩
  have hm := iteT hm hc206
  refine WP.skip ?_
  refine WQ.then_normal (hK204 _ _ _ ?_)
  refine WP.seq (fun K207 hK207 => ?_)
  refine WP.block ?_
  refine WP.seq (fun K208 hK208 => ?_)
  refine WP.region ?_
  refine WL.runk 1 [0, 3, 4, 5, 14] [(0, .pointer (some ⟨b0', 0, none⟩)), (3, .slice a189 st188.1.length c190), (4, .slice a15 x13.length c16), (5, .int .i64 st188.2.1), (14, .pointer (some ⟨b0', 0, none⟩))] (by kernel_rfl) ?_
  obtain ⟨x209, hx210, hm⟩ := bindE hm
  refine WL.call 29 #[.pointer (some ⟨b0', 0, none⟩), .int .i64 2] rfl rfl (by kernel_rfl) (c_29 n s_0_code a0_code' c0_code' st188.2.2.1 st188.2.2.2 b0' 2 w192 w0 B (aOwn fGood 31 a189 c190 st188.1 :: aOwn fStr 9 a15 c16 x13 :: L) hx210 (Below.trans hE0 (Below.mono hb193 hW)) hW hL194 h0_code hle0_code (SH.front 2 (SH.front 1 (SH.front 1 hS195)))) ?_
  rintro _ w211 ⟨rfl, hB215, hS214⟩
  refine ⟨_, rfl, ?_⟩
  have hb216 : Below B w w211 := Below.trans hb193 hB215
  have hL217 : B ≤ w211.heap.size := Nat.le_trans hL194 hB215.size
  refine WL.sub [(0, .pointer (some ⟨b0', 0, none⟩)), (3, .slice a189 st188.1.length c190), (4, .slice a15 x13.length c16), (5, .int .i64 st188.2.1), (15, .bool x209.1)] ⟨rfl, rfl, rfl, rfl, rfl, trivial⟩ ?_
  refine WL.nil ?_
  refine WQ.then_normal (hK208 _ _ _ ?_)
  obtain ⟨x311, hx312, hm⟩ := bindE hm
  refine WP.cut (fun env' w' => ∃ (a313 : Option Addr) (c314 : Nat), env' = [(0, .pointer (some ⟨b0', 0, none⟩)), (3, .slice a313 x311.1.length c314), (4, .slice a15 x13.length c16), (5, .int .i64 st188.2.1)] ∧ Below B w w' ∧ B ≤ w'.heap.size ∧ SH w' B (aOwn fGood 31 a313 c314 x311.1 :: aBox 87 b0' [.slice a0_code' s_0_code.length c0_code', .int .i64 x311.2.1, .int .u64 x311.2.2] :: aOwn fStr 9 a15 c16 x13 :: L)) ?_ ?_
  rotate_left
  · clear hx312
    rintro _ w345 ⟨a313, c314, rfl, hb346, hL347, hS348⟩
    refine WQ.block_normal ?_
    refine WQ.then_normal (hK207 _ _ _ ?_)
    refine WP.region ?_
    refine WL.runk 3 [0, 3, 4, 5] [(0, .pointer (some ⟨b0', 0, none⟩)), (3, .slice a313 x311.1.length c314), (4, .slice a15 x13.length c16), (5, .int .i64 (wI64 (st188.2.1 + 1)))] (by kernel_rfl) ?_
    refine WL.nil ?_
    obtain rfl := Option.some.inj hm
    exact WQ.round hK198 ⟨(x311.1, (wI64 (st188.2.1 + 1)), x311.2.1, x311.2.2), _, _, rfl, hb346, hL347, (SH.front 2 (SH.front 2 (SH.front 1 hS348))), hl196⟩ (Nat.lt_succ_self _) ⟨rfl, rfl, rfl, rfl, trivial⟩
  have hm := hx312; clear hx312
  refine WP.cond x209.1 rfl rfl (fun hc218 => ?_) (fun hc218 => ?_)
  rotate_left
  · have hm := iteF hm hc218
    refine WP.skip ?_
    obtain rfl := Option.some.inj hm
    exact WQ.post' ⟨_, _, rfl, hb216, hL217, (SH.front 2 (SH.front 1 (SH.front 2 hS214)))⟩ ⟨rfl, rfl, rfl, rfl, trivial⟩
  have hm := iteT hm hc218
  refine WP.region ?_
  refine WL.runk 4 [0, 4, 5, 16, 17, 18, 19] [(0, .pointer (some ⟨b0', 0, none⟩)), (4, .slice a15 x13.length c16), (5, .int .i64 st188.2.1), (16, .slice a189 st188.1.length c190), (17, .pointer (some ⟨b0', 0, none⟩)), (18, .slice a15 x13.length c16), (19, .int .i64 st188.2.1)] (by kernel_rfl) ?_
  obtain ⟨x316, hx317, hm⟩ := bindE hm
  refine WL.st (.pointer (some (at_ a15 (Int.toNat st188.2.1 * 1)))) (ST.index (T := fStr.ty) (xs := x13) (SH.rd (SH.front 2 hS214)) hx317 rfl rfl rfl Tryz.underlying63 (info9).1 (info9).2.1) rfl rfl rfl ?_
  refine WL.st (.string (bs x316)) (ST.load (cell_ext (Rd.flat (F := fStr) (SH.rd (SH.front 2 hS214)) hx317 0 rfl)) rfl rfl Tryz.underlying9 rfl) rfl rfl rfl ?_
  obtain ⟨x318, hx319, hm⟩ := bindE hm
  refine WL.call 39 #[.pointer (some ⟨b0', 0, none⟩), .string (bs x316)] rfl rfl (by kernel_rfl) (c_39 n s_0_code a0_code' c0_code' x209.2.1 x209.2.2 b0' x316 w211 w0 B (aOwn fGood 31 a189 c190 st188.1 :: aOwn fStr 9 a15 c16 x13 :: L) hx319 (Below.trans hE0 (Below.mono hb216 hW)) hW hL217 h0_code hle0_code hS214) ?_
  rintro _ w320 ⟨rfl, hB324, hS323⟩
  refine ⟨_, rfl, ?_⟩
  have hb325 : Below B w w320 := Below.trans hb216 hB324
  have hL326 : B ≤ w320.heap.size := Nat.le_trans hL217 hB324.size
  refine WL.row fGood 31 ([x318.1] : List SGood) 1 #[.string (bs x318.1.Name), .int .i64 x318.1.OnHand, .int .i64 x318.1.Reserved, .int .i64 x318.1.Least] 23 (by kernel_rfl) rfl rfl rfl rfl rfl rfl rfl ?_
  intro a327 c328 w329 hE330 hR331
  have hb333 : Below B w w329 := Below.trans hb325 (Below.mono hE330 hL326)
  have hL334 : B ≤ w329.heap.size := Nat.le_trans hL326 hE330.size
  have hS335 : SH w329 B (aOwn fGood 31 a327 c328 ([x318.1] : List SGood) :: aBox 87 b0' [.slice a0_code' s_0_code.length c0_code', .int .i64 x318.2.1, .int .u64 x318.2.2] :: aOwn fGood 31 a189 c190 st188.1 :: aOwn fStr 9 a15 c16 x13 :: L) := SH.add hS323 hE330 hL326 hR331
  obtain ⟨x336, hx337, hm⟩ := bindE hm
  refine WL.append (F := fGood) (xs := st188.1) (ys := ([x318.1] : List SGood)) 24 (SH.front 2 hS335) hL334 (SH.rd (SH.front 0 hS335)) hx337 rfl rfl rfl Tryz.underlying24 (info31).1 (info31).2.2.1 (info31).2.1 (info31).2.2.2 rfl rfl rfl rfl rfl ?_
  intro a338 c339 w340 hB341 hS342
  have hb343 : Below B w w340 := Below.trans hb333 hB341
  have hL344 : B ≤ w340.heap.size := Nat.le_trans hL334 hB341.size
  refine WL.runk 1 [0, 3, 4, 5] [(0, .pointer (some ⟨b0', 0, none⟩)), (4, .slice a15 x13.length c16), (5, .int .i64 st188.2.1), (3, .slice a338 x336.length c339)] (by kernel_rfl) ?_
  refine WL.nil ?_
  obtain rfl := Option.some.inj hm
  exact WQ.post' ⟨_, _, rfl, hb343, hL344, (SH.cutOut 3 1 (SH.front 2 (SH.front 3 (SH.front 3 hS342))))⟩ ⟨rfl, rfl, rfl, rfl, trivial⟩

theorem c_40_o1 (n : Nat) (s_0_code : List Int) (a0_code' : Option Addr) (c0_code' : Nat) (s_0_at_ : Int) (s_0_seed : Int) (b0' : Nat) (g_1 : List SGood) (a1' : Option Addr) (c1' : Nat) (i1_ : Int) (e1_ : SGood) (hx1_ : idx g_1 i1_ = some e1_) (w : World) (w0 : World) (B : Nat) (L : List Asrt) {r : List SGood × Int × Int} (hm : m_spec_l23Spoil_o1 n s_0_code s_0_at_ s_0_seed g_1 i1_ e1_ = some r) (hE0 : Ext w0 w) (hW : w0.heap.size ≤ B) (hL : B ≤ w.heap.size) (h0_code : Rd fU8.ty w0 a0_code' s_0_code) (hle0_code : s_0_code.length ≤ c0_code') (hS : SH w B (aBox 87 b0' [.slice a0_code' s_0_code.length c0_code', .int .i64 s_0_at_, .int .u64 s_0_seed] :: aOwn fGood 31 a1' c1' g_1 :: L)) :
    CallV Tryz.prog 40 #[.pointer (some ⟨b0', 0, none⟩), .pointer (some (at_ a1' (Int.toNat i1_ * 4)))] w (fun v w' => v = .tuple #[] ∧ Below B w w' ∧ SH w' B (aBox 87 b0' [.slice a0_code' s_0_code.length c0_code', .int .i64 r.2.1, .int .u64 r.2.2] :: aOwn fGood 31 a1' c1' r.1 :: L) ∧ r.1.length = g_1.length) := by
  unfold m_spec_l23Spoil_o1 at hm
  refine CallV.enter Tryz.func40 rfl (by kernel_rfl) Tryz.ntmps40 (env := [(0, .pointer (some ⟨b0', 0, none⟩)), (1, .pointer (some (at_ a1' (Int.toNat i1_ * 4))))]) ⟨rfl, rfl, trivial⟩ ?_
  refine WP.seq (fun K1 hK1 => ?_)
  refine WP.region ?_
  refine WL.runk 1 [0, 1, 4] [(0, .pointer (some ⟨b0', 0, none⟩)), (1, .pointer (some (at_ a1' (Int.toNat i1_ * 4)))), (4, .pointer (some ⟨b0', 0, none⟩))] (by kernel_rfl) ?_
  obtain ⟨x2, hx3, hm⟩ := bindE hm
  refine WL.call 27 #[.pointer (some ⟨b0', 0, none⟩), .int .i64 4] rfl rfl (by kernel_rfl) (c_27 n s_0_code a0_code' c0_code' s_0_at_ s_0_seed b0' 4 w w0 B (aOwn fGood 31 a1' c1' g_1 :: L) hx3 (Below.trans hE0 (Below.mono (Below.refl _ _) hW)) hW hL h0_code hle0_code hS) ?_
  rintro _ w4 ⟨rfl, hB8, hS7⟩
  refine ⟨_, rfl, ?_⟩
  have hb9 : Below B w w4 := Below.trans (Below.refl _ _) hB8
  have hL10 : B ≤ w4.heap.size := Nat.le_trans hL hB8.size
  refine WL.sub [(0, .pointer (some ⟨b0', 0, none⟩)), (1, .pointer (some (at_ a1' (Int.toNat i1_ * 4)))), (5, .int .i64 x2.1)] ⟨rfl, rfl, rfl, trivial⟩ ?_
  refine WL.nil ?_
  refine WQ.then_normal (hK1 _ _ _ ?_)
  refine WP.block ?_
  refine WP.seq (fun K11 hK11 => ?_)
  refine WP.region ?_
  refine WL.runk 2 [0, 1, 5, 6] [(0, .pointer (some ⟨b0', 0, none⟩)), (1, .pointer (some (at_ a1' (Int.toNat i1_ * 4)))), (5, .int .i64 x2.1), (6, .bool (x2.1 == 0))] (by kernel_rfl) ?_
  refine WL.nil ?_
  refine WQ.then_normal (hK11 _ _ _ ?_)
  obtain ⟨x7308, hx7309, hm⟩ := bindE hm
  refine WP.cut (fun env' w' => env' = [] ∧ Below B w w' ∧ B ≤ w'.heap.size ∧ SH w' B (aBox 87 b0' [.slice a0_code' s_0_code.length c0_code', .int .i64 x7308.1, .int .u64 x7308.2.1] :: aOwn fGood 31 a1' c1' x7308.2.2 :: L) ∧ x7308.2.2.length = g_1.length) ?_ ?_
  rotate_left
  · clear hx7309
    rintro _ w9741 ⟨rfl, hb9742, hL9743, hS9744, hn9745⟩
    refine WQ.block_normal ?_
    obtain rfl := Option.some.inj hm
    exact WQ.end0 rfl ⟨rfl, hb9742, hS9744, hn9745⟩
  have hm := hx7309; clear hx7309
  refine WP.cond (x2.1 == 0) rfl rfl (fun hc12 => ?_) (fun hc12 => ?_)
  · have hm := iteT hm hc12
    refine WP.region ?_
    refine WL.runk 2 [8, 9] [(8, .pointer (some (at_ a1' (Int.toNat i1_ * 4)))), (9, .pointer (some ⟨b0', 0, none⟩))] (by kernel_rfl) ?_
    refine WL.row fStr 9 ([[], [67, 97, 108, 102], [122, 122]] : List (List UInt8)) 3 #[.string (bs []), .string (bs [67, 97, 108, 102]), .string (bs [122, 122])] 10 (by kernel_rfl) rfl rfl rfl rfl rfl rfl rfl ?_
    intro a7310 c7311 w7312 hE7313 hR7314
    have hb7316 : Below B w w7312 := Below.trans hb9 (Below.mono hE7313 hL10)
    have hL7317 : B ≤ w7312.heap.size := Nat.le_trans hL10 hE7313.size
    have hS7318 : SH w7312 B (aOwn fStr 9 a7310 c7311 ([[], [67, 97, 108, 102], [122, 122]] : List (List UInt8)) :: aBox 87 b0' [.slice a0_code' s_0_code.length c0_code', .int .i64 x2.2.1, .int .u64 x2.2.2] :: aOwn fGood 31 a1' c1' g_1 :: L) := SH.add hS7 hE7313 hL10 hR7314
    obtain ⟨x7319, hx7320, hm⟩ := bindE hm
    refine WL.call 37 #[.pointer (some ⟨b0', 0, none⟩), .slice a7310 (([[], [67, 97, 108, 102], [122, 122]] : List (List UInt8)).length) c7311] rfl rfl (by kernel_rfl) (c_37_o1 n s_0_code a0_code' c0_code' x2.2.1 x2.2.2 b0' ([[], [67, 97, 108, 102], [122, 122]] : List (List UInt8)) a7310 c7311 w7312 w0 B (aOwn fGood 31 a1' c1' g_1 :: L) hx7320 (Below.trans hE0 (Below.mono hb7316 hW)) hW hL7317 h0_code hle0_code (SH.front 2 (SH.front 1 (SH.front 2 hS7318)))) ?_
    rintro _ w7321 ⟨rfl, hB7325, hS7324⟩
    refine ⟨_, rfl, ?_⟩
    have hb7326 : Below B w w7321 := Below.trans hb7316 hB7325
    have hL7327 : B ≤ w7321.heap.size := Nat.le_trans hL7317 hB7325.size
    refine WL.runk 2 [11, 13] [(11, .string (bs x7319.1)), (13, .pointer (some (at_ a1' (Int.toNat i1_ * 4))))] (by kernel_rfl) ?_
    refine WL.store (F := fGood) (SGood.mk x7319.1 e1_.OnHand e1_.Reserved e1_.Least) 0 [.string (bs x7319.1)] (SH.front 2 hS7324) hL7327 hx1_ rfl rfl rfl rfl rfl rfl rfl (info9).1 (info9).2.1 rfl rfl rfl ?_
    intro w7328 hB7329 hS7330
    have hb7331 : Below B w w7328 := Below.trans hb7326 hB7329
    have hL7332 : B ≤ w7328.heap.size := Nat.le_trans hL7327 hB7329.size
    refine WL.sub [(11, .string (bs x7319.1))] ⟨rfl, trivial⟩ ?_
    have hn7333 : (g_1.set (Int.toNat i1_) (SGood.mk x7319.1 e1_.OnHand e1_.Reserved e1_.Least)).length = g_1.length := List.length_set.trans rfl
    refine WL.sub [] trivial ?_
    refine WL.nil ?_
    obtain rfl := Option.some.inj hm
    exact WQ.post' ⟨rfl, hb7331, hL7332, (SH.cutOut 2 1 (SH.front 1 hS7330)), hn7333⟩ trivial
  have hm := iteF hm hc12
  refine WP.seq (fun K7334 hK7334 => ?_)
  refine WP.region ?_
  refine WL.runk 2 [0, 1, 5, 14] [(0, .pointer (some ⟨b0', 0, none⟩)), (1, .pointer (some (at_ a1' (Int.toNat i1_ * 4)))), (5, .int .i64 x2.1), (14, .bool (x2.1 == 1))] (by kernel_rfl) ?_
  refine WL.nil ?_
  refine WQ.then_normal (hK7334 _ _ _ ?_)
  obtain ⟨x9135, hx9136, hm⟩ := bindE hm
  refine WP.cut (fun env' w' => env' = [] ∧ Below B w w' ∧ B ≤ w'.heap.size ∧ SH w' B (aBox 87 b0' [.slice a0_code' s_0_code.length c0_code', .int .i64 x9135.1, .int .u64 x9135.2.1] :: aOwn fGood 31 a1' c1' x9135.2.2 :: L) ∧ x9135.2.2.length = g_1.length) ?_ ?_
  rotate_left
  · clear hx9136
    rintro _ w9736 ⟨rfl, hb9737, hL9738, hS9739, hn9740⟩
    obtain rfl := Option.some.inj hm
    exact WQ.post' ⟨rfl, hb9737, hL9738, hS9739, hn9740⟩ trivial
  have hm := hx9136; clear hx9136
  refine WP.cond (x2.1 == 1) rfl rfl (fun hc7335 => ?_) (fun hc7335 => ?_)
  · have hm := iteT hm hc7335
    refine WP.region ?_
    refine WL.runk 2 [16, 17] [(16, .pointer (some (at_ a1' (Int.toNat i1_ * 4)))), (17, .pointer (some ⟨b0', 0, none⟩))] (by kernel_rfl) ?_
    refine WL.row fInt 2 ([(-1), 0, 1000000, 1000001] : List Int) 4 #[.int .i64 (-1), .int .i64 0, .int .i64 1000000, .int .i64 1000001] 18 (by kernel_rfl) rfl rfl rfl rfl rfl rfl rfl ?_
    intro a9137 c9138 w9139 hE9140 hR9141
    have hb9143 : Below B w w9139 := Below.trans hb9 (Below.mono hE9140 hL10)
    have hL9144 : B ≤ w9139.heap.size := Nat.le_trans hL10 hE9140.size
    have hS9145 : SH w9139 B (aOwn fInt 2 a9137 c9138 ([(-1), 0, 1000000, 1000001] : List Int) :: aBox 87 b0' [.slice a0_code' s_0_code.length c0_code', .int .i64 x2.2.1, .int .u64 x2.2.2] :: aOwn fGood 31 a1' c1' g_1 :: L) := SH.add hS7 hE9140 hL10 hR9141
    obtain ⟨x9146, hx9147, hm⟩ := bindE hm
    refine WL.call 60 #[.pointer (some ⟨b0', 0, none⟩), .slice a9137 (([(-1), 0, 1000000, 1000001] : List Int).length) c9138] rfl rfl (by kernel_rfl) (c_60_o1 n s_0_code a0_code' c0_code' x2.2.1 x2.2.2 b0' ([(-1), 0, 1000000, 1000001] : List Int) a9137 c9138 w9139 w0 B (aOwn fGood 31 a1' c1' g_1 :: L) hx9147 (Below.trans hE0 (Below.mono hb9143 hW)) hW hL9144 h0_code hle0_code (SH.front 2 (SH.front 1 (SH.front 2 hS9145)))) ?_
    rintro _ w9148 ⟨rfl, hB9152, hS9151⟩
    refine ⟨_, rfl, ?_⟩
    have hb9153 : Below B w w9148 := Below.trans hb9143 hB9152
    have hL9154 : B ≤ w9148.heap.size := Nat.le_trans hL9144 hB9152.size
    refine WL.runk 2 [19, 21] [(19, .int .i64 x9146.1), (21, .pointer (some (at_ a1' (Int.toNat i1_ * 4 + 1))))] (by kernel_rfl) ?_
    refine WL.store (F := fGood) (SGood.mk e1_.Name x9146.1 e1_.Reserved e1_.Least) 1 [.int .i64 x9146.1] (SH.front 2 hS9151) hL9154 hx1_ rfl rfl rfl rfl rfl rfl rfl (info2).1 (info2).2.1 rfl rfl rfl ?_
    intro w9155 hB9156 hS9157
    have hb9158 : Below B w w9155 := Below.trans hb9153 hB9156
    have hL9159 : B ≤ w9155.heap.size := Nat.le_trans hL9154 hB9156.size
    refine WL.sub [(19, .int .i64 x9146.1)] ⟨rfl, trivial⟩ ?_
    have hn9160 : (g_1.set (Int.toNat i1_) (SGood.mk e1_.Name x9146.1 e1_.Reserved e1_.Least)).length = g_1.length := List.length_set.trans rfl
    refine WL.sub [] trivial ?_
    refine WL.nil ?_
    obtain rfl := Option.some.inj hm
    exact WQ.post' ⟨rfl, hb9158, hL9159, (SH.cutOut 2 1 (SH.front 1 hS9157)), hn9160⟩ trivial
  have hm := iteF hm hc7335
  refine WP.seq (fun K9161 hK9161 => ?_)
  refine WP.region ?_
  refine WL.runk 2 [0, 1, 5, 22] [(0, .pointer (some ⟨b0', 0, none⟩)), (1, .pointer (some (at_ a1' (Int.toNat i1_ * 4)))), (5, .int .i64 x2.1), (22, .bool (x2.1 == 2))] (by kernel_rfl) ?_
  refine WL.nil ?_
  refine WQ.then_normal (hK9161 _ _ _ ?_)
  obtain ⟨x9588, hx9589, hm⟩ := bindE hm
  refine WP.cut (fun env' w' => env' = [] ∧ Below B w w' ∧ B ≤ w'.heap.size ∧ SH w' B (aBox 87 b0' [.slice a0_code' s_0_code.length c0_code', .int .i64 x9588.1, .int .u64 x9588.2.1] :: aOwn fGood 31 a1' c1' x9588.2.2 :: L) ∧ x9588.2.2.length = g_1.length) ?_ ?_
  rotate_left
  · clear hx9589
    rintro _ w9731 ⟨rfl, hb9732, hL9733, hS9734, hn9735⟩
    obtain rfl := Option.some.inj hm
    exact WQ.post' ⟨rfl, hb9732, hL9733, hS9734, hn9735⟩ trivial
  have hm := hx9589; clear hx9589
  refine WP.cond (x2.1 == 2) rfl rfl (fun hc9162 => ?_) (fun hc9162 => ?_)
  rotate_left
  · have hm := iteF hm hc9162
    refine WP.seq (fun K9624 hK9624 => ?_)
    refine WP.region ?_
    refine WL.runk 2 [0, 1, 39] [(0, .pointer (some ⟨b0', 0, none⟩)), (1, .pointer (some (at_ a1' (Int.toNat i1_ * 4)))), (39, .bool (x2.1 == 3))] (by kernel_rfl) ?_
    refine WL.nil ?_
    refine WQ.then_normal (hK9624 _ _ _ ?_)
    obtain ⟨x9700, hx9701, hm⟩ := bindE hm
    refine WP.cut (fun env' w' => env' = [] ∧ Below B w w' ∧ B ≤ w'.heap.size ∧ SH w' B (aBox 87 b0' [.slice a0_code' s_0_code.length c0_code', .int .i64 x9700.1, .int .u64 x9700.2.1] :: aOwn fGood 31 a1' c1' x9700.2.2 :: L) ∧ x9700.2.2.length = g_1.length) ?_ ?_
    rotate_left
    · clear hx9701
      rintro _ w9726 ⟨rfl, hb9727, hL9728, hS9729, hn9730⟩
      obtain rfl := Option.some.inj hm
      exact WQ.post' ⟨rfl, hb9727, hL9728, hS9729, hn9730⟩ trivial
    have hm := hx9701; clear hx9701
    refine WP.cond (x2.1 == 3) rfl rfl (fun hc9625 => ?_) (fun hc9625 => ?_)
    rotate_left
    · have hm := iteF hm hc9625
      refine WP.skip ?_
      obtain rfl := Option.some.inj hm
      exact WQ.post' ⟨rfl, hb9, hL10, hS7, rfl⟩ trivial
    have hm := iteT hm hc9625
    refine WP.region ?_
    refine WL.runk 2 [41, 42] [(41, .pointer (some (at_ a1' (Int.toNat i1_ * 4)))), (42, .pointer (some ⟨b0', 0, none⟩))] (by kernel_rfl) ?_
    refine WL.row fInt 2 ([(-1), 0, 1000000, 1000001] : List Int) 4 #[.int .i64 (-1), .int .i64 0, .int .i64 1000000, .int .i64 1000001] 43 (by kernel_rfl) rfl rfl rfl rfl rfl rfl rfl ?_
    intro a9702 c9703 w9704 hE9705 hR9706
    have hb9708 : Below B w w9704 := Below.trans hb9 (Below.mono hE9705 hL10)
    have hL9709 : B ≤ w9704.heap.size := Nat.le_trans hL10 hE9705.size
    have hS9710 : SH w9704 B (aOwn fInt 2 a9702 c9703 ([(-1), 0, 1000000, 1000001] : List Int) :: aBox 87 b0' [.slice a0_code' s_0_code.length c0_code', .int .i64 x2.2.1, .int .u64 x2.2.2] :: aOwn fGood 31 a1' c1' g_1 :: L) := SH.add hS7 hE9705 hL10 hR9706
    obtain ⟨x9711, hx9712, hm⟩ := bindE hm
    refine WL.call 60 #[.pointer (some ⟨b0', 0, none⟩), .slice a9702 (([(-1), 0, 1000000, 1000001] : List Int).length) c9703] rfl rfl (by kernel_rfl) (c_60_o1 n s_0_code a0_code' c0_code' x2.2.1 x2.2.2 b0' ([(-1), 0, 1000000, 1000001] : List Int) a9702 c9703 w9704 w0 B (aOwn fGood 31 a1' c1' g_1 :: L) hx9712 (Below.trans hE0 (Below.mono hb9708 hW)) hW hL9709 h0_code hle0_code (SH.front 2 (SH.front 1 (SH.front 2 hS9710)))) ?_
    rintro _ w9713 ⟨rfl, hB9717, hS9716⟩
    refine ⟨_, rfl, ?_⟩
    have hb9718 : Below B w w9713 := Below.trans hb9708 hB9717
    have hL9719 : B ≤ w9713.heap.size := Nat.le_trans hL9709 hB9717.size
    refine WL.runk 2 [44, 46] [(44, .int .i64 x9711.1), (46, .pointer (some (at_ a1' (Int.toNat i1_ * 4 + 3))))] (by kernel_rfl) ?_
    refine WL.store (F := fGood) (SGood.mk e1_.Name e1_.OnHand e1_.Reserved x9711.1) 3 [.int .i64 x9711.1] (SH.front 2 hS9716) hL9719 hx1_ rfl rfl rfl rfl rfl rfl rfl (info2).1 (info2).2.1 rfl rfl rfl ?_
    intro w9720 hB9721 hS9722
    have hb9723 : Below B w w9720 := Below.trans hb9718 hB9721
    have hL9724 : B ≤ w9720.heap.size := Nat.le_trans hL9719 hB9721.size
    refine WL.sub [(44, .int .i64 x9711.1)] ⟨rfl, trivial⟩ ?_
    have hn9725 : (g_1.set (Int.toNat i1_) (SGood.mk e1_.Name e1_.OnHand e1_.Reserved x9711.1)).length = g_1.length := List.length_set.trans rfl
    refine WL.sub [] trivial ?_
    refine WL.nil ?_
    obtain rfl := Option.some.inj hm
    exact WQ.post' ⟨rfl, hb9723, hL9724, (SH.cutOut 2 1 (SH.front 1 hS9722)), hn9725⟩ trivial
  have hm := iteT hm hc9162
  refine WP.open (n := 16) (by kernel_rfl) rfl (fun w9590 hE9591 => ?_)
  have hb9592 : Below B w w9590 := Below.trans hb9 (Below.mono hE9591 hL10)
  have hL9593 : B ≤ w9590.heap.size := Nat.le_trans hL10 hE9591.size
  have hS9594 : SH w9590 B (aBox 87 b0' [.slice a0_code' s_0_code.length c0_code', .int .i64 x2.2.1, .int .u64 x2.2.2] :: aOwn fGood 31 a1' c1' g_1 :: L) := SH.ext hS7 hE9591
  refine WA.pre (i := 0) (D' := [0]) [(0, .pointer (some ⟨b0', 0, none⟩)), (1, .pointer (some (at_ a1' (Int.toNat i1_ * 4)))), (5, .int .i64 x2.1), (22, .bool (x2.1 == 2)), (24, .pointer (some (at_ a1' (Int.toNat i1_ * 4))))] rfl (by kernel_rfl) rfl (fun _ => by kernel_rfl) rfl ?_
  refine WA.pre (i := 1) (D' := [0, 1]) [(0, .pointer (some ⟨b0', 0, none⟩)), (1, .pointer (some (at_ a1' (Int.toNat i1_ * 4)))), (5, .int .i64 x2.1), (22, .bool (x2.1 == 2)), (24, .pointer (some (at_ a1' (Int.toNat i1_ * 4)))), (25, .pointer (some ⟨b0', 0, none⟩))] rfl (by kernel_rfl) rfl (fun _ => by kernel_rfl) rfl ?_
  refine WA.quiet (f' := 5) (D' := [0, 1, 2, 3, 4, 5, 6, 7, 8, 9, 10]) [2, 3, 4, 5, 6, 7, 8, 9, 10] rfl rfl (by kernel_rfl) ?_
  refine QL.step1v 26 (.pointer (some (at_ a1' (Int.toNat i1_ * 4)))) rfl (fun _ => by kernel_rfl) ?_
  refine QL.step1v 27 (.pointer (some (at_ a1' (Int.toNat i1_ * 4)))) rfl (fun _ => by kernel_rfl) ?_
  refine QL.step1v 28 (.pointer (some (at_ a1' (Int.toNat i1_ * 4 + 1)))) rfl (fun _ => by kernel_rfl) ?_
  refine QL.subk [1, 24, 25, 28] [(1, .pointer (some (at_ a1' (Int.toNat i1_ * 4)))), (24, .pointer (some (at_ a1' (Int.toNat i1_ * 4)))), (25, .pointer (some ⟨b0', 0, none⟩)), (28, .pointer (some (at_ a1' (Int.toNat i1_ * 4 + 1))))] (by kernel_rfl) ?_
  refine QL.st (.int .i64 e1_.OnHand) (ST.load (cell_ext (Rd.flat (F := fGood) (SH.rd (SH.front 1 hS9594)) hx1_ 1 rfl)) rfl rfl Tryz.underlying2 rfl) rfl rfl rfl ?_
  refine QL.step1v 30 (.pointer (some (at_ a1' (Int.toNat i1_ * 4)))) rfl (fun _ => by kernel_rfl) ?_
  refine QL.step1v 31 (.pointer (some (at_ a1' (Int.toNat i1_ * 4)))) rfl (fun _ => by kernel_rfl) ?_
  refine QL.step1v 32 (.pointer (some (at_ a1' (Int.toNat i1_ * 4 + 1)))) rfl (fun _ => by kernel_rfl) ?_
  refine QL.subk [24, 25, 29, 32] [(24, .pointer (some (at_ a1' (Int.toNat i1_ * 4)))), (25, .pointer (some ⟨b0', 0, none⟩)), (29, .int .i64 e1_.OnHand), (32, .pointer (some (at_ a1' (Int.toNat i1_ * 4 + 1))))] (by kernel_rfl) ?_
  refine QL.st (.int .i64 e1_.OnHand) (ST.load (cell_ext (Rd.flat (F := fGood) (SH.rd (SH.front 1 hS9594)) hx1_ 1 rfl)) rfl rfl Tryz.underlying2 rfl) rfl rfl rfl ?_
  refine QL.step1v 34 (.int .i64 (wI64 (e1_.OnHand + 1))) rfl (fun _ => by kernel_rfl) ?_
  refine QL.subk [24, 25, 29, 34] [(24, .pointer (some (at_ a1' (Int.toNat i1_ * 4)))), (25, .pointer (some ⟨b0', 0, none⟩)), (29, .int .i64 e1_.OnHand), (34, .int .i64 (wI64 (e1_.OnHand + 1)))] (by kernel_rfl) ?_
  refine QL.nil ?_
  intro w9595 hE9596
  have hb9597 : Below B w w9595 := Below.trans hb9592 (Below.mono hE9596 hL9593)
  have hL9598 : B ≤ w9595.heap.size := Nat.le_trans hL9593 hE9596.size
  have hS9599 : SH w9595 B (aBox 87 b0' [.slice a0_code' s_0_code.length c0_code', .int .i64 x2.2.1, .int .u64 x2.2.2] :: aOwn fGood 31 a1' c1' g_1 :: L) := SH.ext hS9594 hE9596
  refine WA.one (i := 11) (D' := [0, 1, 2, 3, 4, 5, 6, 7, 8, 9, 10, 11]) rfl rfl (by kernel_rfl) ?_
  refine WL.row fInt 2 ([(-1), e1_.OnHand, (wI64 (e1_.OnHand + 1)), (-9223372036854775808)] : List Int) 4 #[.int .i64 (-1), .int .i64 e1_.OnHand, .int .i64 (wI64 (e1_.OnHand + 1)), .int .i64 (-9223372036854775808)] 35 (by kernel_rfl) rfl rfl rfl rfl rfl rfl rfl ?_
  intro a9600 c9601 w9602 hE9603 hR9604
  have hb9606 : Below B w w9602 := Below.trans hb9597 (Below.mono hE9603 hL9598)
  have hL9607 : B ≤ w9602.heap.size := Nat.le_trans hL9598 hE9603.size
  have hS9608 : SH w9602 B (aOwn fInt 2 a9600 c9601 ([(-1), e1_.OnHand, (wI64 (e1_.OnHand + 1)), (-9223372036854775808)] : List Int) :: aBox 87 b0' [.slice a0_code' s_0_code.length c0_code', .int .i64 x2.2.1, .int .u64 x2.2.2] :: aOwn fGood 31 a1' c1' g_1 :: L) := SH.add hS9599 hE9603 hL9598 hR9604
  refine WL.sub [(24, .pointer (some (at_ a1' (Int.toNat i1_ * 4)))), (25, .pointer (some ⟨b0', 0, none⟩)), (35, .slice a9600 (([(-1), e1_.OnHand, (wI64 (e1_.OnHand + 1)), (-9223372036854775808)] : List Int).length) c9601)] ⟨rfl, rfl, rfl, trivial⟩ ?_
  refine WL.nil ?_
  refine WA.one (i := 12) (D' := [0, 1, 2, 3, 4, 5, 6, 7, 8, 9, 10, 11, 12]) rfl rfl (by kernel_rfl) ?_
  obtain ⟨x9609, hx9610, hm⟩ := bindE hm
  refine WL.call 60 #[.pointer (some ⟨b0', 0, none⟩), .slice a9600 (([(-1), e1_.OnHand, (wI64 (e1_.OnHand + 1)), (-9223372036854775808)] : List Int).length) c9601] rfl rfl (by kernel_rfl) (c_60_o1 n s_0_code a0_code' c0_code' x2.2.1 x2.2.2 b0' ([(-1), e1_.OnHand, (wI64 (e1_.OnHand + 1)), (-9223372036854775808)] : List Int) a9600 c9601 w9602 w0 B (aOwn fGood 31 a1' c1' g_1 :: L) hx9610 (Below.trans hE0 (Below.mono hb9606 hW)) hW hL9607 h0_code hle0_code (SH.front 2 (SH.front 1 (SH.front 2 hS9608)))) ?_
  rintro _ w9611 ⟨rfl, hB9615, hS9614⟩
  refine ⟨_, rfl, ?_⟩
  have hb9616 : Below B w w9611 := Below.trans hb9606 hB9615
  have hL9617 : B ≤ w9611.heap.size := Nat.le_trans hL9607 hB9615.size
  refine WL.sub [(24, .pointer (some (at_ a1' (Int.toNat i1_ * 4)))), (36, .int .i64 x9609.1)] ⟨rfl, rfl, trivial⟩ ?_
  refine WL.nil ?_
  refine WA.one (i := 13) (D' := [0, 1, 2, 3, 4, 5, 6, 7, 8, 9, 10, 11, 12, 13]) rfl rfl (by kernel_rfl) ?_
  refine WL.runk 1 [36, 37, 38] [(36, .int .i64 x9609.1), (37, .pointer (some (at_ a1' (Int.toNat i1_ * 4))))] (by kernel_rfl) ?_
  refine WL.nil ?_
  refine WA.one (i := 14) (D' := [0, 1, 2, 3, 4, 5, 6, 7, 8, 9, 10, 11, 12, 13, 14]) rfl rfl (by kernel_rfl) ?_
  refine WL.runk 1 [36, 38] [(36, .int .i64 x9609.1), (38, .pointer (some (at_ a1' (Int.toNat i1_ * 4 + 2))))] (by kernel_rfl) ?_
  refine WL.nil ?_
  refine WA.one (i := 15) (D' := [0, 1, 2, 3, 4, 5, 6, 7, 8, 9, 10, 11, 12, 13, 14, 15]) rfl rfl (by kernel_rfl) ?_
  refine WL.store (F := fGood) (SGood.mk e1_.Name e1_.OnHand x9609.1 e1_.Least) 2 [.int .i64 x9609.1] (SH.front 2 hS9614) hL9617 hx1_ rfl rfl rfl rfl rfl rfl rfl (info2).1 (info2).2.1 rfl rfl rfl ?_
  intro w9618 hB9619 hS9620
  have hb9621 : Below B w w9618 := Below.trans hb9616 hB9619
  have hL9622 : B ≤ w9618.heap.size := Nat.le_trans hL9617 hB9619.size
  refine WL.sub [(36, .int .i64 x9609.1)] ⟨rfl, trivial⟩ ?_
  have hn9623 : (g_1.set (Int.toNat i1_) (SGood.mk e1_.Name e1_.OnHand x9609.1 e1_.Least)).length = g_1.length := List.length_set.trans rfl
  refine WL.sub [] trivial ?_
  refine WL.nil ?_
  refine WA.done (by kernel_rfl) ?_
  obtain rfl := Option.some.inj hm
  exact WQ.post' ⟨rfl, hb9621, hL9622, (SH.cutOut 2 1 (SH.front 1 hS9620)), hn9623⟩ trivial

theorem c_26 (n : Nat) (s_0_code : List Int) (a0_code' : Option Addr) (c0_code' : Nat) (s_0_at_ : Int) (s_0_seed : Int) (b0' : Nat) (w : World) (w0 : World) (B : Nat) (L : List Asrt) {r : List SGood × Int × Int} (hm : m_spec_l23Bent n s_0_code s_0_at_ s_0_seed = some r) (hE0 : Ext w0 w) (hW : w0.heap.size ≤ B) (hL : B ≤ w.heap.size) (h0_code : Rd fU8.ty w0 a0_code' s_0_code) (hle0_code : s_0_code.length ≤ c0_code') (hS : SH w B (aBox 87 b0' [.slice a0_code' s_0_code.length c0_code', .int .i64 s_0_at_, .int .u64 s_0_seed] :: L)) :
    CallV Tryz.prog 26 #[.pointer (some ⟨b0', 0, none⟩)] w (fun v w' => ∃ (ra0 : Option Addr) (rc0 : Nat), v = .slice ra0 r.1.length rc0 ∧ Below B w w' ∧ SH w' B (aOwn fGood 31 ra0 rc0 r.1 :: aBox 87 b0' [.slice a0_code' s_0_code.length c0_code', .int .i64 r.2.1, .int .u64 r.2.2] :: L)) := by
  unfold m_spec_l23Bent at hm
  refine CallV.enter Tryz.func26 rfl (by kernel_rfl) Tryz.ntmps26 (env := [(0, .pointer (some ⟨b0', 0, none⟩))]) ⟨rfl, trivial⟩ ?_
  refine WP.seq (fun K1 hK1 => ?_)
  refine WP.region ?_
  refine WL.runk 1 [0] [(0, .pointer (some ⟨b0', 0, none⟩))] (by kernel_rfl) ?_
  refine WL.nil ?_
  refine WQ.then_normal (hK1 _ _ _ ?_)
  refine WP.seq (fun K2 hK2 => ?_)
  refine WP.region ?_
  refine WL.runk 1 [0, 6] [(0, .pointer (some ⟨b0', 0, none⟩)), (6, .pointer (some ⟨b0', 0, none⟩))] (by kernel_rfl) ?_
  obtain ⟨x3, hx4, hm⟩ := bindE hm
  refine WL.call 56 #[.pointer (some ⟨b0', 0, none⟩)] rfl rfl (by kernel_rfl) (c_56 n s_0_code a0_code' c0_code' s_0_at_ s_0_seed b0' w w0 B (L) hx4 (Below.trans hE0 (Below.mono (Below.refl _ _) hW)) hW hL h0_code hle0_code hS) ?_
  rintro _ w8 ⟨a5, c6, rfl, hB12, hS11⟩
  refine ⟨_, rfl, ?_⟩
  have hb13 : Below B w w8 := Below.trans (Below.refl _ _) hB12
  have hL14 : B ≤ w8.heap.size := Nat.le_trans hL hB12.size
  refine WL.runk 1 [0, 3] [(0, .pointer (some ⟨b0', 0, none⟩)), (3, .slice a5 x3.1.length c6)] (by kernel_rfl) ?_
  refine WL.nil ?_
  refine WQ.then_normal (hK2 _ _ _ ?_)
  refine WP.seq (fun K15 hK15 => ?_)
  refine WP.seq (fun K16 hK16 => ?_)
  refine WP.region ?_
  refine WL.runk 1 [0, 3, 8] [(0, .pointer (some ⟨b0', 0, none⟩)), (3, .slice a5 x3.1.length c6), (8, .pointer (some ⟨b0', 0, none⟩))] (by kernel_rfl) ?_
  obtain ⟨x17, hx18, hm⟩ := bindE hm
  refine WL.call 29 #[.pointer (some ⟨b0', 0, none⟩), .int .i64 24] rfl rfl (by kernel_rfl) (c_29 n s_0_code a0_code' c0_code' x3.2.1 x3.2.2 b0' 24 w8 w0 B (aOwn fGood 31 a5 c6 x3.1 :: L) hx18 (Below.trans hE0 (Below.mono hb13 hW)) hW hL14 h0_code hle0_code (SH.front 1 hS11)) ?_
  rintro _ w19 ⟨rfl, hB23, hS22⟩
  refine ⟨_, rfl, ?_⟩
  have hb24 : Below B w w19 := Below.trans hb13 hB23
  have hL25 : B ≤ w19.heap.size := Nat.le_trans hL14 hB23.size
  refine WL.sub [(0, .pointer (some ⟨b0', 0, none⟩)), (3, .slice a5 x3.1.length c6), (9, .bool x17.1)] ⟨rfl, rfl, rfl, trivial⟩ ?_
  refine WL.nil ?_
  refine WQ.then_normal (hK16 _ _ _ ?_)
  obtain ⟨x254, hx255, hm⟩ := bindE hm
  refine WP.cut (fun env' w' => ∃ (a256 : Option Addr) (c257 : Nat), env' = [(0, .pointer (some ⟨b0', 0, none⟩)), (3, .slice a256 x254.1.length c257)] ∧ Below B w w' ∧ B ≤ w'.heap.size ∧ SH w' B (aOwn fGood 31 a256 c257 x254.1 :: aBox 87 b0' [.slice a0_code' s_0_code.length c0_code', .int .i64 x254.2.1, .int .u64 x254.2.2] :: L)) ?_ ?_
  rotate_left
  · clear hx255
    rintro _ w333 ⟨a256, c257, rfl, hb334, hL335, hS336⟩
    refine WQ.then_normal (hK15 _ _ _ ?_)
    refine WP.seq (fun K337 hK337 => ?_)
    refine WP.seq (fun K338 hK338 => ?_)
    obtain ⟨x371, hx372, hm⟩ := bindE hm
    refine WP.cut (fun env' w' => env' = [(0, .pointer (some ⟨b0', 0, none⟩)), (3, .slice a256 x254.1.length c257), (41, .bool x371.1)] ∧ Below B w w' ∧ B ≤ w'.heap.size ∧ SH w' B (aOwn fGood 31 a256 c257 x254.1 :: aBox 87 b0' [.slice a0_code' s_0_code.length c0_code', .int .i64 x371.2.1, .int .u64 x371.2.2] :: L)) ?_ ?_
    · have hm := hx372; clear hx372
      refine WP.region ?_
      refine WL.runk 4 [0, 3, 38] [(0, .pointer (some ⟨b0', 0, none⟩)), (3, .slice a256 x254.1.length c257), (38, .bool (decide ((x254.1.length : Int) > 0)))] (by kernel_rfl) ?_
      refine WL.case (decide ((x254.1.length : Int) > 0)) [38] ⟨rfl, trivial⟩ (fun hc373 => ?_) (fun hc373 => ?_)
      rotate_left
      · have hm := iteF hm hc373
        refine WL.runk 3 [0, 3, 41] [(0, .pointer (some ⟨b0', 0, none⟩)), (3, .slice a256 x254.1.length c257), (41, .bool false)] (by kernel_rfl) ?_
        refine WL.nil ?_
        obtain rfl := Option.some.inj hm
        exact WQ.post' ⟨rfl, hb334, hL335, hS336⟩ ⟨rfl, rfl, rfl, trivial⟩
      have hm := iteT hm hc373
      refine WL.runk 1 [0, 3, 38, 39] [(0, .pointer (some ⟨b0', 0, none⟩)), (3, .slice a256 x254.1.length c257), (38, .bool true), (39, .pointer (some ⟨b0', 0, none⟩))] (by kernel_rfl) ?_
      obtain ⟨x374, hx375, hm⟩ := bindE hm
      refine WL.call 29 #[.pointer (some ⟨b0', 0, none⟩), .int .i64 10] rfl rfl (by kernel_rfl) (c_29 n s_0_code a0_code' c0_code' x254.2.1 x254.2.2 b0' 10 w333 w0 B (aOwn fGood 31 a256 c257 x254.1 :: L) hx375 (Below.trans hE0 (Below.mono hb334 hW)) hW hL335 h0_code hle0_code (SH.front 1 hS336)) ?_
      rintro _ w376 ⟨rfl, hB380, hS379⟩
      refine ⟨_, rfl, ?_⟩
      have hb381 : Below B w w376 := Below.trans hb334 hB380
      have hL382 : B ≤ w376.heap.size := Nat.le_trans hL335 hB380.size
      refine WL.runk 1 [0, 3, 41] [(0, .pointer (some ⟨b0', 0, none⟩)), (3, .slice a256 x254.1.length c257), (41, .bool x374.1)] (by kernel_rfl) ?_
      refine WL.nil ?_
      obtain rfl := Option.some.inj hm
      exact WQ.post' ⟨rfl, hb381, hL382, (SH.front 1 hS379)⟩ ⟨rfl, rfl, rfl, trivial⟩
    clear hx372
    rintro _ w383 ⟨rfl, hb384, hL385, hS386⟩
    refine WQ.then_normal (hK338 _ _ _ ?_)
    obtain ⟨x453, hx454, hm⟩ := bindE hm
    refine WP.cut (fun env' w' => env' = [(3, .slice a256 x453.1.length c257)] ∧ Below B w w' ∧ B ≤ w'.heap.size ∧ SH w' B (aOwn fGood 31 a256 c257 x453.1 :: aBox 87 b0' [.slice a0_code' s_0_code.length c0_code', .int .i64 x453.2.1, .int .u64 x453.2.2] :: L)) ?_ ?_
    rotate_left
    · clear hx454
      rintro _ w476 ⟨rfl, hb477, hL478, hS479⟩
      refine WQ.then_normal (hK337 _ _ _ ?_)
      refine WP.seq (fun K480 hK480 => ?_)
      refine WP.region ?_
      refine WL.runk 2 [2] [(2, .slice a256 x453.1.length c257)] (by kernel_rfl) ?_
      refine WL.nil ?_
      refine WQ.then_normal (hK480 _ _ _ ?_)
      refine WP.ret ?_
      obtain rfl := Option.some.inj hm
      exact WQ.ret1 _ rfl rfl ⟨_, _, rfl, hb477, hS479⟩
    have hm := hx454; clear hx454
    refine WP.cond x371.1 rfl rfl (fun hc387 => ?_) (fun hc387 => ?_)
    rotate_left
    · have hm := iteF hm hc387
      refine WP.skip ?_
      obtain rfl := Option.some.inj hm
      exact WQ.post' ⟨rfl, hb384, hL385, hS386⟩ ⟨rfl, trivial⟩
    have hm := iteT hm hc387
    refine WP.region ?_
    refine WL.runk 5 [3, 42, 43, 44, 46] [(3, .slice a256 x254.1.length c257), (42, .pointer (some ⟨b0', 0, none⟩)), (43, .slice a256 x254.1.length c257), (44, .pointer (some ⟨b0', 0, none⟩)), (46, .int .i64 (x254.1.length : Int))] (by kernel_rfl) ?_
    obtain ⟨x455, hx456, hm⟩ := bindE hm
    refine WL.call 27 #[.pointer (some ⟨b0', 0, none⟩), .int .i64 (x254.1.length : Int)] rfl rfl (by kernel_rfl) (c_27 n s_0_code a0_code' c0_code' x371.2.1 x371.2.2 b0' (x254.1.length : Int) w383 w0 B (aOwn fGood 31 a256 c257 x254.1 :: L) hx456 (Below.trans hE0 (Below.mono hb384 hW)) hW hL385 h0_code hle0_code (SH.front 1 hS386)) ?_
    rintro _ w457 ⟨rfl, hB461, hS460⟩
    refine ⟨_, rfl, ?_⟩
    have hb462 : Below B w w457 := Below.trans hb384 hB461
    have hL463 : B ≤ w457.heap.size := Nat.le_trans hL385 hB461.size
    obtain ⟨x464, hx465, hm⟩ := bindE hm
    refine WL.st (.pointer (some (at_ a256 (Int.toNat x455.1 * 4)))) (ST.index (T := fGood.ty) (xs := x254.1) (SH.rd (SH.front 1 hS460)) hx465 rfl rfl rfl Tryz.underlying24 (info31).1 (info31).2.1) rfl rfl rfl ?_
    obtain ⟨x466, hx467, hm⟩ := bindE hm
    refine WL.call 40 #[.pointer (some ⟨b0', 0, none⟩), .pointer (some (at_ a256 (Int.toNat x455.1 * 4)))] rfl rfl (by kernel_rfl) (c_40_o1 n s_0_code a0_code' c0_code' x455.2.1 x455.2.2 b0' x254.1 a256 c257 x455.1 x464 hx465 w457 w0 B (L) hx467 (Below.trans hE0 (Below.mono hb462 hW)) hW hL463 h0_code hle0_code hS460) ?_
    rintro _ w468 ⟨rfl, hB472, hS471, hlen473⟩
    refine ⟨_, rfl, ?_⟩
    have hb474 : Below B w w468 := Below.trans hb462 hB472
    have hL475 : B ≤ w468.heap.size := Nat.le_trans hL463 hB472.size
    refine WL.sub [(3, .slice a256 x466.1.length c257), (42, .pointer (some ⟨b0', 0, none⟩)), (43, .slice a256 x466.1.length c257), (44, .pointer (some ⟨b0', 0, none⟩)), (46, .int .i64 (x254.1.length : Int)), (47, .int .i64 x455.1), (49, .tuple #[])] ⟨by rw [hlen473]; rfl, rfl, by rw [hlen473]; rfl, rfl, rfl, rfl, rfl, trivial⟩ ?_
    refine WL.sub [(3, .slice a256 x466.1.length c257)] ⟨rfl, trivial⟩ ?_
    refine WL.nil ?_
    obtain rfl := Option.some.inj hm
    exact WQ.post' ⟨rfl, hb474, hL475, (SH.front 1 hS471)⟩ ⟨rfl, trivial⟩
  have hm := hx255; clear hx255
  refine WP.cond x17.1 rfl rfl (fun hc26 => ?_) (fun hc26 => ?_)
  rotate_left
  · have hm := iteF hm hc26
    refine WP.skip ?_
    obtain rfl := Option.some.inj hm
    exact WQ.post' ⟨_, _, rfl, hb24, hL25, (SH.front 1 hS22)⟩ ⟨rfl, rfl, trivial⟩
  have hm := iteT hm hc26
  refine WP.seq (fun K259 hK259 => ?_)
  refine WP.region ?_
  refine WL.row fGood 31 ([] : List SGood) 0 #[] 10 (by kernel_rfl) rfl rfl rfl rfl rfl rfl rfl ?_
  intro a260 c261 w262 hE263 hR264
  have hb266 : Below B w w262 := Below.trans hb24 (Below.mono hE263 hL25)
  have hL267 : B ≤ w262.heap.size := Nat.le_trans hL25 hE263.size
  have hS268 : SH w262 B (aOwn fGood 31 a260 c261 ([] : List SGood) :: aBox 87 b0' [.slice a0_code' s_0_code.length c0_code', .int .i64 x17.2.1, .int .u64 x17.2.2] :: aOwn fGood 31 a5 c6 x3.1 :: L) := SH.add hS22 hE263 hL25 hR264
  refine WL.runk 1 [0, 3] [(0, .pointer (some ⟨b0', 0, none⟩)), (3, .slice a260 (([] : List SGood).length) c261)] (by kernel_rfl) ?_
  refine WL.nil ?_
  refine WQ.then_normal (hK259 _ _ _ ?_)
  refine WP.seq (fun K269 hK269 => ?_)
  refine WP.region ?_
  refine WL.runk 1 [0, 3, 11] [(0, .pointer (some ⟨b0', 0, none⟩)), (3, .slice a260 (([] : List SGood).length) c261), (11, .pointer (some ⟨b0', 0, none⟩))] (by kernel_rfl) ?_
  obtain ⟨x270, hx271, hm⟩ := bindE hm
  refine WL.call 27 #[.pointer (some ⟨b0', 0, none⟩), .int .i64 2] rfl rfl (by kernel_rfl) (c_27 n s_0_code a0_code' c0_code' x17.2.1 x17.2.2 b0' 2 w262 w0 B (aOwn fGood 31 a260 c261 ([] : List SGood) :: aOwn fGood 31 a5 c6 x3.1 :: L) hx271 (Below.trans hE0 (Below.mono hb266 hW)) hW hL267 h0_code hle0_code (SH.front 2 (SH.front 1 (SH.front 2 hS268)))) ?_
  rintro _ w272 ⟨rfl, hB276, hS275⟩
  refine ⟨_, rfl, ?_⟩
  have hb277 : Below B w w272 := Below.trans hb266 hB276
  have hL278 : B ≤ w272.heap.size := Nat.le_trans hL267 hB276.size
  refine WL.runk 2 [0, 3, 4] [(0, .pointer (some ⟨b0', 0, none⟩)), (3, .slice a260 (([] : List SGood).length) c261), (4, .int .i64 (wI64 (40 + x270.1)))] (by kernel_rfl) ?_
  refine WL.nil ?_
  refine WQ.then_normal (hK269 _ _ _ ?_)
  refine WP.block ?_
  obtain ⟨t293, ht294, hm⟩ := bindE hm
  have hmo288 := hm; clear hm
  refine WP.sub [(0, .pointer (some ⟨b0', 0, none⟩)), (3, .slice a260 (([] : List SGood).length) c261), (4, .int .i64 (wI64 (40 + x270.1)))] ⟨rfl, rfl, rfl, trivial⟩ ?_
  refine WP.loop (fun n' env' w' => ∃ (st279 : List SGood × Int) (a280 : Option Addr) (c281 : Nat), env' = [(0, .pointer (some ⟨b0', 0, none⟩)), (3, .slice a280 st279.1.length c281), (4, .int .i64 st279.2)] ∧ Below B w w' ∧ B ≤ w'.heap.size ∧ SH w' B (aOwn fGood 31 a280 c281 st279.1 :: aBox 87 b0' [.slice a0_code' s_0_code.length c0_code', .int .i64 x270.2.1, .int .u64 x270.2.2] :: L) ∧ loopN (m_spec_l23Bent_l4 n) n' st279 = some t293) n ⟨(([] : List SGood), (wI64 (40 + x270.1))), _, _, rfl, hb277, hL278, (SH.cutOut 2 1 (SH.front 1 hS275)), ht294⟩ ?_
  rintro n290 _ w283 ⟨st279, a280, c281, rfl, hb284, hL285, hS286, hl287⟩ K289 hK289
  obtain ⟨n291, s292, rfl, hm, hl287⟩ := loopN_some hl287
  unfold m_spec_l23Bent_l4 at hm
  refine WP.seq (fun K295 hK295 => ?_)
  refine WP.seq (fun K296 hK296 => ?_)
  refine WP.region ?_
  refine WL.runk 2 [0, 3, 4, 15] [(0, .pointer (some ⟨b0', 0, none⟩)), (3, .slice a280 st279.1.length c281), (4, .int .i64 st279.2), (15, .bool (decide (st279.2 > 0)))] (by kernel_rfl) ?_
  refine WL.nil ?_
  refine WQ.then_normal (hK296 _ _ _ ?_)
  refine WP.cond (decide (st279.2 > 0)) rfl rfl (fun hc297 => ?_) (fun hc297 => ?_)
  rotate_left
  · have hm := iteF hm hc297
    refine WP.exit ?_
    refine WQ.then_exit ?_
    refine WQ.then_exit ?_
    refine WQ.block_here ?_
    obtain rfl := Option.some.inj hm
    obtain rfl := afterN_done hl287
    have hm := hmo288
    obtain rfl := Option.some.inj hm
    exact WQ.post' ⟨_, _, rfl, hb284, hL285, hS286⟩ ⟨rfl, rfl, trivial⟩
  have hm := iteT hm hc297
  refine WP.skip ?_
  refine WQ.then_normal (hK295 _ _ _ ?_)
  refine WP.seq (fun K298 hK298 => ?_)
  refine WP.block ?_
  refine WP.seq (fun K299 hK299 => ?_)
  refine WP.region ?_
  refine WL.runk 3 [0, 3, 4, 5] [(0, .pointer (some ⟨b0', 0, none⟩)), (3, .slice a280 st279.1.length c281), (4, .int .i64 st279.2), (5, .int .i64 (st279.1.length : Int))] (by kernel_rfl) ?_
  refine WL.nil ?_
  refine WQ.then_normal (hK299 _ _ _ ?_)
  refine WP.region ?_
  refine WL.runk 9 [0, 4, 20, 24, 28] [(0, .pointer (some ⟨b0', 0, none⟩)), (4, .int .i64 st279.2), (20, .slice a280 st279.1.length c281), (24, .int .u8 (IntKind.u8.wrap (wI64 (97 + (wI64 (Int.tdiv (st279.1.length : Int) 26)))))), (28, .int .u8 (IntKind.u8.wrap (wI64 (97 + (Int.tmod (st279.1.length : Int) 26)))))] (by kernel_rfl) ?_
  refine WL.row fU8 5 ([(IntKind.u8.wrap (wI64 (97 + (wI64 (Int.tdiv (st279.1.length : Int) 26))))), (IntKind.u8.wrap (wI64 (97 + (Int.tmod (st279.1.length : Int) 26))))] : List Int) 2 #[.int .u8 (IntKind.u8.wrap (wI64 (97 + (wI64 (Int.tdiv (st279.1.length : Int) 26))))), .int .u8 (IntKind.u8.wrap (wI64 (97 + (Int.tmod (st279.1.length : Int) 26))))] 29 (by kernel_rfl) rfl rfl rfl rfl rfl rfl rfl ?_
  intro a300 c301 w302 hE303 hR304
  have hb306 : Below B w w302 := Below.trans hb284 (Below.mono hE303 hL285)
  have hL307 : B ≤ w302.heap.size := Nat.le_trans hL285 hE303.size
  have hS308 : SH w302 B (aOwn fU8 5 a300 c301 ([(IntKind.u8.wrap (wI64 (97 + (wI64 (Int.tdiv (st279.1.length : Int) 26))))), (IntKind.u8.wrap (wI64 (97 + (Int.tmod (st279.1.length : Int) 26))))] : List Int) :: aOwn fGood 31 a280 c281 st279.1 :: aBox 87 b0' [.slice a0_code' s_0_code.length c0_code', .int .i64 x270.2.1, .int .u64 x270.2.2] :: L) := SH.add hS286 hE303 hL285 hR304
  refine WL.st (.string (bs (ofBytes ([(IntKind.u8.wrap (wI64 (97 + (wI64 (Int.tdiv (st279.1.length : Int) 26))))), (IntKind.u8.wrap (wI64 (97 + (Int.tmod (st279.1.length : Int) 26))))] : List Int)))) (ST.b2s (SH.rd (SH.front 0 hS308)) (SH.le (SH.front 0 hS308)).2 rfl rfl Tryz.underlying22 Tryz.underlying9 Tryz.underlying5) rfl rfl rfl ?_
  obtain ⟨x309, hx310, hm⟩ := bindE hm
  refine WL.st (.string (bs x309)) (ST.cat hx310 rfl rfl rfl) rfl rfl rfl ?_
  refine WL.runk 1 [0, 4, 20, 32] [(0, .pointer (some ⟨b0', 0, none⟩)), (4, .int .i64 st279.2), (20, .slice a280 st279.1.length c281), (32, .agg #[.string (bs x309), .int .i64 9, .int .i64 0, .int .i64 0])] (by kernel_rfl) ?_
  refine WL.row fGood 31 ([(SGood.mk x309 9 0 0)] : List SGood) 1 #[.string (bs x309), .int .i64 9, .int .i64 0, .int .i64 0] 33 (by kernel_rfl) rfl rfl rfl rfl rfl rfl rfl ?_
  intro a311 c312 w313 hE314 hR315
  have hb317 : Below B w w313 := Below.trans hb306 (Below.mono hE314 hL307)
  have hL318 : B ≤ w313.heap.size := Nat.le_trans hL307 hE314.size
  have hS319 : SH w313 B (aOwn fGood 31 a311 c312 ([(SGood.mk x309 9 0 0)] : List SGood) :: aOwn fU8 5 a300 c301 ([(IntKind.u8.wrap (wI64 (97 + (wI64 (Int.tdiv (st279.1.length : Int) 26))))), (IntKind.u8.wrap (wI64 (97 + (Int.tmod (st279.1.length : Int) 26))))] : List Int) :: aOwn fGood 31 a280 c281 st279.1 :: aBox 87 b0' [.slice a0_code' s_0_code.length c0_code', .int .i64 x270.2.1, .int .u64 x270.2.2] :: L) := SH.add hS308 hE314 hL307 hR315
  obtain ⟨x320, hx321, hm⟩ := bindE hm
  refine WL.append (F := fGood) (xs := st279.1) (ys := ([(SGood.mk x309 9 0 0)] : List SGood)) 34 (SH.front 2 hS319) hL318 (SH.rd (SH.front 0 hS319)) hx321 rfl rfl rfl Tryz.underlying24 (info31).1 (info31).2.2.1 (info31).2.1 (info31).2.2.2 rfl rfl rfl rfl rfl ?_
  intro a322 c323 w324 hB325 hS326
  have hb327 : Below B w w324 := Below.trans hb317 hB325
  have hL328 : B ≤ w324.heap.size := Nat.le_trans hL318 hB325.size
  refine WL.runk 1 [0, 3, 4] [(0, .pointer (some ⟨b0', 0, none⟩)), (4, .int .i64 st279.2), (3, .slice a322 x320.length c323)] (by kernel_rfl) ?_
  refine WL.nil ?_
  refine WQ.block_normal ?_
  refine WQ.then_normal (hK298 _ _ _ ?_)
  refine WP.region ?_
  refine WL.runk 3 [0, 3, 4] [(0, .pointer (some ⟨b0', 0, none⟩)), (4, .int .i64 (wI64 (st279.2 - 1))), (3, .slice a322 x320.length c323)] (by kernel_rfl) ?_
  refine WL.nil ?_
  obtain rfl := Option.some.inj hm
  exact WQ.round hK289 ⟨(x320, (wI64 (st279.2 - 1))), _, _, rfl, hb327, hL328, (SH.cutOut 2 2 (SH.front 1 (SH.front 3 hS326))), hl287⟩ (Nat.lt_succ_self _) ⟨rfl, rfl, rfl, trivial⟩

theorem c_59_o1 (n : Nat) (s_0_code : List Int) (a0_code' : Option Addr) (c0_code' : Nat) (s_0_at_ : Int) (s_0_seed : Int) (b0' : Nat) (list_1 : List SGood) (a1' : Option Addr) (c1' : Nat) (w : World) (w0 : World) (B : Nat) (L : List Asrt) {r : List UInt8 × Int × Int} (hm : m_spec_l23Name_o1 n s_0_code s_0_at_ s_0_seed list_1 = some r) (hE0 : Ext w0 w) (hW : w0.heap.size ≤ B) (hL : B ≤ w.heap.size) (h0_code : Rd fU8.ty w0 a0_code' s_0_code) (hle0_code : s_0_code.length ≤ c0_code') (hS : SH w B (aBox 87 b0' [.slice a0_code' s_0_code.length c0_code', .int .i64 s_0_at_, .int .u64 s_0_seed] :: aOwn fGood 31 a1' c1' list_1 :: L)) :
    CallV Tryz.prog 59 #[.pointer (some ⟨b0', 0, none⟩), .slice a1' list_1.length c1'] w (fun v w' => v = .string (bs r.1) ∧ Below B w w' ∧ SH w' B (aBox 87 b0' [.slice a0_code' s_0_code.length c0_code', .int .i64 r.2.1, .int .u64 r.2.2] :: aOwn fGood 31 a1' c1' list_1 :: L)) := by
  unfold m_spec_l23Name_o1 at hm
  refine CallV.enter Tryz.func59 rfl (by kernel_rfl) Tryz.ntmps59 (env := [(0, .pointer (some ⟨b0', 0, none⟩)), (1, .slice a1' list_1.length c1')]) ⟨rfl, rfl, trivial⟩ ?_
  refine WP.seq (fun K1 hK1 => ?_)
  refine WP.region ?_
  refine WL.runk 1 [0, 1] [(0, .pointer (some ⟨b0', 0, none⟩)), (1, .slice a1' list_1.length c1')] (by kernel_rfl) ?_
  refine WL.nil ?_
  refine WQ.then_normal (hK1 _ _ _ ?_)
  refine WP.seq (fun K2 hK2 => ?_)
  refine WP.seq (fun K3 hK3 => ?_)
  obtain ⟨x36, hx37, hm⟩ := bindE hm
  refine WP.cut (fun env' w' => env' = [(0, .pointer (some ⟨b0', 0, none⟩)), (1, .slice a1' list_1.length c1'), (12, .bool x36.1)] ∧ Below B w w' ∧ B ≤ w'.heap.size ∧ SH w' B (aBox 87 b0' [.slice a0_code' s_0_code.length c0_code', .int .i64 x36.2.1, .int .u64 x36.2.2] :: aOwn fGood 31 a1' c1' list_1 :: L)) ?_ ?_
  · have hm := hx37; clear hx37
    refine WP.region ?_
    refine WL.runk 4 [0, 1, 8] [(0, .pointer (some ⟨b0', 0, none⟩)), (1, .slice a1' list_1.length c1'), (8, .bool (decide ((list_1.length : Int) > 0)))] (by kernel_rfl) ?_
    refine WL.case (decide ((list_1.length : Int) > 0)) [8] ⟨rfl, trivial⟩ (fun hc38 => ?_) (fun hc38 => ?_)
    rotate_left
    · have hm := iteF hm hc38
      refine WL.runk 4 [0, 1, 12] [(0, .pointer (some ⟨b0', 0, none⟩)), (1, .slice a1' list_1.length c1'), (12, .bool false)] (by kernel_rfl) ?_
      refine WL.nil ?_
      obtain rfl := Option.some.inj hm
      exact WQ.post' ⟨rfl, (Below.refl _ _), hL, hS⟩ ⟨rfl, rfl, rfl, trivial⟩
    have hm := iteT hm hc38
    refine WL.runk 1 [0, 1, 8, 9] [(0, .pointer (some ⟨b0', 0, none⟩)), (1, .slice a1' list_1.length c1'), (8, .bool true), (9, .pointer (some ⟨b0', 0, none⟩))] (by kernel_rfl) ?_
    obtain ⟨x39, hx40, hm⟩ := bindE hm
    refine WL.call 29 #[.pointer (some ⟨b0', 0, none⟩), .int .i64 6] rfl rfl (by kernel_rfl) (c_29 n s_0_code a0_code' c0_code' s_0_at_ s_0_seed b0' 6 w w0 B (aOwn fGood 31 a1' c1' list_1 :: L) hx40 (Below.trans hE0 (Below.mono (Below.refl _ _) hW)) hW hL h0_code hle0_code hS) ?_
    rintro _ w41 ⟨rfl, hB45, hS44⟩
    refine ⟨_, rfl, ?_⟩
    have hb46 : Below B w w41 := Below.trans (Below.refl _ _) hB45
    have hL47 : B ≤ w41.heap.size := Nat.le_trans hL hB45.size
    refine WL.runk 2 [0, 1, 12] [(0, .pointer (some ⟨b0', 0, none⟩)), (1, .slice a1' list_1.length c1'), (12, .bool (!x39.1))] (by kernel_rfl) ?_
    refine WL.nil ?_
    obtain rfl := Option.some.inj hm
    exact WQ.post' ⟨rfl, hb46, hL47, hS44⟩ ⟨rfl, rfl, rfl, trivial⟩
  clear hx37
  rintro _ w48 ⟨rfl, hb49, hL50, hS51⟩
  refine WQ.then_normal (hK3 _ _ _ ?_)
  refine WP.cond x36.1 rfl rfl (fun hc52 => ?_) (fun hc52 => ?_)
  · have hm := iteT hm hc52
    refine WP.seq (fun K53 hK53 => ?_)
    refine WP.region ?_
    refine WL.runk 4 [13, 14, 16] [(13, .slice a1' list_1.length c1'), (14, .pointer (some ⟨b0', 0, none⟩)), (16, .int .i64 (list_1.length : Int))] (by kernel_rfl) ?_
    obtain ⟨x54, hx55, hm⟩ := bindE hm
    refine WL.call 27 #[.pointer (some ⟨b0', 0, none⟩), .int .i64 (list_1.length : Int)] rfl rfl (by kernel_rfl) (c_27 n s_0_code a0_code' c0_code' x36.2.1 x36.2.2 b0' (list_1.length : Int) w48 w0 B (aOwn fGood 31 a1' c1' list_1 :: L) hx55 (Below.trans hE0 (Below.mono hb49 hW)) hW hL50 h0_code hle0_code hS51) ?_
    rintro _ w56 ⟨rfl, hB60, hS59⟩
    refine ⟨_, rfl, ?_⟩
    have hb61 : Below B w w56 := Below.trans hb49 hB60
    have hL62 : B ≤ w56.heap.size := Nat.le_trans hL50 hB60.size
    obtain ⟨x63, hx64, hm⟩ := bindE hm
    refine WL.st (.pointer (some (at_ a1' (Int.toNat x54.1 * 4)))) (ST.index (T := fGood.ty) (xs := list_1) (SH.rd (SH.front 1 hS59)) hx64 rfl rfl rfl Tryz.underlying24 (info31).1 (info31).2.1) rfl rfl rfl ?_
    refine WL.runk 1 [19] [(19, .pointer (some (at_ a1' (Int.toNat x54.1 * 4))))] (by kernel_rfl) ?_
    refine WL.st (.string (bs x63.Name)) (ST.load (cell_ext (Rd.flat (F := fGood) (SH.rd (SH.front 1 hS59)) hx64 0 rfl)) rfl rfl Tryz.underlying9 rfl) rfl rfl rfl ?_
    refine WL.runk 1 [4] [(4, .string (bs x63.Name))] (by kernel_rfl) ?_
    refine WL.nil ?_
    refine WQ.then_normal (hK53 _ _ _ ?_)
    refine WP.ret ?_
    refine WQ.then_ret ?_
    obtain rfl := Option.some.inj hm
    exact WQ.ret1 _ rfl rfl ⟨rfl, hb61, hS59⟩
  have hm := iteF hm hc52
  refine WP.skip ?_
  refine WQ.then_normal (hK2 _ _ _ ?_)
  refine WP.seq (fun K65 hK65 => ?_)
  refine WP.region ?_
  refine WL.runk 1 [21] [(21, .pointer (some ⟨b0', 0, none⟩))] (by kernel_rfl) ?_
  obtain ⟨x66, hx67, hm⟩ := bindE hm
  refine WL.call 38 #[] rfl rfl (by kernel_rfl) (c_38 n  w48 hx67 ) ?_
  rintro _ w71 ⟨a68, c69, rfl, hE72, hR73⟩
  refine ⟨_, rfl, ?_⟩
  have hb74 : Below B w w71 := Below.trans hb49 (Below.mono hE72 hL50)
  have hL75 : B ≤ w71.heap.size := Nat.le_trans hL50 hE72.size
  have hS76 : SH w71 B (aOwn fStr 9 a68 c69 x66 :: aBox 87 b0' [.slice a0_code' s_0_code.length c0_code', .int .i64 x36.2.1, .int .u64 x36.2.2] :: aOwn fGood 31 a1' c1' list_1 :: L) := SH.add hS51 hE72 hL50 hR73
  obtain ⟨x77, hx78, hm⟩ := bindE hm
  refine WL.call 37 #[.pointer (some ⟨b0', 0, none⟩), .slice a68 x66.length c69] rfl rfl (by kernel_rfl) (c_37_o1 n s_0_code a0_code' c0_code' x36.2.1 x36.2.2 b0' x66 a68 c69 w71 w0 B (aOwn fGood 31 a1' c1' list_1 :: L) hx78 (Below.trans hE0 (Below.mono hb74 hW)) hW hL75 h0_code hle0_code (SH.front 2 (SH.front 1 (SH.front 2 hS76)))) ?_
  rintro _ w79 ⟨rfl, hB83, hS82⟩
  refine ⟨_, rfl, ?_⟩
  have hb84 : Below B w w79 := Below.trans hb74 hB83
  have hL85 : B ≤ w79.heap.size := Nat.le_trans hL75 hB83.size
  refine WL.runk 1 [4] [(4, .string (bs x77.1))] (by kernel_rfl) ?_
  refine WL.nil ?_
  refine WQ.then_normal (hK65 _ _ _ ?_)
  refine WP.ret ?_
  obtain rfl := Option.some.inj hm
  exact WQ.ret1 _ rfl rfl ⟨rfl, hb84, (SH.cutOut 2 1 (SH.front 1 (SH.front 2 hS82)))⟩

theorem c_28_o1 (n : Nat) (s_0_code : List Int) (a0_code' : Option Addr) (c0_code' : Nat) (s_0_at_ : Int) (s_0_seed : Int) (b0' : Nat) (list_1 : List SGood) (a1' : Option Addr) (c1' : Nat) (w : World) (w0 : World) (B : Nat) (L : List Asrt) {r : STake × Int × Int} (hm : m_spec_l23DrawTake_o1 n s_0_code s_0_at_ s_0_seed list_1 = some r) (hE0 : Ext w0 w) (hW : w0.heap.size ≤ B) (hL : B ≤ w.heap.size) (h0_code : Rd fU8.ty w0 a0_code' s_0_code) (hle0_code : s_0_code.length ≤ c0_code') (hS : SH w B (aBox 87 b0' [.slice a0_code' s_0_code.length c0_code', .int .i64 s_0_at_, .int .u64 s_0_seed] :: aOwn fGood 31 a1' c1' list_1 :: L)) :
    CallV Tryz.prog 28 #[.pointer (some ⟨b0', 0, none⟩), .slice a1' list_1.length c1'] w (fun v w' => v = .agg #[.string (bs r.1.Name), .int .i64 r.1.Many] ∧ Below B w w' ∧ SH w' B (aBox 87 b0' [.slice a0_code' s_0_code.length c0_code', .int .i64 r.2.1, .int .u64 r.2.2] :: aOwn fGood 31 a1' c1' list_1 :: L)) := by
  unfold m_spec_l23DrawTake_o1 at hm
  refine CallV.enter Tryz.func28 rfl (by kernel_rfl) Tryz.ntmps28 (env := [(0, .pointer (some ⟨b0', 0, none⟩)), (1, .slice a1' list_1.length c1')]) ⟨rfl, rfl, trivial⟩ ?_
  refine WP.seq (fun K1 hK1 => ?_)
  refine WP.region ?_
  refine WL.box 37 [.string (bs []), .int .i64 0] 4 (by kernel_rfl) rfl rfl rfl rfl ?_
  intro b2 w3 hE4 hR5
  have hb7 : Below B w w3 := Below.trans (Below.refl _ _) (Below.mono hE4 hL)
  have hL8 : B ≤ w3.heap.size := Nat.le_trans hL hE4.size
  have hS9 : SH w3 B (aBox 37 b2 [.string (bs []), .int .i64 0] :: aBox 87 b0' [.slice a0_code' s_0_code.length c0_code', .int .i64 s_0_at_, .int .u64 s_0_seed] :: aOwn fGood 31 a1' c1' list_1 :: L) := SH.add hS hE4 hL hR5
  refine WL.sub [(0, .pointer (some ⟨b0', 0, none⟩)), (1, .slice a1' list_1.length c1'), (4, .pointer (some ⟨b2, 0, none⟩))] ⟨rfl, rfl, rfl, trivial⟩ ?_
  refine WL.nil ?_
  refine WQ.then_normal (hK1 _ _ _ ?_)
  refine WP.seq (fun K10 hK10 => ?_)
  refine WP.region ?_
  refine WL.runk 2 [0, 4, 6, 7] [(0, .pointer (some ⟨b0', 0, none⟩)), (4, .pointer (some ⟨b2, 0, none⟩)), (6, .pointer (some ⟨b0', 0, none⟩)), (7, .slice a1' list_1.length c1')] (by kernel_rfl) ?_
  obtain ⟨x11, hx12, hm⟩ := bindE hm
  refine WL.call 59 #[.pointer (some ⟨b0', 0, none⟩), .slice a1' list_1.length c1'] rfl rfl (by kernel_rfl) (c_59_o1 n s_0_code a0_code' c0_code' s_0_at_ s_0_seed b0' list_1 a1' c1' w3 w0 B (aBox 37 b2 [.string (bs []), .int .i64 0] :: L) hx12 (Below.trans hE0 (Below.mono hb7 hW)) hW hL8 h0_code hle0_code (SH.front 2 (SH.front 2 hS9))) ?_
  rintro _ w13 ⟨rfl, hB17, hS16⟩
  refine ⟨_, rfl, ?_⟩
  have hb18 : Below B w w13 := Below.trans hb7 hB17
  have hL19 : B ≤ w13.heap.size := Nat.le_trans hL8 hB17.size
  refine WL.runk 1 [0, 4, 9] [(0, .pointer (some ⟨b0', 0, none⟩)), (4, .pointer (some ⟨b2, 0, none⟩)), (9, .agg #[.string (bs x11.1), .int .i64 0])] (by kernel_rfl) ?_
  refine WL.box 37 [.string (bs []), .int .i64 0] 5 (by kernel_rfl) rfl rfl rfl rfl ?_
  intro b20 w21 hE22 hR23
  have hb25 : Below B w w21 := Below.trans hb18 (Below.mono hE22 hL19)
  have hL26 : B ≤ w21.heap.size := Nat.le_trans hL19 hE22.size
  have hS27 : SH w21 B (aBox 37 b20 [.string (bs []), .int .i64 0] :: aBox 87 b0' [.slice a0_code' s_0_code.length c0_code', .int .i64 x11.2.1, .int .u64 x11.2.2] :: aOwn fGood 31 a1' c1' list_1 :: aBox 37 b2 [.string (bs []), .int .i64 0] :: L) := SH.add hS16 hE22 hL19 hR23
  refine WL.boxStore 0 [.string (bs x11.1), .int .i64 0] [.string (bs x11.1), .int .i64 0] (SH.front 0 hS27) hL26 rfl rfl rfl rfl rfl rfl rfl (info37).1 (info37).2.1 rfl rfl rfl ?_
  intro w28 hB29 hS30
  have hb31 : Below B w w28 := Below.trans hb25 hB29
  have hL32 : B ≤ w28.heap.size := Nat.le_trans hL26 hB29.size
  refine WL.sub [(0, .pointer (some ⟨b0', 0, none⟩)), (4, .pointer (some ⟨b2, 0, none⟩)), (5, .pointer (some ⟨b20, 0, none⟩))] ⟨rfl, rfl, rfl, trivial⟩ ?_
  refine WL.nil ?_
  refine WQ.then_normal (hK10 _ _ _ ?_)
  refine WP.seq (fun K33 hK33 => ?_)
  refine WP.region ?_
  refine WL.runk 1 [0, 4, 5, 10] [(0, .pointer (some ⟨b0', 0, none⟩)), (4, .pointer (some ⟨b2, 0, none⟩)), (5, .pointer (some ⟨b20, 0, none⟩)), (10, .pointer (some ⟨b0', 0, none⟩))] (by kernel_rfl) ?_
  obtain ⟨x34, hx35, hm⟩ := bindE hm
  refine WL.call 27 #[.pointer (some ⟨b0', 0, none⟩), .int .i64 90] rfl rfl (by kernel_rfl) (c_27 n s_0_code a0_code' c0_code' x11.2.1 x11.2.2 b0' 90 w28 w0 B (aBox 37 b20 [.string (bs x11.1), .int .i64 0] :: aOwn fGood 31 a1' c1' list_1 :: aBox 37 b2 [.string (bs []), .int .i64 0] :: L) hx35 (Below.trans hE0 (Below.mono hb31 hW)) hW hL32 h0_code hle0_code (SH.front 3 (SH.front 2 (SH.front 3 (SH.front 3 hS30))))) ?_
  rintro _ w36 ⟨rfl, hB40, hS39⟩
  refine ⟨_, rfl, ?_⟩
  have hb41 : Below B w w36 := Below.trans hb31 hB40
  have hL42 : B ≤ w36.heap.size := Nat.le_trans hL32 hB40.size
  refine WL.runk 2 [0, 4, 5, 12, 13] [(0, .pointer (some ⟨b0', 0, none⟩)), (4, .pointer (some ⟨b2, 0, none⟩)), (5, .pointer (some ⟨b20, 0, none⟩)), (12, .int .i64 (wI64 (x34.1 - 45))), (13, .pointer (some ⟨b20, 1, none⟩))] (by kernel_rfl) ?_
  refine WL.boxStore 1 [.int .i64 (wI64 (x34.1 - 45))] [.string (bs x11.1), .int .i64 (wI64 (x34.1 - 45))] (SH.front 1 hS39) hL42 rfl rfl rfl rfl rfl rfl rfl (info2).1 (info2).2.1 rfl rfl rfl ?_
  intro w43 hB44 hS45
  have hb46 : Below B w w43 := Below.trans hb41 hB44
  have hL47 : B ≤ w43.heap.size := Nat.le_trans hL42 hB44.size
  refine WL.sub [(0, .pointer (some ⟨b0', 0, none⟩)), (4, .pointer (some ⟨b2, 0, none⟩)), (5, .pointer (some ⟨b20, 0, none⟩))] ⟨rfl, rfl, rfl, trivial⟩ ?_
  refine WL.nil ?_
  refine WQ.then_normal (hK33 _ _ _ ?_)
  refine WP.seq (fun K48 hK48 => ?_)
  refine WP.seq (fun K49 hK49 => ?_)
  refine WP.region ?_
  refine WL.runk 1 [0, 4, 5, 14] [(0, .pointer (some ⟨b0', 0, none⟩)), (4, .pointer (some ⟨b2, 0, none⟩)), (5, .pointer (some ⟨b20, 0, none⟩)), (14, .pointer (some ⟨b0', 0, none⟩))] (by kernel_rfl) ?_
  obtain ⟨x50, hx51, hm⟩ := bindE hm
  refine WL.call 29 #[.pointer (some ⟨b0', 0, none⟩), .int .i64 12] rfl rfl (by kernel_rfl) (c_29 n s_0_code a0_code' c0_code' x34.2.1 x34.2.2 b0' 12 w43 w0 B (aBox 37 b20 [.string (bs x11.1), .int .i64 (wI64 (x34.1 - 45))] :: aOwn fGood 31 a1' c1' list_1 :: aBox 37 b2 [.string (bs []), .int .i64 0] :: L) hx51 (Below.trans hE0 (Below.mono hb46 hW)) hW hL47 h0_code hle0_code (SH.front 3 (SH.front 2 (SH.front 3 (SH.front 3 hS45))))) ?_
  rintro _ w52 ⟨rfl, hB56, hS55⟩
  refine ⟨_, rfl, ?_⟩
  have hb57 : Below B w w52 := Below.trans hb46 hB56
  have hL58 : B ≤ w52.heap.size := Nat.le_trans hL47 hB56.size
  refine WL.sub [(0, .pointer (some ⟨b0', 0, none⟩)), (4, .pointer (some ⟨b2, 0, none⟩)), (5, .pointer (some ⟨b20, 0, none⟩)), (15, .bool x50.1)] ⟨rfl, rfl, rfl, rfl, trivial⟩ ?_
  refine WL.nil ?_
  refine WQ.then_normal (hK49 _ _ _ ?_)
  obtain ⟨x131, hx132, hm⟩ := bindE hm
  refine WP.cut (fun env' w' => env' = [(4, .pointer (some ⟨b2, 0, none⟩)), (5, .pointer (some ⟨b20, 0, none⟩))] ∧ Below B w w' ∧ B ≤ w'.heap.size ∧ SH w' B (aBox 87 b0' [.slice a0_code' s_0_code.length c0_code', .int .i64 x131.1, .int .u64 x131.2.1] :: aBox 37 b20 [.string (bs x11.1), .int .i64 x131.2.2] :: aOwn fGood 31 a1' c1' list_1 :: aBox 37 b2 [.string (bs []), .int .i64 0] :: L)) ?_ ?_
  rotate_left
  · clear hx132
    rintro _ w156 ⟨rfl, hb157, hL158, hS159⟩
    refine WQ.then_normal (hK48 _ _ _ ?_)
    refine WP.seq (fun K160 hK160 => ?_)
    refine WP.region ?_
    refine WL.st (.agg #[.string (bs x11.1), .int .i64 x131.2.2]) (ST.loadAgg (vs := [.string (bs x11.1), .int .i64 x131.2.2]) (fun j v hv => SH.boxPart (us := [.string (bs x11.1), .int .i64 x131.2.2]) (SH.front 1 hS159) 0 rfl j v hv) rfl rfl rfl Tryz.underlying37 rfl (info37).1 (info37).2.1) rfl rfl rfl ?_
    refine WL.boxStore 0 [.string (bs x11.1), .int .i64 x131.2.2] [.string (bs x11.1), .int .i64 x131.2.2] (SH.front 3 hS159) hL158 rfl rfl rfl rfl rfl rfl rfl (info37).1 (info37).2.1 rfl rfl rfl ?_
    intro w161 hB162 hS163
    have hb164 : Below B w w161 := Below.trans hb157 hB162
    have hL165 : B ≤ w161.heap.size := Nat.le_trans hL158 hB162.size
    refine WL.sub [(4, .pointer (some ⟨b2, 0, none⟩))] ⟨rfl, trivial⟩ ?_
    refine WL.nil ?_
    refine WQ.then_normal (hK160 _ _ _ ?_)
    refine WP.ret ?_
    obtain rfl := Option.some.inj hm
    exact WQ.retv1 _ rfl (RVal.box (SH.front 0 hS163) rfl Tryz.underlying37 rfl (info37).1 (info37).2.1) ⟨rfl, hb164, (SH.cutOut 2 2 (SH.front 2 (SH.front 3 hS163)))⟩
  have hm := hx132; clear hx132
  refine WP.cond x50.1 rfl rfl (fun hc59 => ?_) (fun hc59 => ?_)
  rotate_left
  · have hm := iteF hm hc59
    refine WP.skip ?_
    obtain rfl := Option.some.inj hm
    exact WQ.post' ⟨rfl, hb57, hL58, hS55⟩ ⟨rfl, rfl, trivial⟩
  have hm := iteT hm hc59
  refine WP.region ?_
  refine WL.runk 1 [4, 5, 16] [(4, .pointer (some ⟨b2, 0, none⟩)), (5, .pointer (some ⟨b20, 0, none⟩)), (16, .pointer (some ⟨b0', 0, none⟩))] (by kernel_rfl) ?_
  refine WL.row fInt 2 ([(-1000001), (-1000000), 0, 1000000, 1000001, (-9223372036854775808)] : List Int) 6 #[.int .i64 (-1000001), .int .i64 (-1000000), .int .i64 0, .int .i64 1000000, .int .i64 1000001, .int .i64 (-9223372036854775808)] 17 (by kernel_rfl) rfl rfl rfl rfl rfl rfl rfl ?_
  intro a133 c134 w135 hE136 hR137
  have hb139 : Below B w w135 := Below.trans hb57 (Below.mono hE136 hL58)
  have hL140 : B ≤ w135.heap.size := Nat.le_trans hL58 hE136.size
  have hS141 : SH w135 B (aOwn fInt 2 a133 c134 ([(-1000001), (-1000000), 0, 1000000, 1000001, (-9223372036854775808)] : List Int) :: aBox 87 b0' [.slice a0_code' s_0_code.length c0_code', .int .i64 x50.2.1, .int .u64 x50.2.2] :: aBox 37 b20 [.string (bs x11.1), .int .i64 (wI64 (x34.1 - 45))] :: aOwn fGood 31 a1' c1' list_1 :: aBox 37 b2 [.string (bs []), .int .i64 0] :: L) := SH.add hS55 hE136 hL58 hR137
  obtain ⟨x142, hx143, hm⟩ := bindE hm
  refine WL.call 60 #[.pointer (some ⟨b0', 0, none⟩), .slice a133 (([(-1000001), (-1000000), 0, 1000000, 1000001, (-9223372036854775808)] : List Int).length) c134] rfl rfl (by kernel_rfl) (c_60_o1 n s_0_code a0_code' c0_code' x50.2.1 x50.2.2 b0' ([(-1000001), (-1000000), 0, 1000000, 1000001, (-9223372036854775808)] : List Int) a133 c134 w135 w0 B (aBox 37 b20 [.string (bs x11.1), .int .i64 (wI64 (x34.1 - 45))] :: aOwn fGood 31 a1' c1' list_1 :: aBox 37 b2 [.string (bs []), .int .i64 0] :: L) hx143 (Below.trans hE0 (Below.mono hb139 hW)) hW hL140 h0_code hle0_code (SH.front 4 (SH.front 3 (SH.front 4 (SH.front 4 (SH.front 4 hS141)))))) ?_
  rintro _ w144 ⟨rfl, hB148, hS147⟩
  refine ⟨_, rfl, ?_⟩
  have hb149 : Below B w w144 := Below.trans hb139 hB148
  have hL150 : B ≤ w144.heap.size := Nat.le_trans hL140 hB148.size
  refine WL.runk 1 [4, 5, 18, 19] [(4, .pointer (some ⟨b2, 0, none⟩)), (5, .pointer (some ⟨b20, 0, none⟩)), (18, .int .i64 x142.1), (19, .pointer (some ⟨b20, 1, none⟩))] (by kernel_rfl) ?_
  refine WL.boxStore 1 [.int .i64 x142.1] [.string (bs x11.1), .int .i64 x142.1] (SH.front 2 hS147) hL150 rfl rfl rfl rfl rfl rfl rfl (info2).1 (info2).2.1 rfl rfl rfl ?_
  intro w151 hB152 hS153
  have hb154 : Below B w w151 := Below.trans hb149 hB152
  have hL155 : B ≤ w151.heap.size := Nat.le_trans hL150 hB152.size
  refine WL.sub [(4, .pointer (some ⟨b2, 0, none⟩)), (5, .pointer (some ⟨b20, 0, none⟩))] ⟨rfl, rfl, trivial⟩ ?_
  refine WL.nil ?_
  obtain rfl := Option.some.inj hm
  exact WQ.post' ⟨rfl, hb154, hL155, (SH.cutOut 4 1 (SH.front 3 (SH.front 2 (SH.front 4 (SH.front 4 hS153)))))⟩ ⟨rfl, rfl, trivial⟩

theorem c_5 (n : Nat) (code_0 : List Int) (a0' : Option Addr) (c0' : Nat) (w : World) {r : List SGood × List STake} (hm : m_spec_DrawChangeGoods n code_0 = some r) (h0 : Rd fU8.ty w a0' code_0) (hle0 : code_0.length ≤ c0') :
    CallV Tryz.prog 5 #[.slice a0' code_0.length c0'] w (fun v w' => ∃ (ra0 : Option Addr) (rc0 : Nat) (ra1 : Option Addr) (rc1 : Nat), v = .tuple #[.slice ra0 r.1.length rc0, .slice ra1 r.2.length rc1] ∧ Ext w w' ∧ SH w' w.heap.size [aOwn fGood 31 ra0 rc0 r.1, aOwn fTake 37 ra1 rc1 r.2]) := by
  unfold m_spec_DrawChangeGoods at hm
  refine CallV.enter Tryz.func5 rfl (by kernel_rfl) Tryz.ntmps5 (env := [(0, .slice a0' code_0.length c0')]) ⟨rfl, trivial⟩ ?_
  refine WP.seq (fun K1 hK1 => ?_)
  refine WP.region ?_
  refine WL.runk 2 [0] [(0, .slice a0' code_0.length c0')] (by kernel_rfl) ?_
  refine WL.nil ?_
  refine WQ.then_normal (hK1 _ _ _ ?_)
  refine WP.seq (fun K2 hK2 => ?_)
  refine WP.region ?_
  refine WL.runk 1 [9] [(9, .slice a0' code_0.length c0')] (by kernel_rfl) ?_
  obtain ⟨x3, hx4, hm⟩ := bindE hm
  refine WL.call 25 #[.slice a0' code_0.length c0'] rfl rfl (by kernel_rfl) (c_25 n code_0 a0' c0' w hx4 (Rd.below h0 (Ext.refl w)) hle0) ?_
  rintro _ w7 ⟨b5, rfl, hE8, hR9⟩
  refine ⟨_, rfl, ?_⟩
  have hb10 : Ext w w7 := Ext.trans (Ext.refl w) hE8
  have hL11 : w.heap.size ≤ w7.heap.size := Nat.le_trans (Nat.le_refl _) hE8.size
  have hS12 : SH w7 w.heap.size [aBox 87 b5 [.slice a0' code_0.length c0', .int .i64 x3.1, .int .u64 x3.2]] := SH.add (SH.nil _ _) hE8 (Nat.le_refl _) hR9
  refine WL.runk 1 [4] [(4, .pointer (some ⟨b5, 0, none⟩))] (by kernel_rfl) ?_
  refine WL.nil ?_
  refine WQ.then_normal (hK2 _ _ _ ?_)
  refine WP.seq (fun K13 hK13 => ?_)
  refine WP.region ?_
  refine WL.runk 1 [4, 11] [(4, .pointer (some ⟨b5, 0, none⟩)), (11, .pointer (some ⟨b5, 0, none⟩))] (by kernel_rfl) ?_
  obtain ⟨x14, hx15, hm⟩ := bindE hm
  refine WL.call 26 #[.pointer (some ⟨b5, 0, none⟩)] rfl rfl (by kernel_rfl) (c_26 n code_0 a0' c0' x3.1 x3.2 b5 w7 w w.heap.size [] hx15 hb10 (Nat.le_refl _) hL11 h0 hle0 hS12) ?_
  rintro _ w19 ⟨a16, c17, rfl, hB23, hS22⟩
  refine ⟨_, rfl, ?_⟩
  have hb24 : Ext w w19 := Below.trans hb10 hB23
  have hL25 : w.heap.size ≤ w19.heap.size := Nat.le_trans hL11 hB23.size
  refine WL.runk 1 [4, 5] [(4, .pointer (some ⟨b5, 0, none⟩)), (5, .slice a16 x14.1.length c17)] (by kernel_rfl) ?_
  refine WL.nil ?_
  refine WQ.then_normal (hK13 _ _ _ ?_)
  refine WP.seq (fun K26 hK26 => ?_)
  refine WP.region ?_
  refine WL.row fTake 37 ([] : List STake) 0 #[] 13 (by kernel_rfl) rfl rfl rfl rfl rfl rfl rfl ?_
  intro a27 c28 w29 hE30 hR31
  have hb33 : Ext w w29 := Ext.trans hb24 hE30
  have hL34 : w.heap.size ≤ w29.heap.size := Nat.le_trans hL25 hE30.size
  have hS35 : SH w29 w.heap.size [aOwn fTake 37 a27 c28 ([] : List STake), aOwn fGood 31 a16 c17 x14.1, aBox 87 b5 [.slice a0' code_0.length c0', .int .i64 x14.2.1, .int .u64 x14.2.2]] := SH.add hS22 hE30 hL25 hR31
  refine WL.runk 1 [4, 5, 6] [(4, .pointer (some ⟨b5, 0, none⟩)), (5, .slice a16 x14.1.length c17), (6, .slice a27 (([] : List STake).length) c28)] (by kernel_rfl) ?_
  refine WL.nil ?_
  refine WQ.then_normal (hK26 _ _ _ ?_)
  refine WP.seq (fun K36 hK36 => ?_)
  refine WP.seq (fun K37 hK37 => ?_)
  refine WP.region ?_
  refine WL.runk 1 [4, 5, 6, 14] [(4, .pointer (some ⟨b5, 0, none⟩)), (5, .slice a16 x14.1.length c17), (6, .slice a27 (([] : List STake).length) c28), (14, .pointer (some ⟨b5, 0, none⟩))] (by kernel_rfl) ?_
  obtain ⟨x38, hx39, hm⟩ := bindE hm
  refine WL.call 27 #[.pointer (some ⟨b5, 0, none⟩), .int .i64 7] rfl rfl (by kernel_rfl) (c_27 n code_0 a0' c0' x14.2.1 x14.2.2 b5 7 w29 w w.heap.size [aOwn fTake 37 a27 c28 ([] : List STake), aOwn fGood 31 a16 c17 x14.1] hx39 hb33 (Nat.le_refl _) hL34 h0 hle0 (SH.front 2 (SH.front 1 (SH.front 1 hS35)))) ?_
  rintro _ w40 ⟨rfl, hB44, hS43⟩
  refine ⟨_, rfl, ?_⟩
  have hb45 : Ext w w40 := Below.trans hb33 hB44
  have hL46 : w.heap.size ≤ w40.heap.size := Nat.le_trans hL34 hB44.size
  refine WL.runk 1 [4, 5, 6, 7] [(4, .pointer (some ⟨b5, 0, none⟩)), (5, .slice a16 x14.1.length c17), (6, .slice a27 (([] : List STake).length) c28), (7, .int .i64 x38.1)] (by kernel_rfl) ?_
  refine WL.nil ?_
  refine WQ.then_normal (hK37 _ _ _ ?_)
  refine WP.block ?_
  obtain ⟨t305, ht306, hm⟩ := bindE hm
  have hmo300 := hm; clear hm
  refine WP.sub [(4, .pointer (some ⟨b5, 0, none⟩)), (5, .slice a16 x14.1.length c17), (6, .slice a27 (([] : List STake).length) c28), (7, .int .i64 x38.1)] ⟨rfl, rfl, rfl, rfl, trivial⟩ ?_
  refine WP.loop (fun n' env' w' => ∃ (st291 : List STake × Int × Int × Int) (a292 : Option Addr) (c293 : Nat), env' = [(4, .pointer (some ⟨b5, 0, none⟩)), (5, .slice a16 x14.1.length c17), (6, .slice a292 st291.1.length c293), (7, .int .i64 st291.2.1)] ∧ Ext w w' ∧ w.heap.size ≤ w'.heap.size ∧ SH w' w.heap.size [aOwn fTake 37 a292 c293 st291.1, aBox 87 b5 [.slice a0' code_0.length c0', .int .i64 st291.2.2.1, .int .u64 st291.2.2.2], aOwn fGood 31 a16 c17 x14.1] ∧ loopN (m_spec_DrawChangeGoods_l1 n code_0 x14) n' st291 = some t305) n ⟨(([] : List STake), x38.1, x38.2.1, x38.2.2), _, _, rfl, hb45, hL46, (SH.front 2 (SH.front 1 (SH.front 2 hS43))), ht306⟩ ?_
  rintro n302 _ w295 ⟨st291, a292, c293, rfl, hb296, hL297, hS298, hl299⟩ K301 hK301
  obtain ⟨n303, s304, rfl, hm, hl299⟩ := loopN_some hl299
  unfold m_spec_DrawChangeGoods_l1 at hm
  refine WP.seq (fun K307 hK307 => ?_)
  refine WP.seq (fun K308 hK308 => ?_)
  refine WP.region ?_
  refine WL.runk 2 [4, 5, 6, 7, 17] [(4, .pointer (some ⟨b5, 0, none⟩)), (5, .slice a16 x14.1.length c17), (6, .slice a292 st291.1.length c293), (7, .int .i64 st291.2.1), (17, .bool (decide (st291.2.1 > 0)))] (by kernel_rfl) ?_
  refine WL.nil ?_
  refine WQ.then_normal (hK308 _ _ _ ?_)
  refine WP.cond (decide (st291.2.1 > 0)) rfl rfl (fun hc309 => ?_) (fun hc309 => ?_)
  rotate_left
  · have hm := iteF hm hc309
    refine WP.exit ?_
    refine WQ.then_exit ?_
    refine WQ.then_exit ?_
    refine WQ.block_here ?_
    obtain rfl := Option.some.inj hm
    obtain rfl := afterN_done hl299
    have hm := hmo300
    refine WQ.then_normal (hK36 _ _ _ ?_)
    refine WP.seq (fun K428 hK428 => ?_)
    refine WP.seq (fun K429 hK429 => ?_)
    refine WP.region ?_
    refine WL.runk 1 [4, 5, 6, 33] [(4, .pointer (some ⟨b5, 0, none⟩)), (5, .slice a16 x14.1.length c17), (6, .slice a292 st291.1.length c293), (33, .pointer (some ⟨b5, 0, none⟩))] (by kernel_rfl) ?_
    obtain ⟨x430, hx431, hm⟩ := bindE hm
    refine WL.call 29 #[.pointer (some ⟨b5, 0, none⟩), .int .i64 20] rfl rfl (by kernel_rfl) (c_29 n code_0 a0' c0' st291.2.2.1 st291.2.2.2 b5 20 w295 w w.heap.size [aOwn fTake 37 a292 c293 st291.1, aOwn fGood 31 a16 c17 x14.1] hx431 hb296 (Nat.le_refl _) hL297 h0 hle0 (SH.front 2 (SH.front 1 (SH.front 2 hS298)))) ?_
    rintro _ w432 ⟨rfl, hB436, hS435⟩
    refine ⟨_, rfl, ?_⟩
    have hb437 : Ext w w432 := Below.trans hb296 hB436
    have hL438 : w.heap.size ≤ w432.heap.size := Nat.le_trans hL297 hB436.size
    refine WL.sub [(4, .pointer (some ⟨b5, 0, none⟩)), (5, .slice a16 x14.1.length c17), (6, .slice a292 st291.1.length c293), (34, .bool x430.1)] ⟨rfl, rfl, rfl, rfl, trivial⟩ ?_
    refine WL.nil ?_
    refine WQ.then_normal (hK429 _ _ _ ?_)
    obtain ⟨x505, hx506, hm⟩ := bindE hm
    refine WP.cut (fun env' w' => ∃ (a507 : Option Addr) (c508 : Nat), env' = [(5, .slice a16 x14.1.length c17), (6, .slice a507 x505.1.length c508)] ∧ Ext w w' ∧ w.heap.size ≤ w'.heap.size ∧ SH w' w.heap.size [aOwn fTake 37 a507 c508 x505.1, aBox 87 b5 [.slice a0' code_0.length c0', .int .i64 x505.2.1, .int .u64 x505.2.2], aOwn fGood 31 a16 c17 x14.1]) ?_ ?_
    rotate_left
    · clear hx506
      rintro _ w530 ⟨a507, c508, rfl, hb531, hL532, hS533⟩
      refine WQ.then_normal (hK428 _ _ _ ?_)
      refine WP.seq (fun K534 hK534 => ?_)
      refine WP.region ?_
      refine WL.runk 4 [2, 3] [(2, .slice a16 x14.1.length c17), (3, .slice a507 x505.1.length c508)] (by kernel_rfl) ?_
      refine WL.nil ?_
      refine WQ.then_normal (hK534 _ _ _ ?_)
      refine WP.ret ?_
      obtain rfl := Option.some.inj hm
      exact WQ.ret2 _ _ rfl rfl rfl ⟨_, _, _, _, rfl, hb531, (SH.take 2 (SH.front 2 hS533))⟩
    have hm := hx506; clear hx506
    refine WP.cond x430.1 rfl rfl (fun hc439 => ?_) (fun hc439 => ?_)
    rotate_left
    · have hm := iteF hm hc439
      refine WP.skip ?_
      obtain rfl := Option.some.inj hm
      exact WQ.post' ⟨_, _, rfl, hb437, hL438, (SH.front 2 (SH.front 1 (SH.front 2 hS435)))⟩ ⟨rfl, rfl, trivial⟩
    have hm := iteT hm hc439
    refine WP.region ?_
    refine WL.runk 1 [5, 35] [(5, .slice a16 x14.1.length c17), (35, .pointer (some ⟨b5, 0, none⟩))] (by kernel_rfl) ?_
    obtain ⟨x510, hx511, hm⟩ := bindE hm
    refine WL.call 27 #[.pointer (some ⟨b5, 0, none⟩), .int .i64 2] rfl rfl (by kernel_rfl) (c_27 n code_0 a0' c0' x430.2.1 x430.2.2 b5 2 w432 w w.heap.size [aOwn fTake 37 a292 c293 st291.1, aOwn fGood 31 a16 c17 x14.1] hx511 hb437 (Nat.le_refl _) hL438 h0 hle0 hS435) ?_
    rintro _ w512 ⟨rfl, hB516, hS515⟩
    refine ⟨_, rfl, ?_⟩
    have hb517 : Ext w w512 := Below.trans hb437 hB516
    have hL518 : w.heap.size ≤ w512.heap.size := Nat.le_trans hL438 hB516.size
    refine WL.runk 1 [5, 37] [(5, .slice a16 x14.1.length c17), (37, .int .i64 (wI64 (60 + x510.1)))] (by kernel_rfl) ?_
    obtain ⟨x519, hx520, hm⟩ := bindE hm
    refine WL.make fTake 38 hx520 rfl rfl rfl Tryz.underlying25 (info37).1 (info37).2.2.1 (info37).2.1 (info37).2.2.2 rfl rfl rfl rfl rfl ?_
    intro a521 c522 w523 hE524 hR525
    have hb527 : Ext w w523 := Ext.trans hb517 hE524
    have hL528 : w.heap.size ≤ w523.heap.size := Nat.le_trans hL518 hE524.size
    have hS529 : SH w523 w.heap.size [aOwn fTake 37 a521 c522 x519, aBox 87 b5 [.slice a0' code_0.length c0', .int .i64 x510.2.1, .int .u64 x510.2.2], aOwn fTake 37 a292 c293 st291.1, aOwn fGood 31 a16 c17 x14.1] := SH.add hS515 hE524 hL518 hR525
    refine WL.runk 1 [5, 6] [(5, .slice a16 x14.1.length c17), (6, .slice a521 x519.length c522)] (by kernel_rfl) ?_
    refine WL.nil ?_
    obtain rfl := Option.some.inj hm
    exact WQ.post' ⟨_, _, rfl, hb527, hL528, (SH.take 3 (SH.front 2 (SH.front 2 (SH.front 3 hS529))))⟩ ⟨rfl, rfl, trivial⟩
  have hm := iteT hm hc309
  refine WP.skip ?_
  refine WQ.then_normal (hK307 _ _ _ ?_)
  refine WP.seq (fun K310 hK310 => ?_)
  refine WP.block ?_
  refine WP.seq (fun K311 hK311 => ?_)
  refine WP.region ?_
  refine WL.runk 2 [4, 5, 6, 7, 20, 21] [(4, .pointer (some ⟨b5, 0, none⟩)), (5, .slice a16 x14.1.length c17), (6, .slice a292 st291.1.length c293), (7, .int .i64 st291.2.1), (20, .pointer (some ⟨b5, 0, none⟩)), (21, .slice a16 x14.1.length c17)] (by kernel_rfl) ?_
  obtain ⟨x312, hx313, hm⟩ := bindE hm
  refine WL.call 28 #[.pointer (some ⟨b5, 0, none⟩), .slice a16 x14.1.length c17] rfl rfl (by kernel_rfl) (c_28_o1 n code_0 a0' c0' st291.2.2.1 st291.2.2.2 b5 x14.1 a16 c17 w295 w w.heap.size [aOwn fTake 37 a292 c293 st291.1] hx313 hb296 (Nat.le_refl _) hL297 h0 hle0 (SH.front 2 (SH.front 2 hS298))) ?_
  rintro _ w314 ⟨rfl, hB318, hS317⟩
  refine ⟨_, rfl, ?_⟩
  have hb319 : Ext w w314 := Below.trans hb296 hB318
  have hL320 : w.heap.size ≤ w314.heap.size := Nat.le_trans hL297 hB318.size
  refine WL.box 37 [.string (bs []), .int .i64 0] 8 (by kernel_rfl) rfl rfl rfl rfl ?_
  intro b321 w322 hE323 hR324
  have hb326 : Ext w w322 := Ext.trans hb319 hE323
  have hL327 : w.heap.size ≤ w322.heap.size := Nat.le_trans hL320 hE323.size
  have hS328 : SH w322 w.heap.size [aBox 37 b321 [.string (bs []), .int .i64 0], aBox 87 b5 [.slice a0' code_0.length c0', .int .i64 x312.2.1, .int .u64 x312.2.2], aOwn fGood 31 a16 c17 x14.1, aOwn fTake 37 a292 c293 st291.1] := SH.add hS317 hE323 hL320 hR324
  refine WL.boxStore 0 [.string (bs x312.1.Name), .int .i64 x312.1.Many] [.string (bs x312.1.Name), .int .i64 x312.1.Many] (SH.front 0 hS328) hL327 rfl rfl rfl rfl rfl rfl rfl (info37).1 (info37).2.1 rfl rfl rfl ?_
  intro w329 hB330 hS331
  have hb332 : Ext w w329 := Below.trans hb326 hB330
  have hL333 : w.heap.size ≤ w329.heap.size := Nat.le_trans hL327 hB330.size
  refine WL.sub [(4, .pointer (some ⟨b5, 0, none⟩)), (5, .slice a16 x14.1.length c17), (6, .slice a292 st291.1.length c293), (7, .int .i64 st291.2.1), (8, .pointer (some ⟨b321, 0, none⟩))] ⟨rfl, rfl, rfl, rfl, rfl, trivial⟩ ?_
  refine WL.nil ?_
  refine WQ.then_normal (hK311 _ _ _ ?_)
  refine WP.seq (fun K334 hK334 => ?_)
  refine WP.seq (fun K335 hK335 => ?_)
  refine WP.region ?_
  refine WL.runk 1 [4, 5, 6, 7, 8, 23] [(4, .pointer (some ⟨b5, 0, none⟩)), (5, .slice a16 x14.1.length c17), (6, .slice a292 st291.1.length c293), (7, .int .i64 st291.2.1), (8, .pointer (some ⟨b321, 0, none⟩)), (23, .pointer (some ⟨b5, 0, none⟩))] (by kernel_rfl) ?_
  obtain ⟨x336, hx337, hm⟩ := bindE hm
  refine WL.call 29 #[.pointer (some ⟨b5, 0, none⟩), .int .i64 2] rfl rfl (by kernel_rfl) (c_29 n code_0 a0' c0' x312.2.1 x312.2.2 b5 2 w329 w w.heap.size [aBox 37 b321 [.string (bs x312.1.Name), .int .i64 x312.1.Many], aOwn fGood 31 a16 c17 x14.1, aOwn fTake 37 a292 c293 st291.1] hx337 hb332 (Nat.le_refl _) hL333 h0 hle0 (SH.front 3 (SH.front 2 (SH.front 3 (SH.front 3 hS331))))) ?_
  rintro _ w338 ⟨rfl, hB342, hS341⟩
  refine ⟨_, rfl, ?_⟩
  have hb343 : Ext w w338 := Below.trans hb332 hB342
  have hL344 : w.heap.size ≤ w338.heap.size := Nat.le_trans hL333 hB342.size
  refine WL.sub [(4, .pointer (some ⟨b5, 0, none⟩)), (5, .slice a16 x14.1.length c17), (6, .slice a292 st291.1.length c293), (7, .int .i64 st291.2.1), (8, .pointer (some ⟨b321, 0, none⟩)), (24, .bool x336.1)] ⟨rfl, rfl, rfl, rfl, rfl, rfl, trivial⟩ ?_
  refine WL.nil ?_
  refine WQ.then_normal (hK335 _ _ _ ?_)
  obtain ⟨x390, hx391, hm⟩ := bindE hm
  refine WP.cut (fun env' w' => env' = [(4, .pointer (some ⟨b5, 0, none⟩)), (5, .slice a16 x14.1.length c17), (6, .slice a292 st291.1.length c293), (7, .int .i64 st291.2.1), (8, .pointer (some ⟨b321, 0, none⟩))] ∧ Ext w w' ∧ w.heap.size ≤ w'.heap.size ∧ SH w' w.heap.size [aBox 87 b5 [.slice a0' code_0.length c0', .int .i64 x390.1, .int .u64 x390.2.1], aBox 37 b321 [.string (bs x312.1.Name), .int .i64 x390.2.2], aOwn fGood 31 a16 c17 x14.1, aOwn fTake 37 a292 c293 st291.1]) ?_ ?_
  · have hm := hx391; clear hx391
    refine WP.cond x336.1 rfl rfl (fun hc345 => ?_) (fun hc345 => ?_)
    rotate_left
    · have hm := iteF hm hc345
      refine WP.skip ?_
      obtain rfl := Option.some.inj hm
      exact WQ.post' ⟨rfl, hb343, hL344, hS341⟩ ⟨rfl, rfl, rfl, rfl, rfl, trivial⟩
    have hm := iteT hm hc345
    refine WP.region ?_
    refine WL.runk 1 [4, 5, 6, 7, 8, 25] [(4, .pointer (some ⟨b5, 0, none⟩)), (5, .slice a16 x14.1.length c17), (6, .slice a292 st291.1.length c293), (7, .int .i64 st291.2.1), (8, .pointer (some ⟨b321, 0, none⟩)), (25, .pointer (some ⟨b5, 0, none⟩))] (by kernel_rfl) ?_
    obtain ⟨x392, hx393, hm⟩ := bindE hm
    refine WL.call 27 #[.pointer (some ⟨b5, 0, none⟩), .int .i64 9] rfl rfl (by kernel_rfl) (c_27 n code_0 a0' c0' x336.2.1 x336.2.2 b5 9 w338 w w.heap.size [aBox 37 b321 [.string (bs x312.1.Name), .int .i64 x312.1.Many], aOwn fGood 31 a16 c17 x14.1, aOwn fTake 37 a292 c293 st291.1] hx393 hb343 (Nat.le_refl _) hL344 h0 hle0 hS341) ?_
    rintro _ w394 ⟨rfl, hB398, hS397⟩
    refine ⟨_, rfl, ?_⟩
    have hb399 : Ext w w394 := Below.trans hb343 hB398
    have hL400 : w.heap.size ≤ w394.heap.size := Nat.le_trans hL344 hB398.size
    refine WL.runk 2 [4, 5, 6, 7, 8, 27, 28] [(4, .pointer (some ⟨b5, 0, none⟩)), (5, .slice a16 x14.1.length c17), (6, .slice a292 st291.1.length c293), (7, .int .i64 st291.2.1), (8, .pointer (some ⟨b321, 0, none⟩)), (27, .int .i64 (wI64 (x392.1 - 2))), (28, .pointer (some ⟨b321, 1, none⟩))] (by kernel_rfl) ?_
    refine WL.boxStore 1 [.int .i64 (wI64 (x392.1 - 2))] [.string (bs x312.1.Name), .int .i64 (wI64 (x392.1 - 2))] (SH.front 1 hS397) hL400 rfl rfl rfl rfl rfl rfl rfl (info2).1 (info2).2.1 rfl rfl rfl ?_
    intro w401 hB402 hS403
    have hb404 : Ext w w401 := Below.trans hb399 hB402
    have hL405 : w.heap.size ≤ w401.heap.size := Nat.le_trans hL400 hB402.size
    refine WL.sub [(4, .pointer (some ⟨b5, 0, none⟩)), (5, .slice a16 x14.1.length c17), (6, .slice a292 st291.1.length c293), (7, .int .i64 st291.2.1), (8, .pointer (some ⟨b321, 0, none⟩))] ⟨rfl, rfl, rfl, rfl, rfl, trivial⟩ ?_
    refine WL.nil ?_
    obtain rfl := Option.some.inj hm
    exact WQ.post' ⟨rfl, hb404, hL405, (SH.front 3 (SH.front 2 (SH.front 3 (SH.front 3 hS403))))⟩ ⟨rfl, rfl, rfl, rfl, rfl, trivial⟩
  clear hx391
  rintro _ w406 ⟨rfl, hb407, hL408, hS409⟩
  refine WQ.then_normal (hK334 _ _ _ ?_)
  refine WP.region ?_
  refine WL.runk 1 [4, 5, 7, 8, 29] [(4, .pointer (some ⟨b5, 0, none⟩)), (5, .slice a16 x14.1.length c17), (7, .int .i64 st291.2.1), (8, .pointer (some ⟨b321, 0, none⟩)), (29, .slice a292 st291.1.length c293)] (by kernel_rfl) ?_
  refine WL.st (.agg #[.string (bs x312.1.Name), .int .i64 x390.2.2]) (ST.loadAgg (vs := [.string (bs x312.1.Name), .int .i64 x390.2.2]) (fun j v hv => SH.boxPart (us := [.string (bs x312.1.Name), .int .i64 x390.2.2]) (SH.front 1 hS409) 0 rfl j v hv) rfl rfl rfl Tryz.underlying37 rfl (info37).1 (info37).2.1) rfl rfl rfl ?_
  refine WL.row fTake 37 ([(STake.mk x312.1.Name x390.2.2)] : List STake) 1 #[.string (bs x312.1.Name), .int .i64 x390.2.2] 31 (by kernel_rfl) rfl rfl rfl rfl rfl rfl rfl ?_
  intro a410 c411 w412 hE413 hR414
  have hb416 : Ext w w412 := Ext.trans hb407 hE413
  have hL417 : w.heap.size ≤ w412.heap.size := Nat.le_trans hL408 hE413.size
  have hS418 : SH w412 w.heap.size [aOwn fTake 37 a410 c411 ([(STake.mk x312.1.Name x390.2.2)] : List STake), aBox 87 b5 [.slice a0' code_0.length c0', .int .i64 x390.1, .int .u64 x390.2.1], aBox 37 b321 [.string (bs x312.1.Name), .int .i64 x390.2.2], aOwn fGood 31 a16 c17 x14.1, aOwn fTake 37 a292 c293 st291.1] := SH.add hS409 hE413 hL408 hR414
  obtain ⟨x419, hx420, hm⟩ := bindE hm
  refine WL.append (F := fTake) (xs := st291.1) (ys := ([(STake.mk x312.1.Name x390.2.2)] : List STake)) 32 (SH.front 4 hS418) hL417 (SH.rd (SH.front 0 hS418)) hx420 rfl rfl rfl Tryz.underlying25 (info37).1 (info37).2.2.1 (info37).2.1 (info37).2.2.2 rfl rfl rfl rfl rfl ?_
  intro a421 c422 w423 hB424 hS425
  have hb426 : Ext w w423 := Below.trans hb416 hB424
  have hL427 : w.heap.size ≤ w423.heap.size := Nat.le_trans hL417 hB424.size
  refine WL.runk 1 [4, 5, 6, 7] [(4, .pointer (some ⟨b5, 0, none⟩)), (5, .slice a16 x14.1.length c17), (7, .int .i64 st291.2.1), (6, .slice a421 x419.length c422)] (by kernel_rfl) ?_
  refine WL.nil ?_
  refine WQ.block_normal ?_
  refine WQ.then_normal (hK310 _ _ _ ?_)
  refine WP.region ?_
  refine WL.runk 3 [4, 5, 6, 7] [(4, .pointer (some ⟨b5, 0, none⟩)), (5, .slice a16 x14.1.length c17), (7, .int .i64 (wI64 (st291.2.1 - 1))), (6, .slice a421 x419.length c422)] (by kernel_rfl) ?_
  refine WL.nil ?_
  obtain rfl := Option.some.inj hm
  exact WQ.round hK301 ⟨(x419, (wI64 (st291.2.1 - 1)), x390.1, x390.2.1), _, _, rfl, hb426, hL427, (SH.take 3 (SH.front 2 (SH.front 3 (SH.front 4 hS425)))), hl299⟩ (Nat.lt_succ_self _) ⟨rfl, rfl, rfl, rfl, trivial⟩

theorem c_62 (n : Nat) (n_0 : Int) (low_1 : Int) (high_2 : Int) (w : World) {r : Bool} (hm : m_impl_within n n_0 low_1 high_2 = some r)  :
    CallV Tryz.prog 62 #[.int .i64 n_0, .int .i64 low_1, .int .i64 high_2] w (fun v w' => v = .bool r ∧ Ext w w') := by
  unfold m_impl_within at hm
  refine CallV.enter Tryz.func62 rfl (by kernel_rfl) Tryz.ntmps62 (env := [(0, .int .i64 n_0), (1, .int .i64 low_1), (2, .int .i64 high_2)]) ⟨rfl, rfl, rfl, trivial⟩ ?_
  refine WP.seq (fun K1 hK1 => ?_)
  refine WP.region ?_
  refine WL.runk 1 [0, 1, 2] [(0, .int .i64 n_0), (1, .int .i64 low_1), (2, .int .i64 high_2)] (by kernel_rfl) ?_
  refine WL.nil ?_
  refine WQ.then_normal (hK1 _ _ _ ?_)
  refine WP.seq (fun K2 hK2 => ?_)
  obtain ⟨x4, hx5, hm⟩ := bindE hm
  refine WP.cut (fun env' w' => env' = [(6, .bool x4)] ∧ Ext w w' ∧ w.heap.size ≤ w'.heap.size ∧ SH w' w.heap.size []) ?_ ?_
  rotate_left
  · clear hx5
    rintro _ w7 ⟨rfl, hb8, hL9, hS10⟩
    refine WQ.then_normal (hK2 _ _ _ ?_)
    refine WP.ret ?_
    obtain rfl := Option.some.inj hm
    exact WQ.ret1 _ rfl rfl ⟨rfl, hb8⟩
  have hm := hx5; clear hx5
  refine WP.region ?_
  refine WL.runk 4 [0, 2, 10] [(0, .int .i64 n_0), (2, .int .i64 high_2), (10, .bool (decide (n_0 ≥ low_1)))] (by kernel_rfl) ?_
  refine WL.case (decide (n_0 ≥ low_1)) [10] ⟨rfl, trivial⟩ (fun hc6 => ?_) (fun hc6 => ?_)
  · have hm := iteT hm hc6
    refine WL.runk 5 [6] [(6, .bool (decide (n_0 ≤ high_2)))] (by kernel_rfl) ?_
    refine WL.nil ?_
    obtain rfl := Option.some.inj hm
    exact WQ.post' ⟨rfl, (Ext.refl w), (Nat.le_refl _), (SH.nil _ _)⟩ ⟨rfl, trivial⟩
  have hm := iteF hm hc6
  refine WL.runk 5 [6] [(6, .bool false)] (by kernel_rfl) ?_
  refine WL.nil ?_
  obtain rfl := Option.some.inj hm
  exact WQ.post' ⟨rfl, (Ext.refl w), (Nat.le_refl _), (SH.nil _ _)⟩ ⟨rfl, trivial⟩

theorem c_64 (n : Nat) (s_0 : List UInt8) (w : World) {r : Bool} (hm : m_impl_IsName n s_0 = some r)  :
    CallV Tryz.prog 64 #[.string (bs s_0)] w (fun v w' => v = .bool r ∧ Ext w w') := by
  unfold m_impl_IsName at hm
  refine CallV.enter Tryz.func64 rfl (by kernel_rfl) Tryz.ntmps64 (env := [(0, .string (bs s_0))]) ⟨rfl, trivial⟩ ?_
  refine WP.seq (fun K1 hK1 => ?_)
  refine WP.region ?_
  refine WL.runk 1 [0] [(0, .string (bs s_0))] (by kernel_rfl) ?_
  refine WL.nil ?_
  refine WQ.then_normal (hK1 _ _ _ ?_)
  refine WP.seq (fun K2 hK2 => ?_)
  refine WP.seq (fun K3 hK3 => ?_)
  obtain ⟨x11, hx12, hm⟩ := bindE hm
  refine WP.cut (fun env' w' => env' = [(0, .string (bs s_0)), (21, .bool x11)] ∧ Ext w w' ∧ w.heap.size ≤ w'.heap.size ∧ SH w' w.heap.size []) ?_ ?_
  · have hm := hx12; clear hx12
    refine WP.region ?_
    refine WL.runk 4 [0, 7] [(0, .string (bs s_0)), (7, .bool (decide ((s_0.length : Int) < 1)))] (by kernel_rfl) ?_
    refine WL.case (decide ((s_0.length : Int) < 1)) [7] ⟨rfl, trivial⟩ (fun hc13 => ?_) (fun hc13 => ?_)
    · have hm := iteT hm hc13
      refine WL.runk 14 [0, 21] [(0, .string (bs s_0)), (21, .bool true)] (by kernel_rfl) ?_
      refine WL.nil ?_
      obtain rfl := Option.some.inj hm
      exact WQ.post' ⟨rfl, (Ext.refl w), (Nat.le_refl _), (SH.nil _ _)⟩ ⟨rfl, rfl, trivial⟩
    have hm := iteF hm hc13
    refine WL.runk 5 [0, 12] [(0, .string (bs s_0)), (12, .bool (decide ((s_0.length : Int) > 12)))] (by kernel_rfl) ?_
    refine WL.case (decide ((s_0.length : Int) > 12)) [12] ⟨rfl, trivial⟩ (fun hc14 => ?_) (fun hc14 => ?_)
    · have hm := iteT hm hc14
      refine WL.runk 9 [0, 21] [(0, .string (bs s_0)), (21, .bool true)] (by kernel_rfl) ?_
      refine WL.nil ?_
      obtain rfl := Option.some.inj hm
      exact WQ.post' ⟨rfl, (Ext.refl w), (Nat.le_refl _), (SH.nil _ _)⟩ ⟨rfl, rfl, trivial⟩
    have hm := iteF hm hc14
    refine WL.runk 1 [0, 12, 13] [(0, .string (bs s_0)), (12, .bool false), (13, .string (bs s_0))] (by kernel_rfl) ?_
    obtain ⟨x15, hx16, hm⟩ := bindE hm
    refine WL.st (.int .u8 (x15.toNat : Int)) (ST.sindex hx16 rfl rfl rfl Tryz.underlying9) rfl rfl rfl ?_
    refine WL.runk 3 [0, 17] [(0, .string (bs s_0)), (17, .bool (decide ((x15.toNat : Int) < 97)))] (by kernel_rfl) ?_
    refine WL.case (decide ((x15.toNat : Int) < 97)) [17] ⟨rfl, trivial⟩ (fun hc17 => ?_) (fun hc17 => ?_)
    · have hm := iteT hm hc17
      refine WL.runk 4 [0, 21] [(0, .string (bs s_0)), (21, .bool true)] (by kernel_rfl) ?_
      refine WL.nil ?_
      obtain rfl := Option.some.inj hm
      exact WQ.post' ⟨rfl, (Ext.refl w), (Nat.le_refl _), (SH.nil _ _)⟩ ⟨rfl, rfl, trivial⟩
    have hm := iteF hm hc17
    refine WL.runk 1 [0, 17, 18] [(0, .string (bs s_0)), (17, .bool false), (18, .string (bs s_0))] (by kernel_rfl) ?_
    obtain ⟨x18, hx19, hm⟩ := bindE hm
    refine WL.st (.int .u8 (x18.toNat : Int)) (ST.sindex hx19 rfl rfl rfl Tryz.underlying9) rfl rfl rfl ?_
    refine WL.runk 2 [0, 21] [(0, .string (bs s_0)), (21, .bool (decide ((x18.toNat : Int) > 122)))] (by kernel_rfl) ?_
    refine WL.nil ?_
    obtain rfl := Option.some.inj hm
    exact WQ.post' ⟨rfl, (Ext.refl w), (Nat.le_refl _), (SH.nil _ _)⟩ ⟨rfl, rfl, trivial⟩
  clear hx12
  rintro _ w20 ⟨rfl, hb21, hL22, hS23⟩
  refine WQ.then_normal (hK3 _ _ _ ?_)
  refine WP.cond x11 rfl rfl (fun hc24 => ?_) (fun hc24 => ?_)
  · have hm := iteT hm hc24
    refine WP.seq (fun K25 hK25 => ?_)
    refine WP.region ?_
    refine WL.runk 1 [2] [(2, .bool false)] (by kernel_rfl) ?_
    refine WL.nil ?_
    refine WQ.then_normal (hK25 _ _ _ ?_)
    refine WP.ret ?_
    refine WQ.then_ret ?_
    obtain rfl := Option.some.inj hm
    exact WQ.ret1 _ rfl rfl ⟨rfl, hb21⟩
  have hm := iteF hm hc24
  refine WP.skip ?_
  refine WQ.then_normal (hK2 _ _ _ ?_)
  refine WP.seq (fun K26 hK26 => ?_)
  refine WP.seq (fun K27 hK27 => ?_)
  refine WP.region ?_
  refine WL.runk 1 [0, 3] [(0, .string (bs s_0)), (3, .int .i64 1)] (by kernel_rfl) ?_
  refine WL.nil ?_
  refine WQ.then_normal (hK27 _ _ _ ?_)
  refine WP.block ?_
  obtain ⟨t39, ht40, hm⟩ := bindE hm
  have hmo34 := hm; clear hm
  refine WP.sub [(0, .string (bs s_0)), (3, .int .i64 1)] ⟨rfl, rfl, trivial⟩ ?_
  refine WP.loop (fun n' env' w' => ∃ (st28 : Int) , env' = [(0, .string (bs s_0)), (3, .int .i64 st28)] ∧ Ext w w' ∧ w.heap.size ≤ w'.heap.size ∧ SH w' w.heap.size [] ∧ loopN (m_impl_IsName_l1 n s_0) n' st28 = some t39) n ⟨1, rfl, hb21, hL22, hS23, ht40⟩ ?_
  rintro n36 _ w29 ⟨st28, rfl, hb30, hL31, hS32, hl33⟩ K35 hK35
  obtain ⟨n37, s38, rfl, hm, hl33⟩ := loopN_some hl33
  unfold m_impl_IsName_l1 at hm
  refine WP.seq (fun K41 hK41 => ?_)
  refine WP.seq (fun K42 hK42 => ?_)
  refine WP.region ?_
  refine WL.runk 4 [0, 3, 25] [(0, .string (bs s_0)), (3, .int .i64 st28), (25, .bool (decide (st28 < (s_0.length : Int))))] (by kernel_rfl) ?_
  refine WL.nil ?_
  refine WQ.then_normal (hK42 _ _ _ ?_)
  refine WP.cond (decide (st28 < (s_0.length : Int))) rfl rfl (fun hc43 => ?_) (fun hc43 => ?_)
  rotate_left
  · have hm := iteF hm hc43
    refine WP.exit ?_
    refine WQ.then_exit ?_
    refine WQ.then_exit ?_
    refine WQ.block_here ?_
    obtain rfl := Option.some.inj hm
    obtain rfl := afterN_done hl33
    have hm := hmo34
    refine WQ.then_normal (hK26 _ _ _ ?_)
    refine WP.seq (fun K106 hK106 => ?_)
    refine WP.region ?_
    refine WL.runk 1 [2] [(2, .bool true)] (by kernel_rfl) ?_
    refine WL.nil ?_
    refine WQ.then_normal (hK106 _ _ _ ?_)
    refine WP.ret ?_
    obtain rfl := Option.some.inj hm
    exact WQ.ret1 _ rfl rfl ⟨rfl, hb30⟩
  have hm := iteT hm hc43
  refine WP.skip ?_
  refine WQ.then_normal (hK41 _ _ _ ?_)
  refine WP.seq (fun K44 hK44 => ?_)
  refine WP.block ?_
  refine WP.seq (fun K45 hK45 => ?_)
  obtain ⟨x72, hx73, hm⟩ := bindE hm
  refine WP.cut (fun env' w' => env' = [(0, .string (bs s_0)), (3, .int .i64 st28), (55, .bool x72)] ∧ Ext w w' ∧ w.heap.size ≤ w'.heap.size ∧ SH w' w.heap.size []) ?_ ?_
  rotate_left
  · clear hx73
    rintro _ w100 ⟨rfl, hb101, hL102, hS103⟩
    refine WQ.then_normal (hK45 _ _ _ ?_)
    refine WP.cond x72 rfl rfl (fun hc104 => ?_) (fun hc104 => ?_)
    rotate_left
    · have hm := iteF hm hc104
      refine WP.skip ?_
      refine WQ.block_normal ?_
      refine WQ.then_normal (hK44 _ _ _ ?_)
      refine WP.region ?_
      refine WL.runk 3 [0, 3] [(0, .string (bs s_0)), (3, .int .i64 (wI64 (st28 + 1)))] (by kernel_rfl) ?_
      refine WL.nil ?_
      obtain rfl := Option.some.inj hm
      exact WQ.round hK35 ⟨(wI64 (st28 + 1)), rfl, hb101, hL102, hS103, hl33⟩ (Nat.lt_succ_self _) ⟨rfl, rfl, trivial⟩
    have hm := iteT hm hc104
    refine WP.seq (fun K105 hK105 => ?_)
    refine WP.region ?_
    refine WL.runk 1 [2] [(2, .bool false)] (by kernel_rfl) ?_
    refine WL.nil ?_
    refine WQ.then_normal (hK105 _ _ _ ?_)
    refine WP.ret ?_
    refine WQ.block_ret ?_
    refine WQ.then_ret ?_
    refine WQ.then_ret ?_
    refine WQ.block_ret ?_
    refine WQ.then_ret ?_
    obtain rfl := Option.some.inj hm
    obtain rfl := afterN_done hl33
    have hm := hmo34
    obtain rfl := Option.some.inj hm
    exact WQ.ret1 _ rfl rfl ⟨rfl, hb101⟩
  have hm := hx73; clear hx73
  refine WP.region ?_
  refine WL.runk 2 [0, 3, 28, 29] [(0, .string (bs s_0)), (3, .int .i64 st28), (28, .string (bs s_0)), (29, .int .i64 st28)] (by kernel_rfl) ?_
  obtain ⟨x74, hx75, hm⟩ := bindE hm
  refine WL.st (.int .u8 (x74.toNat : Int)) (ST.sindex hx75 rfl rfl rfl Tryz.underlying9) rfl rfl rfl ?_
  refine WL.runk 2 [0, 3, 32] [(0, .string (bs s_0)), (3, .int .i64 st28), (32, .bool (decide ((x74.toNat : Int) < 97)))] (by kernel_rfl) ?_
  refine WL.case (decide ((x74.toNat : Int) < 97)) [32] ⟨rfl, trivial⟩ (fun hc76 => ?_) (fun hc76 => ?_)
  · have hm := iteT hm hc76
    refine WL.runk 8 [0, 3, 38, 39, 40] [(0, .string (bs s_0)), (3, .int .i64 st28), (38, .bool true), (39, .string (bs s_0)), (40, .int .i64 st28)] (by kernel_rfl) ?_
    obtain ⟨x77, hx78, hm⟩ := bindE hm
    refine WL.st (.int .u8 (x77.toNat : Int)) (ST.sindex hx78 rfl rfl rfl Tryz.underlying9) rfl rfl rfl ?_
    refine WL.runk 2 [0, 3, 38, 43] [(0, .string (bs s_0)), (3, .int .i64 st28), (38, .bool true), (43, .bool (decide ((x77.toNat : Int) < 48)))] (by kernel_rfl) ?_
    refine WL.case (decide ((x77.toNat : Int) < 48)) [43] ⟨rfl, trivial⟩ (fun hc79 => ?_) (fun hc79 => ?_)
    · have hm := iteT hm hc79
      refine WL.runk 9 [0, 3, 50, 51, 52] [(0, .string (bs s_0)), (3, .int .i64 st28), (50, .bool true), (51, .string (bs s_0)), (52, .int .i64 st28)] (by kernel_rfl) ?_
      obtain ⟨x80, hx81, hm⟩ := bindE hm
      refine WL.st (.int .u8 (x80.toNat : Int)) (ST.sindex hx81 rfl rfl rfl Tryz.underlying9) rfl rfl rfl ?_
      refine WL.runk 2 [0, 3, 55] [(0, .string (bs s_0)), (3, .int .i64 st28), (55, .bool ((x80.toNat : Int) != 45))] (by kernel_rfl) ?_
      refine WL.nil ?_
      obtain rfl := Option.some.inj hm
      exact WQ.post' ⟨rfl, hb30, hL31, hS32⟩ ⟨rfl, rfl, rfl, trivial⟩
    have hm := iteF hm hc79
    refine WL.runk 2 [0, 3, 38, 43, 44, 45] [(0, .string (bs s_0)), (3, .int .i64 st28), (38, .bool true), (43, .bool false), (44, .string (bs s_0)), (45, .int .i64 st28)] (by kernel_rfl) ?_
    obtain ⟨x82, hx83, hm⟩ := bindE hm
    refine WL.st (.int .u8 (x82.toNat : Int)) (ST.sindex hx83 rfl rfl rfl Tryz.underlying9) rfl rfl rfl ?_
    refine WL.runk 4 [0, 3, 50] [(0, .string (bs s_0)), (3, .int .i64 st28), (50, .bool (decide ((x82.toNat : Int) > 57)))] (by kernel_rfl) ?_
    refine WL.case (decide ((x82.toNat : Int) > 57)) [50] ⟨rfl, trivial⟩ (fun hc84 => ?_) (fun hc84 => ?_)
    rotate_left
    · have hm := iteF hm hc84
      refine WL.runk 5 [0, 3, 55] [(0, .string (bs s_0)), (3, .int .i64 st28), (55, .bool false)] (by kernel_rfl) ?_
      refine WL.nil ?_
      obtain rfl := Option.some.inj hm
      exact WQ.post' ⟨rfl, hb30, hL31, hS32⟩ ⟨rfl, rfl, rfl, trivial⟩
    have hm := iteT hm hc84
    refine WL.runk 2 [0, 3, 50, 51, 52] [(0, .string (bs s_0)), (3, .int .i64 st28), (50, .bool true), (51, .string (bs s_0)), (52, .int .i64 st28)] (by kernel_rfl) ?_
    obtain ⟨x85, hx86, hm⟩ := bindE hm
    refine WL.st (.int .u8 (x85.toNat : Int)) (ST.sindex hx86 rfl rfl rfl Tryz.underlying9) rfl rfl rfl ?_
    refine WL.runk 2 [0, 3, 55] [(0, .string (bs s_0)), (3, .int .i64 st28), (55, .bool ((x85.toNat : Int) != 45))] (by kernel_rfl) ?_
    refine WL.nil ?_
    obtain rfl := Option.some.inj hm
    exact WQ.post' ⟨rfl, hb30, hL31, hS32⟩ ⟨rfl, rfl, rfl, trivial⟩
  have hm := iteF hm hc76
  refine WL.runk 2 [0, 3, 32, 33, 34] [(0, .string (bs s_0)), (3, .int .i64 st28), (32, .bool false), (33, .string (bs s_0)), (34, .int .i64 st28)] (by kernel_rfl) ?_
  obtain ⟨x87, hx88, hm⟩ := bindE hm
  refine WL.st (.int .u8 (x87.toNat : Int)) (ST.sindex hx88 rfl rfl rfl Tryz.underlying9) rfl rfl rfl ?_
  refine WL.runk 3 [0, 3, 38] [(0, .string (bs s_0)), (3, .int .i64 st28), (38, .bool (decide ((x87.toNat : Int) > 122)))] (by kernel_rfl) ?_
  refine WL.case (decide ((x87.toNat : Int) > 122)) [38] ⟨rfl, trivial⟩ (fun hc89 => ?_) (fun hc89 => ?_)
  rotate_left
  · have hm := iteF hm hc89
    refine WL.runk 17 [0, 3, 55] [(0, .string (bs s_0)), (3, .int .i64 st28), (55, .bool false)] (by kernel_rfl) ?_
    refine WL.nil ?_
    obtain rfl := Option.some.inj hm
    exact WQ.post' ⟨rfl, hb30, hL31, hS32⟩ ⟨rfl, rfl, rfl, trivial⟩
  have hm := iteT hm hc89
  refine WL.runk 2 [0, 3, 38, 39, 40] [(0, .string (bs s_0)), (3, .int .i64 st28), (38, .bool true), (39, .string (bs s_0)), (40, .int .i64 st28)] (by kernel_rfl) ?_
  obtain ⟨x90, hx91, hm⟩ := bindE hm
  refine WL.st (.int .u8 (x90.toNat : Int)) (ST.sindex hx91 rfl rfl rfl Tryz.underlying9) rfl rfl rfl ?_
  refine WL.runk 2 [0, 3, 38, 43] [(0, .string (bs s_0)), (3, .int .i64 st28), (38, .bool true), (43, .bool (decide ((x90.toNat : Int) < 48)))] (by kernel_rfl) ?_
  refine WL.case (decide ((x90.toNat : Int) < 48)) [43] ⟨rfl, trivial⟩ (fun hc92 => ?_) (fun hc92 => ?_)
  · have hm := iteT hm hc92
    refine WL.runk 9 [0, 3, 50, 51, 52] [(0, .string (bs s_0)), (3, .int .i64 st28), (50, .bool true), (51, .string (bs s_0)), (52, .int .i64 st28)] (by kernel_rfl) ?_
    obtain ⟨x93, hx94, hm⟩ := bindE hm
    refine WL.st (.int .u8 (x93.toNat : Int)) (ST.sindex hx94 rfl rfl rfl Tryz.underlying9) rfl rfl rfl ?_
    refine WL.runk 2 [0, 3, 55] [(0, .string (bs s_0)), (3, .int .i64 st28), (55, .bool ((x93.toNat : Int) != 45))] (by kernel_rfl) ?_
    refine WL.nil ?_
    obtain rfl := Option.some.inj hm
    exact WQ.post' ⟨rfl, hb30, hL31, hS32⟩ ⟨rfl, rfl, rfl, trivial⟩
  have hm := iteF hm hc92
  refine WL.runk 2 [0, 3, 38, 43, 44, 45] [(0, .string (bs s_0)), (3, .int .i64 st28), (38, .bool true), (43, .bool false), (44, .string (bs s_0)), (45, .int .i64 st28)] (by kernel_rfl) ?_
  obtain ⟨x95, hx96, hm⟩ := bindE hm
  refine WL.st (.int .u8 (x95.toNat : Int)) (ST.sindex hx96 rfl rfl rfl Tryz.underlying9) rfl rfl rfl ?_
  refine WL.runk 4 [0, 3, 50] [(0, .string (bs s_0)), (3, .int .i64 st28), (50, .bool (decide ((x95.toNat : Int) > 57)))] (by kernel_rfl) ?_
  refine WL.case (decide ((x95.toNat : Int) > 57)) [50] ⟨rfl, trivial⟩ (fun hc97 => ?_) (fun hc97 => ?_)
  rotate_left
  · have hm := iteF hm hc97
    refine WL.runk 5 [0, 3, 55] [(0, .string (bs s_0)), (3, .int .i64 st28), (55, .bool false)] (by kernel_rfl) ?_
    refine WL.nil ?_
    obtain rfl := Option.some.inj hm
    exact WQ.post' ⟨rfl, hb30, hL31, hS32⟩ ⟨rfl, rfl, rfl, trivial⟩
  have hm := iteT hm hc97
  refine WL.runk 2 [0, 3, 50, 51, 52] [(0, .string (bs s_0)), (3, .int .i64 st28), (50, .bool true), (51, .string (bs s_0)), (52, .int .i64 st28)] (by kernel_rfl) ?_
  obtain ⟨x98, hx99, hm⟩ := bindE hm
  refine WL.st (.int .u8 (x98.toNat : Int)) (ST.sindex hx99 rfl rfl rfl Tryz.underlying9) rfl rfl rfl ?_
  refine WL.runk 2 [0, 3, 55] [(0, .string (bs s_0)), (3, .int .i64 st28), (55, .bool ((x98.toNat : Int) != 45))] (by kernel_rfl) ?_
  refine WL.nil ?_
  obtain rfl := Option.some.inj hm
  exact WQ.post' ⟨rfl, hb30, hL31, hS32⟩ ⟨rfl, rfl, rfl, trivial⟩

theorem c_41 (n : Nat) (g_0 : SGood) (w : World) {r : Bool} (hm : m_impl_validGood n g_0 = some r)  :
    CallV Tryz.prog 41 #[.agg #[.string (bs g_0.Name), .int .i64 g_0.OnHand, .int .i64 g_0.Reserved, .int .i64 g_0.Least]] w (fun v w' => v = .bool r ∧ Ext w w') := by
  unfold m_impl_validGood at hm
  refine CallV.enter Tryz.func41 rfl (by kernel_rfl) Tryz.ntmps41 (env := [(0, .agg #[.string (bs g_0.Name), .int .i64 g_0.OnHand, .int .i64 g_0.Reserved, .int .i64 g_0.Least])]) ⟨rfl, trivial⟩ ?_
  refine WP.seq (fun K1 hK1 => ?_)
  refine WP.region ?_
  refine WL.box 31 [.string (bs g_0.Name), .int .i64 g_0.OnHand, .int .i64 g_0.Reserved, .int .i64 g_0.Least] 1 (by kernel_rfl) rfl rfl rfl rfl ?_
  intro b2 w3 hE4 hR5
  have hb7 : Ext w w3 := Ext.trans (Ext.refl w) hE4
  have hL8 : w.heap.size ≤ w3.heap.size := Nat.le_trans (Nat.le_refl _) hE4.size
  have hS9 : SH w3 w.heap.size [aBox 31 b2 [.string (bs g_0.Name), .int .i64 g_0.OnHand, .int .i64 g_0.Reserved, .int .i64 g_0.Least]] := SH.add (SH.nil _ _) hE4 (Nat.le_refl _) hR5
  refine WL.runk 1 [1] [(1, .pointer (some ⟨b2, 0, none⟩))] (by kernel_rfl) ?_
  refine WL.nil ?_
  refine WQ.then_normal (hK1 _ _ _ ?_)
  refine WP.seq (fun K10 hK10 => ?_)
  obtain ⟨x46, hx47, hm⟩ := bindE hm
  refine WP.cut (fun env' w' => env' = [(2, .bool x46)] ∧ Ext w w' ∧ w.heap.size ≤ w'.heap.size ∧ SH w' w.heap.size [aBox 31 b2 [.string (bs g_0.Name), .int .i64 g_0.OnHand, .int .i64 g_0.Reserved, .int .i64 g_0.Least]]) ?_ ?_
  rotate_left
  · clear hx47
    rintro _ w83 ⟨rfl, hb84, hL85, hS86⟩
    refine WQ.then_normal (hK10 _ _ _ ?_)
    refine WP.ret ?_
    obtain rfl := Option.some.inj hm
    exact WQ.ret1 _ rfl rfl ⟨rfl, hb84⟩
  have hm := hx47; clear hx47
  refine WP.region ?_
  refine WL.runk 1 [1, 3] [(1, .pointer (some ⟨b2, 0, none⟩)), (3, .pointer (some ⟨b2, 0, none⟩))] (by kernel_rfl) ?_
  refine WL.st (.string (bs g_0.Name)) (ST.load (cell_ext (SH.boxAt (SH.front 0 hS9) 0 _ rfl)) rfl rfl Tryz.underlying9 rfl) rfl rfl rfl ?_
  obtain ⟨x48, hx49, hm⟩ := bindE hm
  refine WL.call 64 #[.string (bs g_0.Name)] rfl rfl (by kernel_rfl) (c_64 n g_0.Name w3 hx49 ) ?_
  rintro _ w50 ⟨rfl, hE51⟩
  refine ⟨_, rfl, ?_⟩
  have hb53 : Ext w w50 := Ext.trans hb7 hE51
  have hL54 : w.heap.size ≤ w50.heap.size := Nat.le_trans hL8 hE51.size
  have hS55 : SH w50 w.heap.size [aBox 31 b2 [.string (bs g_0.Name), .int .i64 g_0.OnHand, .int .i64 g_0.Reserved, .int .i64 g_0.Least]] := SH.ext hS9 hE51
  refine WL.runk 1 [1, 6] [(1, .pointer (some ⟨b2, 0, none⟩)), (6, .bool x48)] (by kernel_rfl) ?_
  refine WL.case x48 [6] ⟨rfl, trivial⟩ (fun hc56 => ?_) (fun hc56 => ?_)
  rotate_left
  · have hm := iteF hm hc56
    refine WL.runk 17 [2] [(2, .bool false)] (by kernel_rfl) ?_
    refine WL.nil ?_
    obtain rfl := Option.some.inj hm
    exact WQ.post' ⟨rfl, hb53, hL54, hS55⟩ ⟨rfl, trivial⟩
  have hm := iteT hm hc56
  refine WL.runk 1 [1, 6, 7] [(1, .pointer (some ⟨b2, 0, none⟩)), (6, .bool true), (7, .pointer (some ⟨b2, 1, none⟩))] (by kernel_rfl) ?_
  refine WL.st (.int .i64 g_0.OnHand) (ST.load (cell_ext (SH.boxAt (SH.front 0 hS55) 1 _ rfl)) rfl rfl Tryz.underlying2 rfl) rfl rfl rfl ?_
  obtain ⟨x57, hx58, hm⟩ := bindE hm
  refine WL.call 62 #[.int .i64 g_0.OnHand, .int .i64 0, .int .i64 1000000] rfl rfl (by kernel_rfl) (c_62 n g_0.OnHand 0 1000000 w50 hx58 ) ?_
  rintro _ w59 ⟨rfl, hE60⟩
  refine ⟨_, rfl, ?_⟩
  have hb62 : Ext w w59 := Ext.trans hb53 hE60
  have hL63 : w.heap.size ≤ w59.heap.size := Nat.le_trans hL54 hE60.size
  have hS64 : SH w59 w.heap.size [aBox 31 b2 [.string (bs g_0.Name), .int .i64 g_0.OnHand, .int .i64 g_0.Reserved, .int .i64 g_0.Least]] := SH.ext hS55 hE60
  refine WL.runk 2 [1, 11] [(1, .pointer (some ⟨b2, 0, none⟩)), (11, .bool x57)] (by kernel_rfl) ?_
  refine WL.case x57 [11] ⟨rfl, trivial⟩ (fun hc65 => ?_) (fun hc65 => ?_)
  rotate_left
  · have hm := iteF hm hc65
    refine WL.runk 12 [2] [(2, .bool false)] (by kernel_rfl) ?_
    refine WL.nil ?_
    obtain rfl := Option.some.inj hm
    exact WQ.post' ⟨rfl, hb62, hL63, hS64⟩ ⟨rfl, trivial⟩
  have hm := iteT hm hc65
  refine WL.runk 1 [1, 11, 12] [(1, .pointer (some ⟨b2, 0, none⟩)), (11, .bool true), (12, .pointer (some ⟨b2, 2, none⟩))] (by kernel_rfl) ?_
  refine WL.st (.int .i64 g_0.Reserved) (ST.load (cell_ext (SH.boxAt (SH.front 0 hS64) 2 _ rfl)) rfl rfl Tryz.underlying2 rfl) rfl rfl rfl ?_
  refine WL.runk 1 [1, 11, 13, 14] [(1, .pointer (some ⟨b2, 0, none⟩)), (11, .bool true), (13, .int .i64 g_0.Reserved), (14, .pointer (some ⟨b2, 1, none⟩))] (by kernel_rfl) ?_
  refine WL.st (.int .i64 g_0.OnHand) (ST.load (cell_ext (SH.boxAt (SH.front 0 hS64) 1 _ rfl)) rfl rfl Tryz.underlying2 rfl) rfl rfl rfl ?_
  obtain ⟨x66, hx67, hm⟩ := bindE hm
  refine WL.call 62 #[.int .i64 g_0.Reserved, .int .i64 0, .int .i64 g_0.OnHand] rfl rfl (by kernel_rfl) (c_62 n g_0.Reserved 0 g_0.OnHand w59 hx67 ) ?_
  rintro _ w68 ⟨rfl, hE69⟩
  refine ⟨_, rfl, ?_⟩
  have hb71 : Ext w w68 := Ext.trans hb62 hE69
  have hL72 : w.heap.size ≤ w68.heap.size := Nat.le_trans hL63 hE69.size
  have hS73 : SH w68 w.heap.size [aBox 31 b2 [.string (bs g_0.Name), .int .i64 g_0.OnHand, .int .i64 g_0.Reserved, .int .i64 g_0.Least]] := SH.ext hS64 hE69
  refine WL.runk 2 [1, 18] [(1, .pointer (some ⟨b2, 0, none⟩)), (18, .bool x66)] (by kernel_rfl) ?_
  refine WL.case x66 [18] ⟨rfl, trivial⟩ (fun hc74 => ?_) (fun hc74 => ?_)
  rotate_left
  · have hm := iteF hm hc74
    refine WL.runk 5 [2] [(2, .bool false)] (by kernel_rfl) ?_
    refine WL.nil ?_
    obtain rfl := Option.some.inj hm
    exact WQ.post' ⟨rfl, hb71, hL72, hS73⟩ ⟨rfl, trivial⟩
  have hm := iteT hm hc74
  refine WL.runk 1 [18, 19] [(18, .bool true), (19, .pointer (some ⟨b2, 3, none⟩))] (by kernel_rfl) ?_
  refine WL.st (.int .i64 g_0.Least) (ST.load (cell_ext (SH.boxAt (SH.front 0 hS73) 3 _ rfl)) rfl rfl Tryz.underlying2 rfl) rfl rfl rfl ?_
  obtain ⟨x75, hx76, hm⟩ := bindE hm
  refine WL.call 62 #[.int .i64 g_0.Least, .int .i64 0, .int .i64 1000000] rfl rfl (by kernel_rfl) (c_62 n g_0.Least 0 1000000 w68 hx76 ) ?_
  rintro _ w77 ⟨rfl, hE78⟩
  refine ⟨_, rfl, ?_⟩
  have hb80 : Ext w w77 := Ext.trans hb71 hE78
  have hL81 : w.heap.size ≤ w77.heap.size := Nat.le_trans hL72 hE78.size
  have hS82 : SH w77 w.heap.size [aBox 31 b2 [.string (bs g_0.Name), .int .i64 g_0.OnHand, .int .i64 g_0.Reserved, .int .i64 g_0.Least]] := SH.ext hS73 hE78
  refine WL.runk 2 [2] [(2, .bool x75)] (by kernel_rfl) ?_
  refine WL.nil ?_
  obtain rfl := Option.some.inj hm
  exact WQ.post' ⟨rfl, hb80, hL81, hS82⟩ ⟨rfl, trivial⟩

theorem c_23 (n : Nat) (list_0 : List SGood) (a0' : Option Addr) (c0' : Nat) (w : World) {r : Bool} (hm : m_impl_ValidGoods n list_0 = some r) (h0 : Rd fGood.ty w a0' list_0) (_hle0 : list_0.length ≤ c0') :
    CallV Tryz.prog 23 #[.slice a0' list_0.length c0'] w (fun v w' => v = .bool r ∧ Ext w w') := by
  unfold m_impl_ValidGoods at hm
  refine CallV.enter Tryz.func23 rfl (by kernel_rfl) Tryz.ntmps23 (env := [(0, .slice a0' list_0.length c0')]) ⟨rfl, trivial⟩ ?_
  refine WP.seq (fun K1 hK1 => ?_)
  refine WP.region ?_
  refine WL.runk 1 [0] [(0, .slice a0' list_0.length c0')] (by kernel_rfl) ?_
  refine WL.nil ?_
  refine WQ.then_normal (hK1 _ _ _ ?_)
  refine WP.seq (fun K2 hK2 => ?_)
  refine WP.seq (fun K3 hK3 => ?_)
  refine WP.region ?_
  refine WL.runk 3 [0, 5, 6, 7] [(0, .slice a0' list_0.length c0'), (5, .slice a0' list_0.length c0'), (6, .int .i64 (list_0.length : Int)), (7, .int .i64 0)] (by kernel_rfl) ?_
  refine WL.nil ?_
  refine WQ.then_normal (hK3 _ _ _ ?_)
  refine WP.block ?_
  obtain ⟨t15, ht16, hm⟩ := bindE hm
  have hmo10 := hm; clear hm
  refine WP.sub [(0, .slice a0' list_0.length c0'), (5, .slice a0' list_0.length c0'), (6, .int .i64 (list_0.length : Int)), (7, .int .i64 0)] ⟨rfl, rfl, rfl, rfl, trivial⟩ ?_
  refine WP.loop (fun n' env' w' => ∃ (st4 : Int) , env' = [(0, .slice a0' list_0.length c0'), (5, .slice a0' list_0.length c0'), (6, .int .i64 (list_0.length : Int)), (7, .int .i64 st4)] ∧ Ext w w' ∧ w.heap.size ≤ w'.heap.size ∧ SH w' w.heap.size [] ∧ loopN (m_impl_ValidGoods_l1 n list_0) n' st4 = some t15) n ⟨0, rfl, (Ext.refl w), (Nat.le_refl _), (SH.nil _ _), ht16⟩ ?_
  rintro n12 _ w5 ⟨st4, rfl, hb6, hL7, hS8, hl9⟩ K11 hK11
  obtain ⟨n13, s14, rfl, hm, hl9⟩ := loopN_some hl9
  unfold m_impl_ValidGoods_l1 at hm
  refine WP.seq (fun K17 hK17 => ?_)
  refine WP.region ?_
  refine WL.runk 1 [0, 5, 6, 7, 8] [(0, .slice a0' list_0.length c0'), (5, .slice a0' list_0.length c0'), (6, .int .i64 (list_0.length : Int)), (7, .int .i64 st4), (8, .bool (decide (st4 < (list_0.length : Int))))] (by kernel_rfl) ?_
  refine WL.nil ?_
  refine WQ.then_normal (hK17 _ _ _ ?_)
  refine WP.seq (fun K18 hK18 => ?_)
  refine WP.cond (decide (st4 < (list_0.length : Int))) rfl rfl (fun hc19 => ?_) (fun hc19 => ?_)
  rotate_left
  · have hm := iteF hm hc19
    refine WP.exit ?_
    refine WQ.then_exit ?_
    refine WQ.then_exit ?_
    refine WQ.block_here ?_
    obtain rfl := Option.some.inj hm
    obtain rfl := afterN_done hl9
    have hm := hmo10
    refine WQ.then_normal (hK2 _ _ _ ?_)
    refine WP.seq (fun K92 hK92 => ?_)
    refine WP.region ?_
    refine WL.runk 4 [2] [(2, .bool (decide ((list_0.length : Int) ≤ 40)))] (by kernel_rfl) ?_
    refine WL.nil ?_
    refine WQ.then_normal (hK92 _ _ _ ?_)
    refine WP.ret ?_
    obtain rfl := Option.some.inj hm
    exact WQ.ret1 _ rfl rfl ⟨rfl, hb6⟩
  have hm := iteT hm hc19
  refine WP.skip ?_
  refine WQ.then_normal (hK18 _ _ _ ?_)
  refine WP.seq (fun K20 hK20 => ?_)
  refine WP.block ?_
  refine WP.seq (fun K21 hK21 => ?_)
  refine WP.region ?_
  refine WL.runk 1 [0, 5, 6, 7, 9] [(0, .slice a0' list_0.length c0'), (5, .slice a0' list_0.length c0'), (6, .int .i64 (list_0.length : Int)), (7, .int .i64 st4), (9, .int .i64 st4)] (by kernel_rfl) ?_
  obtain ⟨x22, hx23, hm⟩ := bindE hm
  refine WL.st (.pointer (some (at_ a0' (Int.toNat st4 * 4)))) (ST.index (T := fGood.ty) (xs := list_0) (Rd.below h0 hb6) hx23 rfl rfl rfl Tryz.underlying24 (info31).1 (info31).2.1) rfl rfl rfl ?_
  refine WL.st (.agg #[.string (bs x22.Name), .int .i64 x22.OnHand, .int .i64 x22.Reserved, .int .i64 x22.Least]) (ST.loadAgg (vs := fGood.leaf x22) (fun j v hv => Rd.flatA (F := fGood) (Rd.below h0 hb6) hx23 j hv) rfl rfl rfl Tryz.underlying31 rfl (info31).1 (info31).2.1) rfl rfl rfl ?_
  refine WL.box 31 [.string (bs []), .int .i64 0, .int .i64 0, .int .i64 0] 4 (by kernel_rfl) rfl rfl rfl rfl ?_
  intro b24 w25 hE26 hR27
  have hb29 : Ext w w25 := Ext.trans hb6 hE26
  have hL30 : w.heap.size ≤ w25.heap.size := Nat.le_trans hL7 hE26.size
  have hS31 : SH w25 w.heap.size [aBox 31 b24 [.string (bs []), .int .i64 0, .int .i64 0, .int .i64 0]] := SH.add hS8 hE26 hL7 hR27
  refine WL.runk 1 [0, 3, 4, 5, 6, 7, 11] [(0, .slice a0' list_0.length c0'), (5, .slice a0' list_0.length c0'), (6, .int .i64 (list_0.length : Int)), (7, .int .i64 st4), (11, .agg #[.string (bs x22.Name), .int .i64 x22.OnHand, .int .i64 x22.Reserved, .int .i64 x22.Least]), (4, .pointer (some ⟨b24, 0, none⟩)), (3, .int .i64 st4)] (by kernel_rfl) ?_
  refine WL.boxStore 0 [.string (bs x22.Name), .int .i64 x22.OnHand, .int .i64 x22.Reserved, .int .i64 x22.Least] [.string (bs x22.Name), .int .i64 x22.OnHand, .int .i64 x22.Reserved, .int .i64 x22.Least] (SH.front 0 hS31) hL30 rfl rfl rfl rfl rfl rfl rfl (info31).1 (info31).2.1 rfl rfl rfl ?_
  intro w32 hB33 hS34
  have hb35 : Ext w w32 := Below.trans hb29 hB33
  have hL36 : w.heap.size ≤ w32.heap.size := Nat.le_trans hL30 hB33.size
  refine WL.sub [(0, .slice a0' list_0.length c0'), (5, .slice a0' list_0.length c0'), (6, .int .i64 (list_0.length : Int)), (7, .int .i64 st4), (4, .pointer (some ⟨b24, 0, none⟩)), (3, .int .i64 st4)] ⟨rfl, rfl, rfl, rfl, rfl, rfl, trivial⟩ ?_
  refine WL.nil ?_
  refine WQ.then_normal (hK21 _ _ _ ?_)
  refine WP.seq (fun K37 hK37 => ?_)
  obtain ⟨x61, hx62, hm⟩ := bindE hm
  refine WP.cut (fun env' w' => env' = [(0, .slice a0' list_0.length c0'), (5, .slice a0' list_0.length c0'), (6, .int .i64 (list_0.length : Int)), (7, .int .i64 st4), (29, .bool x61)] ∧ Ext w w' ∧ w.heap.size ≤ w'.heap.size ∧ SH w' w.heap.size [aBox 31 b24 [.string (bs x22.Name), .int .i64 x22.OnHand, .int .i64 x22.Reserved, .int .i64 x22.Least]]) ?_ ?_
  rotate_left
  · clear hx62
    rintro _ w86 ⟨rfl, hb87, hL88, hS89⟩
    refine WQ.then_normal (hK37 _ _ _ ?_)
    refine WP.cond x61 rfl rfl (fun hc90 => ?_) (fun hc90 => ?_)
    rotate_left
    · have hm := iteF hm hc90
      refine WP.skip ?_
      refine WQ.block_normal ?_
      refine WQ.then_normal (hK20 _ _ _ ?_)
      refine WP.region ?_
      refine WL.runk 2 [0, 5, 6, 7] [(0, .slice a0' list_0.length c0'), (5, .slice a0' list_0.length c0'), (6, .int .i64 (list_0.length : Int)), (7, .int .i64 (wI64 (st4 + 1)))] (by kernel_rfl) ?_
      refine WL.nil ?_
      obtain rfl := Option.some.inj hm
      exact WQ.round hK11 ⟨(wI64 (st4 + 1)), rfl, hb87, hL88, (SH.take 0 hS89), hl9⟩ (Nat.lt_succ_self _) ⟨rfl, rfl, rfl, rfl, trivial⟩
    have hm := iteT hm hc90
    refine WP.seq (fun K91 hK91 => ?_)
    refine WP.region ?_
    refine WL.runk 1 [2] [(2, .bool false)] (by kernel_rfl) ?_
    refine WL.nil ?_
    refine WQ.then_normal (hK91 _ _ _ ?_)
    refine WP.ret ?_
    refine WQ.block_ret ?_
    refine WQ.then_ret ?_
    refine WQ.then_ret ?_
    refine WQ.block_ret ?_
    refine WQ.then_ret ?_
    obtain rfl := Option.some.inj hm
    obtain rfl := afterN_done hl9
    have hm := hmo10
    obtain rfl := Option.some.inj hm
    exact WQ.ret1 _ rfl rfl ⟨rfl, hb87⟩
  have hm := hx62; clear hx62
  refine WP.quiet (by kernel_rfl) (by kernel_rfl) ?_
  refine QL.st (.agg #[.string (bs x22.Name), .int .i64 x22.OnHand, .int .i64 x22.Reserved, .int .i64 x22.Least]) (ST.loadAgg (vs := [.string (bs x22.Name), .int .i64 x22.OnHand, .int .i64 x22.Reserved, .int .i64 x22.Least]) (fun j v hv => SH.boxPart (us := [.string (bs x22.Name), .int .i64 x22.OnHand, .int .i64 x22.Reserved, .int .i64 x22.Least]) (SH.front 0 hS34) 0 rfl j v hv) rfl rfl rfl Tryz.underlying31 rfl (info31).1 (info31).2.1) rfl rfl rfl ?_
  obtain ⟨x63, hx64, hm⟩ := bindE hm
  refine QL.call 41 #[.agg #[.string (bs x22.Name), .int .i64 x22.OnHand, .int .i64 x22.Reserved, .int .i64 x22.Least]] (.bool x63) (fun _ => by kernel_rfl) (fun w65 hE66 => c_41 n x22 w65 hx64 ) rfl rfl rfl ?_
  refine QL.step1v 14 (.bool (!x63)) rfl (fun _ => by kernel_rfl) ?_
  refine QL.step1v 15 (.bool (!x63)) rfl (fun _ => by kernel_rfl) ?_
  refine QL.subk [0, 5, 6, 7, 4, 3, 15] [(0, .slice a0' list_0.length c0'), (5, .slice a0' list_0.length c0'), (6, .int .i64 (list_0.length : Int)), (7, .int .i64 st4), (4, .pointer (some ⟨b24, 0, none⟩)), (3, .int .i64 st4), (15, .bool (!x63))] (by kernel_rfl) ?_
  refine QL.case (!x63) [15] ⟨rfl, trivial⟩ (fun hc67 => ?_) (fun hc67 => ?_)
  · have hm := iteT hm hc67
    refine QL.step1v 16 undef rfl (fun _ => by kernel_rfl) ?_
    refine QL.step1v 17 undef rfl (fun _ => by kernel_rfl) ?_
    refine QL.step1v 18 undef rfl (fun _ => by kernel_rfl) ?_
    refine QL.step1v 19 undef rfl (fun _ => by kernel_rfl) ?_
    refine QL.step1v 20 undef rfl (fun _ => by kernel_rfl) ?_
    refine QL.step1v 21 undef rfl (fun _ => by kernel_rfl) ?_
    refine QL.step1v 22 undef rfl (fun _ => by kernel_rfl) ?_
    refine QL.step1v 23 undef rfl (fun _ => by kernel_rfl) ?_
    refine QL.step1v 24 undef rfl (fun _ => by kernel_rfl) ?_
    refine QL.step1v 25 undef rfl (fun _ => by kernel_rfl) ?_
    refine QL.step1v 26 undef rfl (fun _ => by kernel_rfl) ?_
    refine QL.step1v 27 undef rfl (fun _ => by kernel_rfl) ?_
    refine QL.step1v 28 undef rfl (fun _ => by kernel_rfl) ?_
    refine QL.step1v 29 (.bool true) rfl (fun _ => by kernel_rfl) ?_
    refine QL.subk [0, 5, 6, 7, 29] [(0, .slice a0' list_0.length c0'), (5, .slice a0' list_0.length c0'), (6, .int .i64 (list_0.length : Int)), (7, .int .i64 st4), (29, .bool true)] (by kernel_rfl) ?_
    refine QL.nil ?_
    intro w68 hE69
    have hb70 : Ext w w68 := Ext.trans hb35 hE69
    have hL71 : w.heap.size ≤ w68.heap.size := Nat.le_trans hL36 hE69.size
    have hS72 : SH w68 w.heap.size [aBox 31 b24 [.string (bs x22.Name), .int .i64 x22.OnHand, .int .i64 x22.Reserved, .int .i64 x22.Least]] := SH.ext hS34 hE69
    obtain rfl := Option.some.inj hm
    exact WQ.post' ⟨rfl, hb70, hL71, hS72⟩ ⟨rfl, rfl, rfl, rfl, rfl, trivial⟩
  have hm := iteF hm hc67
  refine QL.step1v 16 (.int .i64 st4) rfl (fun _ => by kernel_rfl) ?_
  refine QL.step1v 17 (.bool (decide (st4 > 0))) rfl (fun _ => by kernel_rfl) ?_
  refine QL.step1v 18 (.bool (decide (st4 > 0))) rfl (fun _ => by kernel_rfl) ?_
  refine QL.subk [0, 5, 6, 7, 4, 3, 15, 18] [(0, .slice a0' list_0.length c0'), (5, .slice a0' list_0.length c0'), (6, .int .i64 (list_0.length : Int)), (7, .int .i64 st4), (4, .pointer (some ⟨b24, 0, none⟩)), (3, .int .i64 st4), (15, .bool false), (18, .bool (decide (st4 > 0)))] (by kernel_rfl) ?_
  refine QL.case (decide (st4 > 0)) [18] ⟨rfl, trivial⟩ (fun hc73 => ?_) (fun hc73 => ?_)
  rotate_left
  · have hm := iteF hm hc73
    refine QL.step1v 19 undef rfl (fun _ => by kernel_rfl) ?_
    refine QL.step1v 20 undef rfl (fun _ => by kernel_rfl) ?_
    refine QL.step1v 21 undef rfl (fun _ => by kernel_rfl) ?_
    refine QL.step1v 22 undef rfl (fun _ => by kernel_rfl) ?_
    refine QL.step1v 23 undef rfl (fun _ => by kernel_rfl) ?_
    refine QL.step1v 24 undef rfl (fun _ => by kernel_rfl) ?_
    refine QL.step1v 25 undef rfl (fun _ => by kernel_rfl) ?_
    refine QL.step1v 26 undef rfl (fun _ => by kernel_rfl) ?_
    refine QL.step1v 27 undef rfl (fun _ => by kernel_rfl) ?_
    refine QL.step1v 28 (.bool false) rfl (fun _ => by kernel_rfl) ?_
    refine QL.step1v 29 (.bool false) rfl (fun _ => by kernel_rfl) ?_
    refine QL.subk [0, 5, 6, 7, 29] [(0, .slice a0' list_0.length c0'), (5, .slice a0' list_0.length c0'), (6, .int .i64 (list_0.length : Int)), (7, .int .i64 st4), (29, .bool false)] (by kernel_rfl) ?_
    refine QL.nil ?_
    intro w81 hE82
    have hb83 : Ext w w81 := Ext.trans hb35 hE82
    have hL84 : w.heap.size ≤ w81.heap.size := Nat.le_trans hL36 hE82.size
    have hS85 : SH w81 w.heap.size [aBox 31 b24 [.string (bs x22.Name), .int .i64 x22.OnHand, .int .i64 x22.Reserved, .int .i64 x22.Least]] := SH.ext hS34 hE82
    obtain rfl := Option.some.inj hm
    exact WQ.post' ⟨rfl, hb83, hL84, hS85⟩ ⟨rfl, rfl, rfl, rfl, rfl, trivial⟩
  have hm := iteT hm hc73
  refine QL.step1v 19 (.slice a0' list_0.length c0') rfl (fun _ => by kernel_rfl) ?_
  refine QL.step1v 20 (.int .i64 st4) rfl (fun _ => by kernel_rfl) ?_
  refine QL.step1v 21 (.int .i64 (wI64 (st4 - 1))) rfl (fun _ => by kernel_rfl) ?_
  refine QL.subk [0, 5, 6, 7, 4, 15, 18, 19, 21] [(0, .slice a0' list_0.length c0'), (5, .slice a0' list_0.length c0'), (6, .int .i64 (list_0.length : Int)), (7, .int .i64 st4), (4, .pointer (some ⟨b24, 0, none⟩)), (15, .bool false), (18, .bool true), (19, .slice a0' list_0.length c0'), (21, .int .i64 (wI64 (st4 - 1)))] (by kernel_rfl) ?_
  obtain ⟨x74, hx75, hm⟩ := bindE hm
  refine QL.st (.pointer (some (at_ a0' (Int.toNat (wI64 (st4 - 1)) * 4)))) (ST.index (T := fGood.ty) (xs := list_0) (Rd.below h0 hb35) hx75 rfl rfl rfl Tryz.underlying24 (info31).1 (info31).2.1) rfl rfl rfl ?_
  refine QL.step1v 23 (.pointer (some (at_ a0' (Int.toNat (wI64 (st4 - 1)) * 4)))) rfl (fun _ => by kernel_rfl) ?_
  refine QL.subk [0, 5, 6, 7, 4, 15, 18, 23] [(0, .slice a0' list_0.length c0'), (5, .slice a0' list_0.length c0'), (6, .int .i64 (list_0.length : Int)), (7, .int .i64 st4), (4, .pointer (some ⟨b24, 0, none⟩)), (15, .bool false), (18, .bool true), (23, .pointer (some (at_ a0' (Int.toNat (wI64 (st4 - 1)) * 4))))] (by kernel_rfl) ?_
  refine QL.st (.string (bs x74.Name)) (ST.load (cell_ext (Rd.flat (F := fGood) (Rd.below h0 hb35) hx75 0 rfl)) rfl rfl Tryz.underlying9 rfl) rfl rfl rfl ?_
  refine QL.step1v 25 (.pointer (some ⟨b24, 0, none⟩)) rfl (fun _ => by kernel_rfl) ?_
  refine QL.subk [0, 5, 6, 7, 15, 18, 24, 25] [(0, .slice a0' list_0.length c0'), (5, .slice a0' list_0.length c0'), (6, .int .i64 (list_0.length : Int)), (7, .int .i64 st4), (15, .bool false), (18, .bool true), (24, .string (bs x74.Name)), (25, .pointer (some ⟨b24, 0, none⟩))] (by kernel_rfl) ?_
  refine QL.st (.string (bs x22.Name)) (ST.load (cell_ext (SH.boxAt (SH.front 0 hS34) 0 _ rfl)) rfl rfl Tryz.underlying9 rfl) rfl rfl rfl ?_
  refine QL.st (.bool (!strLt x74.Name x22.Name)) (ST.strge (x := x74.Name) (y := x22.Name) rfl rfl rfl) rfl rfl rfl ?_
  refine QL.step1v 28 (.bool (!strLt x74.Name x22.Name)) rfl (fun _ => by kernel_rfl) ?_
  refine QL.step1v 29 (.bool (!strLt x74.Name x22.Name)) rfl (fun _ => by kernel_rfl) ?_
  refine QL.subk [0, 5, 6, 7, 29] [(0, .slice a0' list_0.length c0'), (5, .slice a0' list_0.length c0'), (6, .int .i64 (list_0.length : Int)), (7, .int .i64 st4), (29, .bool (!strLt x74.Name x22.Name))] (by kernel_rfl) ?_
  refine QL.nil ?_
  intro w76 hE77
  have hb78 : Ext w w76 := Ext.trans hb35 hE77
  have hL79 : w.heap.size ≤ w76.heap.size := Nat.le_trans hL36 hE77.size
  have hS80 : SH w76 w.heap.size [aBox 31 b24 [.string (bs x22.Name), .int .i64 x22.OnHand, .int .i64 x22.Reserved, .int .i64 x22.Least]] := SH.ext hS34 hE77
  obtain rfl := Option.some.inj hm
  exact WQ.post' ⟨rfl, hb78, hL79, hS80⟩ ⟨rfl, rfl, rfl, rfl, rfl, trivial⟩

theorem c_32 (n : Nat) (t_0 : STake) (w : World) {r : Bool} (hm : m_impl_isTake n t_0 = some r)  :
    CallV Tryz.prog 32 #[.agg #[.string (bs t_0.Name), .int .i64 t_0.Many]] w (fun v w' => v = .bool r ∧ Ext w w') := by
  unfold m_impl_isTake at hm
  refine CallV.enter Tryz.func32 rfl (by kernel_rfl) Tryz.ntmps32 (env := [(0, .agg #[.string (bs t_0.Name), .int .i64 t_0.Many])]) ⟨rfl, trivial⟩ ?_
  refine WP.seq (fun K1 hK1 => ?_)
  refine WP.region ?_
  refine WL.box 37 [.string (bs t_0.Name), .int .i64 t_0.Many] 1 (by kernel_rfl) rfl rfl rfl rfl ?_
  intro b2 w3 hE4 hR5
  have hb7 : Ext w w3 := Ext.trans (Ext.refl w) hE4
  have hL8 : w.heap.size ≤ w3.heap.size := Nat.le_trans (Nat.le_refl _) hE4.size
  have hS9 : SH w3 w.heap.size [aBox 37 b2 [.string (bs t_0.Name), .int .i64 t_0.Many]] := SH.add (SH.nil _ _) hE4 (Nat.le_refl _) hR5
  refine WL.runk 1 [1] [(1, .pointer (some ⟨b2, 0, none⟩))] (by kernel_rfl) ?_
  refine WL.nil ?_
  refine WQ.then_normal (hK1 _ _ _ ?_)
  refine WP.seq (fun K10 hK10 => ?_)
  refine WP.region ?_
  refine WL.runk 1 [3] [(3, .pointer (some ⟨b2, 1, none⟩))] (by kernel_rfl) ?_
  refine WL.st (.int .i64 t_0.Many) (ST.load (cell_ext (SH.boxAt (SH.front 0 hS9) 1 _ rfl)) rfl rfl Tryz.underlying2 rfl) rfl rfl rfl ?_
  obtain ⟨x11, hx12, hm⟩ := bindE hm
  refine WL.call 62 #[.int .i64 t_0.Many, .int .i64 (-1000000), .int .i64 1000000] rfl rfl (by kernel_rfl) (c_62 n t_0.Many (-1000000) 1000000 w3 hx12 ) ?_
  rintro _ w13 ⟨rfl, hE14⟩
  refine ⟨_, rfl, ?_⟩
  have hb16 : Ext w w13 := Ext.trans hb7 hE14
  have hL17 : w.heap.size ≤ w13.heap.size := Nat.le_trans hL8 hE14.size
  have hS18 : SH w13 w.heap.size [aBox 37 b2 [.string (bs t_0.Name), .int .i64 t_0.Many]] := SH.ext hS9 hE14
  refine WL.runk 1 [2] [(2, .bool x11)] (by kernel_rfl) ?_
  refine WL.nil ?_
  refine WQ.then_normal (hK10 _ _ _ ?_)
  refine WP.ret ?_
  obtain rfl := Option.some.inj hm
  exact WQ.ret1 _ rfl rfl ⟨rfl, hb16⟩

theorem c_31 (n : Nat) (t_0 : STake) (w : World) {r : Bool} (hm : m_impl_ChangeGoods_1 n t_0 = some r)  :
    CallV Tryz.prog 31 #[.agg #[.string (bs t_0.Name), .int .i64 t_0.Many]] w (fun v w' => v = .bool r ∧ Ext w w') := by
  unfold m_impl_ChangeGoods_1 at hm
  refine CallV.enter Tryz.func31 rfl (by kernel_rfl) Tryz.ntmps31 (env := [(0, .agg #[.string (bs t_0.Name), .int .i64 t_0.Many])]) ⟨rfl, trivial⟩ ?_
  refine WP.seq (fun K1 hK1 => ?_)
  refine WP.region ?_
  refine WL.box 37 [.string (bs t_0.Name), .int .i64 t_0.Many] 1 (by kernel_rfl) rfl rfl rfl rfl ?_
  intro b2 w3 hE4 hR5
  have hb7 : Ext w w3 := Ext.trans (Ext.refl w) hE4
  have hL8 : w.heap.size ≤ w3.heap.size := Nat.le_trans (Nat.le_refl _) hE4.size
  have hS9 : SH w3 w.heap.size [aBox 37 b2 [.string (bs t_0.Name), .int .i64 t_0.Many]] := SH.add (SH.nil _ _) hE4 (Nat.le_refl _) hR5
  refine WL.runk 1 [1] [(1, .pointer (some ⟨b2, 0, none⟩))] (by kernel_rfl) ?_
  refine WL.nil ?_
  refine WQ.then_normal (hK1 _ _ _ ?_)
  refine WP.seq (fun K10 hK10 => ?_)
  refine WP.region ?_
  refine WL.st (.agg #[.string (bs t_0.Name), .int .i64 t_0.Many]) (ST.loadAgg (vs := [.string (bs t_0.Name), .int .i64 t_0.Many]) (fun j v hv => SH.boxPart (us := [.string (bs t_0.Name), .int .i64 t_0.Many]) (SH.front 0 hS9) 0 rfl j v hv) rfl rfl rfl Tryz.underlying37 rfl (info37).1 (info37).2.1) rfl rfl rfl ?_
  obtain ⟨x11, hx12, hm⟩ := bindE hm
  refine WL.call 32 #[.agg #[.string (bs t_0.Name), .int .i64 t_0.Many]] rfl rfl (by kernel_rfl) (c_32 n t_0 w3 hx12 ) ?_
  rintro _ w13 ⟨rfl, hE14⟩
  refine ⟨_, rfl, ?_⟩
  have hb16 : Ext w w13 := Ext.trans hb7 hE14
  have hL17 : w.heap.size ≤ w13.heap.size := Nat.le_trans hL8 hE14.size
  have hS18 : SH w13 w.heap.size [aBox 37 b2 [.string (bs t_0.Name), .int .i64 t_0.Many]] := SH.ext hS9 hE14
  refine WL.runk 2 [2] [(2, .bool (!x11))] (by kernel_rfl) ?_
  refine WL.nil ?_
  refine WQ.then_normal (hK10 _ _ _ ?_)
  refine WP.ret ?_
  obtain rfl := Option.some.inj hm
  exact WQ.ret1 _ rfl rfl ⟨rfl, hb16⟩

theorem c_33 (n : Nat) (s_0 : List SGood) (a0' : Option Addr) (c0' : Nat) (w : World) {r : List SGood} (hm : m_slices_Clone_impl_Good_impl_Good n s_0 = some r) (h0 : Rd fGood.ty w a0' s_0) (_hle0 : s_0.length ≤ c0') :
    CallV Tryz.prog 33 #[.slice a0' s_0.length c0'] w (fun v w' => ∃ (ra0 : Option Addr) (rc0 : Nat), v = .slice ra0 r.length rc0 ∧ Ext w w' ∧ SH w' w.heap.size [aOwn fGood 31 ra0 rc0 r]) := by
  unfold m_slices_Clone_impl_Good_impl_Good at hm
  rcases a0' with _ | a0'
  · obtain rfl : s_0 = [] := by
      cases s_0 with
      | nil => rfl
      | cons x t => exact absurd (h0 0 x rfl).1 (by simp)
    obtain rfl : ([] : List SGood) = r := by simpa [app] using hm
    refine CallV.enter Tryz.func33 rfl (by kernel_rfl) Tryz.ntmps33 (env := [(0, .slice none 0 c0')]) ⟨rfl, trivial⟩ ?_
    refine WP.seq (fun K1 hK1 => ?_)
    refine WP.region ?_
    refine WL.runk 1 [0] [(0, .slice none 0 c0')] (by kernel_rfl) ?_
    refine WL.nil ?_
    refine WQ.then_normal (hK1 _ _ _ ?_)
    refine WP.seq (fun K2 hK2 => ?_)
    refine WP.seq (fun K3 hK3 => ?_)
    refine WP.region ?_
    refine WL.runk 2 [4] [(4, .bool true)] (by kernel_rfl) ?_
    refine WL.nil ?_
    refine WQ.then_normal (hK3 _ _ _ ?_)
    refine WP.cond true rfl rfl (fun _ => ?_) (fun hc4 => ?_)
    rotate_left
    · cases hc4
    refine WP.seq (fun K5 hK5 => ?_)
    refine WP.region ?_
    refine WL.runk 1 [2] [(2, .slice none 0 0)] (by kernel_rfl) ?_
    refine WL.nil ?_
    refine WQ.then_normal (hK5 _ _ _ ?_)
    refine WP.ret ?_
    refine WQ.then_ret ?_
    have hS7 : SH w w.heap.size [aOwn fGood 31 none 0 ([] : List SGood)] := SH.nilOwn (SH.nil _ _)
    exact WQ.ret1 _ rfl rfl ⟨_, _, rfl, (Ext.refl w), hS7⟩
  refine CallV.enter Tryz.func33 rfl (by kernel_rfl) Tryz.ntmps33 (env := [(0, .slice (some a0') s_0.length c0')]) ⟨rfl, trivial⟩ ?_
  refine WP.seq (fun K1 hK1 => ?_)
  refine WP.region ?_
  refine WL.runk 1 [0] [(0, .slice (some a0') s_0.length c0')] (by kernel_rfl) ?_
  refine WL.nil ?_
  refine WQ.then_normal (hK1 _ _ _ ?_)
  refine WP.seq (fun K2 hK2 => ?_)
  refine WP.seq (fun K3 hK3 => ?_)
  refine WP.region ?_
  refine WL.runk 2 [0, 4] [(0, .slice (some a0') s_0.length c0'), (4, .bool false)] (by kernel_rfl) ?_
  refine WL.nil ?_
  refine WQ.then_normal (hK3 _ _ _ ?_)
  refine WP.cond false rfl rfl (fun hc4 => ?_) (fun _ => ?_)
  · cases hc4
  refine WP.skip ?_
  refine WQ.then_normal (hK2 _ _ _ ?_)
  refine WP.seq (fun K8 hK8 => ?_)
  refine WP.region ?_
  refine WL.row fGood 31 ([] : List SGood) 0 #[] 5 (by kernel_rfl) rfl rfl rfl rfl rfl rfl rfl ?_
  intro a9 c10 w11 hE12 hR13
  have hb15 : Ext w w11 := Ext.trans (Ext.refl w) hE12
  have hL16 : w.heap.size ≤ w11.heap.size := Nat.le_trans (Nat.le_refl _) hE12.size
  have hS17 : SH w11 w.heap.size [aOwn fGood 31 a9 c10 ([] : List SGood)] := SH.add (SH.nil _ _) hE12 (Nat.le_refl _) hR13
  refine WL.runk 1 [5, 6] [(5, .slice a9 (([] : List SGood).length) c10), (6, .slice (some a0') s_0.length c0')] (by kernel_rfl) ?_
  obtain ⟨x18, hx19, hm⟩ := bindE hm
  refine WL.append (F := fGood) (xs := ([] : List SGood)) (ys := s_0) 7 (SH.front 0 hS17) hL16 (Rd.below h0 hb15) hx19 rfl rfl rfl Tryz.underlying24 (info31).1 (info31).2.2.1 (info31).2.1 (info31).2.2.2 rfl rfl rfl rfl rfl ?_
  intro a20 c21 w22 hB23 hS24
  have hb25 : Ext w w22 := Below.trans hb15 hB23
  refine WL.runk 1 [2] [(2, .slice a20 x18.length c21)] (by kernel_rfl) ?_
  refine WL.nil ?_
  refine WQ.then_normal (hK8 _ _ _ ?_)
  refine WP.ret ?_
  obtain rfl := Option.some.inj hm
  exact WQ.ret1 _ rfl rfl ⟨_, _, rfl, hb25, hS24⟩

theorem c_79 (n : Nat) (x_0 : List UInt8) (w : World) {r : Bool} (hm : m_cmp_isNaN_string n x_0 = some r)  :
    CallV Tryz.prog 79 #[.string (bs x_0)] w (fun v w' => v = .bool r ∧ Ext w w') := by
  unfold m_cmp_isNaN_string at hm
  refine CallV.enter Tryz.func79 rfl (by kernel_rfl) Tryz.ntmps79 (env := [(0, .string (bs x_0))]) ⟨rfl, trivial⟩ ?_
  refine WP.seq (fun K1 hK1 => ?_)
  refine WP.region ?_
  refine WL.runk 1 [0] [(0, .string (bs x_0))] (by kernel_rfl) ?_
  refine WL.nil ?_
  refine WQ.then_normal (hK1 _ _ _ ?_)
  refine WP.seq (fun K2 hK2 => ?_)
  refine WP.region ?_
  refine WL.runk 2 [3, 4] [(3, .string (bs x_0)), (4, .string (bs x_0))] (by kernel_rfl) ?_
  refine WL.st (.bool (!(x_0 == x_0))) (ST.strne (x := x_0) (y := x_0) rfl rfl rfl) rfl rfl rfl ?_
  refine WL.runk 1 [2] [(2, .bool (!(x_0 == x_0)))] (by kernel_rfl) ?_
  refine WL.nil ?_
  refine WQ.then_normal (hK2 _ _ _ ?_)
  refine WP.ret ?_
  obtain rfl := Option.some.inj hm
  exact WQ.ret1 _ rfl rfl ⟨rfl, (Ext.refl w)⟩

theorem c_67 (n : Nat) (x_0 : List UInt8) (y_1 : List UInt8) (w : World) {r : Int} (hm : m_cmp_Compare_string n x_0 y_1 = some r)  :
    CallV Tryz.prog 67 #[.string (bs x_0), .string (bs y_1)] w (fun v w' => v = .int .i64 r ∧ Ext w w') := by
  unfold m_cmp_Compare_string at hm
  refine CallV.enter Tryz.func67 rfl (by kernel_rfl) Tryz.ntmps67 (env := [(0, .string (bs x_0)), (1, .string (bs y_1))]) ⟨rfl, rfl, trivial⟩ ?_
  refine WP.seq (fun K1 hK1 => ?_)
  refine WP.region ?_
  refine WL.runk 1 [0, 1] [(0, .string (bs x_0)), (1, .string (bs y_1))] (by kernel_rfl) ?_
  refine WL.nil ?_
  refine WQ.then_normal (hK1 _ _ _ ?_)
  refine WP.seq (fun K2 hK2 => ?_)
  refine WP.region ?_
  refine WL.runk 1 [0, 1, 7] [(0, .string (bs x_0)), (1, .string (bs y_1)), (7, .string (bs x_0))] (by kernel_rfl) ?_
  obtain ⟨x3, hx4, hm⟩ := bindE hm
  refine WL.call 79 #[.string (bs x_0)] rfl rfl (by kernel_rfl) (c_79 n x_0 w hx4 ) ?_
  rintro _ w5 ⟨rfl, hE6⟩
  refine ⟨_, rfl, ?_⟩
  have hb8 : Ext w w5 := Ext.trans (Ext.refl w) hE6
  have hL9 : w.heap.size ≤ w5.heap.size := Nat.le_trans (Nat.le_refl _) hE6.size
  have hS10 : SH w5 w.heap.size [] := SH.ext (SH.nil _ _) hE6
  refine WL.runk 1 [0, 1, 5] [(0, .string (bs x_0)), (1, .string (bs y_1)), (5, .bool x3)] (by kernel_rfl) ?_
  refine WL.nil ?_
  refine WQ.then_normal (hK2 _ _ _ ?_)
  refine WP.seq (fun K11 hK11 => ?_)
  refine WP.region ?_
  refine WL.runk 1 [0, 1, 5, 9] [(0, .string (bs x_0)), (1, .string (bs y_1)), (5, .bool x3), (9, .string (bs y_1))] (by kernel_rfl) ?_
  obtain ⟨x12, hx13, hm⟩ := bindE hm
  refine WL.call 79 #[.string (bs y_1)] rfl rfl (by kernel_rfl) (c_79 n y_1 w5 hx13 ) ?_
  rintro _ w14 ⟨rfl, hE15⟩
  refine ⟨_, rfl, ?_⟩
  have hb17 : Ext w w14 := Ext.trans hb8 hE15
  have hL18 : w.heap.size ≤ w14.heap.size := Nat.le_trans hL9 hE15.size
  have hS19 : SH w14 w.heap.size [] := SH.ext hS10 hE15
  refine WL.runk 1 [0, 1, 5, 6] [(0, .string (bs x_0)), (1, .string (bs y_1)), (5, .bool x3), (6, .bool x12)] (by kernel_rfl) ?_
  refine WL.nil ?_
  refine WQ.then_normal (hK11 _ _ _ ?_)
  refine WP.seq (fun K20 hK20 => ?_)
  refine WP.seq (fun K21 hK21 => ?_)
  refine WP.region ?_
  refine WL.runk 1 [0, 1, 6, 11] [(0, .string (bs x_0)), (1, .string (bs y_1)), (6, .bool x12), (11, .bool x3)] (by kernel_rfl) ?_
  refine WL.nil ?_
  refine WQ.then_normal (hK21 _ _ _ ?_)
  refine WP.cond x3 rfl rfl (fun hc22 => ?_) (fun hc22 => ?_)
  · have hm := iteT hm hc22
    refine WP.seq (fun K23 hK23 => ?_)
    refine WP.seq (fun K24 hK24 => ?_)
    refine WP.region ?_
    refine WL.runk 1 [12] [(12, .bool x12)] (by kernel_rfl) ?_
    refine WL.nil ?_
    refine WQ.then_normal (hK24 _ _ _ ?_)
    refine WP.cond x12 rfl rfl (fun hc25 => ?_) (fun hc25 => ?_)
    · have hm := iteT hm hc25
      refine WP.seq (fun K26 hK26 => ?_)
      refine WP.region ?_
      refine WL.runk 1 [4] [(4, .int .i64 0)] (by kernel_rfl) ?_
      refine WL.nil ?_
      refine WQ.then_normal (hK26 _ _ _ ?_)
      refine WP.ret ?_
      refine WQ.then_ret ?_
      refine WQ.then_ret ?_
      obtain rfl := Option.some.inj hm
      exact WQ.ret1 _ rfl rfl ⟨rfl, hb17⟩
    have hm := iteF hm hc25
    refine WP.skip ?_
    refine WQ.then_normal (hK23 _ _ _ ?_)
    refine WP.seq (fun K27 hK27 => ?_)
    refine WP.region ?_
    refine WL.runk 1 [4] [(4, .int .i64 (-1))] (by kernel_rfl) ?_
    refine WL.nil ?_
    refine WQ.then_normal (hK27 _ _ _ ?_)
    refine WP.ret ?_
    refine WQ.then_ret ?_
    obtain rfl := Option.some.inj hm
    exact WQ.ret1 _ rfl rfl ⟨rfl, hb17⟩
  have hm := iteF hm hc22
  refine WP.skip ?_
  refine WQ.then_normal (hK20 _ _ _ ?_)
  refine WP.seq (fun K28 hK28 => ?_)
  refine WP.seq (fun K29 hK29 => ?_)
  refine WP.region ?_
  refine WL.runk 1 [0, 1, 13] [(0, .string (bs x_0)), (1, .string (bs y_1)), (13, .bool x12)] (by kernel_rfl) ?_
  refine WL.nil ?_
  refine WQ.then_normal (hK29 _ _ _ ?_)
  refine WP.cond x12 rfl rfl (fun hc30 => ?_) (fun hc30 => ?_)
  · have hm := iteT hm hc30
    refine WP.seq (fun K31 hK31 => ?_)
    refine WP.region ?_
    refine WL.runk 1 [4] [(4, .int .i64 1)] (by kernel_rfl) ?_
    refine WL.nil ?_
    refine WQ.then_normal (hK31 _ _ _ ?_)
    refine WP.ret ?_
    refine WQ.then_ret ?_
    obtain rfl := Option.some.inj hm
    exact WQ.ret1 _ rfl rfl ⟨rfl, hb17⟩
  have hm := iteF hm hc30
  refine WP.skip ?_
  refine WQ.then_normal (hK28 _ _ _ ?_)
  refine WP.seq (fun K32 hK32 => ?_)
  refine WP.seq (fun K33 hK33 => ?_)
  refine WP.region ?_
  refine WL.runk 2 [0, 1, 14, 15] [(0, .string (bs x_0)), (1, .string (bs y_1)), (14, .string (bs x_0)), (15, .string (bs y_1))] (by kernel_rfl) ?_
  refine WL.st (.bool (strLt x_0 y_1)) (ST.strlt (x := x_0) (y := y_1) rfl rfl rfl) rfl rfl rfl ?_
  refine WL.sub [(0, .string (bs x_0)), (1, .string (bs y_1)), (16, .bool (strLt x_0 y_1))] ⟨rfl, rfl, rfl, trivial⟩ ?_
  refine WL.nil ?_
  refine WQ.then_normal (hK33 _ _ _ ?_)
  refine WP.cond (strLt x_0 y_1) rfl rfl (fun hc34 => ?_) (fun hc34 => ?_)
  · have hm := iteT hm hc34
    refine WP.seq (fun K35 hK35 => ?_)
    refine WP.region ?_
    refine WL.runk 1 [4] [(4, .int .i64 (-1))] (by kernel_rfl) ?_
    refine WL.nil ?_
    refine WQ.then_normal (hK35 _ _ _ ?_)
    refine WP.ret ?_
    refine WQ.then_ret ?_
    obtain rfl := Option.some.inj hm
    exact WQ.ret1 _ rfl rfl ⟨rfl, hb17⟩
  have hm := iteF hm hc34
  refine WP.skip ?_
  refine WQ.then_normal (hK32 _ _ _ ?_)
  refine WP.seq (fun K36 hK36 => ?_)
  refine WP.seq (fun K37 hK37 => ?_)
  refine WP.region ?_
  refine WL.runk 2 [17, 18] [(17, .string (bs x_0)), (18, .string (bs y_1))] (by kernel_rfl) ?_
  refine WL.st (.bool (!(strLt x_0 y_1 || x_0 == y_1))) (ST.strgt (x := x_0) (y := y_1) rfl rfl rfl) rfl rfl rfl ?_
  refine WL.sub [(19, .bool (!(strLt x_0 y_1 || x_0 == y_1)))] ⟨rfl, trivial⟩ ?_
  refine WL.nil ?_
  refine WQ.then_normal (hK37 _ _ _ ?_)
  refine WP.cond (!(strLt x_0 y_1 || x_0 == y_1)) rfl rfl (fun hc38 => ?_) (fun hc38 => ?_)
  · have hm := iteT hm hc38
    refine WP.seq (fun K39 hK39 => ?_)
    refine WP.region ?_
    refine WL.runk 1 [4] [(4, .int .i64 1)] (by kernel_rfl) ?_
    refine WL.nil ?_
    refine WQ.then_normal (hK39 _ _ _ ?_)
    refine WP.ret ?_
    refine WQ.then_ret ?_
    obtain rfl := Option.some.inj hm
    exact WQ.ret1 _ rfl rfl ⟨rfl, hb17⟩
  have hm := iteF hm hc38
  refine WP.skip ?_
  refine WQ.then_normal (hK36 _ _ _ ?_)
  refine WP.seq (fun K40 hK40 => ?_)
  refine WP.region ?_
  refine WL.runk 1 [4] [(4, .int .i64 0)] (by kernel_rfl) ?_
  refine WL.nil ?_
  refine WQ.then_normal (hK40 _ _ _ ?_)
  refine WP.ret ?_
  obtain rfl := Option.some.inj hm
  exact WQ.ret1 _ rfl rfl ⟨rfl, hb17⟩

theorem c_66 (n : Nat) (g_0 : SGood) (name_1 : List UInt8) (w : World) {r : Int} (hm : m_impl_goodPlace_1 n g_0 name_1 = some r)  :
    CallV Tryz.prog 66 #[.agg #[.string (bs g_0.Name), .int .i64 g_0.OnHand, .int .i64 g_0.Reserved, .int .i64 g_0.Least], .string (bs name_1)] w (fun v w' => v = .int .i64 r ∧ Ext w w') := by
  unfold m_impl_goodPlace_1 at hm
  refine CallV.enter Tryz.func66 rfl (by kernel_rfl) Tryz.ntmps66 (env := [(0, .agg #[.string (bs g_0.Name), .int .i64 g_0.OnHand, .int .i64 g_0.Reserved, .int .i64 g_0.Least]), (1, .string (bs name_1))]) ⟨rfl, rfl, trivial⟩ ?_
  refine WP.seq (fun K1 hK1 => ?_)
  refine WP.region ?_
  refine WL.box 31 [.string (bs g_0.Name), .int .i64 g_0.OnHand, .int .i64 g_0.Reserved, .int .i64 g_0.Least] 2 (by kernel_rfl) rfl rfl rfl rfl ?_
  intro b2 w3 hE4 hR5
  have hb7 : Ext w w3 := Ext.trans (Ext.refl w) hE4
  have hL8 : w.heap.size ≤ w3.heap.size := Nat.le_trans (Nat.le_refl _) hE4.size
  have hS9 : SH w3 w.heap.size [aBox 31 b2 [.string (bs g_0.Name), .int .i64 g_0.OnHand, .int .i64 g_0.Reserved, .int .i64 g_0.Least]] := SH.add (SH.nil _ _) hE4 (Nat.le_refl _) hR5
  refine WL.runk 1 [1, 2] [(1, .string (bs name_1)), (2, .pointer (some ⟨b2, 0, none⟩))] (by kernel_rfl) ?_
  refine WL.nil ?_
  refine WQ.then_normal (hK1 _ _ _ ?_)
  refine WP.seq (fun K10 hK10 => ?_)
  refine WP.region ?_
  refine WL.runk 1 [1, 5] [(1, .string (bs name_1)), (5, .pointer (some ⟨b2, 0, none⟩))] (by kernel_rfl) ?_
  refine WL.st (.string (bs g_0.Name)) (ST.load (cell_ext (SH.boxAt (SH.front 0 hS9) 0 _ rfl)) rfl rfl Tryz.underlying9 rfl) rfl rfl rfl ?_
  refine WL.runk 1 [6, 7] [(6, .string (bs g_0.Name)), (7, .string (bs name_1))] (by kernel_rfl) ?_
  obtain ⟨x11, hx12, hm⟩ := bindE hm
  refine WL.call 67 #[.string (bs g_0.Name), .string (bs name_1)] rfl rfl (by kernel_rfl) (c_67 n g_0.Name name_1 w3 hx12 ) ?_
  rintro _ w13 ⟨rfl, hE14⟩
  refine ⟨_, rfl, ?_⟩
  have hb16 : Ext w w13 := Ext.trans hb7 hE14
  have hL17 : w.heap.size ≤ w13.heap.size := Nat.le_trans hL8 hE14.size
  have hS18 : SH w13 w.heap.size [aBox 31 b2 [.string (bs g_0.Name), .int .i64 g_0.OnHand, .int .i64 g_0.Reserved, .int .i64 g_0.Least]] := SH.ext hS9 hE14
  refine WL.runk 1 [4] [(4, .int .i64 x11)] (by kernel_rfl) ?_
  refine WL.nil ?_
  refine WQ.then_normal (hK10 _ _ _ ?_)
  refine WP.ret ?_
  obtain rfl := Option.some.inj hm
  exact WQ.ret1 _ rfl rfl ⟨rfl, hb16⟩

theorem c_65_66 (n : Nat) (x_0 : List SGood) (a0' : Option Addr) (c0' : Nat) (target_1 : List UInt8) (w : World) {r : Int × Bool} (hm : m_slices_BinarySearchFunc_impl_Good_impl_Good_string_f66 n x_0 target_1 = some r) (h0 : Rd fGood.ty w a0' x_0) (_hle0 : x_0.length ≤ c0') :
    CallV Tryz.prog 65 #[.slice a0' x_0.length c0', .string (bs target_1), .func (.func 66) #[] #[]] w (fun v w' => v = .tuple #[.int .i64 r.1, .bool r.2] ∧ Ext w w') := by
  unfold m_slices_BinarySearchFunc_impl_Good_impl_Good_string_f66 at hm
  refine CallV.enter Tryz.func65 rfl (by kernel_rfl) Tryz.ntmps65 (env := [(0, .slice a0' x_0.length c0'), (1, .string (bs target_1)), (2, .func (.func 66) #[] #[])]) ⟨rfl, rfl, rfl, trivial⟩ ?_
  refine WP.seq (fun K1 hK1 => ?_)
  refine WP.region ?_
  refine WL.runk 2 [0, 1, 2] [(0, .slice a0' x_0.length c0'), (1, .string (bs target_1)), (2, .func (.func 66) #[] #[])] (by kernel_rfl) ?_
  refine WL.nil ?_
  refine WQ.then_normal (hK1 _ _ _ ?_)
  refine WP.seq (fun K2 hK2 => ?_)
  refine WP.region ?_
  refine WL.runk 3 [0, 1, 2, 8] [(0, .slice a0' x_0.length c0'), (1, .string (bs target_1)), (2, .func (.func 66) #[] #[]), (8, .int .i64 (x_0.length : Int))] (by kernel_rfl) ?_
  refine WL.nil ?_
  refine WQ.then_normal (hK2 _ _ _ ?_)
  refine WP.seq (fun K3 hK3 => ?_)
  refine WP.region ?_
  refine WL.runk 3 [0, 1, 2, 8, 9, 10] [(0, .slice a0' x_0.length c0'), (1, .string (bs target_1)), (2, .func (.func 66) #[] #[]), (8, .int .i64 (x_0.length : Int)), (9, .int .i64 0), (10, .int .i64 (x_0.length : Int))] (by kernel_rfl) ?_
  refine WL.nil ?_
  refine WQ.then_normal (hK3 _ _ _ ?_)
  refine WP.seq (fun K4 hK4 => ?_)
  refine WP.block ?_
  obtain ⟨t16, ht17, hm⟩ := bindE hm
  have hmo11 := hm; clear hm
  refine WP.sub [(0, .slice a0' x_0.length c0'), (1, .string (bs target_1)), (2, .func (.func 66) #[] #[]), (8, .int .i64 (x_0.length : Int)), (9, .int .i64 0), (10, .int .i64 (x_0.length : Int))] ⟨rfl, rfl, rfl, rfl, rfl, rfl, trivial⟩ ?_
  refine WP.loop (fun n' env' w' => ∃ (st5 : Int × Int) , env' = [(0, .slice a0' x_0.length c0'), (1, .string (bs target_1)), (2, .func (.func 66) #[] #[]), (8, .int .i64 (x_0.length : Int)), (9, .int .i64 st5.1), (10, .int .i64 st5.2)] ∧ Ext w w' ∧ w.heap.size ≤ w'.heap.size ∧ SH w' w.heap.size [] ∧ loopN (m_slices_BinarySearchFunc_impl_Good_impl_Good_string_f66_l1 n x_0 target_1) n' st5 = some t16) n ⟨(0, (x_0.length : Int)), rfl, (Ext.refl w), (Nat.le_refl _), (SH.nil _ _), ht17⟩ ?_
  rintro n13 _ w6 ⟨st5, rfl, hb7, hL8, hS9, hl10⟩ K12 hK12
  obtain ⟨n14, s15, rfl, hm, hl10⟩ := loopN_some hl10
  unfold m_slices_BinarySearchFunc_impl_Good_impl_Good_string_f66_l1 at hm
  refine WP.seq (fun K18 hK18 => ?_)
  refine WP.seq (fun K19 hK19 => ?_)
  refine WP.region ?_
  refine WL.runk 3 [0, 1, 2, 8, 9, 10, 17] [(0, .slice a0' x_0.length c0'), (1, .string (bs target_1)), (2, .func (.func 66) #[] #[]), (8, .int .i64 (x_0.length : Int)), (9, .int .i64 st5.1), (10, .int .i64 st5.2), (17, .bool (decide (st5.1 < st5.2)))] (by kernel_rfl) ?_
  refine WL.nil ?_
  refine WQ.then_normal (hK19 _ _ _ ?_)
  refine WP.cond (decide (st5.1 < st5.2)) rfl rfl (fun hc20 => ?_) (fun hc20 => ?_)
  rotate_left
  · have hm := iteF hm hc20
    refine WP.exit ?_
    refine WQ.then_exit ?_
    refine WQ.then_exit ?_
    refine WQ.block_here ?_
    obtain rfl := Option.some.inj hm
    obtain rfl := afterN_done hl10
    have hm := hmo11
    refine WQ.then_normal (hK4 _ _ _ ?_)
    refine WP.seq (fun K42 hK42 => ?_)
    obtain ⟨x54, hx55, hm⟩ := bindE hm
    refine WP.cut (fun env' w' => env' = [(6, .int .i64 x54.1), (7, .bool x54.2)] ∧ Ext w w' ∧ w.heap.size ≤ w'.heap.size ∧ SH w' w.heap.size []) ?_ ?_
    rotate_left
    · clear hx55
      rintro _ w67 ⟨rfl, hb68, hL69, hS70⟩
      refine WQ.then_normal (hK42 _ _ _ ?_)
      refine WP.ret ?_
      obtain rfl := Option.some.inj hm
      exact WQ.ret2 _ _ rfl rfl rfl ⟨rfl, hb68⟩
    have hm := hx55; clear hx55
    refine WP.region ?_
    refine WL.runk 5 [0, 1, 2, 9, 35, 39] [(0, .slice a0' x_0.length c0'), (1, .string (bs target_1)), (2, .func (.func 66) #[] #[]), (9, .int .i64 st5.1), (35, .int .i64 st5.1), (39, .bool (decide (st5.1 < (x_0.length : Int))))] (by kernel_rfl) ?_
    refine WL.case (decide (st5.1 < (x_0.length : Int))) [39] ⟨rfl, trivial⟩ (fun hc56 => ?_) (fun hc56 => ?_)
    rotate_left
    · have hm := iteF hm hc56
      refine WL.runk 11 [6, 7] [(6, .int .i64 st5.1), (7, .bool false)] (by kernel_rfl) ?_
      refine WL.nil ?_
      obtain rfl := Option.some.inj hm
      exact WQ.post' ⟨rfl, hb7, hL8, hS9⟩ ⟨rfl, rfl, trivial⟩
    have hm := iteT hm hc56
    refine WL.runk 3 [1, 35, 39, 40, 41, 42] [(1, .string (bs target_1)), (35, .int .i64 st5.1), (39, .bool true), (40, .func (.func 66) #[] #[]), (41, .slice a0' x_0.length c0'), (42, .int .i64 st5.1)] (by kernel_rfl) ?_
    obtain ⟨x57, hx58, hm⟩ := bindE hm
    refine WL.st (.pointer (some (at_ a0' (Int.toNat st5.1 * 4)))) (ST.index (T := fGood.ty) (xs := x_0) (Rd.below h0 hb7) hx58 rfl rfl rfl Tryz.underlying24 (info31).1 (info31).2.1) rfl rfl rfl ?_
    refine WL.st (.agg #[.string (bs x57.Name), .int .i64 x57.OnHand, .int .i64 x57.Reserved, .int .i64 x57.Least]) (ST.loadAgg (vs := fGood.leaf x57) (fun j v hv => Rd.flatA (F := fGood) (Rd.below h0 hb7) hx58 j hv) rfl rfl rfl Tryz.underlying31 rfl (info31).1 (info31).2.1) rfl rfl rfl ?_
    refine WL.runk 1 [35, 39, 40, 44, 45] [(35, .int .i64 st5.1), (39, .bool true), (40, .func (.func 66) #[] #[]), (44, .agg #[.string (bs x57.Name), .int .i64 x57.OnHand, .int .i64 x57.Reserved, .int .i64 x57.Least]), (45, .string (bs target_1))] (by kernel_rfl) ?_
    obtain ⟨x59, hx60, hm⟩ := bindE hm
    refine WL.call 66 #[.agg #[.string (bs x57.Name), .int .i64 x57.OnHand, .int .i64 x57.Reserved, .int .i64 x57.Least], .string (bs target_1)] rfl rfl (by kernel_rfl) (c_66 n x57 target_1 w6 hx60 ) ?_
    rintro _ w61 ⟨rfl, hE62⟩
    refine ⟨_, rfl, ?_⟩
    have hb64 : Ext w w61 := Ext.trans hb7 hE62
    have hL65 : w.heap.size ≤ w61.heap.size := Nat.le_trans hL8 hE62.size
    have hS66 : SH w61 w.heap.size [] := SH.ext hS9 hE62
    refine WL.runk 4 [6, 7] [(6, .int .i64 st5.1), (7, .bool (x59 == 0))] (by kernel_rfl) ?_
    refine WL.nil ?_
    obtain rfl := Option.some.inj hm
    exact WQ.post' ⟨rfl, hb64, hL65, hS66⟩ ⟨rfl, rfl, trivial⟩
  have hm := iteT hm hc20
  refine WP.skip ?_
  refine WQ.then_normal (hK18 _ _ _ ?_)
  refine WP.block ?_
  refine WP.seq (fun K21 hK21 => ?_)
  refine WP.region ?_
  refine WL.runk 4 [0, 1, 2, 8, 9, 10, 21] [(0, .slice a0' x_0.length c0'), (1, .string (bs target_1)), (2, .func (.func 66) #[] #[]), (8, .int .i64 (x_0.length : Int)), (9, .int .i64 st5.1), (10, .int .i64 st5.2), (21, .int .u64 (IntKind.u64.wrap (wI64 (st5.1 + st5.2))))] (by kernel_rfl) ?_
  obtain ⟨x22, hx23, hm⟩ := bindE hm
  refine WL.st (.int .u64 x22) (ST.shr (k := .u64) hx23 rfl rfl rfl) rfl rfl rfl ?_
  refine WL.runk 2 [0, 1, 2, 8, 9, 10, 11] [(0, .slice a0' x_0.length c0'), (1, .string (bs target_1)), (2, .func (.func 66) #[] #[]), (8, .int .i64 (x_0.length : Int)), (9, .int .i64 st5.1), (10, .int .i64 st5.2), (11, .int .i64 (wI64 x22))] (by kernel_rfl) ?_
  refine WL.nil ?_
  refine WQ.then_normal (hK21 _ _ _ ?_)
  refine WP.seq (fun K24 hK24 => ?_)
  refine WP.region ?_
  refine WL.runk 3 [0, 1, 2, 8, 9, 10, 11, 24, 25, 26] [(0, .slice a0' x_0.length c0'), (1, .string (bs target_1)), (2, .func (.func 66) #[] #[]), (8, .int .i64 (x_0.length : Int)), (9, .int .i64 st5.1), (10, .int .i64 st5.2), (11, .int .i64 (wI64 x22)), (24, .func (.func 66) #[] #[]), (25, .slice a0' x_0.length c0'), (26, .int .i64 (wI64 x22))] (by kernel_rfl) ?_
  obtain ⟨x25, hx26, hm⟩ := bindE hm
  refine WL.st (.pointer (some (at_ a0' (Int.toNat (wI64 x22) * 4)))) (ST.index (T := fGood.ty) (xs := x_0) (Rd.below h0 hb7) hx26 rfl rfl rfl Tryz.underlying24 (info31).1 (info31).2.1) rfl rfl rfl ?_
  refine WL.st (.agg #[.string (bs x25.Name), .int .i64 x25.OnHand, .int .i64 x25.Reserved, .int .i64 x25.Least]) (ST.loadAgg (vs := fGood.leaf x25) (fun j v hv => Rd.flatA (F := fGood) (Rd.below h0 hb7) hx26 j hv) rfl rfl rfl Tryz.underlying31 rfl (info31).1 (info31).2.1) rfl rfl rfl ?_
  refine WL.runk 1 [0, 1, 2, 8, 9, 10, 11, 24, 28, 29] [(0, .slice a0' x_0.length c0'), (1, .string (bs target_1)), (2, .func (.func 66) #[] #[]), (8, .int .i64 (x_0.length : Int)), (9, .int .i64 st5.1), (10, .int .i64 st5.2), (11, .int .i64 (wI64 x22)), (24, .func (.func 66) #[] #[]), (28, .agg #[.string (bs x25.Name), .int .i64 x25.OnHand, .int .i64 x25.Reserved, .int .i64 x25.Least]), (29, .string (bs target_1))] (by kernel_rfl) ?_
  obtain ⟨x27, hx28, hm⟩ := bindE hm
  refine WL.call 66 #[.agg #[.string (bs x25.Name), .int .i64 x25.OnHand, .int .i64 x25.Reserved, .int .i64 x25.Least], .string (bs target_1)] rfl rfl (by kernel_rfl) (c_66 n x25 target_1 w6 hx28 ) ?_
  rintro _ w29 ⟨rfl, hE30⟩
  refine ⟨_, rfl, ?_⟩
  have hb32 : Ext w w29 := Ext.trans hb7 hE30
  have hL33 : w.heap.size ≤ w29.heap.size := Nat.le_trans hL8 hE30.size
  have hS34 : SH w29 w.heap.size [] := SH.ext hS9 hE30
  refine WL.runk 1 [0, 1, 2, 8, 9, 10, 11, 31] [(0, .slice a0' x_0.length c0'), (1, .string (bs target_1)), (2, .func (.func 66) #[] #[]), (8, .int .i64 (x_0.length : Int)), (9, .int .i64 st5.1), (10, .int .i64 st5.2), (11, .int .i64 (wI64 x22)), (31, .bool (decide (x27 < 0)))] (by kernel_rfl) ?_
  refine WL.nil ?_
  refine WQ.then_normal (hK24 _ _ _ ?_)
  obtain ⟨x36, hx37, hm⟩ := bindE hm
  refine WP.cut (fun env' w' => env' = [(0, .slice a0' x_0.length c0'), (1, .string (bs target_1)), (2, .func (.func 66) #[] #[]), (8, .int .i64 (x_0.length : Int)), (9, .int .i64 x36.1), (10, .int .i64 x36.2)] ∧ Ext w w' ∧ w.heap.size ≤ w'.heap.size ∧ SH w' w.heap.size []) ?_ ?_
  rotate_left
  · clear hx37
    rintro _ w38 ⟨rfl, hb39, hL40, hS41⟩
    refine WQ.block_normal ?_
    obtain rfl := Option.some.inj hm
    exact WQ.round hK12 ⟨(x36.1, x36.2), rfl, hb39, hL40, hS41, hl10⟩ (Nat.lt_succ_self _) ⟨rfl, rfl, rfl, rfl, rfl, rfl, trivial⟩
  have hm := hx37; clear hx37
  refine WP.cond (decide (x27 < 0)) rfl rfl (fun hc35 => ?_) (fun hc35 => ?_)
  · have hm := iteT hm hc35
    refine WP.region ?_
    refine WL.runk 3 [0, 1, 2, 8, 9, 10] [(0, .slice a0' x_0.length c0'), (1, .string (bs target_1)), (2, .func (.func 66) #[] #[]), (8, .int .i64 (x_0.length : Int)), (9, .int .i64 (wI64 ((wI64 x22) + 1))), (10, .int .i64 st5.2)] (by kernel_rfl) ?_
    refine WL.nil ?_
    obtain rfl := Option.some.inj hm
    exact WQ.post' ⟨rfl, hb32, hL33, hS34⟩ ⟨rfl, rfl, rfl, rfl, rfl, rfl, trivial⟩
  have hm := iteF hm hc35
  refine WP.region ?_
  refine WL.runk 2 [0, 1, 2, 8, 9, 10] [(0, .slice a0' x_0.length c0'), (1, .string (bs target_1)), (2, .func (.func 66) #[] #[]), (8, .int .i64 (x_0.length : Int)), (9, .int .i64 st5.1), (10, .int .i64 (wI64 x22))] (by kernel_rfl) ?_
  refine WL.nil ?_
  obtain rfl := Option.some.inj hm
  exact WQ.post' ⟨rfl, hb32, hL33, hS34⟩ ⟨rfl, rfl, rfl, rfl, rfl, rfl, trivial⟩

theorem c_42 (n : Nat) (list_0 : List SGood) (a0' : Option Addr) (c0' : Nat) (name_1 : List UInt8) (w : World) {r : Int × Bool} (hm : m_impl_goodPlace n list_0 name_1 = some r) (h0 : Rd fGood.ty w a0' list_0) (hle0 : list_0.length ≤ c0') :
    CallV Tryz.prog 42 #[.slice a0' list_0.length c0', .string (bs name_1)] w (fun v w' => v = .tuple #[.int .i64 r.1, .bool r.2] ∧ Ext w w') := by
  unfold m_impl_goodPlace at hm
  refine CallV.enter Tryz.func42 rfl (by kernel_rfl) Tryz.ntmps42 (env := [(0, .slice a0' list_0.length c0'), (1, .string (bs name_1))]) ⟨rfl, rfl, trivial⟩ ?_
  refine WP.seq (fun K1 hK1 => ?_)
  refine WP.region ?_
  refine WL.runk 2 [0, 1] [(0, .slice a0' list_0.length c0'), (1, .string (bs name_1))] (by kernel_rfl) ?_
  refine WL.nil ?_
  refine WQ.then_normal (hK1 _ _ _ ?_)
  refine WP.seq (fun K2 hK2 => ?_)
  refine WP.region ?_
  refine WL.runk 2 [6, 7] [(6, .slice a0' list_0.length c0'), (7, .string (bs name_1))] (by kernel_rfl) ?_
  obtain ⟨x3, hx4, hm⟩ := bindE hm
  refine WL.call 65 #[.slice a0' list_0.length c0', .string (bs name_1), .func (.func 66) #[] #[]] rfl rfl (by kernel_rfl) (c_65_66 n list_0 a0' c0' name_1 w hx4 (Rd.below h0 (Ext.refl w)) hle0) ?_
  rintro _ w5 ⟨rfl, hE6⟩
  refine ⟨_, rfl, ?_⟩
  have hb8 : Ext w w5 := Ext.trans (Ext.refl w) hE6
  have hL9 : w.heap.size ≤ w5.heap.size := Nat.le_trans (Nat.le_refl _) hE6.size
  have hS10 : SH w5 w.heap.size [] := SH.ext (SH.nil _ _) hE6
  refine WL.runk 4 [4, 5] [(4, .int .i64 x3.1), (5, .bool x3.2)] (by kernel_rfl) ?_
  refine WL.nil ?_
  refine WQ.then_normal (hK2 _ _ _ ?_)
  refine WP.ret ?_
  obtain rfl := Option.some.inj hm
  exact WQ.ret2 _ _ rfl rfl rfl ⟨rfl, hb8⟩

theorem c_34 (n : Nat) (list_0 : List SGood) (a0' : Option Addr) (c0' : Nat) (t_1 : STake) (w : World) {r : List SGood × Int} (hm : m_impl_taken n list_0 t_1 = some r) (h0 : Rd fGood.ty w a0' list_0) (hle0 : list_0.length ≤ c0') :
    CallV Tryz.prog 34 #[.slice a0' list_0.length c0', .agg #[.string (bs t_1.Name), .int .i64 t_1.Many]] w (fun v w' => ∃ (ra0 : Option Addr) (rc0 : Nat), v = .tuple #[.slice ra0 r.1.length rc0, .int .i64 r.2] ∧ Ext w w' ∧ SH w' w.heap.size [aOwn fGood 31 ra0 rc0 r.1]) := by
  unfold m_impl_taken at hm
  refine CallV.enter Tryz.func34 rfl (by kernel_rfl) Tryz.ntmps34 (env := [(0, .slice a0' list_0.length c0'), (1, .agg #[.string (bs t_1.Name), .int .i64 t_1.Many])]) ⟨rfl, rfl, trivial⟩ ?_
  refine WP.seq (fun K1 hK1 => ?_)
  refine WP.region ?_
  refine WL.box 37 [.string (bs t_1.Name), .int .i64 t_1.Many] 3 (by kernel_rfl) rfl rfl rfl rfl ?_
  intro b2 w3 hE4 hR5
  have hb7 : Ext w w3 := Ext.trans (Ext.refl w) hE4
  have hL8 : w.heap.size ≤ w3.heap.size := Nat.le_trans (Nat.le_refl _) hE4.size
  have hS9 : SH w3 w.heap.size [aBox 37 b2 [.string (bs t_1.Name), .int .i64 t_1.Many]] := SH.add (SH.nil _ _) hE4 (Nat.le_refl _) hR5
  refine WL.runk 2 [0, 3] [(0, .slice a0' list_0.length c0'), (3, .pointer (some ⟨b2, 0, none⟩))] (by kernel_rfl) ?_
  refine WL.nil ?_
  refine WQ.then_normal (hK1 _ _ _ ?_)
  refine WP.seq (fun K10 hK10 => ?_)
  refine WP.region ?_
  refine WL.runk 2 [0, 3, 10, 11] [(0, .slice a0' list_0.length c0'), (3, .pointer (some ⟨b2, 0, none⟩)), (10, .slice a0' list_0.length c0'), (11, .pointer (some ⟨b2, 0, none⟩))] (by kernel_rfl) ?_
  refine WL.st (.string (bs t_1.Name)) (ST.load (cell_ext (SH.boxAt (SH.front 0 hS9) 0 _ rfl)) rfl rfl Tryz.underlying9 rfl) rfl rfl rfl ?_
  obtain ⟨x11, hx12, hm⟩ := bindE hm
  refine WL.call 42 #[.slice a0' list_0.length c0', .string (bs t_1.Name)] rfl rfl (by kernel_rfl) (c_42 n list_0 a0' c0' t_1.Name w3 hx12 (Rd.below h0 hb7) hle0) ?_
  rintro _ w13 ⟨rfl, hE14⟩
  refine ⟨_, rfl, ?_⟩
  have hb16 : Ext w w13 := Ext.trans hb7 hE14
  have hL17 : w.heap.size ≤ w13.heap.size := Nat.le_trans hL8 hE14.size
  have hS18 : SH w13 w.heap.size [aBox 37 b2 [.string (bs t_1.Name), .int .i64 t_1.Many]] := SH.ext hS9 hE14
  refine WL.runk 5 [0, 3, 6, 7] [(0, .slice a0' list_0.length c0'), (3, .pointer (some ⟨b2, 0, none⟩)), (6, .int .i64 x11.1), (7, .bool x11.2)] (by kernel_rfl) ?_
  refine WL.nil ?_
  refine WQ.then_normal (hK10 _ _ _ ?_)
  refine WP.seq (fun K19 hK19 => ?_)
  refine WP.seq (fun K20 hK20 => ?_)
  refine WP.region ?_
  refine WL.runk 2 [0, 3, 6, 17] [(0, .slice a0' list_0.length c0'), (3, .pointer (some ⟨b2, 0, none⟩)), (6, .int .i64 x11.1), (17, .bool (!x11.2))] (by kernel_rfl) ?_
  refine WL.nil ?_
  refine WQ.then_normal (hK20 _ _ _ ?_)
  refine WP.cond (!x11.2) rfl rfl (fun hc21 => ?_) (fun hc21 => ?_)
  · have hm := iteT hm hc21
    refine WP.seq (fun K22 hK22 => ?_)
    refine WP.region ?_
    refine WL.runk 2 [4, 5] [(4, .slice none 0 0), (5, .int .i64 3)] (by kernel_rfl) ?_
    refine WL.nil ?_
    refine WQ.then_normal (hK22 _ _ _ ?_)
    refine WP.ret ?_
    refine WQ.then_ret ?_
    obtain rfl := Option.some.inj hm
    have hS24 : SH w13 w.heap.size [aOwn fGood 31 none 0 ([] : List SGood), aBox 37 b2 [.string (bs t_1.Name), .int .i64 t_1.Many]] := SH.nilOwn hS18
    exact WQ.ret2 _ _ rfl rfl rfl ⟨_, _, rfl, hb16, (SH.take 1 hS24)⟩
  have hm := iteF hm hc21
  refine WP.skip ?_
  refine WQ.then_normal (hK19 _ _ _ ?_)
  refine WP.seq (fun K25 hK25 => ?_)
  refine WP.region ?_
  refine WL.runk 1 [3, 6, 18] [(3, .pointer (some ⟨b2, 0, none⟩)), (6, .int .i64 x11.1), (18, .slice a0' list_0.length c0')] (by kernel_rfl) ?_
  obtain ⟨x26, hx27, hm⟩ := bindE hm
  refine WL.call 33 #[.slice a0' list_0.length c0'] rfl rfl (by kernel_rfl) (c_33 n list_0 a0' c0' w13 hx27 (Rd.below h0 hb16) hle0) ?_
  rintro _ w31 ⟨a28, c29, rfl, hE32, hR33⟩
  refine ⟨_, rfl, ?_⟩
  have hb34 : Ext w w31 := Ext.trans hb16 hE32
  have hL35 : w.heap.size ≤ w31.heap.size := Nat.le_trans hL17 hE32.size
  have hS36 : SH w31 w.heap.size [aOwn fGood 31 a28 c29 x26, aBox 37 b2 [.string (bs t_1.Name), .int .i64 t_1.Many]] := SH.add hS18 hE32 hL17 hR33
  refine WL.runk 1 [3, 6, 8] [(3, .pointer (some ⟨b2, 0, none⟩)), (6, .int .i64 x11.1), (8, .slice a28 x26.length c29)] (by kernel_rfl) ?_
  refine WL.nil ?_
  refine WQ.then_normal (hK25 _ _ _ ?_)
  refine WP.seq (fun K37 hK37 => ?_)
  refine WP.open (n := 11) (by kernel_rfl) rfl (fun w38 hE39 => ?_)
  have hb40 : Ext w w38 := Ext.trans hb34 hE39
  have hL41 : w.heap.size ≤ w38.heap.size := Nat.le_trans hL35 hE39.size
  have hS42 : SH w38 w.heap.size [aOwn fGood 31 a28 c29 x26, aBox 37 b2 [.string (bs t_1.Name), .int .i64 t_1.Many]] := SH.ext hS36 hE39
  refine WA.quiet (f' := 1) (D' := [0, 1, 2, 3, 4, 5, 6, 7, 8, 9]) [0, 1, 2, 3, 4, 5, 6, 7, 8, 9] rfl rfl (by kernel_rfl) ?_
  refine QL.step1v 20 (.slice a28 x26.length c29) rfl (fun _ => by kernel_rfl) ?_
  refine QL.step1v 21 (.int .i64 x11.1) rfl (fun _ => by kernel_rfl) ?_
  refine QL.subk [3, 6, 8, 20, 21] [(3, .pointer (some ⟨b2, 0, none⟩)), (6, .int .i64 x11.1), (8, .slice a28 x26.length c29), (20, .slice a28 x26.length c29), (21, .int .i64 x11.1)] (by kernel_rfl) ?_
  obtain ⟨x43, hx44, hm⟩ := bindE hm
  refine QL.st (.pointer (some (at_ a28 (Int.toNat x11.1 * 4)))) (ST.index (T := fGood.ty) (xs := x26) (SH.rd (SH.front 0 hS42)) hx44 rfl rfl rfl Tryz.underlying24 (info31).1 (info31).2.1) rfl rfl rfl ?_
  refine QL.step1v 23 (.pointer (some (at_ a28 (Int.toNat x11.1 * 4 + 1)))) rfl (fun _ => by kernel_rfl) ?_
  refine QL.subk [3, 6, 8, 20, 21, 23] [(3, .pointer (some ⟨b2, 0, none⟩)), (6, .int .i64 x11.1), (8, .slice a28 x26.length c29), (20, .slice a28 x26.length c29), (21, .int .i64 x11.1), (23, .pointer (some (at_ a28 (Int.toNat x11.1 * 4 + 1))))] (by kernel_rfl) ?_
  refine QL.st (.int .i64 x43.OnHand) (ST.load (cell_ext (Rd.flat (F := fGood) (SH.rd (SH.front 0 hS42)) hx44 1 rfl)) rfl rfl Tryz.underlying2 rfl) rfl rfl rfl ?_
  refine QL.step1v 25 (.pointer (some ⟨b2, 1, none⟩)) rfl (fun _ => by kernel_rfl) ?_
  refine QL.subk [6, 8, 20, 21, 24, 25] [(6, .int .i64 x11.1), (8, .slice a28 x26.length c29), (20, .slice a28 x26.length c29), (21, .int .i64 x11.1), (24, .int .i64 x43.OnHand), (25, .pointer (some ⟨b2, 1, none⟩))] (by kernel_rfl) ?_
  refine QL.st (.int .i64 t_1.Many) (ST.load (cell_ext (SH.boxAt (SH.front 1 hS42) 1 _ rfl)) rfl rfl Tryz.underlying2 rfl) rfl rfl rfl ?_
  refine QL.step1v 27 (.int .i64 (wI64 (x43.OnHand + t_1.Many))) rfl (fun _ => by kernel_rfl) ?_
  refine QL.subk [6, 8, 20, 21, 27] [(6, .int .i64 x11.1), (8, .slice a28 x26.length c29), (20, .slice a28 x26.length c29), (21, .int .i64 x11.1), (27, .int .i64 (wI64 (x43.OnHand + t_1.Many)))] (by kernel_rfl) ?_
  obtain ⟨x45, hx46, hm⟩ := bindE hm
  refine QL.st (.pointer (some (at_ a28 (Int.toNat x11.1 * 4)))) (ST.index (T := fGood.ty) (xs := x26) (SH.rd (SH.front 0 hS42)) hx46 rfl rfl rfl Tryz.underlying24 (info31).1 (info31).2.1) rfl rfl rfl ?_
  refine QL.step1v 29 (.pointer (some (at_ a28 (Int.toNat x11.1 * 4 + 1)))) rfl (fun _ => by kernel_rfl) ?_
  refine QL.subk [6, 8, 27, 29] [(6, .int .i64 x11.1), (8, .slice a28 x26.length c29), (27, .int .i64 (wI64 (x43.OnHand + t_1.Many))), (29, .pointer (some (at_ a28 (Int.toNat x11.1 * 4 + 1))))] (by kernel_rfl) ?_
  refine QL.nil ?_
  intro w47 hE48
  have hb49 : Ext w w47 := Ext.trans hb40 hE48
  have hL50 : w.heap.size ≤ w47.heap.size := Nat.le_trans hL41 hE48.size
  have hS51 : SH w47 w.heap.size [aOwn fGood 31 a28 c29 x26, aBox 37 b2 [.string (bs t_1.Name), .int .i64 t_1.Many]] := SH.ext hS42 hE48
  refine WA.one (i := 10) (D' := [0, 1, 2, 3, 4, 5, 6, 7, 8, 9, 10]) rfl rfl (by kernel_rfl) ?_
  refine WL.store (F := fGood) (SGood.mk x45.Name (wI64 (x43.OnHand + t_1.Many)) x45.Reserved x45.Least) 1 [.int .i64 (wI64 (x43.OnHand + t_1.Many))] (SH.front 0 hS51) hL50 hx46 rfl rfl rfl rfl rfl rfl rfl (info2).1 (info2).2.1 rfl rfl rfl ?_
  intro w52 hB53 hS54
  have hb55 : Ext w w52 := Below.trans hb49 hB53
  have hL56 : w.heap.size ≤ w52.heap.size := Nat.le_trans hL50 hB53.size
  refine WL.sub [(6, .int .i64 x11.1), (8, .slice a28 ((x26.set (Int.toNat x11.1) (SGood.mk x45.Name (wI64 (x43.OnHand + t_1.Many)) x45.Reserved x45.Least)).length) c29), (27, .int .i64 (wI64 (x43.OnHand + t_1.Many)))] ⟨rfl, by first | (simp only [List.length_set]; done) | (simp only [List.length_set]; rfl), rfl, trivial⟩ ?_
  refine WL.sub [(6, .int .i64 x11.1), (8, .slice a28 ((x26.set (Int.toNat x11.1) (SGood.mk x45.Name (wI64 (x43.OnHand + t_1.Many)) x45.Reserved x45.Least)).length) c29)] ⟨rfl, rfl, trivial⟩ ?_
  refine WL.nil ?_
  refine WA.done (by kernel_rfl) ?_
  refine WQ.then_normal (hK37 _ _ _ ?_)
  refine WP.seq (fun K57 hK57 => ?_)
  refine WP.block ?_
  refine WP.seq (fun K58 hK58 => ?_)
  refine WP.quiet (by kernel_rfl) (by kernel_rfl) ?_
  refine QL.step1v 31 (.slice a28 ((x26.set (Int.toNat x11.1) (SGood.mk x45.Name (wI64 (x43.OnHand + t_1.Many)) x45.Reserved x45.Least)).length) c29) rfl (fun _ => by kernel_rfl) ?_
  refine QL.step1v 32 (.int .i64 x11.1) rfl (fun _ => by kernel_rfl) ?_
  refine QL.subk [6, 8, 31, 32] [(6, .int .i64 x11.1), (8, .slice a28 ((x26.set (Int.toNat x11.1) (SGood.mk x45.Name (wI64 (x43.OnHand + t_1.Many)) x45.Reserved x45.Least)).length) c29), (31, .slice a28 ((x26.set (Int.toNat x11.1) (SGood.mk x45.Name (wI64 (x43.OnHand + t_1.Many)) x45.Reserved x45.Least)).length) c29), (32, .int .i64 x11.1)] (by kernel_rfl) ?_
  obtain ⟨x59, hx60, hm⟩ := bindE hm
  refine QL.st (.pointer (some (at_ a28 (Int.toNat x11.1 * 4)))) (ST.index (T := fGood.ty) (xs := (x26.set (Int.toNat x11.1) (SGood.mk x45.Name (wI64 (x43.OnHand + t_1.Many)) x45.Reserved x45.Least))) (SH.rd (SH.front 0 hS54)) hx60 rfl rfl rfl Tryz.underlying24 (info31).1 (info31).2.1) rfl rfl rfl ?_
  refine QL.step1v 34 (.pointer (some (at_ a28 (Int.toNat x11.1 * 4 + 1)))) rfl (fun _ => by kernel_rfl) ?_
  refine QL.subk [6, 8, 34] [(6, .int .i64 x11.1), (8, .slice a28 ((x26.set (Int.toNat x11.1) (SGood.mk x45.Name (wI64 (x43.OnHand + t_1.Many)) x45.Reserved x45.Least)).length) c29), (34, .pointer (some (at_ a28 (Int.toNat x11.1 * 4 + 1))))] (by kernel_rfl) ?_
  refine QL.st (.int .i64 x59.OnHand) (ST.load (cell_ext (Rd.flat (F := fGood) (SH.rd (SH.front 0 hS54)) hx60 1 rfl)) rfl rfl Tryz.underlying2 rfl) rfl rfl rfl ?_
  refine QL.step1v 36 (.slice a28 ((x26.set (Int.toNat x11.1) (SGood.mk x45.Name (wI64 (x43.OnHand + t_1.Many)) x45.Reserved x45.Least)).length) c29) rfl (fun _ => by kernel_rfl) ?_
  refine QL.step1v 37 (.int .i64 x11.1) rfl (fun _ => by kernel_rfl) ?_
  refine QL.subk [6, 8, 35, 36, 37] [(6, .int .i64 x11.1), (8, .slice a28 ((x26.set (Int.toNat x11.1) (SGood.mk x45.Name (wI64 (x43.OnHand + t_1.Many)) x45.Reserved x45.Least)).length) c29), (35, .int .i64 x59.OnHand), (36, .slice a28 ((x26.set (Int.toNat x11.1) (SGood.mk x45.Name (wI64 (x43.OnHand + t_1.Many)) x45.Reserved x45.Least)).length) c29), (37, .int .i64 x11.1)] (by kernel_rfl) ?_
  obtain ⟨x61, hx62, hm⟩ := bindE hm
  refine QL.st (.pointer (some (at_ a28 (Int.toNat x11.1 * 4)))) (ST.index (T := fGood.ty) (xs := (x26.set (Int.toNat x11.1) (SGood.mk x45.Name (wI64 (x43.OnHand + t_1.Many)) x45.Reserved x45.Least))) (SH.rd (SH.front 0 hS54)) hx62 rfl rfl rfl Tryz.underlying24 (info31).1 (info31).2.1) rfl rfl rfl ?_
  refine QL.step1v 39 (.pointer (some (at_ a28 (Int.toNat x11.1 * 4 + 2)))) rfl (fun _ => by kernel_rfl) ?_
  refine QL.subk [6, 8, 35, 39] [(6, .int .i64 x11.1), (8, .slice a28 ((x26.set (Int.toNat x11.1) (SGood.mk x45.Name (wI64 (x43.OnHand + t_1.Many)) x45.Reserved x45.Least)).length) c29), (35, .int .i64 x59.OnHand), (39, .pointer (some (at_ a28 (Int.toNat x11.1 * 4 + 2))))] (by kernel_rfl) ?_
  refine QL.st (.int .i64 x61.Reserved) (ST.load (cell_ext (Rd.flat (F := fGood) (SH.rd (SH.front 0 hS54)) hx62 2 rfl)) rfl rfl Tryz.underlying2 rfl) rfl rfl rfl ?_
  refine QL.step1v 41 (.bool (decide (x59.OnHand < x61.Reserved))) rfl (fun _ => by kernel_rfl) ?_
  refine QL.step1v 30 (.bool (decide (x59.OnHand < x61.Reserved))) rfl (fun _ => by kernel_rfl) ?_
  refine QL.subk [6, 8, 30] [(6, .int .i64 x11.1), (8, .slice a28 ((x26.set (Int.toNat x11.1) (SGood.mk x45.Name (wI64 (x43.OnHand + t_1.Many)) x45.Reserved x45.Least)).length) c29), (30, .bool (decide (x59.OnHand < x61.Reserved)))] (by kernel_rfl) ?_
  refine QL.nil ?_
  intro w63 hE64
  have hb65 : Ext w w63 := Ext.trans hb55 hE64
  have hL66 : w.heap.size ≤ w63.heap.size := Nat.le_trans hL56 hE64.size
  have hS67 : SH w63 w.heap.size [aOwn fGood 31 a28 c29 (x26.set (Int.toNat x11.1) (SGood.mk x45.Name (wI64 (x43.OnHand + t_1.Many)) x45.Reserved x45.Least)), aBox 37 b2 [.string (bs t_1.Name), .int .i64 t_1.Many]] := SH.ext hS54 hE64
  refine WQ.then_normal (hK58 _ _ _ ?_)
  refine WP.cond (decide (x59.OnHand < x61.Reserved)) rfl rfl (fun hc68 => ?_) (fun hc68 => ?_)
  · have hm := iteT hm hc68
    refine WP.seq (fun K69 hK69 => ?_)
    refine WP.region ?_
    refine WL.runk 2 [4, 5] [(4, .slice none 0 0), (5, .int .i64 6)] (by kernel_rfl) ?_
    refine WL.nil ?_
    refine WQ.then_normal (hK69 _ _ _ ?_)
    refine WP.ret ?_
    refine WQ.block_ret ?_
    refine WQ.then_ret ?_
    obtain rfl := Option.some.inj hm
    have hS71 : SH w63 w.heap.size [aOwn fGood 31 none 0 ([] : List SGood), aOwn fGood 31 a28 c29 (x26.set (Int.toNat x11.1) (SGood.mk x45.Name (wI64 (x43.OnHand + t_1.Many)) x45.Reserved x45.Least)), aBox 37 b2 [.string (bs t_1.Name), .int .i64 t_1.Many]] := SH.nilOwn hS67
    exact WQ.ret2 _ _ rfl rfl rfl ⟨_, _, rfl, hb65, (SH.take 1 hS71)⟩
  have hm := iteF hm hc68
  refine WP.seq (fun K72 hK72 => ?_)
  refine WP.region ?_
  refine WL.runk 2 [8, 43, 44] [(8, .slice a28 ((x26.set (Int.toNat x11.1) (SGood.mk x45.Name (wI64 (x43.OnHand + t_1.Many)) x45.Reserved x45.Least)).length) c29), (43, .slice a28 ((x26.set (Int.toNat x11.1) (SGood.mk x45.Name (wI64 (x43.OnHand + t_1.Many)) x45.Reserved x45.Least)).length) c29), (44, .int .i64 x11.1)] (by kernel_rfl) ?_
  obtain ⟨x73, hx74, hm⟩ := bindE hm
  refine WL.st (.pointer (some (at_ a28 (Int.toNat x11.1 * 4)))) (ST.index (T := fGood.ty) (xs := (x26.set (Int.toNat x11.1) (SGood.mk x45.Name (wI64 (x43.OnHand + t_1.Many)) x45.Reserved x45.Least))) (SH.rd (SH.front 0 hS67)) hx74 rfl rfl rfl Tryz.underlying24 (info31).1 (info31).2.1) rfl rfl rfl ?_
  refine WL.runk 1 [8, 46] [(8, .slice a28 ((x26.set (Int.toNat x11.1) (SGood.mk x45.Name (wI64 (x43.OnHand + t_1.Many)) x45.Reserved x45.Least)).length) c29), (46, .pointer (some (at_ a28 (Int.toNat x11.1 * 4 + 1))))] (by kernel_rfl) ?_
  refine WL.st (.int .i64 x73.OnHand) (ST.load (cell_ext (Rd.flat (F := fGood) (SH.rd (SH.front 0 hS67)) hx74 1 rfl)) rfl rfl Tryz.underlying2 rfl) rfl rfl rfl ?_
  refine WL.runk 2 [8, 42] [(8, .slice a28 ((x26.set (Int.toNat x11.1) (SGood.mk x45.Name (wI64 (x43.OnHand + t_1.Many)) x45.Reserved x45.Least)).length) c29), (42, .bool (decide (x73.OnHand > 1000000)))] (by kernel_rfl) ?_
  refine WL.nil ?_
  refine WQ.then_normal (hK72 _ _ _ ?_)
  refine WP.cond (decide (x73.OnHand > 1000000)) rfl rfl (fun hc75 => ?_) (fun hc75 => ?_)
  · have hm := iteT hm hc75
    refine WP.seq (fun K76 hK76 => ?_)
    refine WP.region ?_
    refine WL.runk 2 [4, 5] [(4, .slice none 0 0), (5, .int .i64 5)] (by kernel_rfl) ?_
    refine WL.nil ?_
    refine WQ.then_normal (hK76 _ _ _ ?_)
    refine WP.ret ?_
    refine WQ.block_ret ?_
    refine WQ.then_ret ?_
    obtain rfl := Option.some.inj hm
    have hS78 : SH w63 w.heap.size [aOwn fGood 31 none 0 ([] : List SGood), aOwn fGood 31 a28 c29 (x26.set (Int.toNat x11.1) (SGood.mk x45.Name (wI64 (x43.OnHand + t_1.Many)) x45.Reserved x45.Least)), aBox 37 b2 [.string (bs t_1.Name), .int .i64 t_1.Many]] := SH.nilOwn hS67
    exact WQ.ret2 _ _ rfl rfl rfl ⟨_, _, rfl, hb65, (SH.take 1 hS78)⟩
  have hm := iteF hm hc75
  refine WP.skip ?_
  refine WQ.block_normal ?_
  refine WQ.then_normal (hK57 _ _ _ ?_)
  refine WP.seq (fun K79 hK79 => ?_)
  refine WP.region ?_
  refine WL.runk 3 [4, 5] [(4, .slice a28 ((x26.set (Int.toNat x11.1) (SGood.mk x45.Name (wI64 (x43.OnHand + t_1.Many)) x45.Reserved x45.Least)).length) c29), (5, .int .i64 0)] (by kernel_rfl) ?_
  refine WL.nil ?_
  refine WQ.then_normal (hK79 _ _ _ ?_)
  refine WP.ret ?_
  obtain rfl := Option.some.inj hm
  exact WQ.ret2 _ _ rfl rfl rfl ⟨_, _, rfl, hb65, (SH.take 1 hS67)⟩

theorem c_61_31 (n : Nat) (s_0 : List STake) (a0' : Option Addr) (c0' : Nat) (w : World) {r : Int} (hm : m_slices_IndexFunc_impl_Take_impl_Take_f31 n s_0 = some r) (h0 : Rd fTake.ty w a0' s_0) (_hle0 : s_0.length ≤ c0') :
    CallV Tryz.prog 61 #[.slice a0' s_0.length c0', .func (.func 31) #[] #[]] w (fun v w' => v = .int .i64 r ∧ Ext w w') := by
  unfold m_slices_IndexFunc_impl_Take_impl_Take_f31 at hm
  refine CallV.enter Tryz.func61 rfl (by kernel_rfl) Tryz.ntmps61 (env := [(0, .slice a0' s_0.length c0'), (1, .func (.func 31) #[] #[])]) ⟨rfl, rfl, trivial⟩ ?_
  refine WP.seq (fun K1 hK1 => ?_)
  refine WP.region ?_
  refine WL.runk 1 [0, 1] [(0, .slice a0' s_0.length c0'), (1, .func (.func 31) #[] #[])] (by kernel_rfl) ?_
  refine WL.nil ?_
  refine WQ.then_normal (hK1 _ _ _ ?_)
  refine WP.seq (fun K2 hK2 => ?_)
  refine WP.seq (fun K3 hK3 => ?_)
  refine WP.region ?_
  refine WL.runk 3 [0, 1, 7, 8] [(0, .slice a0' s_0.length c0'), (1, .func (.func 31) #[] #[]), (7, .int .i64 (s_0.length : Int)), (8, .int .i64 0)] (by kernel_rfl) ?_
  refine WL.nil ?_
  refine WQ.then_normal (hK3 _ _ _ ?_)
  refine WP.block ?_
  obtain ⟨t15, ht16, hm⟩ := bindE hm
  have hmo10 := hm; clear hm
  refine WP.sub [(0, .slice a0' s_0.length c0'), (1, .func (.func 31) #[] #[]), (7, .int .i64 (s_0.length : Int)), (8, .int .i64 0)] ⟨rfl, rfl, rfl, rfl, trivial⟩ ?_
  refine WP.loop (fun n' env' w' => ∃ (st4 : Int) , env' = [(0, .slice a0' s_0.length c0'), (1, .func (.func 31) #[] #[]), (7, .int .i64 (s_0.length : Int)), (8, .int .i64 st4)] ∧ Ext w w' ∧ w.heap.size ≤ w'.heap.size ∧ SH w' w.heap.size [] ∧ loopN (m_slices_IndexFunc_impl_Take_impl_Take_f31_l1 n s_0) n' st4 = some t15) n ⟨0, rfl, (Ext.refl w), (Nat.le_refl _), (SH.nil _ _), ht16⟩ ?_
  rintro n12 _ w5 ⟨st4, rfl, hb6, hL7, hS8, hl9⟩ K11 hK11
  obtain ⟨n13, s14, rfl, hm, hl9⟩ := loopN_some hl9
  unfold m_slices_IndexFunc_impl_Take_impl_Take_f31_l1 at hm
  refine WP.seq (fun K17 hK17 => ?_)
  refine WP.region ?_
  refine WL.runk 1 [0, 1, 7, 8, 9] [(0, .slice a0' s_0.length c0'), (1, .func (.func 31) #[] #[]), (7, .int .i64 (s_0.length : Int)), (8, .int .i64 st4), (9, .bool (decide (st4 < (s_0.length : Int))))] (by kernel_rfl) ?_
  refine WL.nil ?_
  refine WQ.then_normal (hK17 _ _ _ ?_)
  refine WP.seq (fun K18 hK18 => ?_)
  refine WP.cond (decide (st4 < (s_0.length : Int))) rfl rfl (fun hc19 => ?_) (fun hc19 => ?_)
  rotate_left
  · have hm := iteF hm hc19
    refine WP.exit ?_
    refine WQ.then_exit ?_
    refine WQ.then_exit ?_
    refine WQ.block_here ?_
    obtain rfl := Option.some.inj hm
    obtain rfl := afterN_done hl9
    have hm := hmo10
    refine WQ.then_normal (hK2 _ _ _ ?_)
    refine WP.seq (fun K35 hK35 => ?_)
    refine WP.region ?_
    refine WL.runk 1 [4] [(4, .int .i64 (-1))] (by kernel_rfl) ?_
    refine WL.nil ?_
    refine WQ.then_normal (hK35 _ _ _ ?_)
    refine WP.ret ?_
    obtain rfl := Option.some.inj hm
    exact WQ.ret1 _ rfl rfl ⟨rfl, hb6⟩
  have hm := iteT hm hc19
  refine WP.skip ?_
  refine WQ.then_normal (hK18 _ _ _ ?_)
  refine WP.seq (fun K20 hK20 => ?_)
  refine WP.block ?_
  refine WP.seq (fun K21 hK21 => ?_)
  refine WP.region ?_
  refine WL.runk 2 [0, 1, 5, 7, 8] [(0, .slice a0' s_0.length c0'), (1, .func (.func 31) #[] #[]), (7, .int .i64 (s_0.length : Int)), (8, .int .i64 st4), (5, .int .i64 st4)] (by kernel_rfl) ?_
  refine WL.nil ?_
  refine WQ.then_normal (hK21 _ _ _ ?_)
  refine WP.seq (fun K22 hK22 => ?_)
  refine WP.region ?_
  refine WL.runk 3 [0, 1, 5, 7, 8, 11, 12, 13] [(0, .slice a0' s_0.length c0'), (1, .func (.func 31) #[] #[]), (7, .int .i64 (s_0.length : Int)), (8, .int .i64 st4), (5, .int .i64 st4), (11, .func (.func 31) #[] #[]), (12, .slice a0' s_0.length c0'), (13, .int .i64 st4)] (by kernel_rfl) ?_
  obtain ⟨x23, hx24, hm⟩ := bindE hm
  refine WL.st (.pointer (some (at_ a0' (Int.toNat st4 * 2)))) (ST.index (T := fTake.ty) (xs := s_0) (Rd.below h0 hb6) hx24 rfl rfl rfl Tryz.underlying25 (info37).1 (info37).2.1) rfl rfl rfl ?_
  refine WL.st (.agg #[.string (bs x23.Name), .int .i64 x23.Many]) (ST.loadAgg (vs := fTake.leaf x23) (fun j v hv => Rd.flatA (F := fTake) (Rd.below h0 hb6) hx24 j hv) rfl rfl rfl Tryz.underlying37 rfl (info37).1 (info37).2.1) rfl rfl rfl ?_
  obtain ⟨x25, hx26, hm⟩ := bindE hm
  refine WL.call 31 #[.agg #[.string (bs x23.Name), .int .i64 x23.Many]] rfl rfl (by kernel_rfl) (c_31 n x23 w5 hx26 ) ?_
  rintro _ w27 ⟨rfl, hE28⟩
  refine ⟨_, rfl, ?_⟩
  have hb30 : Ext w w27 := Ext.trans hb6 hE28
  have hL31 : w.heap.size ≤ w27.heap.size := Nat.le_trans hL7 hE28.size
  have hS32 : SH w27 w.heap.size [] := SH.ext hS8 hE28
  refine WL.sub [(0, .slice a0' s_0.length c0'), (1, .func (.func 31) #[] #[]), (7, .int .i64 (s_0.length : Int)), (8, .int .i64 st4), (5, .int .i64 st4), (16, .bool x25)] ⟨rfl, rfl, rfl, rfl, rfl, rfl, trivial⟩ ?_
  refine WL.nil ?_
  refine WQ.then_normal (hK22 _ _ _ ?_)
  refine WP.cond x25 rfl rfl (fun hc33 => ?_) (fun hc33 => ?_)
  rotate_left
  · have hm := iteF hm hc33
    refine WP.skip ?_
    refine WQ.block_normal ?_
    refine WQ.then_normal (hK20 _ _ _ ?_)
    refine WP.region ?_
    refine WL.runk 2 [0, 1, 7, 8] [(0, .slice a0' s_0.length c0'), (1, .func (.func 31) #[] #[]), (7, .int .i64 (s_0.length : Int)), (8, .int .i64 (wI64 (st4 + 1)))] (by kernel_rfl) ?_
    refine WL.nil ?_
    obtain rfl := Option.some.inj hm
    exact WQ.round hK11 ⟨(wI64 (st4 + 1)), rfl, hb30, hL31, hS32, hl9⟩ (Nat.lt_succ_self _) ⟨rfl, rfl, rfl, rfl, trivial⟩
  have hm := iteT hm hc33
  refine WP.seq (fun K34 hK34 => ?_)
  refine WP.region ?_
  refine WL.runk 2 [4] [(4, .int .i64 st4)] (by kernel_rfl) ?_
  refine WL.nil ?_
  refine WQ.then_normal (hK34 _ _ _ ?_)
  refine WP.ret ?_
  refine WQ.block_ret ?_
  refine WQ.then_ret ?_
  refine WQ.then_ret ?_
  refine WQ.block_ret ?_
  refine WQ.then_ret ?_
  obtain rfl := Option.some.inj hm
  obtain rfl := afterN_done hl9
  have hm := hmo10
  obtain rfl := Option.some.inj hm
  exact WQ.ret1 _ rfl rfl ⟨rfl, hb30⟩

theorem c_30_31 (n : Nat) (s_0 : List STake) (a0' : Option Addr) (c0' : Nat) (w : World) {r : Bool} (hm : m_slices_ContainsFunc_impl_Take_impl_Take_f31 n s_0 = some r) (h0 : Rd fTake.ty w a0' s_0) (hle0 : s_0.length ≤ c0') :
    CallV Tryz.prog 30 #[.slice a0' s_0.length c0', .func (.func 31) #[] #[]] w (fun v w' => v = .bool r ∧ Ext w w') := by
  unfold m_slices_ContainsFunc_impl_Take_impl_Take_f31 at hm
  refine CallV.enter Tryz.func30 rfl (by kernel_rfl) Tryz.ntmps30 (env := [(0, .slice a0' s_0.length c0'), (1, .func (.func 31) #[] #[])]) ⟨rfl, rfl, trivial⟩ ?_
  refine WP.seq (fun K1 hK1 => ?_)
  refine WP.region ?_
  refine WL.runk 1 [0, 1] [(0, .slice a0' s_0.length c0'), (1, .func (.func 31) #[] #[])] (by kernel_rfl) ?_
  refine WL.nil ?_
  refine WQ.then_normal (hK1 _ _ _ ?_)
  refine WP.seq (fun K2 hK2 => ?_)
  refine WP.region ?_
  refine WL.runk 2 [5, 6] [(5, .slice a0' s_0.length c0'), (6, .func (.func 31) #[] #[])] (by kernel_rfl) ?_
  obtain ⟨x3, hx4, hm⟩ := bindE hm
  refine WL.call 61 #[.slice a0' s_0.length c0', .func (.func 31) #[] #[]] rfl rfl (by kernel_rfl) (c_61_31 n s_0 a0' c0' w hx4 (Rd.below h0 (Ext.refl w)) hle0) ?_
  rintro _ w5 ⟨rfl, hE6⟩
  refine ⟨_, rfl, ?_⟩
  have hb8 : Ext w w5 := Ext.trans (Ext.refl w) hE6
  have hL9 : w.heap.size ≤ w5.heap.size := Nat.le_trans (Nat.le_refl _) hE6.size
  have hS10 : SH w5 w.heap.size [] := SH.ext (SH.nil _ _) hE6
  refine WL.runk 2 [4] [(4, .bool (decide (x3 ≥ 0)))] (by kernel_rfl) ?_
  refine WL.nil ?_
  refine WQ.then_normal (hK2 _ _ _ ?_)
  refine WP.ret ?_
  obtain rfl := Option.some.inj hm
  exact WQ.ret1 _ rfl rfl ⟨rfl, hb8⟩

theorem c_6 (n : Nat) (list_0 : List SGood) (a0' : Option Addr) (c0' : Nat) (takes_1 : List STake) (a1' : Option Addr) (c1' : Nat) (w : World) {r : List SGood × Int × Int} (hm : m_impl_ChangeGoods n list_0 takes_1 = some r) (h0 : Rd fGood.ty w a0' list_0) (hle0 : list_0.length ≤ c0') (h1 : Rd fTake.ty w a1' takes_1) (hle1 : takes_1.length ≤ c1') :
    CallV Tryz.prog 6 #[.slice a0' list_0.length c0', .slice a1' takes_1.length c1'] w (fun v w' => ∃ (ra0 : Option Addr) (rc0 : Nat), v = .tuple #[.slice ra0 r.1.length rc0, .int .i64 r.2.1, .int .i64 r.2.2] ∧ Ext w w' ∧ SH w' w.heap.size [aOwn fGood 31 ra0 rc0 r.1]) := by
  unfold m_impl_ChangeGoods at hm
  refine CallV.enter Tryz.func6 rfl (by kernel_rfl) Tryz.ntmps6 (env := [(0, .slice a0' list_0.length c0'), (1, .slice a1' takes_1.length c1')]) ⟨rfl, rfl, trivial⟩ ?_
  refine WP.seq (fun K1 hK1 => ?_)
  refine WP.region ?_
  refine WL.runk 3 [0, 1] [(0, .slice a0' list_0.length c0'), (1, .slice a1' takes_1.length c1')] (by kernel_rfl) ?_
  refine WL.nil ?_
  refine WQ.then_normal (hK1 _ _ _ ?_)
  refine WP.seq (fun K2 hK2 => ?_)
  refine WP.block ?_
  refine WP.seq (fun K3 hK3 => ?_)
  refine WP.region ?_
  refine WL.runk 1 [0, 1, 13] [(0, .slice a0' list_0.length c0'), (1, .slice a1' takes_1.length c1'), (13, .slice a0' list_0.length c0')] (by kernel_rfl) ?_
  obtain ⟨x4, hx5, hm⟩ := bindE hm
  refine WL.call 23 #[.slice a0' list_0.length c0'] rfl rfl (by kernel_rfl) (c_23 n list_0 a0' c0' w hx5 (Rd.below h0 (Ext.refl w)) hle0) ?_
  rintro _ w6 ⟨rfl, hE7⟩
  refine ⟨_, rfl, ?_⟩
  have hb9 : Ext w w6 := Ext.trans (Ext.refl w) hE7
  have hL10 : w.heap.size ≤ w6.heap.size := Nat.le_trans (Nat.le_refl _) hE7.size
  have hS11 : SH w6 w.heap.size [] := SH.ext (SH.nil _ _) hE7
  refine WL.runk 2 [0, 1, 12] [(0, .slice a0' list_0.length c0'), (1, .slice a1' takes_1.length c1'), (12, .bool (!x4))] (by kernel_rfl) ?_
  refine WL.nil ?_
  refine WQ.then_normal (hK3 _ _ _ ?_)
  refine WP.cond (!x4) rfl rfl (fun hc12 => ?_) (fun hc12 => ?_)
  · have hm := iteT hm hc12
    refine WP.seq (fun K13 hK13 => ?_)
    refine WP.region ?_
    refine WL.runk 3 [4, 5, 6] [(4, .slice none 0 0), (5, .int .i64 0), (6, .int .i64 1)] (by kernel_rfl) ?_
    refine WL.nil ?_
    refine WQ.then_normal (hK13 _ _ _ ?_)
    refine WP.ret ?_
    refine WQ.block_ret ?_
    refine WQ.then_ret ?_
    obtain rfl := Option.some.inj hm
    have hS15 : SH w6 w.heap.size [aOwn fGood 31 none 0 ([] : List SGood)] := SH.nilOwn hS11
    exact WQ.ret3 _ _ _ rfl rfl rfl rfl ⟨_, _, rfl, hb9, hS15⟩
  have hm := iteF hm hc12
  refine WP.seq (fun K16 hK16 => ?_)
  obtain ⟨x26, hx27, hm⟩ := bindE hm
  refine WP.cut (fun env' w' => env' = [(0, .slice a0' list_0.length c0'), (1, .slice a1' takes_1.length c1'), (16, .bool x26)] ∧ Ext w w' ∧ w.heap.size ≤ w'.heap.size ∧ SH w' w.heap.size []) ?_ ?_
  · have hm := hx27; clear hx27
    refine WP.region ?_
    refine WL.runk 4 [0, 1, 20] [(0, .slice a0' list_0.length c0'), (1, .slice a1' takes_1.length c1'), (20, .bool (decide ((takes_1.length : Int) > 60)))] (by kernel_rfl) ?_
    refine WL.case (decide ((takes_1.length : Int) > 60)) [20] ⟨rfl, trivial⟩ (fun hc28 => ?_) (fun hc28 => ?_)
    · have hm := iteT hm hc28
      refine WL.runk 4 [0, 1, 16] [(0, .slice a0' list_0.length c0'), (1, .slice a1' takes_1.length c1'), (16, .bool true)] (by kernel_rfl) ?_
      refine WL.nil ?_
      obtain rfl := Option.some.inj hm
      exact WQ.post' ⟨rfl, hb9, hL10, hS11⟩ ⟨rfl, rfl, rfl, trivial⟩
    have hm := iteF hm hc28
    refine WL.runk 1 [0, 1, 20, 21] [(0, .slice a0' list_0.length c0'), (1, .slice a1' takes_1.length c1'), (20, .bool false), (21, .slice a1' takes_1.length c1')] (by kernel_rfl) ?_
    obtain ⟨x29, hx30, hm⟩ := bindE hm
    refine WL.call 30 #[.slice a1' takes_1.length c1', .func (.func 31) #[] #[]] rfl rfl (by kernel_rfl) (c_30_31 n takes_1 a1' c1' w6 hx30 (Rd.below h1 hb9) hle1) ?_
    rintro _ w31 ⟨rfl, hE32⟩
    refine ⟨_, rfl, ?_⟩
    have hb34 : Ext w w31 := Ext.trans hb9 hE32
    have hL35 : w.heap.size ≤ w31.heap.size := Nat.le_trans hL10 hE32.size
    have hS36 : SH w31 w.heap.size [] := SH.ext hS11 hE32
    refine WL.runk 2 [0, 1, 16] [(0, .slice a0' list_0.length c0'), (1, .slice a1' takes_1.length c1'), (16, .bool x29)] (by kernel_rfl) ?_
    refine WL.nil ?_
    obtain rfl := Option.some.inj hm
    exact WQ.post' ⟨rfl, hb34, hL35, hS36⟩ ⟨rfl, rfl, rfl, trivial⟩
  clear hx27
  rintro _ w37 ⟨rfl, hb38, hL39, hS40⟩
  refine WQ.then_normal (hK16 _ _ _ ?_)
  refine WP.cond x26 rfl rfl (fun hc41 => ?_) (fun hc41 => ?_)
  · have hm := iteT hm hc41
    refine WP.seq (fun K42 hK42 => ?_)
    refine WP.region ?_
    refine WL.runk 3 [4, 5, 6] [(4, .slice none 0 0), (5, .int .i64 0), (6, .int .i64 2)] (by kernel_rfl) ?_
    refine WL.nil ?_
    refine WQ.then_normal (hK42 _ _ _ ?_)
    refine WP.ret ?_
    refine WQ.block_ret ?_
    refine WQ.then_ret ?_
    obtain rfl := Option.some.inj hm
    have hS44 : SH w37 w.heap.size [aOwn fGood 31 none 0 ([] : List SGood)] := SH.nilOwn hS40
    exact WQ.ret3 _ _ _ rfl rfl rfl rfl ⟨_, _, rfl, hb38, hS44⟩
  have hm := iteF hm hc41
  refine WP.skip ?_
  refine WQ.block_normal ?_
  refine WQ.then_normal (hK2 _ _ _ ?_)
  refine WP.seq (fun K45 hK45 => ?_)
  refine WP.region ?_
  refine WL.runk 1 [0, 1, 24] [(0, .slice a0' list_0.length c0'), (1, .slice a1' takes_1.length c1'), (24, .slice a0' list_0.length c0')] (by kernel_rfl) ?_
  obtain ⟨x46, hx47, hm⟩ := bindE hm
  refine WL.call 33 #[.slice a0' list_0.length c0'] rfl rfl (by kernel_rfl) (c_33 n list_0 a0' c0' w37 hx47 (Rd.below h0 hb38) hle0) ?_
  rintro _ w51 ⟨a48, c49, rfl, hE52, hR53⟩
  refine ⟨_, rfl, ?_⟩
  have hb54 : Ext w w51 := Ext.trans hb38 hE52
  have hL55 : w.heap.size ≤ w51.heap.size := Nat.le_trans hL39 hE52.size
  have hS56 : SH w51 w.heap.size [aOwn fGood 31 a48 c49 x46] := SH.add hS40 hE52 hL39 hR53
  refine WL.runk 1 [0, 1, 7] [(0, .slice a0' list_0.length c0'), (1, .slice a1' takes_1.length c1'), (7, .slice a48 x46.length c49)] (by kernel_rfl) ?_
  refine WL.nil ?_
  refine WQ.then_normal (hK45 _ _ _ ?_)
  refine WP.seq (fun K57 hK57 => ?_)
  refine WP.seq (fun K58 hK58 => ?_)
  refine WP.region ?_
  refine WL.runk 3 [0, 7, 26, 27, 28] [(0, .slice a0' list_0.length c0'), (7, .slice a48 x46.length c49), (26, .slice a1' takes_1.length c1'), (27, .int .i64 (takes_1.length : Int)), (28, .int .i64 0)] (by kernel_rfl) ?_
  refine WL.nil ?_
  refine WQ.then_normal (hK58 _ _ _ ?_)
  refine WP.block ?_
  obtain ⟨t73, ht74, hm⟩ := bindE hm
  have hmo68 := hm; clear hm
  refine WP.sub [(0, .slice a0' list_0.length c0'), (7, .slice a48 x46.length c49), (26, .slice a1' takes_1.length c1'), (27, .int .i64 (takes_1.length : Int)), (28, .int .i64 0)] ⟨rfl, rfl, rfl, rfl, rfl, trivial⟩ ?_
  refine WP.loop (fun n' env' w' => ∃ (st59 : List SGood × Int) (a60 : Option Addr) (c61 : Nat), env' = [(0, .slice a0' list_0.length c0'), (7, .slice a60 st59.1.length c61), (26, .slice a1' takes_1.length c1'), (27, .int .i64 (takes_1.length : Int)), (28, .int .i64 st59.2)] ∧ Ext w w' ∧ w.heap.size ≤ w'.heap.size ∧ SH w' w.heap.size [aOwn fGood 31 a60 c61 st59.1] ∧ loopN (m_impl_ChangeGoods_l1 n list_0 takes_1) n' st59 = some t73) n ⟨(x46, 0), _, _, rfl, hb54, hL55, hS56, ht74⟩ ?_
  rintro n70 _ w63 ⟨st59, a60, c61, rfl, hb64, hL65, hS66, hl67⟩ K69 hK69
  obtain ⟨n71, s72, rfl, hm, hl67⟩ := loopN_some hl67
  unfold m_impl_ChangeGoods_l1 at hm
  refine WP.seq (fun K75 hK75 => ?_)
  refine WP.region ?_
  refine WL.runk 1 [0, 7, 26, 27, 28, 29] [(0, .slice a0' list_0.length c0'), (7, .slice a60 st59.1.length c61), (26, .slice a1' takes_1.length c1'), (27, .int .i64 (takes_1.length : Int)), (28, .int .i64 st59.2), (29, .bool (decide (st59.2 < (takes_1.length : Int))))] (by kernel_rfl) ?_
  refine WL.nil ?_
  refine WQ.then_normal (hK75 _ _ _ ?_)
  refine WP.seq (fun K76 hK76 => ?_)
  refine WP.cond (decide (st59.2 < (takes_1.length : Int))) rfl rfl (fun hc77 => ?_) (fun hc77 => ?_)
  rotate_left
  · have hm := iteF hm hc77
    refine WP.exit ?_
    refine WQ.then_exit ?_
    refine WQ.then_exit ?_
    refine WQ.block_here ?_
    obtain rfl := Option.some.inj hm
    obtain rfl := afterN_done hl67
    have hm := hmo68
    refine WQ.then_normal (hK57 _ _ _ ?_)
    refine WP.seq (fun K122 hK122 => ?_)
    refine WP.region ?_
    refine WL.runk 4 [4, 5, 6] [(4, .slice a60 st59.1.length c61), (5, .int .i64 (-1)), (6, .int .i64 0)] (by kernel_rfl) ?_
    refine WL.nil ?_
    refine WQ.then_normal (hK122 _ _ _ ?_)
    refine WP.ret ?_
    obtain rfl := Option.some.inj hm
    exact WQ.ret3 _ _ _ rfl rfl rfl rfl ⟨_, _, rfl, hb64, hS66⟩
  have hm := iteT hm hc77
  refine WP.skip ?_
  refine WQ.then_normal (hK76 _ _ _ ?_)
  refine WP.seq (fun K78 hK78 => ?_)
  refine WP.block ?_
  refine WP.seq (fun K79 hK79 => ?_)
  refine WP.region ?_
  refine WL.runk 1 [0, 7, 26, 27, 28, 30] [(0, .slice a0' list_0.length c0'), (7, .slice a60 st59.1.length c61), (26, .slice a1' takes_1.length c1'), (27, .int .i64 (takes_1.length : Int)), (28, .int .i64 st59.2), (30, .int .i64 st59.2)] (by kernel_rfl) ?_
  obtain ⟨x80, hx81, hm⟩ := bindE hm
  refine WL.st (.pointer (some (at_ a1' (Int.toNat st59.2 * 2)))) (ST.index (T := fTake.ty) (xs := takes_1) (Rd.below h1 hb64) hx81 rfl rfl rfl Tryz.underlying25 (info37).1 (info37).2.1) rfl rfl rfl ?_
  refine WL.st (.agg #[.string (bs x80.Name), .int .i64 x80.Many]) (ST.loadAgg (vs := fTake.leaf x80) (fun j v hv => Rd.flatA (F := fTake) (Rd.below h1 hb64) hx81 j hv) rfl rfl rfl Tryz.underlying37 rfl (info37).1 (info37).2.1) rfl rfl rfl ?_
  refine WL.box 37 [.string (bs []), .int .i64 0] 9 (by kernel_rfl) rfl rfl rfl rfl ?_
  intro b82 w83 hE84 hR85
  have hb87 : Ext w w83 := Ext.trans hb64 hE84
  have hL88 : w.heap.size ≤ w83.heap.size := Nat.le_trans hL65 hE84.size
  have hS89 : SH w83 w.heap.size [aBox 37 b82 [.string (bs []), .int .i64 0], aOwn fGood 31 a60 c61 st59.1] := SH.add hS66 hE84 hL65 hR85
  refine WL.runk 1 [0, 7, 8, 9, 26, 27, 28, 32] [(0, .slice a0' list_0.length c0'), (7, .slice a60 st59.1.length c61), (26, .slice a1' takes_1.length c1'), (27, .int .i64 (takes_1.length : Int)), (28, .int .i64 st59.2), (32, .agg #[.string (bs x80.Name), .int .i64 x80.Many]), (9, .pointer (some ⟨b82, 0, none⟩)), (8, .int .i64 st59.2)] (by kernel_rfl) ?_
  refine WL.boxStore 0 [.string (bs x80.Name), .int .i64 x80.Many] [.string (bs x80.Name), .int .i64 x80.Many] (SH.front 0 hS89) hL88 rfl rfl rfl rfl rfl rfl rfl (info37).1 (info37).2.1 rfl rfl rfl ?_
  intro w90 hB91 hS92
  have hb93 : Ext w w90 := Below.trans hb87 hB91
  have hL94 : w.heap.size ≤ w90.heap.size := Nat.le_trans hL88 hB91.size
  refine WL.sub [(0, .slice a0' list_0.length c0'), (7, .slice a60 st59.1.length c61), (26, .slice a1' takes_1.length c1'), (27, .int .i64 (takes_1.length : Int)), (28, .int .i64 st59.2), (9, .pointer (some ⟨b82, 0, none⟩)), (8, .int .i64 st59.2)] ⟨rfl, rfl, rfl, rfl, rfl, rfl, rfl, trivial⟩ ?_
  refine WL.nil ?_
  refine WQ.then_normal (hK79 _ _ _ ?_)
  refine WP.seq (fun K95 hK95 => ?_)
  refine WP.region ?_
  refine WL.runk 1 [0, 8, 9, 26, 27, 28, 34] [(0, .slice a0' list_0.length c0'), (26, .slice a1' takes_1.length c1'), (27, .int .i64 (takes_1.length : Int)), (28, .int .i64 st59.2), (9, .pointer (some ⟨b82, 0, none⟩)), (8, .int .i64 st59.2), (34, .slice a60 st59.1.length c61)] (by kernel_rfl) ?_
  refine WL.st (.agg #[.string (bs x80.Name), .int .i64 x80.Many]) (ST.loadAgg (vs := [.string (bs x80.Name), .int .i64 x80.Many]) (fun j v hv => SH.boxPart (us := [.string (bs x80.Name), .int .i64 x80.Many]) (SH.front 0 hS92) 0 rfl j v hv) rfl rfl rfl Tryz.underlying37 rfl (info37).1 (info37).2.1) rfl rfl rfl ?_
  obtain ⟨x96, hx97, hm⟩ := bindE hm
  refine WL.call 34 #[.slice a60 st59.1.length c61, .agg #[.string (bs x80.Name), .int .i64 x80.Many]] rfl rfl (by kernel_rfl) (c_34 n st59.1 a60 c61 x80 w90 hx97 (SH.rd (SH.front 1 hS92)) (SH.le (SH.front 1 hS92)).1) ?_
  rintro _ w101 ⟨a98, c99, rfl, hE102, hR103⟩
  refine ⟨_, rfl, ?_⟩
  have hb104 : Ext w w101 := Ext.trans hb93 hE102
  have hL105 : w.heap.size ≤ w101.heap.size := Nat.le_trans hL94 hE102.size
  have hS106 : SH w101 w.heap.size [aOwn fGood 31 a98 c99 x96.1, aBox 37 b82 [.string (bs x80.Name), .int .i64 x80.Many], aOwn fGood 31 a60 c61 st59.1] := SH.add hS92 hE102 hL94 hR103
  refine WL.runk 5 [0, 8, 10, 11, 26, 27, 28] [(0, .slice a0' list_0.length c0'), (26, .slice a1' takes_1.length c1'), (27, .int .i64 (takes_1.length : Int)), (28, .int .i64 st59.2), (8, .int .i64 st59.2), (10, .slice a98 x96.1.length c99), (11, .int .i64 x96.2)] (by kernel_rfl) ?_
  refine WL.nil ?_
  refine WQ.then_normal (hK95 _ _ _ ?_)
  refine WP.seq (fun K107 hK107 => ?_)
  refine WP.seq (fun K108 hK108 => ?_)
  refine WP.region ?_
  refine WL.runk 2 [0, 8, 10, 26, 27, 28, 40] [(0, .slice a0' list_0.length c0'), (26, .slice a1' takes_1.length c1'), (27, .int .i64 (takes_1.length : Int)), (28, .int .i64 st59.2), (8, .int .i64 st59.2), (10, .slice a98 x96.1.length c99), (40, .bool (x96.2 != 0))] (by kernel_rfl) ?_
  refine WL.nil ?_
  refine WQ.then_normal (hK108 _ _ _ ?_)
  refine WP.cond (x96.2 != 0) rfl rfl (fun hc109 => ?_) (fun hc109 => ?_)
  rotate_left
  · have hm := iteF hm hc109
    refine WP.skip ?_
    refine WQ.then_normal (hK107 _ _ _ ?_)
    refine WP.region ?_
    refine WL.runk 2 [0, 7, 26, 27, 28] [(0, .slice a0' list_0.length c0'), (26, .slice a1' takes_1.length c1'), (27, .int .i64 (takes_1.length : Int)), (28, .int .i64 st59.2), (7, .slice a98 x96.1.length c99)] (by kernel_rfl) ?_
    refine WL.nil ?_
    refine WQ.block_normal ?_
    refine WQ.then_normal (hK78 _ _ _ ?_)
    refine WP.region ?_
    refine WL.runk 2 [0, 7, 26, 27, 28] [(0, .slice a0' list_0.length c0'), (26, .slice a1' takes_1.length c1'), (27, .int .i64 (takes_1.length : Int)), (28, .int .i64 (wI64 (st59.2 + 1))), (7, .slice a98 x96.1.length c99)] (by kernel_rfl) ?_
    refine WL.nil ?_
    obtain rfl := Option.some.inj hm
    exact WQ.round hK69 ⟨(x96.1, (wI64 (st59.2 + 1))), _, _, rfl, hb104, hL105, (SH.take 1 hS106), hl67⟩ (Nat.lt_succ_self _) ⟨rfl, rfl, rfl, rfl, rfl, trivial⟩
  have hm := iteT hm hc109
  refine WP.seq (fun K110 hK110 => ?_)
  refine WP.region ?_
  refine WL.runk 1 [8, 41] [(8, .int .i64 st59.2), (41, .slice a0' list_0.length c0')] (by kernel_rfl) ?_
  obtain ⟨x111, hx112, hm⟩ := bindE hm
  refine WL.call 33 #[.slice a0' list_0.length c0'] rfl rfl (by kernel_rfl) (c_33 n list_0 a0' c0' w101 hx112 (Rd.below h0 hb104) hle0) ?_
  rintro _ w116 ⟨a113, c114, rfl, hE117, hR118⟩
  refine ⟨_, rfl, ?_⟩
  have hb119 : Ext w w116 := Ext.trans hb104 hE117
  have hL120 : w.heap.size ≤ w116.heap.size := Nat.le_trans hL105 hE117.size
  have hS121 : SH w116 w.heap.size [aOwn fGood 31 a113 c114 x111, aOwn fGood 31 a98 c99 x96.1, aBox 37 b82 [.string (bs x80.Name), .int .i64 x80.Many], aOwn fGood 31 a60 c61 st59.1] := SH.add hS106 hE117 hL105 hR118
  refine WL.runk 4 [4, 5, 6] [(4, .slice a113 x111.length c114), (5, .int .i64 st59.2), (6, .int .i64 0)] (by kernel_rfl) ?_
  refine WL.nil ?_
  refine WQ.then_normal (hK110 _ _ _ ?_)
  refine WP.ret ?_
  refine WQ.then_ret ?_
  refine WQ.block_ret ?_
  refine WQ.then_ret ?_
  refine WQ.then_ret ?_
  refine WQ.block_ret ?_
  refine WQ.then_ret ?_
  obtain rfl := Option.some.inj hm
  obtain rfl := afterN_done hl67
  have hm := hmo68
  obtain rfl := Option.some.inj hm
  exact WQ.ret3 _ _ _ rfl rfl rfl rfl ⟨_, _, rfl, hb119, (SH.take 1 hS121)⟩

end Go.Proofs.YtkpdicajinionaaGreatDoor
