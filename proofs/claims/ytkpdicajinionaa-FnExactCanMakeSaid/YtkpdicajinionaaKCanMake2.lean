/- Each call does what its Lean function says. -/
import Derived.Test.YtkpdicajinionaaKCanMake1
set_option maxRecDepth 20000
set_option maxHeartbeats 40000000
namespace Go.Proofs.Ytkpdicajinionaa
open Go Go.Gv Go.RowKit

theorem c_38 (n : Nat) (list_0 : List SGood) (a0' : Option Addr) (c0' : Nat) (needs_1 : List STake) (a1' : Option Addr) (c1' : Nat) (w : World) {r : Int × Int} (hm : m_impl_CanMake n list_0 needs_1 = some r) (h0 : Rd fGood.ty w a0' list_0) (hle0 : list_0.length ≤ c0') (h1 : Rd fTake.ty w a1' needs_1) (hle1 : needs_1.length ≤ c1') :
    CallV Try.prog 38 #[.slice a0' list_0.length c0', .slice a1' needs_1.length c1'] w (fun v w' => v = .tuple #[.int .i64 r.1, .int .i64 r.2] ∧ Ext w w') := by
  unfold m_impl_CanMake at hm
  refine CallV.enter Try.func38 rfl (by kernel_rfl) Try.ntmps38 (env := [(0, .slice a0' list_0.length c0'), (1, .slice a1' needs_1.length c1')]) ⟨rfl, rfl, trivial⟩ ?_
  refine WP.seq (fun K1 hK1 => ?_)
  refine WP.region ?_
  refine WL.runk 2 [0, 1] [(0, .slice a0' list_0.length c0'), (1, .slice a1' needs_1.length c1')] (by kernel_rfl) ?_
  refine WL.nil ?_
  refine WQ.then_normal (hK1 _ _ _ ?_)
  refine WP.seq (fun K2 hK2 => ?_)
  refine WP.block ?_
  refine WP.seq (fun K3 hK3 => ?_)
  refine WP.region ?_
  refine WL.runk 1 [0, 1, 16] [(0, .slice a0' list_0.length c0'), (1, .slice a1' needs_1.length c1'), (16, .slice a0' list_0.length c0')] (by kernel_rfl) ?_
  obtain ⟨x4, hx5, hm⟩ := bindE hm
  refine WL.call 19 #[.slice a0' list_0.length c0'] rfl rfl (by kernel_rfl) (c_19 n list_0 a0' c0' w hx5 (Rd.below h0 (Ext.refl w)) hle0) ?_
  rintro _ w6 ⟨rfl, hE7⟩
  refine ⟨_, rfl, ?_⟩
  have hb9 : Ext w w6 := Ext.trans (Ext.refl w) hE7
  have hL10 : w.heap.size ≤ w6.heap.size := Nat.le_trans (Nat.le_refl _) hE7.size
  have hS11 : SH w6 w.heap.size [] := SH.ext (SH.nil _ _) hE7
  refine WL.runk 2 [0, 1, 15] [(0, .slice a0' list_0.length c0'), (1, .slice a1' needs_1.length c1'), (15, .bool (!x4))] (by kernel_rfl) ?_
  refine WL.nil ?_
  refine WQ.then_normal (hK3 _ _ _ ?_)
  refine WP.cond (!x4) rfl rfl (fun hc12 => ?_) (fun hc12 => ?_)
  · have hm := iteT hm hc12
    refine WP.seq (fun K13 hK13 => ?_)
    refine WP.region ?_
    refine WL.runk 2 [4, 5] [(4, .int .i64 0), (5, .int .i64 1)] (by kernel_rfl) ?_
    refine WL.nil ?_
    refine WQ.then_normal (hK13 _ _ _ ?_)
    refine WP.ret ?_
    refine WQ.block_ret ?_
    refine WQ.then_ret ?_
    obtain rfl := Option.some.inj hm
    exact WQ.ret2 _ _ rfl rfl rfl ⟨rfl, hb9⟩
  have hm := iteF hm hc12
  refine WP.seq (fun K14 hK14 => ?_)
  obtain ⟨x24, hx25, hm⟩ := bindE hm
  refine WP.cut (fun env' w' => env' = [(0, .slice a0' list_0.length c0'), (1, .slice a1' needs_1.length c1'), (19, .bool x24)] ∧ Ext w w' ∧ w.heap.size ≤ w'.heap.size ∧ SH w' w.heap.size []) ?_ ?_
  · have hm := hx25; clear hx25
    refine WP.region ?_
    refine WL.runk 4 [0, 1, 23] [(0, .slice a0' list_0.length c0'), (1, .slice a1' needs_1.length c1'), (23, .bool (decide ((needs_1.length : Int) > 60)))] (by kernel_rfl) ?_
    refine WL.case (decide ((needs_1.length : Int) > 60)) [23] ⟨rfl, trivial⟩ (fun hc26 => ?_) (fun hc26 => ?_)
    · have hm := iteT hm hc26
      refine WL.runk 4 [0, 1, 19] [(0, .slice a0' list_0.length c0'), (1, .slice a1' needs_1.length c1'), (19, .bool true)] (by kernel_rfl) ?_
      refine WL.nil ?_
      obtain rfl := Option.some.inj hm
      exact WQ.post' ⟨rfl, hb9, hL10, hS11⟩ ⟨rfl, rfl, rfl, trivial⟩
    have hm := iteF hm hc26
    refine WL.runk 1 [0, 1, 23, 24] [(0, .slice a0' list_0.length c0'), (1, .slice a1' needs_1.length c1'), (23, .bool false), (24, .slice a1' needs_1.length c1')] (by kernel_rfl) ?_
    obtain ⟨x27, hx28, hm⟩ := bindE hm
    refine WL.call 65 #[.slice a1' needs_1.length c1', .func (.func 66) #[] #[]] rfl rfl (by kernel_rfl) (c_65_66 n needs_1 a1' c1' w6 hx28 (Rd.below h1 hb9) hle1) ?_
    rintro _ w29 ⟨rfl, hE30⟩
    refine ⟨_, rfl, ?_⟩
    have hb32 : Ext w w29 := Ext.trans hb9 hE30
    have hL33 : w.heap.size ≤ w29.heap.size := Nat.le_trans hL10 hE30.size
    have hS34 : SH w29 w.heap.size [] := SH.ext hS11 hE30
    refine WL.runk 2 [0, 1, 19] [(0, .slice a0' list_0.length c0'), (1, .slice a1' needs_1.length c1'), (19, .bool x27)] (by kernel_rfl) ?_
    refine WL.nil ?_
    obtain rfl := Option.some.inj hm
    exact WQ.post' ⟨rfl, hb32, hL33, hS34⟩ ⟨rfl, rfl, rfl, trivial⟩
  clear hx25
  rintro _ w35 ⟨rfl, hb36, hL37, hS38⟩
  refine WQ.then_normal (hK14 _ _ _ ?_)
  refine WP.cond x24 rfl rfl (fun hc39 => ?_) (fun hc39 => ?_)
  · have hm := iteT hm hc39
    refine WP.seq (fun K40 hK40 => ?_)
    refine WP.region ?_
    refine WL.runk 2 [4, 5] [(4, .int .i64 0), (5, .int .i64 2)] (by kernel_rfl) ?_
    refine WL.nil ?_
    refine WQ.then_normal (hK40 _ _ _ ?_)
    refine WP.ret ?_
    refine WQ.block_ret ?_
    refine WQ.then_ret ?_
    obtain rfl := Option.some.inj hm
    exact WQ.ret2 _ _ rfl rfl rfl ⟨rfl, hb36⟩
  have hm := iteF hm hc39
  refine WP.seq (fun K41 hK41 => ?_)
  refine WP.region ?_
  refine WL.runk 4 [0, 1, 27] [(0, .slice a0' list_0.length c0'), (1, .slice a1' needs_1.length c1'), (27, .bool ((needs_1.length : Int) == 0))] (by kernel_rfl) ?_
  refine WL.nil ?_
  refine WQ.then_normal (hK41 _ _ _ ?_)
  refine WP.cond ((needs_1.length : Int) == 0) rfl rfl (fun hc42 => ?_) (fun hc42 => ?_)
  · have hm := iteT hm hc42
    refine WP.seq (fun K43 hK43 => ?_)
    refine WP.region ?_
    refine WL.runk 2 [4, 5] [(4, .int .i64 0), (5, .int .i64 6)] (by kernel_rfl) ?_
    refine WL.nil ?_
    refine WQ.then_normal (hK43 _ _ _ ?_)
    refine WP.ret ?_
    refine WQ.block_ret ?_
    refine WQ.then_ret ?_
    obtain rfl := Option.some.inj hm
    exact WQ.ret2 _ _ rfl rfl rfl ⟨rfl, hb36⟩
  have hm := iteF hm hc42
  refine WP.skip ?_
  refine WQ.block_normal ?_
  refine WQ.then_normal (hK2 _ _ _ ?_)
  refine WP.seq (fun K44 hK44 => ?_)
  refine WP.region ?_
  refine WL.runk 2 [0, 1, 32] [(0, .slice a0' list_0.length c0'), (1, .slice a1' needs_1.length c1'), (32, .int .i64 (list_0.length : Int))] (by kernel_rfl) ?_
  obtain ⟨x45, hx46, hm⟩ := bindE hm
  refine WL.make fInt 33 hx46 rfl rfl rfl Try.underlying83 (info2).1 (info2).2.2.1 (info2).2.1 (info2).2.2.2 rfl rfl rfl rfl rfl ?_
  intro a47 c48 w49 hE50 hR51
  have hb53 : Ext w w49 := Ext.trans hb36 hE50
  have hL54 : w.heap.size ≤ w49.heap.size := Nat.le_trans hL37 hE50.size
  have hS55 : SH w49 w.heap.size [aOwn fInt 2 a47 c48 x45] := SH.add hS38 hE50 hL37 hR51
  refine WL.runk 1 [0, 1, 6] [(0, .slice a0' list_0.length c0'), (1, .slice a1' needs_1.length c1'), (6, .slice a47 x45.length c48)] (by kernel_rfl) ?_
  refine WL.nil ?_
  refine WQ.then_normal (hK44 _ _ _ ?_)
  refine WP.seq (fun K56 hK56 => ?_)
  refine WP.seq (fun K57 hK57 => ?_)
  refine WP.region ?_
  refine WL.runk 3 [0, 6, 34, 35, 36] [(0, .slice a0' list_0.length c0'), (6, .slice a47 x45.length c48), (34, .slice a1' needs_1.length c1'), (35, .int .i64 (needs_1.length : Int)), (36, .int .i64 0)] (by kernel_rfl) ?_
  refine WL.nil ?_
  refine WQ.then_normal (hK57 _ _ _ ?_)
  refine WP.block ?_
  obtain ⟨t191, ht192, hm⟩ := bindE hm
  have hmo186 := hm; clear hm
  refine WP.sub [(0, .slice a0' list_0.length c0'), (6, .slice a47 x45.length c48), (34, .slice a1' needs_1.length c1'), (35, .int .i64 (needs_1.length : Int)), (36, .int .i64 0)] ⟨rfl, rfl, rfl, rfl, rfl, trivial⟩ ?_
  refine WP.loop (fun n' env' w' => ∃ (st180 : Int × List Int) , env' = [(0, .slice a0' list_0.length c0'), (6, .slice a47 st180.2.length c48), (34, .slice a1' needs_1.length c1'), (35, .int .i64 (needs_1.length : Int)), (36, .int .i64 st180.1)] ∧ Ext w w' ∧ w.heap.size ≤ w'.heap.size ∧ SH w' w.heap.size [aOwn fInt 2 a47 c48 st180.2] ∧ loopN (m_impl_CanMake_l1 n list_0 needs_1) n' st180 = some t191) n ⟨(0, x45), rfl, hb53, hL54, hS55, ht192⟩ ?_
  rintro n188 _ w181 ⟨st180, rfl, hb182, hL183, hS184, hl185⟩ K187 hK187
  obtain ⟨n189, s190, rfl, hm, hl185⟩ := loopN_some hl185
  unfold m_impl_CanMake_l1 at hm
  refine WP.seq (fun K193 hK193 => ?_)
  refine WP.region ?_
  refine WL.runk 1 [0, 6, 34, 35, 36, 37] [(0, .slice a0' list_0.length c0'), (6, .slice a47 st180.2.length c48), (34, .slice a1' needs_1.length c1'), (35, .int .i64 (needs_1.length : Int)), (36, .int .i64 st180.1), (37, .bool (decide (st180.1 < (needs_1.length : Int))))] (by kernel_rfl) ?_
  refine WL.nil ?_
  refine WQ.then_normal (hK193 _ _ _ ?_)
  refine WP.seq (fun K194 hK194 => ?_)
  refine WP.cond (decide (st180.1 < (needs_1.length : Int))) rfl rfl (fun hc195 => ?_) (fun hc195 => ?_)
  · have hm := iteT hm hc195
    refine WP.skip ?_
    refine WQ.then_normal (hK194 _ _ _ ?_)
    refine WP.seq (fun K196 hK196 => ?_)
    refine WP.block ?_
    refine WP.seq (fun K197 hK197 => ?_)
    refine WP.region ?_
    obtain ⟨x198, hx199, hm⟩ := bindE hm
    refine WL.st (.pointer (some (at_ a1' (Int.toNat st180.1 * 2)))) (ST.index (T := fTake.ty) (xs := needs_1) (Rd.below h1 hb182) hx199 rfl rfl rfl Try.underlying30 (info43).1 (info43).2.1) rfl rfl rfl ?_
    refine WL.st (.agg #[.string (bs x198.Name), .int .i64 x198.Many]) (ST.loadAgg (vs := fTake.leaf x198) (fun j v hv => Rd.flatA (F := fTake) (Rd.below h1 hb182) hx199 j hv) rfl rfl rfl Try.underlying43 rfl (info43).1 (info43).2.1) rfl rfl rfl ?_
    refine WL.box 43 [.string (bs []), .int .i64 0] 8 (by kernel_rfl) rfl rfl rfl rfl ?_
    intro b200 w201 hE202 hR203
    have hb205 : Ext w w201 := Ext.trans hb182 hE202
    have hL206 : w.heap.size ≤ w201.heap.size := Nat.le_trans hL183 hE202.size
    have hS207 : SH w201 w.heap.size [aBox 43 b200 [.string (bs []), .int .i64 0], aOwn fInt 2 a47 c48 st180.2] := SH.add hS184 hE202 hL183 hR203
    refine WL.boxStore 0 [.string (bs x198.Name), .int .i64 x198.Many] [.string (bs x198.Name), .int .i64 x198.Many] (SH.front 0 hS207) hL206 rfl rfl rfl rfl rfl rfl rfl (info43).1 (info43).2.1 rfl rfl rfl ?_
    intro w208 hB209 hS210
    have hb211 : Ext w w208 := Below.trans hb205 hB209
    have hL212 : w.heap.size ≤ w208.heap.size := Nat.le_trans hL206 hB209.size
    refine WL.sub [(0, .slice a0' list_0.length c0'), (6, .slice a47 st180.2.length c48), (34, .slice a1' needs_1.length c1'), (35, .int .i64 (needs_1.length : Int)), (36, .int .i64 st180.1), (8, .pointer (some ⟨b200, 0, none⟩))] ⟨rfl, rfl, rfl, rfl, rfl, rfl, trivial⟩ ?_
    refine WL.nil ?_
    refine WQ.then_normal (hK197 _ _ _ ?_)
    refine WP.seq (fun K213 hK213 => ?_)
    refine WP.region ?_
    refine WL.runk 2 [0, 6, 8, 34, 35, 36, 41, 42] [(0, .slice a0' list_0.length c0'), (6, .slice a47 st180.2.length c48), (34, .slice a1' needs_1.length c1'), (35, .int .i64 (needs_1.length : Int)), (36, .int .i64 st180.1), (8, .pointer (some ⟨b200, 0, none⟩)), (41, .slice a0' list_0.length c0'), (42, .pointer (some ⟨b200, 0, none⟩))] (by kernel_rfl) ?_
    refine WL.st (.string (bs x198.Name)) (ST.load (cell_ext (SH.boxAt (SH.front 0 hS210) 0 _ rfl)) rfl rfl Try.underlying9 rfl) rfl rfl rfl ?_
    obtain ⟨x214, hx215, hm⟩ := bindE hm
    refine WL.call 68 #[.slice a0' list_0.length c0', .string (bs x198.Name)] rfl rfl (by kernel_rfl) (c_68 n list_0 a0' c0' x198.Name w208 hx215 (Rd.below h0 hb211) hle0) ?_
    rintro _ w216 ⟨rfl, hE217⟩
    refine ⟨_, rfl, ?_⟩
    have hb219 : Ext w w216 := Ext.trans hb211 hE217
    have hL220 : w.heap.size ≤ w216.heap.size := Nat.le_trans hL212 hE217.size
    have hS221 : SH w216 w.heap.size [aBox 43 b200 [.string (bs x198.Name), .int .i64 x198.Many], aOwn fInt 2 a47 c48 st180.2] := SH.ext hS210 hE217
    refine WL.runk 5 [0, 6, 8, 9, 10, 34, 35, 36] [(0, .slice a0' list_0.length c0'), (6, .slice a47 st180.2.length c48), (34, .slice a1' needs_1.length c1'), (35, .int .i64 (needs_1.length : Int)), (36, .int .i64 st180.1), (8, .pointer (some ⟨b200, 0, none⟩)), (9, .int .i64 x214.1), (10, .bool x214.2)] (by kernel_rfl) ?_
    refine WL.nil ?_
    refine WQ.then_normal (hK213 _ _ _ ?_)
    refine WP.seq (fun K222 hK222 => ?_)
    refine WP.seq (fun K223 hK223 => ?_)
    refine WP.region ?_
    refine WL.runk 2 [0, 6, 8, 9, 34, 35, 36, 48] [(0, .slice a0' list_0.length c0'), (6, .slice a47 st180.2.length c48), (34, .slice a1' needs_1.length c1'), (35, .int .i64 (needs_1.length : Int)), (36, .int .i64 st180.1), (8, .pointer (some ⟨b200, 0, none⟩)), (9, .int .i64 x214.1), (48, .bool (!x214.2))] (by kernel_rfl) ?_
    refine WL.nil ?_
    refine WQ.then_normal (hK223 _ _ _ ?_)
    refine WP.cond (!x214.2) rfl rfl (fun hc224 => ?_) (fun hc224 => ?_)
    · have hm := iteT hm hc224
      refine WP.seq (fun K225 hK225 => ?_)
      refine WP.region ?_
      refine WL.runk 2 [4, 5] [(4, .int .i64 0), (5, .int .i64 3)] (by kernel_rfl) ?_
      refine WL.nil ?_
      refine WQ.then_normal (hK225 _ _ _ ?_)
      refine WP.ret ?_
      refine WQ.then_ret ?_
      refine WQ.block_ret ?_
      refine WQ.then_ret ?_
      refine WQ.then_ret ?_
      refine WQ.block_ret ?_
      refine WQ.then_ret ?_
      obtain rfl := Option.some.inj hm
      obtain rfl := afterN_done hl185
      have hm := hmo186
      obtain rfl := Option.some.inj hm
      exact WQ.ret2 _ _ rfl rfl rfl ⟨rfl, hb219⟩
    have hm := iteF hm hc224
    refine WP.skip ?_
    refine WQ.then_normal (hK222 _ _ _ ?_)
    refine WP.open (n := 9) (by kernel_rfl) rfl (fun w226 hE227 => ?_)
    have hb228 : Ext w w226 := Ext.trans hb219 hE227
    have hL229 : w.heap.size ≤ w226.heap.size := Nat.le_trans hL220 hE227.size
    have hS230 : SH w226 w.heap.size [aBox 43 b200 [.string (bs x198.Name), .int .i64 x198.Many], aOwn fInt 2 a47 c48 st180.2] := SH.ext hS221 hE227
    refine WA.quiet (f' := 1) (D' := [0, 1, 2, 3, 4, 5, 6, 7]) [0, 1, 2, 3, 4, 5, 6, 7] rfl rfl (by kernel_rfl) ?_
    refine QL.step1v 49 (.slice a47 st180.2.length c48) rfl (fun _ => by kernel_rfl) ?_
    refine QL.step1v 50 (.int .i64 x214.1) rfl (fun _ => by kernel_rfl) ?_
    refine QL.subk [0, 6, 34, 35, 36, 8, 49, 50] [(0, .slice a0' list_0.length c0'), (6, .slice a47 st180.2.length c48), (34, .slice a1' needs_1.length c1'), (35, .int .i64 (needs_1.length : Int)), (36, .int .i64 st180.1), (8, .pointer (some ⟨b200, 0, none⟩)), (49, .slice a47 st180.2.length c48), (50, .int .i64 x214.1)] (by kernel_rfl) ?_
    obtain ⟨x231, hx232, hm⟩ := bindE hm
    refine QL.st (.pointer (some (at_ a47 (Int.toNat x214.1 * 1)))) (ST.index (T := fInt.ty) (xs := st180.2) (SH.rd (SH.front 1 hS230)) hx232 rfl rfl rfl Try.underlying83 (info2).1 (info2).2.1) rfl rfl rfl ?_
    refine QL.st (.int .i64 x231) (ST.load (cell_ext (Rd.flat (F := fInt) (SH.rd (SH.front 1 hS230)) hx232 0 rfl)) rfl rfl Try.underlying2 rfl) rfl rfl rfl ?_
    refine QL.step1v 53 (.pointer (some ⟨b200, 1, none⟩)) rfl (fun _ => by kernel_rfl) ?_
    refine QL.subk [0, 6, 34, 35, 36, 49, 50, 52, 53] [(0, .slice a0' list_0.length c0'), (6, .slice a47 st180.2.length c48), (34, .slice a1' needs_1.length c1'), (35, .int .i64 (needs_1.length : Int)), (36, .int .i64 st180.1), (49, .slice a47 st180.2.length c48), (50, .int .i64 x214.1), (52, .int .i64 x231), (53, .pointer (some ⟨b200, 1, none⟩))] (by kernel_rfl) ?_
    refine QL.st (.int .i64 x198.Many) (ST.load (cell_ext (SH.boxAt (SH.front 0 hS230) 1 _ rfl)) rfl rfl Try.underlying2 rfl) rfl rfl rfl ?_
    refine QL.step1v 55 (.int .i64 (wI64 (x231 + x198.Many))) rfl (fun _ => by kernel_rfl) ?_
    refine QL.subk [0, 6, 34, 35, 36, 49, 50, 55] [(0, .slice a0' list_0.length c0'), (6, .slice a47 st180.2.length c48), (34, .slice a1' needs_1.length c1'), (35, .int .i64 (needs_1.length : Int)), (36, .int .i64 st180.1), (49, .slice a47 st180.2.length c48), (50, .int .i64 x214.1), (55, .int .i64 (wI64 (x231 + x198.Many)))] (by kernel_rfl) ?_
    obtain ⟨x233, hx234, hm⟩ := bindE hm
    refine QL.st (.pointer (some (at_ a47 (Int.toNat x214.1 * 1)))) (ST.index (T := fInt.ty) (xs := st180.2) (SH.rd (SH.front 1 hS230)) hx234 rfl rfl rfl Try.underlying83 (info2).1 (info2).2.1) rfl rfl rfl ?_
    refine QL.subk [0, 6, 34, 35, 36, 55, 56] [(0, .slice a0' list_0.length c0'), (6, .slice a47 st180.2.length c48), (34, .slice a1' needs_1.length c1'), (35, .int .i64 (needs_1.length : Int)), (36, .int .i64 st180.1), (55, .int .i64 (wI64 (x231 + x198.Many))), (56, .pointer (some (at_ a47 (Int.toNat x214.1 * 1))))] (by kernel_rfl) ?_
    refine QL.nil ?_
    intro w235 hE236
    have hb237 : Ext w w235 := Ext.trans hb228 hE236
    have hL238 : w.heap.size ≤ w235.heap.size := Nat.le_trans hL229 hE236.size
    have hS239 : SH w235 w.heap.size [aBox 43 b200 [.string (bs x198.Name), .int .i64 x198.Many], aOwn fInt 2 a47 c48 st180.2] := SH.ext hS230 hE236
    refine WA.one (i := 8) (D' := [0, 1, 2, 3, 4, 5, 6, 7, 8]) rfl rfl (by kernel_rfl) ?_
    refine WL.store (F := fInt) (wI64 (x231 + x198.Many)) 0 [.int .i64 (wI64 (x231 + x198.Many))] (SH.front 1 hS239) hL238 hx234 rfl rfl rfl rfl rfl rfl rfl (info2).1 (info2).2.1 rfl rfl rfl ?_
    intro w240 hB241 hS242
    have hb243 : Ext w w240 := Below.trans hb237 hB241
    have hL244 : w.heap.size ≤ w240.heap.size := Nat.le_trans hL238 hB241.size
    refine WL.sub [(0, .slice a0' list_0.length c0'), (6, .slice a47 ((st180.2.set (Int.toNat x214.1) (wI64 (x231 + x198.Many))).length) c48), (34, .slice a1' needs_1.length c1'), (35, .int .i64 (needs_1.length : Int)), (36, .int .i64 st180.1), (55, .int .i64 (wI64 (x231 + x198.Many)))] ⟨rfl, by first | (simp only [List.length_set]; done) | (simp only [List.length_set]; rfl), rfl, rfl, rfl, rfl, trivial⟩ ?_
    refine WL.sub [(0, .slice a0' list_0.length c0'), (6, .slice a47 ((st180.2.set (Int.toNat x214.1) (wI64 (x231 + x198.Many))).length) c48), (34, .slice a1' needs_1.length c1'), (35, .int .i64 (needs_1.length : Int)), (36, .int .i64 st180.1)] ⟨rfl, rfl, rfl, rfl, rfl, trivial⟩ ?_
    refine WL.nil ?_
    refine WA.done (by kernel_rfl) ?_
    refine WQ.block_normal ?_
    refine WQ.then_normal (hK196 _ _ _ ?_)
    refine WP.region ?_
    refine WL.runk 2 [0, 6, 34, 35, 36] [(0, .slice a0' list_0.length c0'), (6, .slice a47 ((st180.2.set (Int.toNat x214.1) (wI64 (x231 + x198.Many))).length) c48), (34, .slice a1' needs_1.length c1'), (35, .int .i64 (needs_1.length : Int)), (36, .int .i64 (wI64 (st180.1 + 1)))] (by kernel_rfl) ?_
    refine WL.nil ?_
    obtain rfl := Option.some.inj hm
    exact WQ.round hK187 ⟨((wI64 (st180.1 + 1)), (st180.2.set (Int.toNat x214.1) (wI64 (x231 + x198.Many)))), rfl, hb243, hL244, (SH.take 1 hS242), hl185⟩ (Nat.lt_succ_self _) ⟨rfl, rfl, rfl, rfl, rfl, trivial⟩
  have hm := iteF hm hc195
  refine WP.exit ?_
  refine WQ.then_exit ?_
  refine WQ.then_exit ?_
  refine WQ.block_here ?_
  obtain rfl := Option.some.inj hm
  obtain rfl := afterN_done hl185
  have hm := hmo186
  refine WQ.then_normal (hK56 _ _ _ ?_)
  refine WP.seq (fun K245 hK245 => ?_)
  refine WP.region ?_
  refine WL.runk 1 [0, 6, 11] [(0, .slice a0' list_0.length c0'), (6, .slice a47 st180.2.length c48), (11, .int .i64 (-1))] (by kernel_rfl) ?_
  refine WL.nil ?_
  refine WQ.then_normal (hK245 _ _ _ ?_)
  refine WP.seq (fun K246 hK246 => ?_)
  refine WP.seq (fun K247 hK247 => ?_)
  refine WP.region ?_
  refine WL.runk 3 [0, 11, 58, 59, 60] [(0, .slice a0' list_0.length c0'), (11, .int .i64 (-1)), (58, .slice a47 st180.2.length c48), (59, .int .i64 (st180.2.length : Int)), (60, .int .i64 0)] (by kernel_rfl) ?_
  refine WL.nil ?_
  refine WQ.then_normal (hK247 _ _ _ ?_)
  refine WP.block ?_
  obtain ⟨t259, ht260, hm⟩ := bindE hm
  have hmo254 := hm; clear hm
  refine WP.sub [(0, .slice a0' list_0.length c0'), (11, .int .i64 (-1)), (58, .slice a47 st180.2.length c48), (59, .int .i64 (st180.2.length : Int)), (60, .int .i64 0)] ⟨rfl, rfl, rfl, rfl, rfl, trivial⟩ ?_
  refine WP.loop (fun n' env' w' => ∃ (st248 : Int × Int) , env' = [(0, .slice a0' list_0.length c0'), (11, .int .i64 st248.1), (58, .slice a47 st180.2.length c48), (59, .int .i64 (st180.2.length : Int)), (60, .int .i64 st248.2)] ∧ Ext w w' ∧ w.heap.size ≤ w'.heap.size ∧ SH w' w.heap.size [aOwn fInt 2 a47 c48 st180.2] ∧ loopN (m_impl_CanMake_l3 n list_0 st180) n' st248 = some t259) n ⟨((-1), 0), rfl, hb182, hL183, hS184, ht260⟩ ?_
  rintro n256 _ w249 ⟨st248, rfl, hb250, hL251, hS252, hl253⟩ K255 hK255
  obtain ⟨n257, s258, rfl, hm, hl253⟩ := loopN_some hl253
  unfold m_impl_CanMake_l3 at hm
  refine WP.seq (fun K261 hK261 => ?_)
  refine WP.region ?_
  refine WL.runk 1 [0, 11, 58, 59, 60, 61] [(0, .slice a0' list_0.length c0'), (11, .int .i64 st248.1), (58, .slice a47 st180.2.length c48), (59, .int .i64 (st180.2.length : Int)), (60, .int .i64 st248.2), (61, .bool (decide (st248.2 < (st180.2.length : Int))))] (by kernel_rfl) ?_
  refine WL.nil ?_
  refine WQ.then_normal (hK261 _ _ _ ?_)
  refine WP.seq (fun K262 hK262 => ?_)
  refine WP.cond (decide (st248.2 < (st180.2.length : Int))) rfl rfl (fun hc263 => ?_) (fun hc263 => ?_)
  rotate_left
  · have hm := iteF hm hc263
    refine WP.exit ?_
    refine WQ.then_exit ?_
    refine WQ.then_exit ?_
    refine WQ.block_here ?_
    obtain rfl := Option.some.inj hm
    obtain rfl := afterN_done hl253
    have hm := hmo254
    refine WQ.then_normal (hK246 _ _ _ ?_)
    refine WP.seq (fun K299 hK299 => ?_)
    refine WP.region ?_
    refine WL.runk 3 [4, 5] [(4, .int .i64 st248.1), (5, .int .i64 0)] (by kernel_rfl) ?_
    refine WL.nil ?_
    refine WQ.then_normal (hK299 _ _ _ ?_)
    refine WP.ret ?_
    obtain rfl := Option.some.inj hm
    exact WQ.ret2 _ _ rfl rfl rfl ⟨rfl, hb250⟩
  have hm := iteT hm hc263
  refine WP.skip ?_
  refine WQ.then_normal (hK262 _ _ _ ?_)
  refine WP.seq (fun K264 hK264 => ?_)
  refine WP.block ?_
  refine WP.seq (fun K265 hK265 => ?_)
  refine WP.region ?_
  refine WL.runk 1 [0, 11, 58, 59, 60, 62] [(0, .slice a0' list_0.length c0'), (11, .int .i64 st248.1), (58, .slice a47 st180.2.length c48), (59, .int .i64 (st180.2.length : Int)), (60, .int .i64 st248.2), (62, .int .i64 st248.2)] (by kernel_rfl) ?_
  obtain ⟨x266, hx267, hm⟩ := bindE hm
  refine WL.st (.pointer (some (at_ a47 (Int.toNat st248.2 * 1)))) (ST.index (T := fInt.ty) (xs := st180.2) (SH.rd (SH.front 0 hS252)) hx267 rfl rfl rfl Try.underlying83 (info2).1 (info2).2.1) rfl rfl rfl ?_
  refine WL.st (.int .i64 x266) (ST.load (cell_ext (Rd.flat (F := fInt) (SH.rd (SH.front 0 hS252)) hx267 0 rfl)) rfl rfl Try.underlying2 rfl) rfl rfl rfl ?_
  refine WL.runk 2 [0, 11, 12, 13, 58, 59, 60] [(0, .slice a0' list_0.length c0'), (11, .int .i64 st248.1), (58, .slice a47 st180.2.length c48), (59, .int .i64 (st180.2.length : Int)), (60, .int .i64 st248.2), (12, .int .i64 st248.2), (13, .int .i64 x266)] (by kernel_rfl) ?_
  refine WL.nil ?_
  refine WQ.then_normal (hK265 _ _ _ ?_)
  refine WP.seq (fun K268 hK268 => ?_)
  refine WP.seq (fun K269 hK269 => ?_)
  refine WP.region ?_
  refine WL.runk 2 [0, 11, 12, 13, 58, 59, 60, 66] [(0, .slice a0' list_0.length c0'), (11, .int .i64 st248.1), (58, .slice a47 st180.2.length c48), (59, .int .i64 (st180.2.length : Int)), (60, .int .i64 st248.2), (12, .int .i64 st248.2), (13, .int .i64 x266), (66, .bool (x266 == 0))] (by kernel_rfl) ?_
  refine WL.nil ?_
  refine WQ.then_normal (hK269 _ _ _ ?_)
  refine WP.cond (x266 == 0) rfl rfl (fun hc270 => ?_) (fun hc270 => ?_)
  · have hm := iteT hm hc270
    refine WP.exit ?_
    refine WQ.then_exit ?_
    refine WQ.block_here ?_
    refine WQ.then_normal (hK264 _ _ _ ?_)
    refine WP.region ?_
    refine WL.runk 2 [0, 11, 58, 59, 60] [(0, .slice a0' list_0.length c0'), (11, .int .i64 st248.1), (58, .slice a47 st180.2.length c48), (59, .int .i64 (st180.2.length : Int)), (60, .int .i64 (wI64 (st248.2 + 1)))] (by kernel_rfl) ?_
    refine WL.nil ?_
    obtain rfl := Option.some.inj hm
    exact WQ.round hK255 ⟨(st248.1, (wI64 (st248.2 + 1))), rfl, hb250, hL251, hS252, hl253⟩ (Nat.lt_succ_self _) ⟨rfl, rfl, rfl, rfl, rfl, trivial⟩
  have hm := iteF hm hc270
  refine WP.skip ?_
  refine WQ.then_normal (hK268 _ _ _ ?_)
  refine WP.seq (fun K271 hK271 => ?_)
  refine WP.quiet (by kernel_rfl) (by kernel_rfl) ?_
  refine QL.step1v 67 (.slice a0' list_0.length c0') rfl (fun _ => by kernel_rfl) ?_
  refine QL.step1v 68 (.int .i64 st248.2) rfl (fun _ => by kernel_rfl) ?_
  refine QL.subk [0, 11, 58, 59, 60, 12, 13, 67, 68] [(0, .slice a0' list_0.length c0'), (11, .int .i64 st248.1), (58, .slice a47 st180.2.length c48), (59, .int .i64 (st180.2.length : Int)), (60, .int .i64 st248.2), (12, .int .i64 st248.2), (13, .int .i64 x266), (67, .slice a0' list_0.length c0'), (68, .int .i64 st248.2)] (by kernel_rfl) ?_
  obtain ⟨x272, hx273, hm⟩ := bindE hm
  refine QL.st (.pointer (some (at_ a0' (Int.toNat st248.2 * 4)))) (ST.index (T := fGood.ty) (xs := list_0) (Rd.below h0 hb250) hx273 rfl rfl rfl Try.underlying25 (info56).1 (info56).2.1) rfl rfl rfl ?_
  refine QL.step1v 70 (.pointer (some (at_ a0' (Int.toNat st248.2 * 4 + 1)))) rfl (fun _ => by kernel_rfl) ?_
  refine QL.subk [0, 11, 58, 59, 60, 12, 13, 70] [(0, .slice a0' list_0.length c0'), (11, .int .i64 st248.1), (58, .slice a47 st180.2.length c48), (59, .int .i64 (st180.2.length : Int)), (60, .int .i64 st248.2), (12, .int .i64 st248.2), (13, .int .i64 x266), (70, .pointer (some (at_ a0' (Int.toNat st248.2 * 4 + 1))))] (by kernel_rfl) ?_
  refine QL.st (.int .i64 x272.OnHand) (ST.load (cell_ext (Rd.flat (F := fGood) (Rd.below h0 hb250) hx273 1 rfl)) rfl rfl Try.underlying2 rfl) rfl rfl rfl ?_
  refine QL.step1v 72 (.slice a0' list_0.length c0') rfl (fun _ => by kernel_rfl) ?_
  refine QL.step1v 73 (.int .i64 st248.2) rfl (fun _ => by kernel_rfl) ?_
  refine QL.subk [0, 11, 58, 59, 60, 13, 71, 72, 73] [(0, .slice a0' list_0.length c0'), (11, .int .i64 st248.1), (58, .slice a47 st180.2.length c48), (59, .int .i64 (st180.2.length : Int)), (60, .int .i64 st248.2), (13, .int .i64 x266), (71, .int .i64 x272.OnHand), (72, .slice a0' list_0.length c0'), (73, .int .i64 st248.2)] (by kernel_rfl) ?_
  obtain ⟨x274, hx275, hm⟩ := bindE hm
  refine QL.st (.pointer (some (at_ a0' (Int.toNat st248.2 * 4)))) (ST.index (T := fGood.ty) (xs := list_0) (Rd.below h0 hb250) hx275 rfl rfl rfl Try.underlying25 (info56).1 (info56).2.1) rfl rfl rfl ?_
  refine QL.step1v 75 (.pointer (some (at_ a0' (Int.toNat st248.2 * 4 + 2)))) rfl (fun _ => by kernel_rfl) ?_
  refine QL.subk [0, 11, 58, 59, 60, 13, 71, 75] [(0, .slice a0' list_0.length c0'), (11, .int .i64 st248.1), (58, .slice a47 st180.2.length c48), (59, .int .i64 (st180.2.length : Int)), (60, .int .i64 st248.2), (13, .int .i64 x266), (71, .int .i64 x272.OnHand), (75, .pointer (some (at_ a0' (Int.toNat st248.2 * 4 + 2))))] (by kernel_rfl) ?_
  refine QL.st (.int .i64 x274.Reserved) (ST.load (cell_ext (Rd.flat (F := fGood) (Rd.below h0 hb250) hx275 2 rfl)) rfl rfl Try.underlying2 rfl) rfl rfl rfl ?_
  refine QL.step1v 77 (.int .i64 (wI64 (x272.OnHand - x274.Reserved))) rfl (fun _ => by kernel_rfl) ?_
  refine QL.step1v 78 (.int .i64 x266) rfl (fun _ => by kernel_rfl) ?_
  refine QL.subk [0, 11, 58, 59, 60, 77, 78] [(0, .slice a0' list_0.length c0'), (11, .int .i64 st248.1), (58, .slice a47 st180.2.length c48), (59, .int .i64 (st180.2.length : Int)), (60, .int .i64 st248.2), (77, .int .i64 (wI64 (x272.OnHand - x274.Reserved))), (78, .int .i64 x266)] (by kernel_rfl) ?_
  obtain ⟨x276, hx277, hm⟩ := bindE hm
  refine QL.st (.int .i64 x276) (ST.quo (k := .i64) hx277 rfl rfl rfl) rfl rfl rfl ?_
  refine QL.step1v 14 (.int .i64 x276) rfl (fun _ => by kernel_rfl) ?_
  refine QL.subk [0, 11, 58, 59, 60, 14] [(0, .slice a0' list_0.length c0'), (11, .int .i64 st248.1), (58, .slice a47 st180.2.length c48), (59, .int .i64 (st180.2.length : Int)), (60, .int .i64 st248.2), (14, .int .i64 x276)] (by kernel_rfl) ?_
  refine QL.nil ?_
  intro w278 hE279
  have hb280 : Ext w w278 := Ext.trans hb250 hE279
  have hL281 : w.heap.size ≤ w278.heap.size := Nat.le_trans hL251 hE279.size
  have hS282 : SH w278 w.heap.size [aOwn fInt 2 a47 c48 st180.2] := SH.ext hS252 hE279
  refine WQ.then_normal (hK271 _ _ _ ?_)
  refine WP.seq (fun K283 hK283 => ?_)
  obtain ⟨x285, hx286, hm⟩ := bindE hm
  refine WP.cut (fun env' w' => env' = [(0, .slice a0' list_0.length c0'), (11, .int .i64 st248.1), (58, .slice a47 st180.2.length c48), (59, .int .i64 (st180.2.length : Int)), (60, .int .i64 st248.2), (14, .int .i64 x276), (86, .bool x285)] ∧ Ext w w' ∧ w.heap.size ≤ w'.heap.size ∧ SH w' w.heap.size [aOwn fInt 2 a47 c48 st180.2]) ?_ ?_
  · have hm := hx286; clear hx286
    refine WP.region ?_
    refine WL.runk 3 [0, 11, 14, 58, 59, 60, 82] [(0, .slice a0' list_0.length c0'), (11, .int .i64 st248.1), (58, .slice a47 st180.2.length c48), (59, .int .i64 (st180.2.length : Int)), (60, .int .i64 st248.2), (14, .int .i64 x276), (82, .bool (decide (st248.1 < 0)))] (by kernel_rfl) ?_
    refine WL.case (decide (st248.1 < 0)) [82] ⟨rfl, trivial⟩ (fun hc287 => ?_) (fun hc287 => ?_)
    · have hm := iteT hm hc287
      refine WL.runk 4 [0, 11, 14, 58, 59, 60, 86] [(0, .slice a0' list_0.length c0'), (11, .int .i64 st248.1), (58, .slice a47 st180.2.length c48), (59, .int .i64 (st180.2.length : Int)), (60, .int .i64 st248.2), (14, .int .i64 x276), (86, .bool true)] (by kernel_rfl) ?_
      refine WL.nil ?_
      obtain rfl := Option.some.inj hm
      exact WQ.post' ⟨rfl, hb280, hL281, hS282⟩ ⟨rfl, rfl, rfl, rfl, rfl, rfl, rfl, trivial⟩
    have hm := iteF hm hc287
    refine WL.runk 4 [0, 11, 14, 58, 59, 60, 86] [(0, .slice a0' list_0.length c0'), (11, .int .i64 st248.1), (58, .slice a47 st180.2.length c48), (59, .int .i64 (st180.2.length : Int)), (60, .int .i64 st248.2), (14, .int .i64 x276), (86, .bool (decide (x276 < st248.1)))] (by kernel_rfl) ?_
    refine WL.nil ?_
    obtain rfl := Option.some.inj hm
    exact WQ.post' ⟨rfl, hb280, hL281, hS282⟩ ⟨rfl, rfl, rfl, rfl, rfl, rfl, rfl, trivial⟩
  clear hx286
  rintro _ w288 ⟨rfl, hb289, hL290, hS291⟩
  refine WQ.then_normal (hK283 _ _ _ ?_)
  obtain ⟨x293, hx294, hm⟩ := bindE hm
  refine WP.cut (fun env' w' => env' = [(0, .slice a0' list_0.length c0'), (11, .int .i64 x293), (58, .slice a47 st180.2.length c48), (59, .int .i64 (st180.2.length : Int)), (60, .int .i64 st248.2)] ∧ Ext w w' ∧ w.heap.size ≤ w'.heap.size ∧ SH w' w.heap.size [aOwn fInt 2 a47 c48 st180.2]) ?_ ?_
  rotate_left
  · clear hx294
    rintro _ w295 ⟨rfl, hb296, hL297, hS298⟩
    refine WQ.block_normal ?_
    refine WQ.then_normal (hK264 _ _ _ ?_)
    refine WP.region ?_
    refine WL.runk 2 [0, 11, 58, 59, 60] [(0, .slice a0' list_0.length c0'), (11, .int .i64 x293), (58, .slice a47 st180.2.length c48), (59, .int .i64 (st180.2.length : Int)), (60, .int .i64 (wI64 (st248.2 + 1)))] (by kernel_rfl) ?_
    refine WL.nil ?_
    obtain rfl := Option.some.inj hm
    exact WQ.round hK255 ⟨(x293, (wI64 (st248.2 + 1))), rfl, hb296, hL297, hS298, hl253⟩ (Nat.lt_succ_self _) ⟨rfl, rfl, rfl, rfl, rfl, trivial⟩
  have hm := hx294; clear hx294
  refine WP.cond x285 rfl rfl (fun hc292 => ?_) (fun hc292 => ?_)
  rotate_left
  · have hm := iteF hm hc292
    refine WP.skip ?_
    obtain rfl := Option.some.inj hm
    exact WQ.post' ⟨rfl, hb289, hL290, hS291⟩ ⟨rfl, rfl, rfl, rfl, rfl, trivial⟩
  have hm := iteT hm hc292
  refine WP.region ?_
  refine WL.runk 2 [0, 11, 58, 59, 60] [(0, .slice a0' list_0.length c0'), (11, .int .i64 x276), (58, .slice a47 st180.2.length c48), (59, .int .i64 (st180.2.length : Int)), (60, .int .i64 st248.2)] (by kernel_rfl) ?_
  refine WL.nil ?_
  obtain rfl := Option.some.inj hm
  exact WQ.post' ⟨rfl, hb289, hL290, hS291⟩ ⟨rfl, rfl, rfl, rfl, rfl, trivial⟩

theorem c_9 (n : Nat) (aList_0 : List SGood) (a0' : Option Addr) (c0' : Nat) (aNeeds_1 : List STake) (a1' : Option Addr) (c1' : Nat) (w : World) {r : Bool} (hm : m_laws_FnExactCanMake n aList_0 aNeeds_1 = some r) (h0 : Rd fGood.ty w a0' aList_0) (hle0 : aList_0.length ≤ c0') (h1 : Rd fTake.ty w a1' aNeeds_1) (hle1 : aNeeds_1.length ≤ c1') :
    CallV Try.prog 9 #[.slice a0' aList_0.length c0', .slice a1' aNeeds_1.length c1'] w (fun v w' => v = .bool r ∧ Ext w w') := by
  unfold m_laws_FnExactCanMake at hm
  refine CallV.enter Try.func9 rfl (by kernel_rfl) Try.ntmps9 (env := [(0, .slice a0' aList_0.length c0'), (1, .slice a1' aNeeds_1.length c1')]) ⟨rfl, rfl, trivial⟩ ?_
  refine WP.seq (fun K1 hK1 => ?_)
  refine WP.region ?_
  refine WL.runk 1 [0, 1] [(0, .slice a0' aList_0.length c0'), (1, .slice a1' aNeeds_1.length c1')] (by kernel_rfl) ?_
  refine WL.nil ?_
  refine WQ.then_normal (hK1 _ _ _ ?_)
  refine WP.seq (fun K2 hK2 => ?_)
  refine WP.region ?_
  refine WL.runk 1 [0, 1, 5] [(0, .slice a0' aList_0.length c0'), (1, .slice a1' aNeeds_1.length c1'), (5, .int .i64 1048576)] (by kernel_rfl) ?_
  refine WL.nil ?_
  refine WQ.then_normal (hK2 _ _ _ ?_)
  refine WP.seq (fun K3 hK3 => ?_)
  refine WP.region ?_
  refine WL.runk 2 [0, 1, 12, 13] [(0, .slice a0' aList_0.length c0'), (1, .slice a1' aNeeds_1.length c1'), (12, .slice a0' aList_0.length c0'), (13, .int .i64 1048576)] (by kernel_rfl) ?_
  obtain ⟨x4, hx5, hm⟩ := bindE hm
  refine WL.call 13 #[.slice a0' aList_0.length c0', .int .i64 1048576] rfl rfl (by kernel_rfl) (c_13 n aList_0 a0' c0' 1048576 w hx5 (Rd.below h0 (Ext.refl w)) hle0) ?_
  rintro _ w6 ⟨rfl, hE7⟩
  refine ⟨_, rfl, ?_⟩
  have hb9 : Ext w w6 := Ext.trans (Ext.refl w) hE7
  have hL10 : w.heap.size ≤ w6.heap.size := Nat.le_trans (Nat.le_refl _) hE7.size
  have hS11 : SH w6 w.heap.size [] := SH.ext (SH.nil _ _) hE7
  refine WL.runk 1 [0, 1, 5] [(0, .slice a0' aList_0.length c0'), (1, .slice a1' aNeeds_1.length c1'), (5, .int .i64 x4)] (by kernel_rfl) ?_
  refine WL.nil ?_
  refine WQ.then_normal (hK3 _ _ _ ?_)
  refine WP.seq (fun K12 hK12 => ?_)
  refine WP.seq (fun K13 hK13 => ?_)
  refine WP.region ?_
  refine WL.runk 2 [0, 1, 5, 16] [(0, .slice a0' aList_0.length c0'), (1, .slice a1' aNeeds_1.length c1'), (5, .int .i64 x4), (16, .bool (decide (x4 < 0)))] (by kernel_rfl) ?_
  refine WL.nil ?_
  refine WQ.then_normal (hK13 _ _ _ ?_)
  refine WP.cond (decide (x4 < 0)) rfl rfl (fun hc14 => ?_) (fun hc14 => ?_)
  · have hm := iteT hm hc14
    refine WP.seq (fun K15 hK15 => ?_)
    refine WP.region ?_
    refine WL.runk 1 [4] [(4, .bool true)] (by kernel_rfl) ?_
    refine WL.nil ?_
    refine WQ.then_normal (hK15 _ _ _ ?_)
    refine WP.ret ?_
    refine WQ.then_ret ?_
    obtain rfl := Option.some.inj hm
    exact WQ.ret1 _ rfl rfl ⟨rfl, hb9⟩
  have hm := iteF hm hc14
  refine WP.skip ?_
  refine WQ.then_normal (hK12 _ _ _ ?_)
  refine WP.seq (fun K16 hK16 => ?_)
  refine WP.region ?_
  refine WL.runk 2 [0, 1, 17, 18] [(0, .slice a0' aList_0.length c0'), (1, .slice a1' aNeeds_1.length c1'), (17, .slice a1' aNeeds_1.length c1'), (18, .int .i64 x4)] (by kernel_rfl) ?_
  obtain ⟨x17, hx18, hm⟩ := bindE hm
  refine WL.call 35 #[.slice a1' aNeeds_1.length c1', .int .i64 x4] rfl rfl (by kernel_rfl) (c_35 n aNeeds_1 a1' c1' x4 w6 hx18 (Rd.below h1 hb9) hle1) ?_
  rintro _ w19 ⟨rfl, hE20⟩
  refine ⟨_, rfl, ?_⟩
  have hb22 : Ext w w19 := Ext.trans hb9 hE20
  have hL23 : w.heap.size ≤ w19.heap.size := Nat.le_trans hL10 hE20.size
  have hS24 : SH w19 w.heap.size [] := SH.ext hS11 hE20
  refine WL.runk 1 [0, 1, 5] [(0, .slice a0' aList_0.length c0'), (1, .slice a1' aNeeds_1.length c1'), (5, .int .i64 x17)] (by kernel_rfl) ?_
  refine WL.nil ?_
  refine WQ.then_normal (hK16 _ _ _ ?_)
  refine WP.seq (fun K25 hK25 => ?_)
  refine WP.seq (fun K26 hK26 => ?_)
  refine WP.region ?_
  refine WL.runk 2 [0, 1, 21] [(0, .slice a0' aList_0.length c0'), (1, .slice a1' aNeeds_1.length c1'), (21, .bool (decide (x17 < 0)))] (by kernel_rfl) ?_
  refine WL.nil ?_
  refine WQ.then_normal (hK26 _ _ _ ?_)
  refine WP.cond (decide (x17 < 0)) rfl rfl (fun hc27 => ?_) (fun hc27 => ?_)
  · have hm := iteT hm hc27
    refine WP.seq (fun K28 hK28 => ?_)
    refine WP.region ?_
    refine WL.runk 1 [4] [(4, .bool true)] (by kernel_rfl) ?_
    refine WL.nil ?_
    refine WQ.then_normal (hK28 _ _ _ ?_)
    refine WP.ret ?_
    refine WQ.then_ret ?_
    obtain rfl := Option.some.inj hm
    exact WQ.ret1 _ rfl rfl ⟨rfl, hb22⟩
  have hm := iteF hm hc27
  refine WP.skip ?_
  refine WQ.then_normal (hK25 _ _ _ ?_)
  refine WP.seq (fun K29 hK29 => ?_)
  refine WP.region ?_
  refine WL.runk 1 [0, 1, 23] [(0, .slice a0' aList_0.length c0'), (1, .slice a1' aNeeds_1.length c1'), (23, .slice a0' aList_0.length c0')] (by kernel_rfl) ?_
  obtain ⟨x30, hx31, hm⟩ := bindE hm
  refine WL.call 15 #[.slice a0' aList_0.length c0'] rfl rfl (by kernel_rfl) (c_15 n aList_0 a0' c0' w19 hx31 (Rd.below h0 hb22) hle0) ?_
  rintro _ w35 ⟨a32, c33, rfl, hE36, hR37⟩
  refine ⟨_, rfl, ?_⟩
  have hb38 : Ext w w35 := Ext.trans hb22 hE36
  have hL39 : w.heap.size ≤ w35.heap.size := Nat.le_trans hL23 hE36.size
  have hS40 : SH w35 w.heap.size [aOwn fGood 56 a32 c33 x30] := SH.add hS24 hE36 hL23 hR37
  refine WL.runk 1 [0, 1, 24, 25] [(0, .slice a0' aList_0.length c0'), (1, .slice a1' aNeeds_1.length c1'), (24, .slice a32 x30.length c33), (25, .slice a1' aNeeds_1.length c1')] (by kernel_rfl) ?_
  obtain ⟨x41, hx42, hm⟩ := bindE hm
  refine WL.call 37 #[.slice a1' aNeeds_1.length c1'] rfl rfl (by kernel_rfl) (c_37 n aNeeds_1 a1' c1' w35 hx42 (Rd.below h1 hb38) hle1) ?_
  rintro _ w46 ⟨a43, c44, rfl, hE47, hR48⟩
  refine ⟨_, rfl, ?_⟩
  have hb49 : Ext w w46 := Ext.trans hb38 hE47
  have hL50 : w.heap.size ≤ w46.heap.size := Nat.le_trans hL39 hE47.size
  have hS51 : SH w46 w.heap.size [aOwn fTake 43 a43 c44 x41, aOwn fGood 56 a32 c33 x30] := SH.add hS40 hE47 hL39 hR48
  obtain ⟨x52, hx53, hm⟩ := bindE hm
  refine WL.call 36 #[.slice a32 x30.length c33, .slice a43 x41.length c44] rfl rfl (by kernel_rfl) (c_36 n x30 a32 c33 x41 a43 c44 w46 hx53 (SH.rd (SH.front 1 hS51)) (SH.le (SH.front 1 hS51)).1 (SH.rd (SH.front 0 hS51)) (SH.le (SH.front 0 hS51)).1) ?_
  rintro _ w54 ⟨rfl, hE55⟩
  refine ⟨_, rfl, ?_⟩
  have hb57 : Ext w w54 := Ext.trans hb49 hE55
  have hL58 : w.heap.size ≤ w54.heap.size := Nat.le_trans hL50 hE55.size
  have hS59 : SH w54 w.heap.size [aOwn fTake 43 a43 c44 x41, aOwn fGood 56 a32 c33 x30] := SH.ext hS51 hE55
  refine WL.runk 5 [0, 1, 6, 7] [(0, .slice a0' aList_0.length c0'), (1, .slice a1' aNeeds_1.length c1'), (6, .int .i64 x52.1), (7, .int .i64 x52.2)] (by kernel_rfl) ?_
  refine WL.nil ?_
  refine WQ.then_normal (hK29 _ _ _ ?_)
  refine WP.seq (fun K60 hK60 => ?_)
  refine WP.region ?_
  refine WL.runk 1 [0, 1, 6, 7, 30] [(0, .slice a0' aList_0.length c0'), (1, .slice a1' aNeeds_1.length c1'), (6, .int .i64 x52.1), (7, .int .i64 x52.2), (30, .slice a0' aList_0.length c0')] (by kernel_rfl) ?_
  obtain ⟨x61, hx62, hm⟩ := bindE hm
  refine WL.call 15 #[.slice a0' aList_0.length c0'] rfl rfl (by kernel_rfl) (c_15 n aList_0 a0' c0' w54 hx62 (Rd.below h0 hb57) hle0) ?_
  rintro _ w66 ⟨a63, c64, rfl, hE67, hR68⟩
  refine ⟨_, rfl, ?_⟩
  have hb69 : Ext w w66 := Ext.trans hb57 hE67
  have hL70 : w.heap.size ≤ w66.heap.size := Nat.le_trans hL58 hE67.size
  have hS71 : SH w66 w.heap.size [aOwn fGood 56 a63 c64 x61, aOwn fTake 43 a43 c44 x41, aOwn fGood 56 a32 c33 x30] := SH.add hS59 hE67 hL58 hR68
  refine WL.runk 1 [0, 1, 6, 7, 8] [(0, .slice a0' aList_0.length c0'), (1, .slice a1' aNeeds_1.length c1'), (6, .int .i64 x52.1), (7, .int .i64 x52.2), (8, .slice a63 x61.length c64)] (by kernel_rfl) ?_
  refine WL.nil ?_
  refine WQ.then_normal (hK60 _ _ _ ?_)
  refine WP.seq (fun K72 hK72 => ?_)
  refine WP.region ?_
  refine WL.runk 1 [0, 1, 6, 7, 8, 32] [(0, .slice a0' aList_0.length c0'), (1, .slice a1' aNeeds_1.length c1'), (6, .int .i64 x52.1), (7, .int .i64 x52.2), (8, .slice a63 x61.length c64), (32, .slice a1' aNeeds_1.length c1')] (by kernel_rfl) ?_
  obtain ⟨x73, hx74, hm⟩ := bindE hm
  refine WL.call 37 #[.slice a1' aNeeds_1.length c1'] rfl rfl (by kernel_rfl) (c_37 n aNeeds_1 a1' c1' w66 hx74 (Rd.below h1 hb69) hle1) ?_
  rintro _ w78 ⟨a75, c76, rfl, hE79, hR80⟩
  refine ⟨_, rfl, ?_⟩
  have hb81 : Ext w w78 := Ext.trans hb69 hE79
  have hL82 : w.heap.size ≤ w78.heap.size := Nat.le_trans hL70 hE79.size
  have hS83 : SH w78 w.heap.size [aOwn fTake 43 a75 c76 x73, aOwn fGood 56 a63 c64 x61, aOwn fTake 43 a43 c44 x41, aOwn fGood 56 a32 c33 x30] := SH.add hS71 hE79 hL70 hR80
  refine WL.runk 1 [0, 1, 6, 7, 8, 9] [(0, .slice a0' aList_0.length c0'), (1, .slice a1' aNeeds_1.length c1'), (6, .int .i64 x52.1), (7, .int .i64 x52.2), (8, .slice a63 x61.length c64), (9, .slice a75 x73.length c76)] (by kernel_rfl) ?_
  refine WL.nil ?_
  refine WQ.then_normal (hK72 _ _ _ ?_)
  refine WP.seq (fun K84 hK84 => ?_)
  refine WP.region ?_
  refine WL.runk 2 [0, 1, 6, 7, 8, 9, 35, 36] [(0, .slice a0' aList_0.length c0'), (1, .slice a1' aNeeds_1.length c1'), (6, .int .i64 x52.1), (7, .int .i64 x52.2), (8, .slice a63 x61.length c64), (9, .slice a75 x73.length c76), (35, .slice a63 x61.length c64), (36, .slice a75 x73.length c76)] (by kernel_rfl) ?_
  obtain ⟨x85, hx86, hm⟩ := bindE hm
  refine WL.call 38 #[.slice a63 x61.length c64, .slice a75 x73.length c76] rfl rfl (by kernel_rfl) (c_38 n x61 a63 c64 x73 a75 c76 w78 hx86 (SH.rd (SH.front 1 hS83)) (SH.le (SH.front 1 hS83)).1 (SH.rd (SH.front 0 hS83)) (SH.le (SH.front 0 hS83)).1) ?_
  rintro _ w87 ⟨rfl, hE88⟩
  refine ⟨_, rfl, ?_⟩
  have hb90 : Ext w w87 := Ext.trans hb81 hE88
  have hL91 : w.heap.size ≤ w87.heap.size := Nat.le_trans hL82 hE88.size
  have hS92 : SH w87 w.heap.size [aOwn fTake 43 a75 c76 x73, aOwn fGood 56 a63 c64 x61, aOwn fTake 43 a43 c44 x41, aOwn fGood 56 a32 c33 x30] := SH.ext hS83 hE88
  refine WL.runk 5 [0, 1, 6, 7, 8, 9, 10, 11] [(0, .slice a0' aList_0.length c0'), (1, .slice a1' aNeeds_1.length c1'), (6, .int .i64 x52.1), (7, .int .i64 x52.2), (8, .slice a63 x61.length c64), (9, .slice a75 x73.length c76), (10, .int .i64 x85.1), (11, .int .i64 x85.2)] (by kernel_rfl) ?_
  refine WL.nil ?_
  refine WQ.then_normal (hK84 _ _ _ ?_)
  refine WP.seq (fun K93 hK93 => ?_)
  refine WP.seq (fun K94 hK94 => ?_)
  obtain ⟨x96, hx97, hm⟩ := bindE hm
  refine WP.cut (fun env' w' => env' = [(0, .slice a0' aList_0.length c0'), (1, .slice a1' aNeeds_1.length c1'), (8, .slice a63 x61.length c64), (9, .slice a75 x73.length c76), (47, .bool x96)] ∧ Ext w w' ∧ w.heap.size ≤ w'.heap.size ∧ SH w' w.heap.size [aOwn fTake 43 a75 c76 x73, aOwn fGood 56 a63 c64 x61, aOwn fTake 43 a43 c44 x41, aOwn fGood 56 a32 c33 x30]) ?_ ?_
  · have hm := hx97; clear hx97
    refine WP.region ?_
    refine WL.runk 4 [0, 1, 7, 8, 9, 11, 43] [(0, .slice a0' aList_0.length c0'), (1, .slice a1' aNeeds_1.length c1'), (7, .int .i64 x52.2), (8, .slice a63 x61.length c64), (9, .slice a75 x73.length c76), (11, .int .i64 x85.2), (43, .bool (x85.1 != x52.1))] (by kernel_rfl) ?_
    refine WL.case (x85.1 != x52.1) [43] ⟨rfl, trivial⟩ (fun hc98 => ?_) (fun hc98 => ?_)
    · have hm := iteT hm hc98
      refine WL.runk 4 [0, 1, 8, 9, 47] [(0, .slice a0' aList_0.length c0'), (1, .slice a1' aNeeds_1.length c1'), (8, .slice a63 x61.length c64), (9, .slice a75 x73.length c76), (47, .bool true)] (by kernel_rfl) ?_
      refine WL.nil ?_
      obtain rfl := Option.some.inj hm
      exact WQ.post' ⟨rfl, hb90, hL91, hS92⟩ ⟨rfl, rfl, rfl, rfl, rfl, trivial⟩
    have hm := iteF hm hc98
    refine WL.runk 4 [0, 1, 8, 9, 47] [(0, .slice a0' aList_0.length c0'), (1, .slice a1' aNeeds_1.length c1'), (8, .slice a63 x61.length c64), (9, .slice a75 x73.length c76), (47, .bool (x85.2 != x52.2))] (by kernel_rfl) ?_
    refine WL.nil ?_
    obtain rfl := Option.some.inj hm
    exact WQ.post' ⟨rfl, hb90, hL91, hS92⟩ ⟨rfl, rfl, rfl, rfl, rfl, trivial⟩
  clear hx97
  rintro _ w99 ⟨rfl, hb100, hL101, hS102⟩
  refine WQ.then_normal (hK94 _ _ _ ?_)
  refine WP.cond x96 rfl rfl (fun hc103 => ?_) (fun hc103 => ?_)
  · have hm := iteT hm hc103
    refine WP.seq (fun K104 hK104 => ?_)
    refine WP.region ?_
    refine WL.runk 1 [4] [(4, .bool false)] (by kernel_rfl) ?_
    refine WL.nil ?_
    refine WQ.then_normal (hK104 _ _ _ ?_)
    refine WP.ret ?_
    refine WQ.then_ret ?_
    obtain rfl := Option.some.inj hm
    exact WQ.ret1 _ rfl rfl ⟨rfl, hb100⟩
  have hm := iteF hm hc103
  refine WP.skip ?_
  refine WQ.then_normal (hK93 _ _ _ ?_)
  refine WP.seq (fun K105 hK105 => ?_)
  refine WP.seq (fun K106 hK106 => ?_)
  refine WP.region ?_
  refine WL.runk 2 [1, 9, 48, 49] [(1, .slice a1' aNeeds_1.length c1'), (9, .slice a75 x73.length c76), (48, .slice a63 x61.length c64), (49, .slice a0' aList_0.length c0')] (by kernel_rfl) ?_
  obtain ⟨x107, hx108, hm⟩ := bindE hm
  refine WL.call 15 #[.slice a0' aList_0.length c0'] rfl rfl (by kernel_rfl) (c_15 n aList_0 a0' c0' w99 hx108 (Rd.below h0 hb100) hle0) ?_
  rintro _ w112 ⟨a109, c110, rfl, hE113, hR114⟩
  refine ⟨_, rfl, ?_⟩
  have hb115 : Ext w w112 := Ext.trans hb100 hE113
  have hL116 : w.heap.size ≤ w112.heap.size := Nat.le_trans hL101 hE113.size
  have hS117 : SH w112 w.heap.size [aOwn fGood 56 a109 c110 x107, aOwn fTake 43 a75 c76 x73, aOwn fGood 56 a63 c64 x61, aOwn fTake 43 a43 c44 x41, aOwn fGood 56 a32 c33 x30] := SH.add hS102 hE113 hL101 hR114
  obtain ⟨x118, hx119, hm⟩ := bindE hm
  refine WL.call 17 #[.slice a63 x61.length c64, .slice a109 x107.length c110] rfl rfl (by kernel_rfl) (c_17 n x61 a63 c64 x107 a109 c110 w112 hx119 (SH.rd (SH.front 2 hS117)) (SH.le (SH.front 2 hS117)).1 (SH.rd (SH.front 0 hS117)) (SH.le (SH.front 0 hS117)).1) ?_
  rintro _ w120 ⟨rfl, hE121⟩
  refine ⟨_, rfl, ?_⟩
  have hb123 : Ext w w120 := Ext.trans hb115 hE121
  have hL124 : w.heap.size ≤ w120.heap.size := Nat.le_trans hL116 hE121.size
  have hS125 : SH w120 w.heap.size [aOwn fGood 56 a109 c110 x107, aOwn fTake 43 a75 c76 x73, aOwn fGood 56 a63 c64 x61, aOwn fTake 43 a43 c44 x41, aOwn fGood 56 a32 c33 x30] := SH.ext hS117 hE121
  refine WL.runk 1 [1, 9, 52] [(1, .slice a1' aNeeds_1.length c1'), (9, .slice a75 x73.length c76), (52, .bool (!x118))] (by kernel_rfl) ?_
  refine WL.nil ?_
  refine WQ.then_normal (hK106 _ _ _ ?_)
  refine WP.cond (!x118) rfl rfl (fun hc126 => ?_) (fun hc126 => ?_)
  · have hm := iteT hm hc126
    refine WP.seq (fun K127 hK127 => ?_)
    refine WP.region ?_
    refine WL.runk 1 [4] [(4, .bool false)] (by kernel_rfl) ?_
    refine WL.nil ?_
    refine WQ.then_normal (hK127 _ _ _ ?_)
    refine WP.ret ?_
    refine WQ.then_ret ?_
    obtain rfl := Option.some.inj hm
    exact WQ.ret1 _ rfl rfl ⟨rfl, hb123⟩
  have hm := iteF hm hc126
  refine WP.skip ?_
  refine WQ.then_normal (hK105 _ _ _ ?_)
  refine WP.seq (fun K128 hK128 => ?_)
  refine WP.seq (fun K129 hK129 => ?_)
  refine WP.region ?_
  refine WL.runk 2 [53, 54] [(53, .slice a75 x73.length c76), (54, .slice a1' aNeeds_1.length c1')] (by kernel_rfl) ?_
  obtain ⟨x130, hx131, hm⟩ := bindE hm
  refine WL.call 37 #[.slice a1' aNeeds_1.length c1'] rfl rfl (by kernel_rfl) (c_37 n aNeeds_1 a1' c1' w120 hx131 (Rd.below h1 hb123) hle1) ?_
  rintro _ w135 ⟨a132, c133, rfl, hE136, hR137⟩
  refine ⟨_, rfl, ?_⟩
  have hb138 : Ext w w135 := Ext.trans hb123 hE136
  have hL139 : w.heap.size ≤ w135.heap.size := Nat.le_trans hL124 hE136.size
  have hS140 : SH w135 w.heap.size [aOwn fTake 43 a132 c133 x130, aOwn fGood 56 a109 c110 x107, aOwn fTake 43 a75 c76 x73, aOwn fGood 56 a63 c64 x61, aOwn fTake 43 a43 c44 x41, aOwn fGood 56 a32 c33 x30] := SH.add hS125 hE136 hL124 hR137
  obtain ⟨x141, hx142, hm⟩ := bindE hm
  refine WL.call 22 #[.slice a75 x73.length c76, .slice a132 x130.length c133] rfl rfl (by kernel_rfl) (c_22 n x73 a75 c76 x130 a132 c133 w135 hx142 (SH.rd (SH.front 2 hS140)) (SH.le (SH.front 2 hS140)).1 (SH.rd (SH.front 0 hS140)) (SH.le (SH.front 0 hS140)).1) ?_
  rintro _ w143 ⟨rfl, hE144⟩
  refine ⟨_, rfl, ?_⟩
  have hb146 : Ext w w143 := Ext.trans hb138 hE144
  have hL147 : w.heap.size ≤ w143.heap.size := Nat.le_trans hL139 hE144.size
  have hS148 : SH w143 w.heap.size [aOwn fTake 43 a132 c133 x130, aOwn fGood 56 a109 c110 x107, aOwn fTake 43 a75 c76 x73, aOwn fGood 56 a63 c64 x61, aOwn fTake 43 a43 c44 x41, aOwn fGood 56 a32 c33 x30] := SH.ext hS140 hE144
  refine WL.runk 1 [57] [(57, .bool (!x141))] (by kernel_rfl) ?_
  refine WL.nil ?_
  refine WQ.then_normal (hK129 _ _ _ ?_)
  refine WP.cond (!x141) rfl rfl (fun hc149 => ?_) (fun hc149 => ?_)
  · have hm := iteT hm hc149
    refine WP.seq (fun K150 hK150 => ?_)
    refine WP.region ?_
    refine WL.runk 1 [4] [(4, .bool false)] (by kernel_rfl) ?_
    refine WL.nil ?_
    refine WQ.then_normal (hK150 _ _ _ ?_)
    refine WP.ret ?_
    refine WQ.then_ret ?_
    obtain rfl := Option.some.inj hm
    exact WQ.ret1 _ rfl rfl ⟨rfl, hb146⟩
  have hm := iteF hm hc149
  refine WP.skip ?_
  refine WQ.then_normal (hK128 _ _ _ ?_)
  refine WP.seq (fun K151 hK151 => ?_)
  refine WP.region ?_
  refine WL.runk 1 [4] [(4, .bool true)] (by kernel_rfl) ?_
  refine WL.nil ?_
  refine WQ.then_normal (hK151 _ _ _ ?_)
  refine WP.ret ?_
  obtain rfl := Option.some.inj hm
  exact WQ.ret1 _ rfl rfl ⟨rfl, hb146⟩

end Go.Proofs.Ytkpdicajinionaa
