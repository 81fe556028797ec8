/- Each call does what its Lean function says. -/
import Derived.Test.YtkglfbcelaphhaaGreatDoorKRepairs3
set_option maxRecDepth 20000
set_option maxHeartbeats 40000000
namespace Go.Proofs.YtkglfbcelaphhaaGreatDoor
open Go Go.Gv Go.RowKit

theorem c_72_85 (n : Nat) (s_0 : List Int) (a0' : Option Addr) (c0' : Nat) (cap_1_0 : List SRepair) (b1_0' o1_0' : Nat) (a1_0' : Option Addr) (c1_0' : Nat) (cap_1_1 : Int) (b1_1' o1_1' : Nat) (w : World) {r : Int} (hm : m_slices_IndexFunc_int64_int64_f85 n s_0 cap_1_0 cap_1_1 = some r) (h0 : Rd fInt.ty w a0' s_0) (_hle0 : s_0.length ≤ c0') (h1_0 : RdB w b1_0' o1_0' [.slice a1_0' cap_1_0.length c1_0']) (hr1_0 : Rd fRepair.ty w a1_0' cap_1_0) (hle1_0 : cap_1_0.length ≤ c1_0') (h1_1 : RdB w b1_1' o1_1' [.int .i64 cap_1_1]) :
    CallV Tryz.prog 72 #[.slice a0' s_0.length c0', .func (.func 85) #[] #[.pointer (some ⟨b1_0', o1_0', none⟩), .pointer (some ⟨b1_1', o1_1', none⟩)]] w (fun v w' => v = .int .i64 r ∧ Ext w w') := by
  unfold m_slices_IndexFunc_int64_int64_f85 at hm
  refine CallV.enter Tryz.func72 rfl (by kernel_rfl) Tryz.ntmps72 (env := [(0, .slice a0' s_0.length c0'), (1, .func (.func 85) #[] #[.pointer (some ⟨b1_0', o1_0', none⟩), .pointer (some ⟨b1_1', o1_1', none⟩)])]) ⟨rfl, rfl, trivial⟩ ?_
  refine WP.seq (fun K1 hK1 => ?_)
  refine WP.region ?_
  refine WL.runk 1 [0, 1] [(0, .slice a0' s_0.length c0'), (1, .func (.func 85) #[] #[.pointer (some ⟨b1_0', o1_0', none⟩), .pointer (some ⟨b1_1', o1_1', none⟩)])] (by kernel_rfl) ?_
  refine WL.nil ?_
  refine WQ.then_normal (hK1 _ _ _ ?_)
  refine WP.seq (fun K2 hK2 => ?_)
  refine WP.seq (fun K3 hK3 => ?_)
  refine WP.region ?_
  refine WL.runk 3 [0, 1, 7, 8] [(0, .slice a0' s_0.length c0'), (1, .func (.func 85) #[] #[.pointer (some ⟨b1_0', o1_0', none⟩), .pointer (some ⟨b1_1', o1_1', none⟩)]), (7, .int .i64 (s_0.length : Int)), (8, .int .i64 0)] (by kernel_rfl) ?_
  refine WL.nil ?_
  refine WQ.then_normal (hK3 _ _ _ ?_)
  refine WP.block ?_
  obtain ⟨t15, ht16, hm⟩ := bindE hm
  have hmo10 := hm; clear hm
  refine WP.sub [(0, .slice a0' s_0.length c0'), (1, .func (.func 85) #[] #[.pointer (some ⟨b1_0', o1_0', none⟩), .pointer (some ⟨b1_1', o1_1', none⟩)]), (7, .int .i64 (s_0.length : Int)), (8, .int .i64 0)] ⟨rfl, rfl, rfl, rfl, trivial⟩ ?_
  refine WP.loop (fun n' env' w' => ∃ (st4 : Int) , env' = [(0, .slice a0' s_0.length c0'), (1, .func (.func 85) #[] #[.pointer (some ⟨b1_0', o1_0', none⟩), .pointer (some ⟨b1_1', o1_1', none⟩)]), (7, .int .i64 (s_0.length : Int)), (8, .int .i64 st4)] ∧ Ext w w' ∧ w.heap.size ≤ w'.heap.size ∧ SH w' w.heap.size [] ∧ loopN (m_slices_IndexFunc_int64_int64_f85_l1 n s_0 cap_1_0 cap_1_1) n' st4 = some t15) n ⟨0, rfl, (Ext.refl w), (Nat.le_refl _), (SH.nil _ _), ht16⟩ ?_
  rintro n12 _ w5 ⟨st4, rfl, hb6, hL7, hS8, hl9⟩ K11 hK11
  obtain ⟨n13, s14, rfl, hm, hl9⟩ := loopN_some hl9
  unfold m_slices_IndexFunc_int64_int64_f85_l1 at hm
  refine WP.seq (fun K17 hK17 => ?_)
  refine WP.region ?_
  refine WL.runk 1 [0, 1, 7, 8, 9] [(0, .slice a0' s_0.length c0'), (1, .func (.func 85) #[] #[.pointer (some ⟨b1_0', o1_0', none⟩), .pointer (some ⟨b1_1', o1_1', none⟩)]), (7, .int .i64 (s_0.length : Int)), (8, .int .i64 st4), (9, .bool (decide (st4 < (s_0.length : Int))))] (by kernel_rfl) ?_
  refine WL.nil ?_
  refine WQ.then_normal (hK17 _ _ _ ?_)
  refine WP.seq (fun K18 hK18 => ?_)
  refine WP.cond (decide (st4 < (s_0.length : Int))) rfl rfl (fun hc19 => ?_) (fun hc19 => ?_)
  rotate_left
  · have hm := iteF hm hc19
    refine WP.exit ?_
    refine WQ.then_exit ?_
    refine WQ.then_exit ?_
    refine WQ.block_here ?_
    obtain rfl := Option.some.inj hm
    obtain rfl := afterN_done hl9
    have hm := hmo10
    refine WQ.then_normal (hK2 _ _ _ ?_)
    refine WP.seq (fun K35 hK35 => ?_)
    refine WP.region ?_
    refine WL.runk 1 [4] [(4, .int .i64 (-1))] (by kernel_rfl) ?_
    refine WL.nil ?_
    refine WQ.then_normal (hK35 _ _ _ ?_)
    refine WP.ret ?_
    obtain rfl := Option.some.inj hm
    exact WQ.ret1 _ rfl rfl ⟨rfl, hb6⟩
  have hm := iteT hm hc19
  refine WP.skip ?_
  refine WQ.then_normal (hK18 _ _ _ ?_)
  refine WP.seq (fun K20 hK20 => ?_)
  refine WP.block ?_
  refine WP.seq (fun K21 hK21 => ?_)
  refine WP.region ?_
  refine WL.runk 2 [0, 1, 5, 7, 8] [(0, .slice a0' s_0.length c0'), (1, .func (.func 85) #[] #[.pointer (some ⟨b1_0', o1_0', none⟩), .pointer (some ⟨b1_1', o1_1', none⟩)]), (7, .int .i64 (s_0.length : Int)), (8, .int .i64 st4), (5, .int .i64 st4)] (by kernel_rfl) ?_
  refine WL.nil ?_
  refine WQ.then_normal (hK21 _ _ _ ?_)
  refine WP.seq (fun K22 hK22 => ?_)
  refine WP.region ?_
  refine WL.runk 3 [0, 1, 5, 7, 8, 11, 12, 13] [(0, .slice a0' s_0.length c0'), (1, .func (.func 85) #[] #[.pointer (some ⟨b1_0', o1_0', none⟩), .pointer (some ⟨b1_1', o1_1', none⟩)]), (7, .int .i64 (s_0.length : Int)), (8, .int .i64 st4), (5, .int .i64 st4), (11, .func (.func 85) #[] #[.pointer (some ⟨b1_0', o1_0', none⟩), .pointer (some ⟨b1_1', o1_1', none⟩)]), (12, .slice a0' s_0.length c0'), (13, .int .i64 st4)] (by kernel_rfl) ?_
  obtain ⟨x23, hx24, hm⟩ := bindE hm
  refine WL.st (.pointer (some (at_ a0' (Int.toNat st4 * 1)))) (ST.index (T := fInt.ty) (xs := s_0) (Rd.below h0 hb6) hx24 rfl rfl rfl Tryz.underlying25 (info2).1 (info2).2.1) rfl rfl rfl ?_
  refine WL.st (.int .i64 x23) (ST.load (cell_ext (Rd.flat (F := fInt) (Rd.below h0 hb6) hx24 0 rfl)) rfl rfl Tryz.underlying2 rfl) rfl rfl rfl ?_
  obtain ⟨x25, hx26, hm⟩ := bindE hm
  refine WL.call 85 #[.int .i64 x23, .pointer (some ⟨b1_0', o1_0', none⟩), .pointer (some ⟨b1_1', o1_1', none⟩)] rfl rfl (by kernel_rfl) (c_85 n x23 cap_1_0 b1_0' o1_0' a1_0' c1_0' cap_1_1 b1_1' o1_1' w5 hx26 (RdB.below h1_0 hb6) (Rd.below hr1_0 hb6) hle1_0 (RdB.below h1_1 hb6)) ?_
  rintro _ w27 ⟨rfl, hE28⟩
  refine ⟨_, rfl, ?_⟩
  have hb30 : Ext w w27 := Ext.trans hb6 hE28
  have hL31 : w.heap.size ≤ w27.heap.size := Nat.le_trans hL7 hE28.size
  have hS32 : SH w27 w.heap.size [] := SH.ext hS8 hE28
  refine WL.sub [(0, .slice a0' s_0.length c0'), (1, .func (.func 85) #[] #[.pointer (some ⟨b1_0', o1_0', none⟩), .pointer (some ⟨b1_1', o1_1', none⟩)]), (7, .int .i64 (s_0.length : Int)), (8, .int .i64 st4), (5, .int .i64 st4), (16, .bool x25)] ⟨rfl, rfl, rfl, rfl, rfl, rfl, trivial⟩ ?_
  refine WL.nil ?_
  refine WQ.then_normal (hK22 _ _ _ ?_)
  refine WP.cond x25 rfl rfl (fun hc33 => ?_) (fun hc33 => ?_)
  rotate_left
  · have hm := iteF hm hc33
    refine WP.skip ?_
    refine WQ.block_normal ?_
    refine WQ.then_normal (hK20 _ _ _ ?_)
    refine WP.region ?_
    refine WL.runk 2 [0, 1, 7, 8] [(0, .slice a0' s_0.length c0'), (1, .func (.func 85) #[] #[.pointer (some ⟨b1_0', o1_0', none⟩), .pointer (some ⟨b1_1', o1_1', none⟩)]), (7, .int .i64 (s_0.length : Int)), (8, .int .i64 (wI64 (st4 + 1)))] (by kernel_rfl) ?_
    refine WL.nil ?_
    obtain rfl := Option.some.inj hm
    exact WQ.round hK11 ⟨(wI64 (st4 + 1)), rfl, hb30, hL31, hS32, hl9⟩ (Nat.lt_succ_self _) ⟨rfl, rfl, rfl, rfl, trivial⟩
  have hm := iteT hm hc33
  refine WP.seq (fun K34 hK34 => ?_)
  refine WP.region ?_
  refine WL.runk 2 [4] [(4, .int .i64 st4)] (by kernel_rfl) ?_
  refine WL.nil ?_
  refine WQ.then_normal (hK34 _ _ _ ?_)
  refine WP.ret ?_
  refine WQ.block_ret ?_
  refine WQ.then_ret ?_
  refine WQ.then_ret ?_
  refine WQ.block_ret ?_
  refine WQ.then_ret ?_
  obtain rfl := Option.some.inj hm
  obtain rfl := afterN_done hl9
  have hm := hmo10
  obtain rfl := Option.some.inj hm
  exact WQ.ret1 _ rfl rfl ⟨rfl, hb30⟩

theorem c_82_85 (n : Nat) (s_0 : List Int) (a0' : Option Addr) (c0' : Nat) (cap_1_0 : List SRepair) (b1_0' o1_0' : Nat) (a1_0' : Option Addr) (c1_0' : Nat) (cap_1_1 : Int) (b1_1' o1_1' : Nat) (w : World) {r : Bool} (hm : m_slices_ContainsFunc_int64_int64_f85 n s_0 cap_1_0 cap_1_1 = some r) (h0 : Rd fInt.ty w a0' s_0) (hle0 : s_0.length ≤ c0') (h1_0 : RdB w b1_0' o1_0' [.slice a1_0' cap_1_0.length c1_0']) (hr1_0 : Rd fRepair.ty w a1_0' cap_1_0) (hle1_0 : cap_1_0.length ≤ c1_0') (h1_1 : RdB w b1_1' o1_1' [.int .i64 cap_1_1]) :
    CallV Tryz.prog 82 #[.slice a0' s_0.length c0', .func (.func 85) #[] #[.pointer (some ⟨b1_0', o1_0', none⟩), .pointer (some ⟨b1_1', o1_1', none⟩)]] w (fun v w' => v = .bool r ∧ Ext w w') := by
  unfold m_slices_ContainsFunc_int64_int64_f85 at hm
  refine CallV.enter Tryz.func82 rfl (by kernel_rfl) Tryz.ntmps82 (env := [(0, .slice a0' s_0.length c0'), (1, .func (.func 85) #[] #[.pointer (some ⟨b1_0', o1_0', none⟩), .pointer (some ⟨b1_1', o1_1', none⟩)])]) ⟨rfl, rfl, trivial⟩ ?_
  refine WP.seq (fun K1 hK1 => ?_)
  refine WP.region ?_
  refine WL.runk 1 [0, 1] [(0, .slice a0' s_0.length c0'), (1, .func (.func 85) #[] #[.pointer (some ⟨b1_0', o1_0', none⟩), .pointer (some ⟨b1_1', o1_1', none⟩)])] (by kernel_rfl) ?_
  refine WL.nil ?_
  refine WQ.then_normal (hK1 _ _ _ ?_)
  refine WP.seq (fun K2 hK2 => ?_)
  refine WP.region ?_
  refine WL.runk 2 [5, 6] [(5, .slice a0' s_0.length c0'), (6, .func (.func 85) #[] #[.pointer (some ⟨b1_0', o1_0', none⟩), .pointer (some ⟨b1_1', o1_1', none⟩)])] (by kernel_rfl) ?_
  obtain ⟨x3, hx4, hm⟩ := bindE hm
  refine WL.call 72 #[.slice a0' s_0.length c0', .func (.func 85) #[] #[.pointer (some ⟨b1_0', o1_0', none⟩), .pointer (some ⟨b1_1', o1_1', none⟩)]] rfl rfl (by kernel_rfl) (c_72_85 n s_0 a0' c0' cap_1_0 b1_0' o1_0' a1_0' c1_0' cap_1_1 b1_1' o1_1' w hx4 (Rd.below h0 (Ext.refl w)) hle0 (RdB.below h1_0 (Ext.refl w)) (Rd.below hr1_0 (Ext.refl w)) hle1_0 (RdB.below h1_1 (Ext.refl w))) ?_
  rintro _ w5 ⟨rfl, hE6⟩
  refine ⟨_, rfl, ?_⟩
  have hb8 : Ext w w5 := Ext.trans (Ext.refl w) hE6
  have hL9 : w.heap.size ≤ w5.heap.size := Nat.le_trans (Nat.le_refl _) hE6.size
  have hS10 : SH w5 w.heap.size [] := SH.ext (SH.nil _ _) hE6
  refine WL.runk 2 [4] [(4, .bool (decide (x3 ≥ 0)))] (by kernel_rfl) ?_
  refine WL.nil ?_
  refine WQ.then_normal (hK2 _ _ _ ?_)
  refine WP.ret ?_
  obtain rfl := Option.some.inj hm
  exact WQ.ret1 _ rfl rfl ⟨rfl, hb8⟩

theorem c_84 (n : Nat) (fault_0 : Int) (cap_1 : List Int) (b1' o1' : Nat) (a1' : Option Addr) (c1' : Nat) (cap_2 : List SRepair) (b2' o2' : Nat) (a2' : Option Addr) (c2' : Nat) (w : World) {r : Bool} (hm : m_impl_mendsAll_2 n fault_0 cap_1 cap_2 = some r) (h1 : RdB w b1' o1' [.slice a1' cap_1.length c1']) (hr1 : Rd fInt.ty w a1' cap_1) (hle1 : cap_1.length ≤ c1') (h2 : RdB w b2' o2' [.slice a2' cap_2.length c2']) (hr2 : Rd fRepair.ty w a2' cap_2) (hle2 : cap_2.length ≤ c2') :
    CallV Tryz.prog 84 #[.int .i64 fault_0, .pointer (some ⟨b1', o1', none⟩), .pointer (some ⟨b2', o2', none⟩)] w (fun v w' => v = .bool r ∧ Ext w w') := by
  unfold m_impl_mendsAll_2 at hm
  refine CallV.enter Tryz.func84 rfl (by kernel_rfl) Tryz.ntmps84 (env := [(0, .int .i64 fault_0), (1, .pointer (some ⟨b1', o1', none⟩)), (2, .pointer (some ⟨b2', o2', none⟩))]) ⟨rfl, rfl, rfl, trivial⟩ ?_
  refine WP.seq (fun K1 hK1 => ?_)
  refine WP.region ?_
  refine WL.box 2 [.int .i64 fault_0] 3 (by kernel_rfl) rfl rfl rfl rfl ?_
  intro b2 w3 hE4 hR5
  have hb7 : Ext w w3 := Ext.trans (Ext.refl w) hE4
  have hL8 : w.heap.size ≤ w3.heap.size := Nat.le_trans (Nat.le_refl _) hE4.size
  have hS9 : SH w3 w.heap.size [aBox 2 b2 [.int .i64 fault_0]] := SH.add (SH.nil _ _) hE4 (Nat.le_refl _) hR5
  refine WL.runk 1 [1, 2, 3] [(1, .pointer (some ⟨b1', o1', none⟩)), (2, .pointer (some ⟨b2', o2', none⟩)), (3, .pointer (some ⟨b2, 0, none⟩))] (by kernel_rfl) ?_
  refine WL.nil ?_
  refine WQ.then_normal (hK1 _ _ _ ?_)
  refine WP.seq (fun K10 hK10 => ?_)
  refine WP.region ?_
  refine WL.st (.slice a1' cap_1.length c1') (ST.load (cell_ext (RdB.at (RdB.below h1 hb7) 0 _ rfl)) rfl rfl Tryz.underlying25 rfl) rfl rfl rfl ?_
  refine WL.runk 1 [5, 6] [(5, .slice a1' cap_1.length c1'), (6, .func (.func 85) #[] #[.pointer (some ⟨b2', o2', none⟩), .pointer (some ⟨b2, 0, none⟩)])] (by kernel_rfl) ?_
  obtain ⟨x11, hx12, hm⟩ := bindE hm
  refine WL.call 82 #[.slice a1' cap_1.length c1', .func (.func 85) #[] #[.pointer (some ⟨b2', o2', none⟩), .pointer (some ⟨b2, 0, none⟩)]] rfl rfl (by kernel_rfl) (c_82_85 n cap_1 a1' c1' cap_2 b2' o2' a2' c2' fault_0 b2 0 w3 hx12 (Rd.below hr1 hb7) hle1 (RdB.below h2 hb7) (Rd.below hr2 hb7) hle2 (SH.boxRd (SH.front 0 hS9))) ?_
  rintro _ w13 ⟨rfl, hE14⟩
  refine ⟨_, rfl, ?_⟩
  have hb16 : Ext w w13 := Ext.trans hb7 hE14
  have hL17 : w.heap.size ≤ w13.heap.size := Nat.le_trans hL8 hE14.size
  have hS18 : SH w13 w.heap.size [aBox 2 b2 [.int .i64 fault_0]] := SH.ext hS9 hE14
  refine WL.runk 2 [4] [(4, .bool (!x11))] (by kernel_rfl) ?_
  refine WL.nil ?_
  refine WQ.then_normal (hK10 _ _ _ ?_)
  refine WP.ret ?_
  obtain rfl := Option.some.inj hm
  exact WQ.ret1 _ rfl rfl ⟨rfl, hb16⟩

theorem c_72_83 (n : Nat) (s_0 : List Int) (a0' : Option Addr) (c0' : Nat) (cap_1_0 : List Int) (b1_0' o1_0' : Nat) (a1_0' : Option Addr) (c1_0' : Nat) (w : World) {r : Int} (hm : m_slices_IndexFunc_int64_int64_f83 n s_0 cap_1_0 = some r) (h0 : Rd fInt.ty w a0' s_0) (_hle0 : s_0.length ≤ c0') (h1_0 : RdB w b1_0' o1_0' [.slice a1_0' cap_1_0.length c1_0']) (hr1_0 : Rd fInt.ty w a1_0' cap_1_0) (hle1_0 : cap_1_0.length ≤ c1_0') :
    CallV Tryz.prog 72 #[.slice a0' s_0.length c0', .func (.func 83) #[] #[.pointer (some ⟨b1_0', o1_0', none⟩)]] w (fun v w' => v = .int .i64 r ∧ Ext w w') := by
  unfold m_slices_IndexFunc_int64_int64_f83 at hm
  refine CallV.enter Tryz.func72 rfl (by kernel_rfl) Tryz.ntmps72 (env := [(0, .slice a0' s_0.length c0'), (1, .func (.func 83) #[] #[.pointer (some ⟨b1_0', o1_0', none⟩)])]) ⟨rfl, rfl, trivial⟩ ?_
  refine WP.seq (fun K1 hK1 => ?_)
  refine WP.region ?_
  refine WL.runk 1 [0, 1] [(0, .slice a0' s_0.length c0'), (1, .func (.func 83) #[] #[.pointer (some ⟨b1_0', o1_0', none⟩)])] (by kernel_rfl) ?_
  refine WL.nil ?_
  refine WQ.then_normal (hK1 _ _ _ ?_)
  refine WP.seq (fun K2 hK2 => ?_)
  refine WP.seq (fun K3 hK3 => ?_)
  refine WP.region ?_
  refine WL.runk 3 [0, 1, 7, 8] [(0, .slice a0' s_0.length c0'), (1, .func (.func 83) #[] #[.pointer (some ⟨b1_0', o1_0', none⟩)]), (7, .int .i64 (s_0.length : Int)), (8, .int .i64 0)] (by kernel_rfl) ?_
  refine WL.nil ?_
  refine WQ.then_normal (hK3 _ _ _ ?_)
  refine WP.block ?_
  obtain ⟨t15, ht16, hm⟩ := bindE hm
  have hmo10 := hm; clear hm
  refine WP.sub [(0, .slice a0' s_0.length c0'), (1, .func (.func 83) #[] #[.pointer (some ⟨b1_0', o1_0', none⟩)]), (7, .int .i64 (s_0.length : Int)), (8, .int .i64 0)] ⟨rfl, rfl, rfl, rfl, trivial⟩ ?_
  refine WP.loop (fun n' env' w' => ∃ (st4 : Int) , env' = [(0, .slice a0' s_0.length c0'), (1, .func (.func 83) #[] #[.pointer (some ⟨b1_0', o1_0', none⟩)]), (7, .int .i64 (s_0.length : Int)), (8, .int .i64 st4)] ∧ Ext w w' ∧ w.heap.size ≤ w'.heap.size ∧ SH w' w.heap.size [] ∧ loopN (m_slices_IndexFunc_int64_int64_f83_l1 n s_0 cap_1_0) n' st4 = some t15) n ⟨0, rfl, (Ext.refl w), (Nat.le_refl _), (SH.nil _ _), ht16⟩ ?_
  rintro n12 _ w5 ⟨st4, rfl, hb6, hL7, hS8, hl9⟩ K11 hK11
  obtain ⟨n13, s14, rfl, hm, hl9⟩ := loopN_some hl9
  unfold m_slices_IndexFunc_int64_int64_f83_l1 at hm
  refine WP.seq (fun K17 hK17 => ?_)
  refine WP.region ?_
  refine WL.runk 1 [0, 1, 7, 8, 9] [(0, .slice a0' s_0.length c0'), (1, .func (.func 83) #[] #[.pointer (some ⟨b1_0', o1_0', none⟩)]), (7, .int .i64 (s_0.length : Int)), (8, .int .i64 st4), (9, .bool (decide (st4 < (s_0.length : Int))))] (by kernel_rfl) ?_
  refine WL.nil ?_
  refine WQ.then_normal (hK17 _ _ _ ?_)
  refine WP.seq (fun K18 hK18 => ?_)
  refine WP.cond (decide (st4 < (s_0.length : Int))) rfl rfl (fun hc19 => ?_) (fun hc19 => ?_)
  rotate_left
  · have hm := iteF hm hc19
    refine WP.exit ?_
    refine WQ.then_exit ?_
    refine WQ.then_exit ?_
    refine WQ.block_here ?_
    obtain rfl := Option.some.inj hm
    obtain rfl := afterN_done hl9
    have hm := hmo10
    refine WQ.then_normal (hK2 _ _ _ ?_)
    refine WP.seq (fun K35 hK35 => ?_)
    refine WP.region ?_
    refine WL.runk 1 [4] [(4, .int .i64 (-1))] (by kernel_rfl) ?_
    refine WL.nil ?_
    refine WQ.then_normal (hK35 _ _ _ ?_)
    refine WP.ret ?_
    obtain rfl := Option.some.inj hm
    exact WQ.ret1 _ rfl rfl ⟨rfl, hb6⟩
  have hm := iteT hm hc19
  refine WP.skip ?_
  refine WQ.then_normal (hK18 _ _ _ ?_)
  refine WP.seq (fun K20 hK20 => ?_)
  refine WP.block ?_
  refine WP.seq (fun K21 hK21 => ?_)
  refine WP.region ?_
  refine WL.runk 2 [0, 1, 5, 7, 8] [(0, .slice a0' s_0.length c0'), (1, .func (.func 83) #[] #[.pointer (some ⟨b1_0', o1_0', none⟩)]), (7, .int .i64 (s_0.length : Int)), (8, .int .i64 st4), (5, .int .i64 st4)] (by kernel_rfl) ?_
  refine WL.nil ?_
  refine WQ.then_normal (hK21 _ _ _ ?_)
  refine WP.seq (fun K22 hK22 => ?_)
  refine WP.region ?_
  refine WL.runk 3 [0, 1, 5, 7, 8, 11, 12, 13] [(0, .slice a0' s_0.length c0'), (1, .func (.func 83) #[] #[.pointer (some ⟨b1_0', o1_0', none⟩)]), (7, .int .i64 (s_0.length : Int)), (8, .int .i64 st4), (5, .int .i64 st4), (11, .func (.func 83) #[] #[.pointer (some ⟨b1_0', o1_0', none⟩)]), (12, .slice a0' s_0.length c0'), (13, .int .i64 st4)] (by kernel_rfl) ?_
  obtain ⟨x23, hx24, hm⟩ := bindE hm
  refine WL.st (.pointer (some (at_ a0' (Int.toNat st4 * 1)))) (ST.index (T := fInt.ty) (xs := s_0) (Rd.below h0 hb6) hx24 rfl rfl rfl Tryz.underlying25 (info2).1 (info2).2.1) rfl rfl rfl ?_
  refine WL.st (.int .i64 x23) (ST.load (cell_ext (Rd.flat (F := fInt) (Rd.below h0 hb6) hx24 0 rfl)) rfl rfl Tryz.underlying2 rfl) rfl rfl rfl ?_
  obtain ⟨x25, hx26, hm⟩ := bindE hm
  refine WL.call 83 #[.int .i64 x23, .pointer (some ⟨b1_0', o1_0', none⟩)] rfl rfl (by kernel_rfl) (c_83 n x23 cap_1_0 b1_0' o1_0' a1_0' c1_0' w5 hx26 (RdB.below h1_0 hb6) (Rd.below hr1_0 hb6) hle1_0) ?_
  rintro _ w27 ⟨rfl, hE28⟩
  refine ⟨_, rfl, ?_⟩
  have hb30 : Ext w w27 := Ext.trans hb6 hE28
  have hL31 : w.heap.size ≤ w27.heap.size := Nat.le_trans hL7 hE28.size
  have hS32 : SH w27 w.heap.size [] := SH.ext hS8 hE28
  refine WL.sub [(0, .slice a0' s_0.length c0'), (1, .func (.func 83) #[] #[.pointer (some ⟨b1_0', o1_0', none⟩)]), (7, .int .i64 (s_0.length : Int)), (8, .int .i64 st4), (5, .int .i64 st4), (16, .bool x25)] ⟨rfl, rfl, rfl, rfl, rfl, rfl, trivial⟩ ?_
  refine WL.nil ?_
  refine WQ.then_normal (hK22 _ _ _ ?_)
  refine WP.cond x25 rfl rfl (fun hc33 => ?_) (fun hc33 => ?_)
  rotate_left
  · have hm := iteF hm hc33
    refine WP.skip ?_
    refine WQ.block_normal ?_
    refine WQ.then_normal (hK20 _ _ _ ?_)
    refine WP.region ?_
    refine WL.runk 2 [0, 1, 7, 8] [(0, .slice a0' s_0.length c0'), (1, .func (.func 83) #[] #[.pointer (some ⟨b1_0', o1_0', none⟩)]), (7, .int .i64 (s_0.length : Int)), (8, .int .i64 (wI64 (st4 + 1)))] (by kernel_rfl) ?_
    refine WL.nil ?_
    obtain rfl := Option.some.inj hm
    exact WQ.round hK11 ⟨(wI64 (st4 + 1)), rfl, hb30, hL31, hS32, hl9⟩ (Nat.lt_succ_self _) ⟨rfl, rfl, rfl, rfl, trivial⟩
  have hm := iteT hm hc33
  refine WP.seq (fun K34 hK34 => ?_)
  refine WP.region ?_
  refine WL.runk 2 [4] [(4, .int .i64 st4)] (by kernel_rfl) ?_
  refine WL.nil ?_
  refine WQ.then_normal (hK34 _ _ _ ?_)
  refine WP.ret ?_
  refine WQ.block_ret ?_
  refine WQ.then_ret ?_
  refine WQ.then_ret ?_
  refine WQ.block_ret ?_
  refine WQ.then_ret ?_
  obtain rfl := Option.some.inj hm
  obtain rfl := afterN_done hl9
  have hm := hmo10
  obtain rfl := Option.some.inj hm
  exact WQ.ret1 _ rfl rfl ⟨rfl, hb30⟩

theorem c_82_83 (n : Nat) (s_0 : List Int) (a0' : Option Addr) (c0' : Nat) (cap_1_0 : List Int) (b1_0' o1_0' : Nat) (a1_0' : Option Addr) (c1_0' : Nat) (w : World) {r : Bool} (hm : m_slices_ContainsFunc_int64_int64_f83 n s_0 cap_1_0 = some r) (h0 : Rd fInt.ty w a0' s_0) (hle0 : s_0.length ≤ c0') (h1_0 : RdB w b1_0' o1_0' [.slice a1_0' cap_1_0.length c1_0']) (hr1_0 : Rd fInt.ty w a1_0' cap_1_0) (hle1_0 : cap_1_0.length ≤ c1_0') :
    CallV Tryz.prog 82 #[.slice a0' s_0.length c0', .func (.func 83) #[] #[.pointer (some ⟨b1_0', o1_0', none⟩)]] w (fun v w' => v = .bool r ∧ Ext w w') := by
  unfold m_slices_ContainsFunc_int64_int64_f83 at hm
  refine CallV.enter Tryz.func82 rfl (by kernel_rfl) Tryz.ntmps82 (env := [(0, .slice a0' s_0.length c0'), (1, .func (.func 83) #[] #[.pointer (some ⟨b1_0', o1_0', none⟩)])]) ⟨rfl, rfl, trivial⟩ ?_
  refine WP.seq (fun K1 hK1 => ?_)
  refine WP.region ?_
  refine WL.runk 1 [0, 1] [(0, .slice a0' s_0.length c0'), (1, .func (.func 83) #[] #[.pointer (some ⟨b1_0', o1_0', none⟩)])] (by kernel_rfl) ?_
  refine WL.nil ?_
  refine WQ.then_normal (hK1 _ _ _ ?_)
  refine WP.seq (fun K2 hK2 => ?_)
  refine WP.region ?_
  refine WL.runk 2 [5, 6] [(5, .slice a0' s_0.length c0'), (6, .func (.func 83) #[] #[.pointer (some ⟨b1_0', o1_0', none⟩)])] (by kernel_rfl) ?_
  obtain ⟨x3, hx4, hm⟩ := bindE hm
  refine WL.call 72 #[.slice a0' s_0.length c0', .func (.func 83) #[] #[.pointer (some ⟨b1_0', o1_0', none⟩)]] rfl rfl (by kernel_rfl) (c_72_83 n s_0 a0' c0' cap_1_0 b1_0' o1_0' a1_0' c1_0' w hx4 (Rd.below h0 (Ext.refl w)) hle0 (RdB.below h1_0 (Ext.refl w)) (Rd.below hr1_0 (Ext.refl w)) hle1_0) ?_
  rintro _ w5 ⟨rfl, hE6⟩
  refine ⟨_, rfl, ?_⟩
  have hb8 : Ext w w5 := Ext.trans (Ext.refl w) hE6
  have hL9 : w.heap.size ≤ w5.heap.size := Nat.le_trans (Nat.le_refl _) hE6.size
  have hS10 : SH w5 w.heap.size [] := SH.ext (SH.nil _ _) hE6
  refine WL.runk 2 [4] [(4, .bool (decide (x3 ≥ 0)))] (by kernel_rfl) ?_
  refine WL.nil ?_
  refine WQ.then_normal (hK2 _ _ _ ?_)
  refine WP.ret ?_
  obtain rfl := Option.some.inj hm
  exact WQ.ret1 _ rfl rfl ⟨rfl, hb8⟩

theorem c_72_84 (n : Nat) (s_0 : List Int) (a0' : Option Addr) (c0' : Nat) (cap_1_0 : List Int) (b1_0' o1_0' : Nat) (a1_0' : Option Addr) (c1_0' : Nat) (cap_1_1 : List SRepair) (b1_1' o1_1' : Nat) (a1_1' : Option Addr) (c1_1' : Nat) (w : World) {r : Int} (hm : m_slices_IndexFunc_int64_int64_f84 n s_0 cap_1_0 cap_1_1 = some r) (h0 : Rd fInt.ty w a0' s_0) (_hle0 : s_0.length ≤ c0') (h1_0 : RdB w b1_0' o1_0' [.slice a1_0' cap_1_0.length c1_0']) (hr1_0 : Rd fInt.ty w a1_0' cap_1_0) (hle1_0 : cap_1_0.length ≤ c1_0') (h1_1 : RdB w b1_1' o1_1' [.slice a1_1' cap_1_1.length c1_1']) (hr1_1 : Rd fRepair.ty w a1_1' cap_1_1) (hle1_1 : cap_1_1.length ≤ c1_1') :
    CallV Tryz.prog 72 #[.slice a0' s_0.length c0', .func (.func 84) #[] #[.pointer (some ⟨b1_0', o1_0', none⟩), .pointer (some ⟨b1_1', o1_1', none⟩)]] w (fun v w' => v = .int .i64 r ∧ Ext w w') := by
  unfold m_slices_IndexFunc_int64_int64_f84 at hm
  refine CallV.enter Tryz.func72 rfl (by kernel_rfl) Tryz.ntmps72 (env := [(0, .slice a0' s_0.length c0'), (1, .func (.func 84) #[] #[.pointer (some ⟨b1_0', o1_0', none⟩), .pointer (some ⟨b1_1', o1_1', none⟩)])]) ⟨rfl, rfl, trivial⟩ ?_
  refine WP.seq (fun K1 hK1 => ?_)
  refine WP.region ?_
  refine WL.runk 1 [0, 1] [(0, .slice a0' s_0.length c0'), (1, .func (.func 84) #[] #[.pointer (some ⟨b1_0', o1_0', none⟩), .pointer (some ⟨b1_1', o1_1', none⟩)])] (by kernel_rfl) ?_
  refine WL.nil ?_
  refine WQ.then_normal (hK1 _ _ _ ?_)
  refine WP.seq (fun K2 hK2 => ?_)
  refine WP.seq (fun K3 hK3 => ?_)
  refine WP.region ?_
  refine WL.runk 3 [0, 1, 7, 8] [(0, .slice a0' s_0.length c0'), (1, .func (.func 84) #[] #[.pointer (some ⟨b1_0', o1_0', none⟩), .pointer (some ⟨b1_1', o1_1', none⟩)]), (7, .int .i64 (s_0.length : Int)), (8, .int .i64 0)] (by kernel_rfl) ?_
  refine WL.nil ?_
  refine WQ.then_normal (hK3 _ _ _ ?_)
  refine WP.block ?_
  obtain ⟨t15, ht16, hm⟩ := bindE hm
  have hmo10 := hm; clear hm
  refine WP.sub [(0, .slice a0' s_0.length c0'), (1, .func (.func 84) #[] #[.pointer (some ⟨b1_0', o1_0', none⟩), .pointer (some ⟨b1_1', o1_1', none⟩)]), (7, .int .i64 (s_0.length : Int)), (8, .int .i64 0)] ⟨rfl, rfl, rfl, rfl, trivial⟩ ?_
  refine WP.loop (fun n' env' w' => ∃ (st4 : Int) , env' = [(0, .slice a0' s_0.length c0'), (1, .func (.func 84) #[] #[.pointer (some ⟨b1_0', o1_0', none⟩), .pointer (some ⟨b1_1', o1_1', none⟩)]), (7, .int .i64 (s_0.length : Int)), (8, .int .i64 st4)] ∧ Ext w w' ∧ w.heap.size ≤ w'.heap.size ∧ SH w' w.heap.size [] ∧ loopN (m_slices_IndexFunc_int64_int64_f84_l1 n s_0 cap_1_0 cap_1_1) n' st4 = some t15) n ⟨0, rfl, (Ext.refl w), (Nat.le_refl _), (SH.nil _ _), ht16⟩ ?_
  rintro n12 _ w5 ⟨st4, rfl, hb6, hL7, hS8, hl9⟩ K11 hK11
  obtain ⟨n13, s14, rfl, hm, hl9⟩ := loopN_some hl9
  unfold m_slices_IndexFunc_int64_int64_f84_l1 at hm
  refine WP.seq (fun K17 hK17 => ?_)
  refine WP.region ?_
  refine WL.runk 1 [0, 1, 7, 8, 9] [(0, .slice a0' s_0.length c0'), (1, .func (.func 84) #[] #[.pointer (some ⟨b1_0', o1_0', none⟩), .pointer (some ⟨b1_1', o1_1', none⟩)]), (7, .int .i64 (s_0.length : Int)), (8, .int .i64 st4), (9, .bool (decide (st4 < (s_0.length : Int))))] (by kernel_rfl) ?_
  refine WL.nil ?_
  refine WQ.then_normal (hK17 _ _ _ ?_)
  refine WP.seq (fun K18 hK18 => ?_)
  refine WP.cond (decide (st4 < (s_0.length : Int))) rfl rfl (fun hc19 => ?_) (fun hc19 => ?_)
  rotate_left
  · have hm := iteF hm hc19
    refine WP.exit ?_
    refine WQ.then_exit ?_
    refine WQ.then_exit ?_
    refine WQ.block_here ?_
    obtain rfl := Option.some.inj hm
    obtain rfl := afterN_done hl9
    have hm := hmo10
    refine WQ.then_normal (hK2 _ _ _ ?_)
    refine WP.seq (fun K35 hK35 => ?_)
    refine WP.region ?_
    refine WL.runk 1 [4] [(4, .int .i64 (-1))] (by kernel_rfl) ?_
    refine WL.nil ?_
    refine WQ.then_normal (hK35 _ _ _ ?_)
    refine WP.ret ?_
    obtain rfl := Option.some.inj hm
    exact WQ.ret1 _ rfl rfl ⟨rfl, hb6⟩
  have hm := iteT hm hc19
  refine WP.skip ?_
  refine WQ.then_normal (hK18 _ _ _ ?_)
  refine WP.seq (fun K20 hK20 => ?_)
  refine WP.block ?_
  refine WP.seq (fun K21 hK21 => ?_)
  refine WP.region ?_
  refine WL.runk 2 [0, 1, 5, 7, 8] [(0, .slice a0' s_0.length c0'), (1, .func (.func 84) #[] #[.pointer (some ⟨b1_0', o1_0', none⟩), .pointer (some ⟨b1_1', o1_1', none⟩)]), (7, .int .i64 (s_0.length : Int)), (8, .int .i64 st4), (5, .int .i64 st4)] (by kernel_rfl) ?_
  refine WL.nil ?_
  refine WQ.then_normal (hK21 _ _ _ ?_)
  refine WP.seq (fun K22 hK22 => ?_)
  refine WP.region ?_
  refine WL.runk 3 [0, 1, 5, 7, 8, 11, 12, 13] [(0, .slice a0' s_0.length c0'), (1, .func (.func 84) #[] #[.pointer (some ⟨b1_0', o1_0', none⟩), .pointer (some ⟨b1_1', o1_1', none⟩)]), (7, .int .i64 (s_0.length : Int)), (8, .int .i64 st4), (5, .int .i64 st4), (11, .func (.func 84) #[] #[.pointer (some ⟨b1_0', o1_0', none⟩), .pointer (some ⟨b1_1', o1_1', none⟩)]), (12, .slice a0' s_0.length c0'), (13, .int .i64 st4)] (by kernel_rfl) ?_
  obtain ⟨x23, hx24, hm⟩ := bindE hm
  refine WL.st (.pointer (some (at_ a0' (Int.toNat st4 * 1)))) (ST.index (T := fInt.ty) (xs := s_0) (Rd.below h0 hb6) hx24 rfl rfl rfl Tryz.underlying25 (info2).1 (info2).2.1) rfl rfl rfl ?_
  refine WL.st (.int .i64 x23) (ST.load (cell_ext (Rd.flat (F := fInt) (Rd.below h0 hb6) hx24 0 rfl)) rfl rfl Tryz.underlying2 rfl) rfl rfl rfl ?_
  obtain ⟨x25, hx26, hm⟩ := bindE hm
  refine WL.call 84 #[.int .i64 x23, .pointer (some ⟨b1_0', o1_0', none⟩), .pointer (some ⟨b1_1', o1_1', none⟩)] rfl rfl (by kernel_rfl) (c_84 n x23 cap_1_0 b1_0' o1_0' a1_0' c1_0' cap_1_1 b1_1' o1_1' a1_1' c1_1' w5 hx26 (RdB.below h1_0 hb6) (Rd.below hr1_0 hb6) hle1_0 (RdB.below h1_1 hb6) (Rd.below hr1_1 hb6) hle1_1) ?_
  rintro _ w27 ⟨rfl, hE28⟩
  refine ⟨_, rfl, ?_⟩
  have hb30 : Ext w w27 := Ext.trans hb6 hE28
  have hL31 : w.heap.size ≤ w27.heap.size := Nat.le_trans hL7 hE28.size
  have hS32 : SH w27 w.heap.size [] := SH.ext hS8 hE28
  refine WL.sub [(0, .slice a0' s_0.length c0'), (1, .func (.func 84) #[] #[.pointer (some ⟨b1_0', o1_0', none⟩), .pointer (some ⟨b1_1', o1_1', none⟩)]), (7, .int .i64 (s_0.length : Int)), (8, .int .i64 st4), (5, .int .i64 st4), (16, .bool x25)] ⟨rfl, rfl, rfl, rfl, rfl, rfl, trivial⟩ ?_
  refine WL.nil ?_
  refine WQ.then_normal (hK22 _ _ _ ?_)
  refine WP.cond x25 rfl rfl (fun hc33 => ?_) (fun hc33 => ?_)
  rotate_left
  · have hm := iteF hm hc33
    refine WP.skip ?_
    refine WQ.block_normal ?_
    refine WQ.then_normal (hK20 _ _ _ ?_)
    refine WP.region ?_
    refine WL.runk 2 [0, 1, 7, 8] [(0, .slice a0' s_0.length c0'), (1, .func (.func 84) #[] #[.pointer (some ⟨b1_0', o1_0', none⟩), .pointer (some ⟨b1_1', o1_1', none⟩)]), (7, .int .i64 (s_0.length : Int)), (8, .int .i64 (wI64 (st4 + 1)))] (by kernel_rfl) ?_
    refine WL.nil ?_
    obtain rfl := Option.some.inj hm
    exact WQ.round hK11 ⟨(wI64 (st4 + 1)), rfl, hb30, hL31, hS32, hl9⟩ (Nat.lt_succ_self _) ⟨rfl, rfl, rfl, rfl, trivial⟩
  have hm := iteT hm hc33
  refine WP.seq (fun K34 hK34 => ?_)
  refine WP.region ?_
  refine WL.runk 2 [4] [(4, .int .i64 st4)] (by kernel_rfl) ?_
  refine WL.nil ?_
  refine WQ.then_normal (hK34 _ _ _ ?_)
  refine WP.ret ?_
  refine WQ.block_ret ?_
  refine WQ.then_ret ?_
  refine WQ.then_ret ?_
  refine WQ.block_ret ?_
  refine WQ.then_ret ?_
  obtain rfl := Option.some.inj hm
  obtain rfl := afterN_done hl9
  have hm := hmo10
  obtain rfl := Option.some.inj hm
  exact WQ.ret1 _ rfl rfl ⟨rfl, hb30⟩

theorem c_82_84 (n : Nat) (s_0 : List Int) (a0' : Option Addr) (c0' : Nat) (cap_1_0 : List Int) (b1_0' o1_0' : Nat) (a1_0' : Option Addr) (c1_0' : Nat) (cap_1_1 : List SRepair) (b1_1' o1_1' : Nat) (a1_1' : Option Addr) (c1_1' : Nat) (w : World) {r : Bool} (hm : m_slices_ContainsFunc_int64_int64_f84 n s_0 cap_1_0 cap_1_1 = some r) (h0 : Rd fInt.ty w a0' s_0) (hle0 : s_0.length ≤ c0') (h1_0 : RdB w b1_0' o1_0' [.slice a1_0' cap_1_0.length c1_0']) (hr1_0 : Rd fInt.ty w a1_0' cap_1_0) (hle1_0 : cap_1_0.length ≤ c1_0') (h1_1 : RdB w b1_1' o1_1' [.slice a1_1' cap_1_1.length c1_1']) (hr1_1 : Rd fRepair.ty w a1_1' cap_1_1) (hle1_1 : cap_1_1.length ≤ c1_1') :
    CallV Tryz.prog 82 #[.slice a0' s_0.length c0', .func (.func 84) #[] #[.pointer (some ⟨b1_0', o1_0', none⟩), .pointer (some ⟨b1_1', o1_1', none⟩)]] w (fun v w' => v = .bool r ∧ Ext w w') := by
  unfold m_slices_ContainsFunc_int64_int64_f84 at hm
  refine CallV.enter Tryz.func82 rfl (by kernel_rfl) Tryz.ntmps82 (env := [(0, .slice a0' s_0.length c0'), (1, .func (.func 84) #[] #[.pointer (some ⟨b1_0', o1_0', none⟩), .pointer (some ⟨b1_1', o1_1', none⟩)])]) ⟨rfl, rfl, trivial⟩ ?_
  refine WP.seq (fun K1 hK1 => ?_)
  refine WP.region ?_
  refine WL.runk 1 [0, 1] [(0, .slice a0' s_0.length c0'), (1, .func (.func 84) #[] #[.pointer (some ⟨b1_0', o1_0', none⟩), .pointer (some ⟨b1_1', o1_1', none⟩)])] (by kernel_rfl) ?_
  refine WL.nil ?_
  refine WQ.then_normal (hK1 _ _ _ ?_)
  refine WP.seq (fun K2 hK2 => ?_)
  refine WP.region ?_
  refine WL.runk 2 [5, 6] [(5, .slice a0' s_0.length c0'), (6, .func (.func 84) #[] #[.pointer (some ⟨b1_0', o1_0', none⟩), .pointer (some ⟨b1_1', o1_1', none⟩)])] (by kernel_rfl) ?_
  obtain ⟨x3, hx4, hm⟩ := bindE hm
  refine WL.call 72 #[.slice a0' s_0.length c0', .func (.func 84) #[] #[.pointer (some ⟨b1_0', o1_0', none⟩), .pointer (some ⟨b1_1', o1_1', none⟩)]] rfl rfl (by kernel_rfl) (c_72_84 n s_0 a0' c0' cap_1_0 b1_0' o1_0' a1_0' c1_0' cap_1_1 b1_1' o1_1' a1_1' c1_1' w hx4 (Rd.below h0 (Ext.refl w)) hle0 (RdB.below h1_0 (Ext.refl w)) (Rd.below hr1_0 (Ext.refl w)) hle1_0 (RdB.below h1_1 (Ext.refl w)) (Rd.below hr1_1 (Ext.refl w)) hle1_1) ?_
  rintro _ w5 ⟨rfl, hE6⟩
  refine ⟨_, rfl, ?_⟩
  have hb8 : Ext w w5 := Ext.trans (Ext.refl w) hE6
  have hL9 : w.heap.size ≤ w5.heap.size := Nat.le_trans (Nat.le_refl _) hE6.size
  have hS10 : SH w5 w.heap.size [] := SH.ext (SH.nil _ _) hE6
  refine WL.runk 2 [4] [(4, .bool (decide (x3 ≥ 0)))] (by kernel_rfl) ?_
  refine WL.nil ?_
  refine WQ.then_normal (hK2 _ _ _ ?_)
  refine WP.ret ?_
  obtain rfl := Option.some.inj hm
  exact WQ.ret1 _ rfl rfl ⟨rfl, hb8⟩

theorem c_68 (n : Nat) (list_0 : List SRepair) (a0' : Option Addr) (c0' : Nat) (some_1 : List Int) (a1' : Option Addr) (c1' : Nat) (faults_2 : List Int) (a2' : Option Addr) (c2' : Nat) (w : World) {r : Bool} (hm : m_impl_mendsAll n list_0 some_1 faults_2 = some r) (h0 : Rd fRepair.ty w a0' list_0) (hle0 : list_0.length ≤ c0') (h1 : Rd fInt.ty w a1' some_1) (hle1 : some_1.length ≤ c1') (h2 : Rd fInt.ty w a2' faults_2) (hle2 : faults_2.length ≤ c2') :
    CallV Tryz.prog 68 #[.slice a0' list_0.length c0', .slice a1' some_1.length c1', .slice a2' faults_2.length c2'] w (fun v w' => v = .bool r ∧ Ext w w') := by
  unfold m_impl_mendsAll at hm
  refine CallV.enter Tryz.func68 rfl (by kernel_rfl) Tryz.ntmps68 (env := [(0, .slice a0' list_0.length c0'), (1, .slice a1' some_1.length c1'), (2, .slice a2' faults_2.length c2')]) ⟨rfl, rfl, rfl, trivial⟩ ?_
  refine WP.seq (fun K1 hK1 => ?_)
  refine WP.region ?_
  refine WL.box 24 [.slice a0' list_0.length c0'] 3 (by kernel_rfl) rfl rfl rfl rfl ?_
  intro b2 w3 hE4 hR5
  have hb7 : Ext w w3 := Ext.trans (Ext.refl w) hE4
  have hL8 : w.heap.size ≤ w3.heap.size := Nat.le_trans (Nat.le_refl _) hE4.size
  have hS9 : SH w3 w.heap.size [aBox 24 b2 [.slice a0' list_0.length c0']] := SH.add (SH.nil _ _) hE4 (Nat.le_refl _) hR5
  refine WL.box 25 [.slice a1' some_1.length c1'] 4 (by kernel_rfl) rfl rfl rfl rfl ?_
  intro b10 w11 hE12 hR13
  have hb15 : Ext w w11 := Ext.trans hb7 hE12
  have hL16 : w.heap.size ≤ w11.heap.size := Nat.le_trans hL8 hE12.size
  have hS17 : SH w11 w.heap.size [aBox 25 b10 [.slice a1' some_1.length c1'], aBox 24 b2 [.slice a0' list_0.length c0']] := SH.add hS9 hE12 hL8 hR13
  refine WL.runk 1 [2, 3, 4] [(2, .slice a2' faults_2.length c2'), (3, .pointer (some ⟨b2, 0, none⟩)), (4, .pointer (some ⟨b10, 0, none⟩))] (by kernel_rfl) ?_
  refine WL.nil ?_
  refine WQ.then_normal (hK1 _ _ _ ?_)
  refine WP.seq (fun K18 hK18 => ?_)
  refine WP.seq (fun K19 hK19 => ?_)
  refine WP.region ?_
  refine WL.st (.slice a1' some_1.length c1') (ST.load (cell_ext (SH.boxAt (SH.front 0 hS17) 0 _ rfl)) rfl rfl Tryz.underlying25 rfl) rfl rfl rfl ?_
  refine WL.runk 2 [2, 3, 4, 9, 10, 11] [(2, .slice a2' faults_2.length c2'), (3, .pointer (some ⟨b2, 0, none⟩)), (4, .pointer (some ⟨b10, 0, none⟩)), (9, .slice a1' some_1.length c1'), (10, .int .i64 (some_1.length : Int)), (11, .int .i64 0)] (by kernel_rfl) ?_
  refine WL.nil ?_
  refine WQ.then_normal (hK19 _ _ _ ?_)
  refine WP.block ?_
  obtain ⟨t31, ht32, hm⟩ := bindE hm
  have hmo26 := hm; clear hm
  refine WP.sub [(2, .slice a2' faults_2.length c2'), (3, .pointer (some ⟨b2, 0, none⟩)), (4, .pointer (some ⟨b10, 0, none⟩)), (9, .slice a1' some_1.length c1'), (10, .int .i64 (some_1.length : Int)), (11, .int .i64 0)] ⟨rfl, rfl, rfl, rfl, rfl, rfl, trivial⟩ ?_
  refine WP.loop (fun n' env' w' => ∃ (st20 : Int) , env' = [(2, .slice a2' faults_2.length c2'), (3, .pointer (some ⟨b2, 0, none⟩)), (4, .pointer (some ⟨b10, 0, none⟩)), (9, .slice a1' some_1.length c1'), (10, .int .i64 (some_1.length : Int)), (11, .int .i64 st20)] ∧ Ext w w' ∧ w.heap.size ≤ w'.heap.size ∧ SH w' w.heap.size [aBox 25 b10 [.slice a1' some_1.length c1'], aBox 24 b2 [.slice a0' list_0.length c0']] ∧ loopN (m_impl_mendsAll_l1 n list_0 some_1) n' st20 = some t31) n ⟨0, rfl, hb15, hL16, hS17, ht32⟩ ?_
  rintro n28 _ w21 ⟨st20, rfl, hb22, hL23, hS24, hl25⟩ K27 hK27
  obtain ⟨n29, s30, rfl, hm, hl25⟩ := loopN_some hl25
  unfold m_impl_mendsAll_l1 at hm
  refine WP.seq (fun K33 hK33 => ?_)
  refine WP.region ?_
  refine WL.runk 1 [2, 3, 4, 9, 10, 11, 12] [(2, .slice a2' faults_2.length c2'), (3, .pointer (some ⟨b2, 0, none⟩)), (4, .pointer (some ⟨b10, 0, none⟩)), (9, .slice a1' some_1.length c1'), (10, .int .i64 (some_1.length : Int)), (11, .int .i64 st20), (12, .bool (decide (st20 < (some_1.length : Int))))] (by kernel_rfl) ?_
  refine WL.nil ?_
  refine WQ.then_normal (hK33 _ _ _ ?_)
  refine WP.seq (fun K34 hK34 => ?_)
  refine WP.cond (decide (st20 < (some_1.length : Int))) rfl rfl (fun hc35 => ?_) (fun hc35 => ?_)
  rotate_left
  · have hm := iteF hm hc35
    refine WP.exit ?_
    refine WQ.then_exit ?_
    refine WQ.then_exit ?_
    refine WQ.block_here ?_
    obtain rfl := Option.some.inj hm
    obtain rfl := afterN_done hl25
    have hm := hmo26
    refine WQ.then_normal (hK18 _ _ _ ?_)
    refine WP.seq (fun K64 hK64 => ?_)
    refine WP.region ?_
    refine WL.runk 2 [23, 24] [(23, .slice a2' faults_2.length c2'), (24, .func (.func 84) #[] #[.pointer (some ⟨b10, 0, none⟩), .pointer (some ⟨b2, 0, none⟩)])] (by kernel_rfl) ?_
    obtain ⟨x65, hx66, hm⟩ := bindE hm
    refine WL.call 82 #[.slice a2' faults_2.length c2', .func (.func 84) #[] #[.pointer (some ⟨b10, 0, none⟩), .pointer (some ⟨b2, 0, none⟩)]] rfl rfl (by kernel_rfl) (c_82_84 n faults_2 a2' c2' some_1 b10 0 a1' c1' list_0 b2 0 a0' c0' w21 hx66 (Rd.below h2 hb22) hle2 (SH.boxRd (SH.front 0 hS24)) (Rd.below h1 hb22) hle1 (SH.boxRd (SH.front 1 hS24)) (Rd.below h0 hb22) hle0) ?_
    rintro _ w67 ⟨rfl, hE68⟩
    refine ⟨_, rfl, ?_⟩
    have hb70 : Ext w w67 := Ext.trans hb22 hE68
    have hL71 : w.heap.size ≤ w67.heap.size := Nat.le_trans hL23 hE68.size
    have hS72 : SH w67 w.heap.size [aBox 25 b10 [.slice a1' some_1.length c1'], aBox 24 b2 [.slice a0' list_0.length c0']] := SH.ext hS24 hE68
    refine WL.runk 2 [6] [(6, .bool (!x65))] (by kernel_rfl) ?_
    refine WL.nil ?_
    refine WQ.then_normal (hK64 _ _ _ ?_)
    refine WP.ret ?_
    obtain rfl := Option.some.inj hm
    exact WQ.ret1 _ rfl rfl ⟨rfl, hb70⟩
  have hm := iteT hm hc35
  refine WP.skip ?_
  refine WQ.then_normal (hK34 _ _ _ ?_)
  refine WP.seq (fun K36 hK36 => ?_)
  refine WP.block ?_
  refine WP.seq (fun K37 hK37 => ?_)
  refine WP.region ?_
  obtain ⟨x38, hx39, hm⟩ := bindE hm
  refine WL.st (.pointer (some (at_ a1' (Int.toNat st20 * 1)))) (ST.index (T := fInt.ty) (xs := some_1) (Rd.below h1 hb22) hx39 rfl rfl rfl Tryz.underlying25 (info2).1 (info2).2.1) rfl rfl rfl ?_
  refine WL.st (.int .i64 x38) (ST.load (cell_ext (Rd.flat (F := fInt) (Rd.below h1 hb22) hx39 0 rfl)) rfl rfl Tryz.underlying2 rfl) rfl rfl rfl ?_
  refine WL.runk 1 [2, 3, 4, 8, 9, 10, 11] [(2, .slice a2' faults_2.length c2'), (3, .pointer (some ⟨b2, 0, none⟩)), (4, .pointer (some ⟨b10, 0, none⟩)), (9, .slice a1' some_1.length c1'), (10, .int .i64 (some_1.length : Int)), (11, .int .i64 st20), (8, .int .i64 x38)] (by kernel_rfl) ?_
  refine WL.nil ?_
  refine WQ.then_normal (hK37 _ _ _ ?_)
  refine WP.seq (fun K40 hK40 => ?_)
  refine WP.region ?_
  refine WL.st (.slice a0' list_0.length c0') (ST.load (cell_ext (SH.boxAt (SH.front 1 hS24) 0 _ rfl)) rfl rfl Tryz.underlying24 rfl) rfl rfl rfl ?_
  refine WL.runk 1 [2, 3, 4, 9, 10, 11, 15, 16] [(2, .slice a2' faults_2.length c2'), (3, .pointer (some ⟨b2, 0, none⟩)), (4, .pointer (some ⟨b10, 0, none⟩)), (9, .slice a1' some_1.length c1'), (10, .int .i64 (some_1.length : Int)), (11, .int .i64 st20), (15, .slice a0' list_0.length c0'), (16, .int .i64 x38)] (by kernel_rfl) ?_
  obtain ⟨x41, hx42, hm⟩ := bindE hm
  obtain ⟨a43, c44, a48, c49, hc53, hR45, hle46, hR50, hle51⟩ := nest_Repair h0 hx42
  refine WL.st (.pointer (some (at_ a0' (Int.toNat x38 * 5)))) (ST.index (T := fRepair.ty) (xs := list_0) (Rd.below h0 hb22) hx42 rfl rfl rfl Tryz.underlying24 (info48).1 (info48).2.1) rfl rfl rfl ?_
  refine WL.runk 1 [2, 3, 4, 9, 10, 11, 18] [(2, .slice a2' faults_2.length c2'), (3, .pointer (some ⟨b2, 0, none⟩)), (4, .pointer (some ⟨b10, 0, none⟩)), (9, .slice a1' some_1.length c1'), (10, .int .i64 (some_1.length : Int)), (11, .int .i64 st20), (18, .pointer (some (at_ a0' (Int.toNat x38 * 5 + 2))))] (by kernel_rfl) ?_
  refine WL.st (.slice a48 x41.First.length c49) (ST.load (cell_ext ((cells_ext hc53 hb22) 2 _ rfl)) rfl rfl Tryz.underlying25 rfl) rfl rfl rfl ?_
  refine WL.runk 1 [2, 3, 4, 9, 10, 11, 19, 20] [(2, .slice a2' faults_2.length c2'), (3, .pointer (some ⟨b2, 0, none⟩)), (4, .pointer (some ⟨b10, 0, none⟩)), (9, .slice a1' some_1.length c1'), (10, .int .i64 (some_1.length : Int)), (11, .int .i64 st20), (19, .slice a48 x41.First.length c49), (20, .func (.func 83) #[] #[.pointer (some ⟨b10, 0, none⟩)])] (by kernel_rfl) ?_
  obtain ⟨x54, hx55, hm⟩ := bindE hm
  refine WL.call 82 #[.slice a48 x41.First.length c49, .func (.func 83) #[] #[.pointer (some ⟨b10, 0, none⟩)]] rfl rfl (by kernel_rfl) (c_82_83 n x41.First a48 c49 some_1 b10 0 a1' c1' w21 hx55 (Rd.below hR50 hb22) hle51 (SH.boxRd (SH.front 0 hS24)) (Rd.below h1 hb22) hle1) ?_
  rintro _ w56 ⟨rfl, hE57⟩
  refine ⟨_, rfl, ?_⟩
  have hb59 : Ext w w56 := Ext.trans hb22 hE57
  have hL60 : w.heap.size ≤ w56.heap.size := Nat.le_trans hL23 hE57.size
  have hS61 : SH w56 w.heap.size [aBox 25 b10 [.slice a1' some_1.length c1'], aBox 24 b2 [.slice a0' list_0.length c0']] := SH.ext hS24 hE57
  refine WL.sub [(2, .slice a2' faults_2.length c2'), (3, .pointer (some ⟨b2, 0, none⟩)), (4, .pointer (some ⟨b10, 0, none⟩)), (9, .slice a1' some_1.length c1'), (10, .int .i64 (some_1.length : Int)), (11, .int .i64 st20), (21, .bool x54)] ⟨rfl, rfl, rfl, rfl, rfl, rfl, rfl, trivial⟩ ?_
  refine WL.nil ?_
  refine WQ.then_normal (hK40 _ _ _ ?_)
  refine WP.cond x54 rfl rfl (fun hc62 => ?_) (fun hc62 => ?_)
  rotate_left
  · have hm := iteF hm hc62
    refine WP.skip ?_
    refine WQ.block_normal ?_
    refine WQ.then_normal (hK36 _ _ _ ?_)
    refine WP.region ?_
    refine WL.runk 2 [2, 3, 4, 9, 10, 11] [(2, .slice a2' faults_2.length c2'), (3, .pointer (some ⟨b2, 0, none⟩)), (4, .pointer (some ⟨b10, 0, none⟩)), (9, .slice a1' some_1.length c1'), (10, .int .i64 (some_1.length : Int)), (11, .int .i64 (wI64 (st20 + 1)))] (by kernel_rfl) ?_
    refine WL.nil ?_
    obtain rfl := Option.some.inj hm
    exact WQ.round hK27 ⟨(wI64 (st20 + 1)), rfl, hb59, hL60, hS61, hl25⟩ (Nat.lt_succ_self _) ⟨rfl, rfl, rfl, rfl, rfl, rfl, trivial⟩
  have hm := iteT hm hc62
  refine WP.seq (fun K63 hK63 => ?_)
  refine WP.region ?_
  refine WL.runk 1 [6] [(6, .bool false)] (by kernel_rfl) ?_
  refine WL.nil ?_
  refine WQ.then_normal (hK63 _ _ _ ?_)
  refine WP.ret ?_
  refine WQ.block_ret ?_
  refine WQ.then_ret ?_
  refine WQ.then_ret ?_
  refine WQ.block_ret ?_
  refine WQ.then_ret ?_
  obtain rfl := Option.some.inj hm
  obtain rfl := afterN_done hl25
  have hm := hmo26
  obtain rfl := Option.some.inj hm
  exact WQ.ret1 _ rfl rfl ⟨rfl, hb59⟩

theorem c_28 (n : Nat) (list_0 : List SRepair) (a0' : Option Addr) (c0' : Nat) (some_1 : List Int) (a1' : Option Addr) (c1' : Nat) (faults_2 : List Int) (a2' : Option Addr) (c2' : Nat) (w : World) {r : Bool × Int} (hm : m_impl_MendsAll n list_0 some_1 faults_2 = some r) (h0 : Rd fRepair.ty w a0' list_0) (hle0 : list_0.length ≤ c0') (h1 : Rd fInt.ty w a1' some_1) (hle1 : some_1.length ≤ c1') (h2 : Rd fInt.ty w a2' faults_2) (hle2 : faults_2.length ≤ c2') :
    CallV Tryz.prog 28 #[.slice a0' list_0.length c0', .slice a1' some_1.length c1', .slice a2' faults_2.length c2'] w (fun v w' => v = .tuple #[.bool r.1, .int .i64 r.2] ∧ Ext w w') := by
  unfold m_impl_MendsAll at hm
  refine CallV.enter Tryz.func28 rfl (by kernel_rfl) Tryz.ntmps28 (env := [(0, .slice a0' list_0.length c0'), (1, .slice a1' some_1.length c1'), (2, .slice a2' faults_2.length c2')]) ⟨rfl, rfl, rfl, trivial⟩ ?_
  refine WP.seq (fun K1 hK1 => ?_)
  refine WP.region ?_
  refine WL.runk 2 [0, 1, 2] [(0, .slice a0' list_0.length c0'), (1, .slice a1' some_1.length c1'), (2, .slice a2' faults_2.length c2')] (by kernel_rfl) ?_
  refine WL.nil ?_
  refine WQ.then_normal (hK1 _ _ _ ?_)
  refine WP.seq (fun K2 hK2 => ?_)
  refine WP.seq (fun K3 hK3 => ?_)
  refine WP.region ?_
  refine WL.runk 3 [0, 1, 2, 9, 10, 11] [(0, .slice a0' list_0.length c0'), (1, .slice a1' some_1.length c1'), (2, .slice a2' faults_2.length c2'), (9, .slice a0' list_0.length c0'), (10, .slice a1' some_1.length c1'), (11, .slice a2' faults_2.length c2')] (by kernel_rfl) ?_
  obtain ⟨x4, hx5, hm⟩ := bindE hm
  refine WL.call 30 #[.slice a0' list_0.length c0', .slice a1' some_1.length c1', .slice a2' faults_2.length c2'] rfl rfl (by kernel_rfl) (c_30 n list_0 a0' c0' some_1 a1' c1' faults_2 a2' c2' w hx5 (Rd.below h0 (Ext.refl w)) hle0 (Rd.below h1 (Ext.refl w)) hle1 (Rd.below h2 (Ext.refl w)) hle2) ?_
  rintro _ w6 ⟨rfl, hE7⟩
  refine ⟨_, rfl, ?_⟩
  have hb9 : Ext w w6 := Ext.trans (Ext.refl w) hE7
  have hL10 : w.heap.size ≤ w6.heap.size := Nat.le_trans (Nat.le_refl _) hE7.size
  have hS11 : SH w6 w.heap.size [] := SH.ext (SH.nil _ _) hE7
  refine WL.runk 1 [0, 1, 2, 8] [(0, .slice a0' list_0.length c0'), (1, .slice a1' some_1.length c1'), (2, .slice a2' faults_2.length c2'), (8, .int .i64 x4)] (by kernel_rfl) ?_
  refine WL.nil ?_
  refine WQ.then_normal (hK3 _ _ _ ?_)
  refine WP.seq (fun K12 hK12 => ?_)
  refine WP.region ?_
  refine WL.runk 2 [0, 1, 2, 8, 14] [(0, .slice a0' list_0.length c0'), (1, .slice a1' some_1.length c1'), (2, .slice a2' faults_2.length c2'), (8, .int .i64 x4), (14, .bool (x4 != 0))] (by kernel_rfl) ?_
  refine WL.nil ?_
  refine WQ.then_normal (hK12 _ _ _ ?_)
  refine WP.cond (x4 != 0) rfl rfl (fun hc13 => ?_) (fun hc13 => ?_)
  · have hm := iteT hm hc13
    refine WP.seq (fun K14 hK14 => ?_)
    refine WP.region ?_
    refine WL.runk 3 [6, 7] [(6, .bool false), (7, .int .i64 x4)] (by kernel_rfl) ?_
    refine WL.nil ?_
    refine WQ.then_normal (hK14 _ _ _ ?_)
    refine WP.ret ?_
    refine WQ.then_ret ?_
    obtain rfl := Option.some.inj hm
    exact WQ.ret2 _ _ rfl rfl rfl ⟨rfl, hb9⟩
  have hm := iteF hm hc13
  refine WP.skip ?_
  refine WQ.then_normal (hK2 _ _ _ ?_)
  refine WP.seq (fun K15 hK15 => ?_)
  refine WP.region ?_
  refine WL.runk 3 [16, 17, 18] [(16, .slice a0' list_0.length c0'), (17, .slice a1' some_1.length c1'), (18, .slice a2' faults_2.length c2')] (by kernel_rfl) ?_
  obtain ⟨x16, hx17, hm⟩ := bindE hm
  refine WL.call 68 #[.slice a0' list_0.length c0', .slice a1' some_1.length c1', .slice a2' faults_2.length c2'] rfl rfl (by kernel_rfl) (c_68 n list_0 a0' c0' some_1 a1' c1' faults_2 a2' c2' w6 hx17 (Rd.below h0 hb9) hle0 (Rd.below h1 hb9) hle1 (Rd.below h2 hb9) hle2) ?_
  rintro _ w18 ⟨rfl, hE19⟩
  refine ⟨_, rfl, ?_⟩
  have hb21 : Ext w w18 := Ext.trans hb9 hE19
  have hL22 : w.heap.size ≤ w18.heap.size := Nat.le_trans hL10 hE19.size
  have hS23 : SH w18 w.heap.size [] := SH.ext hS11 hE19
  refine WL.runk 2 [6, 7] [(6, .bool x16), (7, .int .i64 0)] (by kernel_rfl) ?_
  refine WL.nil ?_
  refine WQ.then_normal (hK15 _ _ _ ?_)
  refine WP.ret ?_
  obtain rfl := Option.some.inj hm
  exact WQ.ret2 _ _ rfl rfl rfl ⟨rfl, hb21⟩

theorem c_3 (n : Nat) (code_0 : List Int) (a0' : Option Addr) (c0' : Nat) (w : World) {r : Bool} (hm : m_laws_FnRepairs n code_0 = some r) (hG : GL 2 w) (h0 : Rd fU8.ty w a0' code_0) (hle0 : code_0.length ≤ c0') :
    CallV Tryz.prog 3 #[.slice a0' code_0.length c0'] w (fun v w' => v = .bool r ∧ Ext w w') := by
  unfold m_laws_FnRepairs at hm
  refine CallV.enter Tryz.func3 rfl (by kernel_rfl) Tryz.ntmps3 (env := [(0, .slice a0' code_0.length c0')]) ⟨rfl, trivial⟩ ?_
  refine WP.seq (fun K1 hK1 => ?_)
  refine WP.region ?_
  refine WL.runk 1 [0] [(0, .slice a0' code_0.length c0')] (by kernel_rfl) ?_
  refine WL.nil ?_
  refine WQ.then_normal (hK1 _ _ _ ?_)
  refine WP.seq (fun K2 hK2 => ?_)
  refine WP.seq (fun K3 hK3 => ?_)
  refine WP.region ?_
  refine WL.runk 1 [0, 41] [(0, .slice a0' code_0.length c0'), (41, .slice a0' code_0.length c0')] (by kernel_rfl) ?_
  obtain ⟨x4, hx5, hm⟩ := bindE hm
  refine WL.call 4 #[.slice a0' code_0.length c0'] rfl rfl (by kernel_rfl) (c_4 n code_0 a0' c0' w hx5 (Rd.below h0 (Ext.refl w)) hle0) ?_
  rintro _ w6 ⟨rfl, hE7⟩
  refine ⟨_, rfl, ?_⟩
  have hb9 : Ext w w6 := Ext.trans (Ext.refl w) hE7
  have hL10 : w.heap.size ≤ w6.heap.size := Nat.le_trans (Nat.le_refl _) hE7.size
  have hS11 : SH w6 w.heap.size [] := SH.ext (SH.nil _ _) hE7
  refine WL.sub [(0, .slice a0' code_0.length c0'), (42, .bool x4)] ⟨rfl, rfl, trivial⟩ ?_
  refine WL.nil ?_
  refine WQ.then_normal (hK3 _ _ _ ?_)
  refine WP.cond x4 rfl rfl (fun hc12 => ?_) (fun hc12 => ?_)
  · have hm := iteT hm hc12
    refine WP.seq (fun K13 hK13 => ?_)
    refine WP.region ?_
    refine WL.runk 1 [2] [(2, .bool true)] (by kernel_rfl) ?_
    refine WL.nil ?_
    refine WQ.then_normal (hK13 _ _ _ ?_)
    refine WP.ret ?_
    refine WQ.then_ret ?_
    obtain rfl := Option.some.inj hm
    exact WQ.ret1 _ rfl rfl ⟨rfl, hb9⟩
  have hm := iteF hm hc12
  refine WP.skip ?_
  refine WQ.then_normal (hK2 _ _ _ ?_)
  refine WP.seq (fun K14 hK14 => ?_)
  refine WP.region ?_
  refine WL.runk 1 [0, 44] [(0, .slice a0' code_0.length c0'), (44, .slice a0' code_0.length c0')] (by kernel_rfl) ?_
  obtain ⟨x15, hx16, hm⟩ := bindE hm
  refine WL.call 5 #[.slice a0' code_0.length c0'] rfl rfl (by kernel_rfl) (c_5 n code_0 a0' c0' w6 hx16 (Rd.below h0 hb9) hle0) ?_
  rintro _ w23 ⟨a17, c18, a20, c21, rfl, hE24, hR25⟩
  refine ⟨_, rfl, ?_⟩
  have hb26 : Ext w w23 := Ext.trans hb9 hE24
  have hL27 : w.heap.size ≤ w23.heap.size := Nat.le_trans hL10 hE24.size
  have hS28 : SH w23 w.heap.size [aNest fRepair 48 2 a17 c18 x15.1, aOwn fInt 2 a20 c21 x15.2] := SH.add hS11 hE24 hL10 hR25
  refine WL.runk 5 [0, 3, 4] [(0, .slice a0' code_0.length c0'), (3, .slice a17 x15.1.length c18), (4, .slice a20 x15.2.length c21)] (by kernel_rfl) ?_
  refine WL.nil ?_
  refine WQ.then_normal (hK14 _ _ _ ?_)
  refine WP.seq (fun K29 hK29 => ?_)
  refine WP.region ?_
  refine WL.runk 2 [0, 3, 4, 49, 50] [(0, .slice a0' code_0.length c0'), (3, .slice a17 x15.1.length c18), (4, .slice a20 x15.2.length c21), (49, .slice a17 x15.1.length c18), (50, .slice a20 x15.2.length c21)] (by kernel_rfl) ?_
  obtain ⟨x30, hx31, hm⟩ := bindE hm
  refine WL.call 6 #[.slice a17 x15.1.length c18, .slice a20 x15.2.length c21] rfl rfl (by kernel_rfl) (c_6 n x15.1 a17 c18 x15.2 a20 c21 w23 hx31 (SH.rdN (SH.front 0 hS28)) (SH.leN (SH.front 0 hS28)).1 (SH.rd (SH.front 1 hS28)) (SH.le (SH.front 1 hS28)).1) ?_
  rintro _ w35 ⟨a32, c33, rfl, hE36, hR37⟩
  refine ⟨_, rfl, ?_⟩
  have hb38 : Ext w w35 := Ext.trans hb26 hE36
  have hL39 : w.heap.size ≤ w35.heap.size := Nat.le_trans hL27 hE36.size
  have hS40 : SH w35 w.heap.size [aOwn fInt 2 a32 c33 x30.1, aNest fRepair 48 2 a17 c18 x15.1, aOwn fInt 2 a20 c21 x15.2] := SH.add hS28 hE36 hL27 hR37
  refine WL.runk 5 [0, 3, 4, 5, 6] [(0, .slice a0' code_0.length c0'), (3, .slice a17 x15.1.length c18), (4, .slice a20 x15.2.length c21), (5, .slice a32 x30.1.length c33), (6, .int .i64 x30.2)] (by kernel_rfl) ?_
  refine WL.nil ?_
  refine WQ.then_normal (hK29 _ _ _ ?_)
  refine WP.seq (fun K41 hK41 => ?_)
  refine WP.region ?_
  refine WL.runk 2 [0, 3, 4, 5, 6, 55, 56] [(0, .slice a0' code_0.length c0'), (3, .slice a17 x15.1.length c18), (4, .slice a20 x15.2.length c21), (5, .slice a32 x30.1.length c33), (6, .int .i64 x30.2), (55, .slice a17 x15.1.length c18), (56, .slice a20 x15.2.length c21)] (by kernel_rfl) ?_
  obtain ⟨x42, hx43, hm⟩ := bindE hm
  refine WL.call 7 #[.slice a17 x15.1.length c18, .slice a20 x15.2.length c21] rfl rfl (by kernel_rfl) (c_7 n x15.1 a17 c18 x15.2 a20 c21 w35 hx43 (SH.rdN (SH.front 1 hS40)) (SH.leN (SH.front 1 hS40)).1 (SH.rd (SH.front 2 hS40)) (SH.le (SH.front 2 hS40)).1) ?_
  rintro _ w47 ⟨a44, c45, rfl, hE48, hR49⟩
  refine ⟨_, rfl, ?_⟩
  have hb50 : Ext w w47 := Ext.trans hb38 hE48
  have hL51 : w.heap.size ≤ w47.heap.size := Nat.le_trans hL39 hE48.size
  have hS52 : SH w47 w.heap.size [aOwn fInt 2 a44 c45 x42.1, aOwn fInt 2 a32 c33 x30.1, aNest fRepair 48 2 a17 c18 x15.1, aOwn fInt 2 a20 c21 x15.2] := SH.add hS40 hE48 hL39 hR49
  refine WL.runk 5 [0, 3, 4, 5, 6, 7, 8] [(0, .slice a0' code_0.length c0'), (3, .slice a17 x15.1.length c18), (4, .slice a20 x15.2.length c21), (5, .slice a32 x30.1.length c33), (6, .int .i64 x30.2), (7, .slice a44 x42.1.length c45), (8, .int .i64 x42.2)] (by kernel_rfl) ?_
  refine WL.nil ?_
  refine WQ.then_normal (hK41 _ _ _ ?_)
  refine WP.seq (fun K53 hK53 => ?_)
  refine WP.region ?_
  refine WL.runk 2 [0, 3, 4, 5, 6, 7, 8, 61, 62] [(0, .slice a0' code_0.length c0'), (3, .slice a17 x15.1.length c18), (4, .slice a20 x15.2.length c21), (5, .slice a32 x30.1.length c33), (6, .int .i64 x30.2), (7, .slice a44 x42.1.length c45), (8, .int .i64 x42.2), (61, .slice a17 x15.1.length c18), (62, .slice a20 x15.2.length c21)] (by kernel_rfl) ?_
  obtain ⟨x54, hx55, hm⟩ := bindE hm
  refine WL.call 8 #[.slice a17 x15.1.length c18, .slice a20 x15.2.length c21] rfl rfl (by kernel_rfl) (c_8 n x15.1 a17 c18 x15.2 a20 c21 w47 hx55 (SH.rdN (SH.front 2 hS52)) (SH.leN (SH.front 2 hS52)).1 (SH.rd (SH.front 3 hS52)) (SH.le (SH.front 3 hS52)).1) ?_
  rintro _ w56 ⟨rfl, hE57⟩
  refine ⟨_, rfl, ?_⟩
  have hb59 : Ext w w56 := Ext.trans hb50 hE57
  have hL60 : w.heap.size ≤ w56.heap.size := Nat.le_trans hL51 hE57.size
  have hS61 : SH w56 w.heap.size [aOwn fInt 2 a44 c45 x42.1, aOwn fInt 2 a32 c33 x30.1, aNest fRepair 48 2 a17 c18 x15.1, aOwn fInt 2 a20 c21 x15.2] := SH.ext hS52 hE57
  refine WL.runk 5 [0, 3, 4, 5, 6, 7, 8, 9, 10] [(0, .slice a0' code_0.length c0'), (3, .slice a17 x15.1.length c18), (4, .slice a20 x15.2.length c21), (5, .slice a32 x30.1.length c33), (6, .int .i64 x30.2), (7, .slice a44 x42.1.length c45), (8, .int .i64 x42.2), (9, .int .i64 x54.1), (10, .int .i64 x54.2)] (by kernel_rfl) ?_
  refine WL.nil ?_
  refine WQ.then_normal (hK53 _ _ _ ?_)
  refine WP.seq (fun K62 hK62 => ?_)
  refine WP.region ?_
  refine WL.runk 2 [0, 3, 4, 5, 6, 7, 8, 9, 10, 67, 68] [(0, .slice a0' code_0.length c0'), (3, .slice a17 x15.1.length c18), (4, .slice a20 x15.2.length c21), (5, .slice a32 x30.1.length c33), (6, .int .i64 x30.2), (7, .slice a44 x42.1.length c45), (8, .int .i64 x42.2), (9, .int .i64 x54.1), (10, .int .i64 x54.2), (67, .slice a17 x15.1.length c18), (68, .slice a20 x15.2.length c21)] (by kernel_rfl) ?_
  obtain ⟨x63, hx64, hm⟩ := bindE hm
  refine WL.call 9 #[.slice a17 x15.1.length c18, .slice a20 x15.2.length c21] rfl rfl (by kernel_rfl) (c_9 n x15.1 a17 c18 x15.2 a20 c21 w56 hx64 (SH.rdN (SH.front 2 hS61)) (SH.leN (SH.front 2 hS61)).1 (SH.rd (SH.front 3 hS61)) (SH.le (SH.front 3 hS61)).1) ?_
  rintro _ w65 ⟨rfl, hE66⟩
  refine ⟨_, rfl, ?_⟩
  have hb68 : Ext w w65 := Ext.trans hb59 hE66
  have hL69 : w.heap.size ≤ w65.heap.size := Nat.le_trans hL60 hE66.size
  have hS70 : SH w65 w.heap.size [aOwn fInt 2 a44 c45 x42.1, aOwn fInt 2 a32 c33 x30.1, aNest fRepair 48 2 a17 c18 x15.1, aOwn fInt 2 a20 c21 x15.2] := SH.ext hS61 hE66
  refine WL.runk 5 [0, 3, 4, 5, 6, 7, 8, 9, 10, 11, 12] [(0, .slice a0' code_0.length c0'), (3, .slice a17 x15.1.length c18), (4, .slice a20 x15.2.length c21), (5, .slice a32 x30.1.length c33), (6, .int .i64 x30.2), (7, .slice a44 x42.1.length c45), (8, .int .i64 x42.2), (9, .int .i64 x54.1), (10, .int .i64 x54.2), (11, .int .i64 x63.1), (12, .int .i64 x63.2)] (by kernel_rfl) ?_
  refine WL.nil ?_
  refine WQ.then_normal (hK62 _ _ _ ?_)
  refine WP.seq (fun K71 hK71 => ?_)
  refine WP.region ?_
  refine WL.runk 2 [0, 3, 4, 5, 6, 7, 8, 9, 10, 11, 12, 73, 74] [(0, .slice a0' code_0.length c0'), (3, .slice a17 x15.1.length c18), (4, .slice a20 x15.2.length c21), (5, .slice a32 x30.1.length c33), (6, .int .i64 x30.2), (7, .slice a44 x42.1.length c45), (8, .int .i64 x42.2), (9, .int .i64 x54.1), (10, .int .i64 x54.2), (11, .int .i64 x63.1), (12, .int .i64 x63.2), (73, .slice a17 x15.1.length c18), (74, .slice a20 x15.2.length c21)] (by kernel_rfl) ?_
  obtain ⟨x72, hx73, hm⟩ := bindE hm
  refine WL.call 10 #[.slice a17 x15.1.length c18, .slice a20 x15.2.length c21] rfl rfl (by kernel_rfl) (c_10 n x15.1 a17 c18 x15.2 a20 c21 w65 hx73 (SH.rdN (SH.front 2 hS70)) (SH.leN (SH.front 2 hS70)).1 (SH.rd (SH.front 3 hS70)) (SH.le (SH.front 3 hS70)).1) ?_
  rintro _ w74 ⟨rfl, hE75⟩
  refine ⟨_, rfl, ?_⟩
  have hb77 : Ext w w74 := Ext.trans hb68 hE75
  have hL78 : w.heap.size ≤ w74.heap.size := Nat.le_trans hL69 hE75.size
  have hS79 : SH w74 w.heap.size [aOwn fInt 2 a44 c45 x42.1, aOwn fInt 2 a32 c33 x30.1, aNest fRepair 48 2 a17 c18 x15.1, aOwn fInt 2 a20 c21 x15.2] := SH.ext hS70 hE75
  refine WL.runk 5 [0, 3, 4, 5, 6, 7, 8, 9, 10, 11, 12, 13, 14] [(0, .slice a0' code_0.length c0'), (3, .slice a17 x15.1.length c18), (4, .slice a20 x15.2.length c21), (5, .slice a32 x30.1.length c33), (6, .int .i64 x30.2), (7, .slice a44 x42.1.length c45), (8, .int .i64 x42.2), (9, .int .i64 x54.1), (10, .int .i64 x54.2), (11, .int .i64 x63.1), (12, .int .i64 x63.2), (13, .int .i64 x72.1), (14, .int .i64 x72.2)] (by kernel_rfl) ?_
  refine WL.nil ?_
  refine WQ.then_normal (hK71 _ _ _ ?_)
  refine WP.seq (fun K80 hK80 => ?_)
  refine WP.region ?_
  refine WL.runk 2 [0, 3, 4, 5, 6, 7, 8, 9, 10, 11, 12, 13, 14, 79, 80] [(0, .slice a0' code_0.length c0'), (3, .slice a17 x15.1.length c18), (4, .slice a20 x15.2.length c21), (5, .slice a32 x30.1.length c33), (6, .int .i64 x30.2), (7, .slice a44 x42.1.length c45), (8, .int .i64 x42.2), (9, .int .i64 x54.1), (10, .int .i64 x54.2), (11, .int .i64 x63.1), (12, .int .i64 x63.2), (13, .int .i64 x72.1), (14, .int .i64 x72.2), (79, .slice a17 x15.1.length c18), (80, .slice a20 x15.2.length c21)] (by kernel_rfl) ?_
  obtain ⟨x81, hx82, hm⟩ := bindE hm
  refine WL.call 11 #[.slice a17 x15.1.length c18, .slice a20 x15.2.length c21] rfl rfl (by kernel_rfl) (c_11 n x15.1 a17 c18 x15.2 a20 c21 w74 hx82 (SH.rdN (SH.front 2 hS79)) (SH.leN (SH.front 2 hS79)).1 (SH.rd (SH.front 3 hS79)) (SH.le (SH.front 3 hS79)).1) ?_
  rintro _ w83 ⟨rfl, hE84⟩
  refine ⟨_, rfl, ?_⟩
  have hb86 : Ext w w83 := Ext.trans hb77 hE84
  have hL87 : w.heap.size ≤ w83.heap.size := Nat.le_trans hL78 hE84.size
  have hS88 : SH w83 w.heap.size [aOwn fInt 2 a44 c45 x42.1, aOwn fInt 2 a32 c33 x30.1, aNest fRepair 48 2 a17 c18 x15.1, aOwn fInt 2 a20 c21 x15.2] := SH.ext hS79 hE84
  refine WL.runk 5 [0, 3, 4, 5, 6, 7, 8, 9, 10, 11, 12, 13, 14, 15, 16] [(0, .slice a0' code_0.length c0'), (3, .slice a17 x15.1.length c18), (4, .slice a20 x15.2.length c21), (5, .slice a32 x30.1.length c33), (6, .int .i64 x30.2), (7, .slice a44 x42.1.length c45), (8, .int .i64 x42.2), (9, .int .i64 x54.1), (10, .int .i64 x54.2), (11, .int .i64 x63.1), (12, .int .i64 x63.2), (13, .int .i64 x72.1), (14, .int .i64 x72.2), (15, .int .i64 x81.1), (16, .int .i64 x81.2)] (by kernel_rfl) ?_
  refine WL.nil ?_
  refine WQ.then_normal (hK80 _ _ _ ?_)
  refine WP.seq (fun K89 hK89 => ?_)
  refine WP.region ?_
  refine WL.runk 1 [0, 3, 4, 5, 6, 7, 8, 9, 10, 11, 12, 13, 14, 15, 16, 85] [(0, .slice a0' code_0.length c0'), (3, .slice a17 x15.1.length c18), (4, .slice a20 x15.2.length c21), (5, .slice a32 x30.1.length c33), (6, .int .i64 x30.2), (7, .slice a44 x42.1.length c45), (8, .int .i64 x42.2), (9, .int .i64 x54.1), (10, .int .i64 x54.2), (11, .int .i64 x63.1), (12, .int .i64 x63.2), (13, .int .i64 x72.1), (14, .int .i64 x72.2), (15, .int .i64 x81.1), (16, .int .i64 x81.2), (85, .slice a0' code_0.length c0')] (by kernel_rfl) ?_
  obtain ⟨x90, hx91, hm⟩ := bindE hm
  refine WL.call 12 #[.slice a0' code_0.length c0'] rfl rfl (by kernel_rfl) (c_12 n code_0 a0' c0' w83 hx91 (Rd.below h0 hb86) hle0) ?_
  rintro _ w98 ⟨a92, c93, a95, c96, rfl, hE99, hR100⟩
  refine ⟨_, rfl, ?_⟩
  have hb101 : Ext w w98 := Ext.trans hb86 hE99
  have hL102 : w.heap.size ≤ w98.heap.size := Nat.le_trans hL87 hE99.size
  have hS103 : SH w98 w.heap.size [aNest fRepair 48 2 a92 c93 x90.1, aOwn fInt 2 a95 c96 x90.2, aOwn fInt 2 a44 c45 x42.1, aOwn fInt 2 a32 c33 x30.1, aNest fRepair 48 2 a17 c18 x15.1, aOwn fInt 2 a20 c21 x15.2] := SH.add hS88 hE99 hL87 hR100
  refine WL.runk 5 [0, 3, 4, 5, 6, 7, 8, 9, 10, 11, 12, 13, 14, 15, 16, 17, 18] [(0, .slice a0' code_0.length c0'), (3, .slice a17 x15.1.length c18), (4, .slice a20 x15.2.length c21), (5, .slice a32 x30.1.length c33), (6, .int .i64 x30.2), (7, .slice a44 x42.1.length c45), (8, .int .i64 x42.2), (9, .int .i64 x54.1), (10, .int .i64 x54.2), (11, .int .i64 x63.1), (12, .int .i64 x63.2), (13, .int .i64 x72.1), (14, .int .i64 x72.2), (15, .int .i64 x81.1), (16, .int .i64 x81.2), (17, .slice a92 x90.1.length c93), (18, .slice a95 x90.2.length c96)] (by kernel_rfl) ?_
  refine WL.nil ?_
  refine WQ.then_normal (hK89 _ _ _ ?_)
  refine WP.seq (fun K104 hK104 => ?_)
  refine WP.region ?_
  refine WL.runk 2 [0, 3, 4, 5, 6, 7, 8, 9, 10, 11, 12, 13, 14, 15, 16, 17, 18, 90, 91] [(0, .slice a0' code_0.length c0'), (3, .slice a17 x15.1.length c18), (4, .slice a20 x15.2.length c21), (5, .slice a32 x30.1.length c33), (6, .int .i64 x30.2), (7, .slice a44 x42.1.length c45), (8, .int .i64 x42.2), (9, .int .i64 x54.1), (10, .int .i64 x54.2), (11, .int .i64 x63.1), (12, .int .i64 x63.2), (13, .int .i64 x72.1), (14, .int .i64 x72.2), (15, .int .i64 x81.1), (16, .int .i64 x81.2), (17, .slice a92 x90.1.length c93), (18, .slice a95 x90.2.length c96), (90, .slice a92 x90.1.length c93), (91, .slice a95 x90.2.length c96)] (by kernel_rfl) ?_
  obtain ⟨x105, hx106, hm⟩ := bindE hm
  refine WL.call 13 #[.slice a92 x90.1.length c93, .slice a95 x90.2.length c96] rfl rfl (by kernel_rfl) (c_13 n x90.1 a92 c93 x90.2 a95 c96 w98 hx106 (SH.rdN (SH.front 0 hS103)) (SH.leN (SH.front 0 hS103)).1 (SH.rd (SH.front 1 hS103)) (SH.le (SH.front 1 hS103)).1) ?_
  rintro _ w110 ⟨a107, c108, rfl, hE111, hR112⟩
  refine ⟨_, rfl, ?_⟩
  have hb113 : Ext w w110 := Ext.trans hb101 hE111
  have hL114 : w.heap.size ≤ w110.heap.size := Nat.le_trans hL102 hE111.size
  have hS115 : SH w110 w.heap.size [aOwn fInt 2 a107 c108 x105.1, aNest fRepair 48 2 a92 c93 x90.1, aOwn fInt 2 a95 c96 x90.2, aOwn fInt 2 a44 c45 x42.1, aOwn fInt 2 a32 c33 x30.1, aNest fRepair 48 2 a17 c18 x15.1, aOwn fInt 2 a20 c21 x15.2] := SH.add hS103 hE111 hL102 hR112
  refine WL.runk 5 [0, 3, 4, 5, 6, 7, 8, 9, 10, 11, 12, 13, 14, 15, 16, 17, 18, 19, 20] [(0, .slice a0' code_0.length c0'), (3, .slice a17 x15.1.length c18), (4, .slice a20 x15.2.length c21), (5, .slice a32 x30.1.length c33), (6, .int .i64 x30.2), (7, .slice a44 x42.1.length c45), (8, .int .i64 x42.2), (9, .int .i64 x54.1), (10, .int .i64 x54.2), (11, .int .i64 x63.1), (12, .int .i64 x63.2), (13, .int .i64 x72.1), (14, .int .i64 x72.2), (15, .int .i64 x81.1), (16, .int .i64 x81.2), (17, .slice a92 x90.1.length c93), (18, .slice a95 x90.2.length c96), (19, .slice a107 x105.1.length c108), (20, .int .i64 x105.2)] (by kernel_rfl) ?_
  refine WL.nil ?_
  refine WQ.then_normal (hK104 _ _ _ ?_)
  refine WP.seq (fun K116 hK116 => ?_)
  refine WP.region ?_
  refine WL.runk 2 [0, 3, 4, 5, 6, 7, 8, 9, 10, 11, 12, 13, 14, 15, 16, 17, 18, 19, 20, 96, 97] [(0, .slice a0' code_0.length c0'), (3, .slice a17 x15.1.length c18), (4, .slice a20 x15.2.length c21), (5, .slice a32 x30.1.length c33), (6, .int .i64 x30.2), (7, .slice a44 x42.1.length c45), (8, .int .i64 x42.2), (9, .int .i64 x54.1), (10, .int .i64 x54.2), (11, .int .i64 x63.1), (12, .int .i64 x63.2), (13, .int .i64 x72.1), (14, .int .i64 x72.2), (15, .int .i64 x81.1), (16, .int .i64 x81.2), (17, .slice a92 x90.1.length c93), (18, .slice a95 x90.2.length c96), (19, .slice a107 x105.1.length c108), (20, .int .i64 x105.2), (96, .slice a92 x90.1.length c93), (97, .slice a95 x90.2.length c96)] (by kernel_rfl) ?_
  obtain ⟨x117, hx118, hm⟩ := bindE hm
  refine WL.call 14 #[.slice a92 x90.1.length c93, .slice a95 x90.2.length c96] rfl rfl (by kernel_rfl) (c_14 n x90.1 a92 c93 x90.2 a95 c96 w110 hx118 (SH.rdN (SH.front 1 hS115)) (SH.leN (SH.front 1 hS115)).1 (SH.rd (SH.front 2 hS115)) (SH.le (SH.front 2 hS115)).1) ?_
  rintro _ w122 ⟨a119, c120, rfl, hE123, hR124⟩
  refine ⟨_, rfl, ?_⟩
  have hb125 : Ext w w122 := Ext.trans hb113 hE123
  have hL126 : w.heap.size ≤ w122.heap.size := Nat.le_trans hL114 hE123.size
  have hS127 : SH w122 w.heap.size [aOwn fInt 2 a119 c120 x117.1, aOwn fInt 2 a107 c108 x105.1, aNest fRepair 48 2 a92 c93 x90.1, aOwn fInt 2 a95 c96 x90.2, aOwn fInt 2 a44 c45 x42.1, aOwn fInt 2 a32 c33 x30.1, aNest fRepair 48 2 a17 c18 x15.1, aOwn fInt 2 a20 c21 x15.2] := SH.add hS115 hE123 hL114 hR124
  refine WL.runk 5 [0, 3, 4, 5, 6, 7, 8, 9, 10, 11, 12, 13, 14, 15, 16, 17, 18, 19, 20, 21, 22] [(0, .slice a0' code_0.length c0'), (3, .slice a17 x15.1.length c18), (4, .slice a20 x15.2.length c21), (5, .slice a32 x30.1.length c33), (6, .int .i64 x30.2), (7, .slice a44 x42.1.length c45), (8, .int .i64 x42.2), (9, .int .i64 x54.1), (10, .int .i64 x54.2), (11, .int .i64 x63.1), (12, .int .i64 x63.2), (13, .int .i64 x72.1), (14, .int .i64 x72.2), (15, .int .i64 x81.1), (16, .int .i64 x81.2), (17, .slice a92 x90.1.length c93), (18, .slice a95 x90.2.length c96), (19, .slice a107 x105.1.length c108), (20, .int .i64 x105.2), (21, .slice a119 x117.1.length c120), (22, .int .i64 x117.2)] (by kernel_rfl) ?_
  refine WL.nil ?_
  refine WQ.then_normal (hK116 _ _ _ ?_)
  refine WP.seq (fun K128 hK128 => ?_)
  refine WP.region ?_
  refine WL.runk 1 [0, 3, 4, 5, 6, 7, 8, 9, 10, 11, 12, 13, 14, 15, 16, 17, 18, 19, 20, 21, 22, 102] [(0, .slice a0' code_0.length c0'), (3, .slice a17 x15.1.length c18), (4, .slice a20 x15.2.length c21), (5, .slice a32 x30.1.length c33), (6, .int .i64 x30.2), (7, .slice a44 x42.1.length c45), (8, .int .i64 x42.2), (9, .int .i64 x54.1), (10, .int .i64 x54.2), (11, .int .i64 x63.1), (12, .int .i64 x63.2), (13, .int .i64 x72.1), (14, .int .i64 x72.2), (15, .int .i64 x81.1), (16, .int .i64 x81.2), (17, .slice a92 x90.1.length c93), (18, .slice a95 x90.2.length c96), (19, .slice a107 x105.1.length c108), (20, .int .i64 x105.2), (21, .slice a119 x117.1.length c120), (22, .int .i64 x117.2), (102, .slice a0' code_0.length c0')] (by kernel_rfl) ?_
  obtain ⟨x129, hx130, hm⟩ := bindE hm
  refine WL.call 15 #[.slice a0' code_0.length c0'] rfl rfl (by kernel_rfl) (c_15 n code_0 a0' c0' w122 hx130 (Rd.below h0 hb125) hle0) ?_
  rintro _ w134 ⟨a131, c132, rfl, hE135, hR136⟩
  refine ⟨_, rfl, ?_⟩
  have hb137 : Ext w w134 := Ext.trans hb125 hE135
  have hL138 : w.heap.size ≤ w134.heap.size := Nat.le_trans hL126 hE135.size
  have hS139 : SH w134 w.heap.size [aNest fRepair 48 2 a131 c132 x129.1, aOwn fInt 2 a119 c120 x117.1, aOwn fInt 2 a107 c108 x105.1, aNest fRepair 48 2 a92 c93 x90.1, aOwn fInt 2 a95 c96 x90.2, aOwn fInt 2 a44 c45 x42.1, aOwn fInt 2 a32 c33 x30.1, aNest fRepair 48 2 a17 c18 x15.1, aOwn fInt 2 a20 c21 x15.2] := SH.add hS127 hE135 hL126 hR136
  refine WL.runk 5 [0, 3, 4, 5, 6, 7, 8, 9, 10, 11, 12, 13, 14, 15, 16, 17, 18, 19, 20, 21, 22, 23, 24] [(0, .slice a0' code_0.length c0'), (3, .slice a17 x15.1.length c18), (4, .slice a20 x15.2.length c21), (5, .slice a32 x30.1.length c33), (6, .int .i64 x30.2), (7, .slice a44 x42.1.length c45), (8, .int .i64 x42.2), (9, .int .i64 x54.1), (10, .int .i64 x54.2), (11, .int .i64 x63.1), (12, .int .i64 x63.2), (13, .int .i64 x72.1), (14, .int .i64 x72.2), (15, .int .i64 x81.1), (16, .int .i64 x81.2), (17, .slice a92 x90.1.length c93), (18, .slice a95 x90.2.length c96), (19, .slice a107 x105.1.length c108), (20, .int .i64 x105.2), (21, .slice a119 x117.1.length c120), (22, .int .i64 x117.2), (23, .slice a131 x129.1.length c132), (24, .int .i64 x129.2)] (by kernel_rfl) ?_
  refine WL.nil ?_
  refine WQ.then_normal (hK128 _ _ _ ?_)
  refine WP.seq (fun K140 hK140 => ?_)
  refine WP.region ?_
  refine WL.runk 2 [0, 3, 4, 5, 6, 7, 8, 9, 10, 11, 12, 13, 14, 15, 16, 17, 18, 19, 20, 21, 22, 23, 24, 107, 108] [(0, .slice a0' code_0.length c0'), (3, .slice a17 x15.1.length c18), (4, .slice a20 x15.2.length c21), (5, .slice a32 x30.1.length c33), (6, .int .i64 x30.2), (7, .slice a44 x42.1.length c45), (8, .int .i64 x42.2), (9, .int .i64 x54.1), (10, .int .i64 x54.2), (11, .int .i64 x63.1), (12, .int .i64 x63.2), (13, .int .i64 x72.1), (14, .int .i64 x72.2), (15, .int .i64 x81.1), (16, .int .i64 x81.2), (17, .slice a92 x90.1.length c93), (18, .slice a95 x90.2.length c96), (19, .slice a107 x105.1.length c108), (20, .int .i64 x105.2), (21, .slice a119 x117.1.length c120), (22, .int .i64 x117.2), (23, .slice a131 x129.1.length c132), (24, .int .i64 x129.2), (107, .slice a131 x129.1.length c132), (108, .int .i64 x129.2)] (by kernel_rfl) ?_
  obtain ⟨x141, hx142, hm⟩ := bindE hm
  refine WL.call 16 #[.slice a131 x129.1.length c132, .int .i64 x129.2] rfl rfl (by kernel_rfl) (c_16 n x129.1 a131 c132 x129.2 w134 hx142 (SH.rdN (SH.front 0 hS139)) (SH.leN (SH.front 0 hS139)).1) ?_
  rintro _ w146 ⟨a143, c144, rfl, hE147, hR148⟩
  refine ⟨_, rfl, ?_⟩
  have hb149 : Ext w w146 := Ext.trans hb137 hE147
  have hL150 : w.heap.size ≤ w146.heap.size := Nat.le_trans hL138 hE147.size
  have hS151 : SH w146 w.heap.size [aOwn fInt 2 a143 c144 x141.1, aNest fRepair 48 2 a131 c132 x129.1, aOwn fInt 2 a119 c120 x117.1, aOwn fInt 2 a107 c108 x105.1, aNest fRepair 48 2 a92 c93 x90.1, aOwn fInt 2 a95 c96 x90.2, aOwn fInt 2 a44 c45 x42.1, aOwn fInt 2 a32 c33 x30.1, aNest fRepair 48 2 a17 c18 x15.1, aOwn fInt 2 a20 c21 x15.2] := SH.add hS139 hE147 hL138 hR148
  refine WL.runk 5 [0, 3, 4, 5, 6, 7, 8, 9, 10, 11, 12, 13, 14, 15, 16, 17, 18, 19, 20, 21, 22, 23, 24, 25, 26] [(0, .slice a0' code_0.length c0'), (3, .slice a17 x15.1.length c18), (4, .slice a20 x15.2.length c21), (5, .slice a32 x30.1.length c33), (6, .int .i64 x30.2), (7, .slice a44 x42.1.length c45), (8, .int .i64 x42.2), (9, .int .i64 x54.1), (10, .int .i64 x54.2), (11, .int .i64 x63.1), (12, .int .i64 x63.2), (13, .int .i64 x72.1), (14, .int .i64 x72.2), (15, .int .i64 x81.1), (16, .int .i64 x81.2), (17, .slice a92 x90.1.length c93), (18, .slice a95 x90.2.length c96), (19, .slice a107 x105.1.length c108), (20, .int .i64 x105.2), (21, .slice a119 x117.1.length c120), (22, .int .i64 x117.2), (23, .slice a131 x129.1.length c132), (24, .int .i64 x129.2), (25, .slice a143 x141.1.length c144), (26, .int .i64 x141.2)] (by kernel_rfl) ?_
  refine WL.nil ?_
  refine WQ.then_normal (hK140 _ _ _ ?_)
  refine WP.seq (fun K152 hK152 => ?_)
  refine WP.region ?_
  refine WL.runk 2 [0, 3, 4, 5, 6, 7, 8, 9, 10, 11, 12, 13, 14, 15, 16, 17, 18, 19, 20, 21, 22, 25, 26, 113, 114] [(0, .slice a0' code_0.length c0'), (3, .slice a17 x15.1.length c18), (4, .slice a20 x15.2.length c21), (5, .slice a32 x30.1.length c33), (6, .int .i64 x30.2), (7, .slice a44 x42.1.length c45), (8, .int .i64 x42.2), (9, .int .i64 x54.1), (10, .int .i64 x54.2), (11, .int .i64 x63.1), (12, .int .i64 x63.2), (13, .int .i64 x72.1), (14, .int .i64 x72.2), (15, .int .i64 x81.1), (16, .int .i64 x81.2), (17, .slice a92 x90.1.length c93), (18, .slice a95 x90.2.length c96), (19, .slice a107 x105.1.length c108), (20, .int .i64 x105.2), (21, .slice a119 x117.1.length c120), (22, .int .i64 x117.2), (25, .slice a143 x141.1.length c144), (26, .int .i64 x141.2), (113, .slice a131 x129.1.length c132), (114, .int .i64 x129.2)] (by kernel_rfl) ?_
  obtain ⟨x153, hx154, hm⟩ := bindE hm
  refine WL.call 17 #[.slice a131 x129.1.length c132, .int .i64 x129.2] rfl rfl (by kernel_rfl) (c_17 n x129.1 a131 c132 x129.2 w146 hx154 (SH.rdN (SH.front 1 hS151)) (SH.leN (SH.front 1 hS151)).1) ?_
  rintro _ w158 ⟨a155, c156, rfl, hE159, hR160⟩
  refine ⟨_, rfl, ?_⟩
  have hb161 : Ext w w158 := Ext.trans hb149 hE159
  have hL162 : w.heap.size ≤ w158.heap.size := Nat.le_trans hL150 hE159.size
  have hS163 : SH w158 w.heap.size [aOwn fInt 2 a155 c156 x153.1, aOwn fInt 2 a143 c144 x141.1, aNest fRepair 48 2 a131 c132 x129.1, aOwn fInt 2 a119 c120 x117.1, aOwn fInt 2 a107 c108 x105.1, aNest fRepair 48 2 a92 c93 x90.1, aOwn fInt 2 a95 c96 x90.2, aOwn fInt 2 a44 c45 x42.1, aOwn fInt 2 a32 c33 x30.1, aNest fRepair 48 2 a17 c18 x15.1, aOwn fInt 2 a20 c21 x15.2] := SH.add hS151 hE159 hL150 hR160
  refine WL.runk 5 [0, 3, 4, 5, 6, 7, 8, 9, 10, 11, 12, 13, 14, 15, 16, 17, 18, 19, 20, 21, 22, 25, 26, 27, 28] [(0, .slice a0' code_0.length c0'), (3, .slice a17 x15.1.length c18), (4, .slice a20 x15.2.length c21), (5, .slice a32 x30.1.length c33), (6, .int .i64 x30.2), (7, .slice a44 x42.1.length c45), (8, .int .i64 x42.2), (9, .int .i64 x54.1), (10, .int .i64 x54.2), (11, .int .i64 x63.1), (12, .int .i64 x63.2), (13, .int .i64 x72.1), (14, .int .i64 x72.2), (15, .int .i64 x81.1), (16, .int .i64 x81.2), (17, .slice a92 x90.1.length c93), (18, .slice a95 x90.2.length c96), (19, .slice a107 x105.1.length c108), (20, .int .i64 x105.2), (21, .slice a119 x117.1.length c120), (22, .int .i64 x117.2), (25, .slice a143 x141.1.length c144), (26, .int .i64 x141.2), (27, .slice a155 x153.1.length c156), (28, .int .i64 x153.2)] (by kernel_rfl) ?_
  refine WL.nil ?_
  refine WQ.then_normal (hK152 _ _ _ ?_)
  refine WP.seq (fun K164 hK164 => ?_)
  refine WP.region ?_
  refine WL.runk 1 [0, 3, 4, 5, 6, 7, 8, 9, 10, 11, 12, 13, 14, 15, 16, 17, 18, 19, 20, 21, 22, 25, 26, 27, 28, 119] [(0, .slice a0' code_0.length c0'), (3, .slice a17 x15.1.length c18), (4, .slice a20 x15.2.length c21), (5, .slice a32 x30.1.length c33), (6, .int .i64 x30.2), (7, .slice a44 x42.1.length c45), (8, .int .i64 x42.2), (9, .int .i64 x54.1), (10, .int .i64 x54.2), (11, .int .i64 x63.1), (12, .int .i64 x63.2), (13, .int .i64 x72.1), (14, .int .i64 x72.2), (15, .int .i64 x81.1), (16, .int .i64 x81.2), (17, .slice a92 x90.1.length c93), (18, .slice a95 x90.2.length c96), (19, .slice a107 x105.1.length c108), (20, .int .i64 x105.2), (21, .slice a119 x117.1.length c120), (22, .int .i64 x117.2), (25, .slice a143 x141.1.length c144), (26, .int .i64 x141.2), (27, .slice a155 x153.1.length c156), (28, .int .i64 x153.2), (119, .slice a0' code_0.length c0')] (by kernel_rfl) ?_
  obtain ⟨x165, hx166, hm⟩ := bindE hm
  refine WL.call 18 #[.slice a0' code_0.length c0'] rfl rfl (by kernel_rfl) (c_18 n code_0 a0' c0' w158 hx166 (Rd.below h0 hb161) hle0) ?_
  rintro _ w173 ⟨a167, c168, a170, c171, rfl, hE174, hR175⟩
  refine ⟨_, rfl, ?_⟩
  have hb176 : Ext w w173 := Ext.trans hb161 hE174
  have hL177 : w.heap.size ≤ w173.heap.size := Nat.le_trans hL162 hE174.size
  have hS178 : SH w173 w.heap.size [aNest fRepair 48 2 a167 c168 x165.1, aNest fRepair 48 2 a170 c171 x165.2, aOwn fInt 2 a155 c156 x153.1, aOwn fInt 2 a143 c144 x141.1, aNest fRepair 48 2 a131 c132 x129.1, aOwn fInt 2 a119 c120 x117.1, aOwn fInt 2 a107 c108 x105.1, aNest fRepair 48 2 a92 c93 x90.1, aOwn fInt 2 a95 c96 x90.2, aOwn fInt 2 a44 c45 x42.1, aOwn fInt 2 a32 c33 x30.1, aNest fRepair 48 2 a17 c18 x15.1, aOwn fInt 2 a20 c21 x15.2] := SH.add hS163 hE174 hL162 hR175
  refine WL.runk 5 [0, 3, 4, 5, 6, 7, 8, 9, 10, 11, 12, 13, 14, 15, 16, 17, 18, 19, 20, 21, 22, 25, 26, 27, 28, 29, 30] [(0, .slice a0' code_0.length c0'), (3, .slice a17 x15.1.length c18), (4, .slice a20 x15.2.length c21), (5, .slice a32 x30.1.length c33), (6, .int .i64 x30.2), (7, .slice a44 x42.1.length c45), (8, .int .i64 x42.2), (9, .int .i64 x54.1), (10, .int .i64 x54.2), (11, .int .i64 x63.1), (12, .int .i64 x63.2), (13, .int .i64 x72.1), (14, .int .i64 x72.2), (15, .int .i64 x81.1), (16, .int .i64 x81.2), (17, .slice a92 x90.1.length c93), (18, .slice a95 x90.2.length c96), (19, .slice a107 x105.1.length c108), (20, .int .i64 x105.2), (21, .slice a119 x117.1.length c120), (22, .int .i64 x117.2), (25, .slice a143 x141.1.length c144), (26, .int .i64 x141.2), (27, .slice a155 x153.1.length c156), (28, .int .i64 x153.2), (29, .slice a167 x165.1.length c168), (30, .slice a170 x165.2.length c171)] (by kernel_rfl) ?_
  refine WL.nil ?_
  refine WQ.then_normal (hK164 _ _ _ ?_)
  refine WP.seq (fun K179 hK179 => ?_)
  refine WP.region ?_
  refine WL.runk 1 [3, 4, 5, 6, 7, 8, 9, 10, 11, 12, 13, 14, 15, 16, 17, 18, 19, 20, 21, 22, 25, 26, 27, 28, 29, 30, 124] [(3, .slice a17 x15.1.length c18), (4, .slice a20 x15.2.length c21), (5, .slice a32 x30.1.length c33), (6, .int .i64 x30.2), (7, .slice a44 x42.1.length c45), (8, .int .i64 x42.2), (9, .int .i64 x54.1), (10, .int .i64 x54.2), (11, .int .i64 x63.1), (12, .int .i64 x63.2), (13, .int .i64 x72.1), (14, .int .i64 x72.2), (15, .int .i64 x81.1), (16, .int .i64 x81.2), (17, .slice a92 x90.1.length c93), (18, .slice a95 x90.2.length c96), (19, .slice a107 x105.1.length c108), (20, .int .i64 x105.2), (21, .slice a119 x117.1.length c120), (22, .int .i64 x117.2), (25, .slice a143 x141.1.length c144), (26, .int .i64 x141.2), (27, .slice a155 x153.1.length c156), (28, .int .i64 x153.2), (29, .slice a167 x165.1.length c168), (30, .slice a170 x165.2.length c171), (124, .slice a0' code_0.length c0')] (by kernel_rfl) ?_
  obtain ⟨x180, hx181, hm⟩ := bindE hm
  refine WL.call 19 #[.slice a0' code_0.length c0'] rfl rfl (by kernel_rfl) (c_19 n code_0 a0' c0' w173 hx181 (Rd.below h0 hb176) hle0) ?_
  rintro _ w185 ⟨a182, c183, rfl, hE186, hR187⟩
  refine ⟨_, rfl, ?_⟩
  have hb188 : Ext w w185 := Ext.trans hb176 hE186
  have hL189 : w.heap.size ≤ w185.heap.size := Nat.le_trans hL177 hE186.size
  have hS190 : SH w185 w.heap.size [aNest fRepair 48 2 a182 c183 x180.1, aNest fRepair 48 2 a167 c168 x165.1, aNest fRepair 48 2 a170 c171 x165.2, aOwn fInt 2 a155 c156 x153.1, aOwn fInt 2 a143 c144 x141.1, aNest fRepair 48 2 a131 c132 x129.1, aOwn fInt 2 a119 c120 x117.1, aOwn fInt 2 a107 c108 x105.1, aNest fRepair 48 2 a92 c93 x90.1, aOwn fInt 2 a95 c96 x90.2, aOwn fInt 2 a44 c45 x42.1, aOwn fInt 2 a32 c33 x30.1, aNest fRepair 48 2 a17 c18 x15.1, aOwn fInt 2 a20 c21 x15.2] := SH.add hS178 hE186 hL177 hR187
  refine WL.runk 5 [3, 4, 5, 6, 7, 8, 9, 10, 11, 12, 13, 14, 15, 16, 17, 18, 19, 20, 21, 22, 25, 26, 27, 28, 29, 30, 31, 32] [(3, .slice a17 x15.1.length c18), (4, .slice a20 x15.2.length c21), (5, .slice a32 x30.1.length c33), (6, .int .i64 x30.2), (7, .slice a44 x42.1.length c45), (8, .int .i64 x42.2), (9, .int .i64 x54.1), (10, .int .i64 x54.2), (11, .int .i64 x63.1), (12, .int .i64 x63.2), (13, .int .i64 x72.1), (14, .int .i64 x72.2), (15, .int .i64 x81.1), (16, .int .i64 x81.2), (17, .slice a92 x90.1.length c93), (18, .slice a95 x90.2.length c96), (19, .slice a107 x105.1.length c108), (20, .int .i64 x105.2), (21, .slice a119 x117.1.length c120), (22, .int .i64 x117.2), (25, .slice a143 x141.1.length c144), (26, .int .i64 x141.2), (27, .slice a155 x153.1.length c156), (28, .int .i64 x153.2), (29, .slice a167 x165.1.length c168), (30, .slice a170 x165.2.length c171), (31, .slice a182 x180.1.length c183), (32, .int .i64 x180.2)] (by kernel_rfl) ?_
  refine WL.nil ?_
  refine WQ.then_normal (hK179 _ _ _ ?_)
  refine WP.seq (fun K191 hK191 => ?_)
  refine WP.seq (fun K192 hK192 => ?_)
  obtain ⟨x277, hx278, hm⟩ := bindE hm
  refine WP.cut (fun env' w' => env' = [(3, .slice a17 x15.1.length c18), (4, .slice a20 x15.2.length c21), (6, .int .i64 x30.2), (7, .slice a44 x42.1.length c45), (17, .slice a92 x90.1.length c93), (18, .slice a95 x90.2.length c96), (20, .int .i64 x105.2), (21, .slice a119 x117.1.length c120), (203, .bool x277)] ∧ Ext w w' ∧ w.heap.size ≤ w'.heap.size ∧ SH w' w.heap.size [aOwn fInt 2 a119 c120 x117.1, aNest fRepair 48 2 a92 c93 x90.1, aOwn fInt 2 a95 c96 x90.2, aOwn fInt 2 a44 c45 x42.1, aNest fRepair 48 2 a17 c18 x15.1, aOwn fInt 2 a20 c21 x15.2]) ?_ ?_
  · have hm := hx278; clear hx278
    refine WP.region ?_
    refine WL.runk 4 [3, 4, 5, 6, 7, 9, 10, 11, 12, 13, 14, 15, 16, 17, 18, 19, 20, 21, 22, 25, 26, 27, 28, 29, 30, 31, 32, 131] [(3, .slice a17 x15.1.length c18), (4, .slice a20 x15.2.length c21), (5, .slice a32 x30.1.length c33), (6, .int .i64 x30.2), (7, .slice a44 x42.1.length c45), (9, .int .i64 x54.1), (10, .int .i64 x54.2), (11, .int .i64 x63.1), (12, .int .i64 x63.2), (13, .int .i64 x72.1), (14, .int .i64 x72.2), (15, .int .i64 x81.1), (16, .int .i64 x81.2), (17, .slice a92 x90.1.length c93), (18, .slice a95 x90.2.length c96), (19, .slice a107 x105.1.length c108), (20, .int .i64 x105.2), (21, .slice a119 x117.1.length c120), (22, .int .i64 x117.2), (25, .slice a143 x141.1.length c144), (26, .int .i64 x141.2), (27, .slice a155 x153.1.length c156), (28, .int .i64 x153.2), (29, .slice a167 x165.1.length c168), (30, .slice a170 x165.2.length c171), (31, .slice a182 x180.1.length c183), (32, .int .i64 x180.2), (131, .bool (x30.2 != x42.2))] (by kernel_rfl) ?_
    refine WL.case (x30.2 != x42.2) [131] ⟨rfl, trivial⟩ (fun hc279 => ?_) (fun hc279 => ?_)
    · have hm := iteT hm hc279
      refine WL.runk 72 [3, 4, 6, 7, 17, 18, 20, 21, 203] [(3, .slice a17 x15.1.length c18), (4, .slice a20 x15.2.length c21), (6, .int .i64 x30.2), (7, .slice a44 x42.1.length c45), (17, .slice a92 x90.1.length c93), (18, .slice a95 x90.2.length c96), (20, .int .i64 x105.2), (21, .slice a119 x117.1.length c120), (203, .bool true)] (by kernel_rfl) ?_
      refine WL.nil ?_
      obtain rfl := Option.some.inj hm
      exact WQ.post' ⟨rfl, hb188, hL189, (SH.take 6 (SH.front 11 (SH.front 12 (SH.front 12 (SH.front 12 (SH.front 13 (SH.front 13 hS190)))))))⟩ ⟨rfl, rfl, rfl, rfl, rfl, rfl, rfl, rfl, rfl, trivial⟩
    have hm := iteF hm hc279
    refine WL.runk 2 [3, 4, 6, 7, 9, 10, 11, 12, 13, 14, 15, 16, 17, 18, 19, 20, 21, 22, 25, 26, 27, 28, 29, 30, 31, 32, 131, 132, 133] [(3, .slice a17 x15.1.length c18), (4, .slice a20 x15.2.length c21), (6, .int .i64 x30.2), (7, .slice a44 x42.1.length c45), (9, .int .i64 x54.1), (10, .int .i64 x54.2), (11, .int .i64 x63.1), (12, .int .i64 x63.2), (13, .int .i64 x72.1), (14, .int .i64 x72.2), (15, .int .i64 x81.1), (16, .int .i64 x81.2), (17, .slice a92 x90.1.length c93), (18, .slice a95 x90.2.length c96), (19, .slice a107 x105.1.length c108), (20, .int .i64 x105.2), (21, .slice a119 x117.1.length c120), (22, .int .i64 x117.2), (25, .slice a143 x141.1.length c144), (26, .int .i64 x141.2), (27, .slice a155 x153.1.length c156), (28, .int .i64 x153.2), (29, .slice a167 x165.1.length c168), (30, .slice a170 x165.2.length c171), (31, .slice a182 x180.1.length c183), (32, .int .i64 x180.2), (131, .bool false), (132, .slice a32 x30.1.length c33), (133, .slice a44 x42.1.length c45)] (by kernel_rfl) ?_
    obtain ⟨x280, hx281, hm⟩ := bindE hm
    refine WL.call 20 #[.slice a32 x30.1.length c33, .slice a44 x42.1.length c45] rfl rfl (by kernel_rfl) (c_20 n x30.1 a32 c33 x42.1 a44 c45 w185 hx281 (SH.rd (SH.front 11 hS190)) (SH.le (SH.front 11 hS190)).1 (SH.rd (SH.front 10 hS190)) (SH.le (SH.front 10 hS190)).1) ?_
    rintro _ w282 ⟨rfl, hE283⟩
    refine ⟨_, rfl, ?_⟩
    have hb285 : Ext w w282 := Ext.trans hb188 hE283
    have hL286 : w.heap.size ≤ w282.heap.size := Nat.le_trans hL189 hE283.size
    have hS287 : SH w282 w.heap.size [aNest fRepair 48 2 a182 c183 x180.1, aNest fRepair 48 2 a167 c168 x165.1, aNest fRepair 48 2 a170 c171 x165.2, aOwn fInt 2 a155 c156 x153.1, aOwn fInt 2 a143 c144 x141.1, aNest fRepair 48 2 a131 c132 x129.1, aOwn fInt 2 a119 c120 x117.1, aOwn fInt 2 a107 c108 x105.1, aNest fRepair 48 2 a92 c93 x90.1, aOwn fInt 2 a95 c96 x90.2, aOwn fInt 2 a44 c45 x42.1, aOwn fInt 2 a32 c33 x30.1, aNest fRepair 48 2 a17 c18 x15.1, aOwn fInt 2 a20 c21 x15.2] := SH.ext hS190 hE283
    refine WL.runk 3 [3, 4, 6, 7, 9, 10, 11, 12, 13, 14, 15, 16, 17, 18, 19, 20, 21, 22, 25, 26, 27, 28, 29, 30, 31, 32, 137] [(3, .slice a17 x15.1.length c18), (4, .slice a20 x15.2.length c21), (6, .int .i64 x30.2), (7, .slice a44 x42.1.length c45), (9, .int .i64 x54.1), (10, .int .i64 x54.2), (11, .int .i64 x63.1), (12, .int .i64 x63.2), (13, .int .i64 x72.1), (14, .int .i64 x72.2), (15, .int .i64 x81.1), (16, .int .i64 x81.2), (17, .slice a92 x90.1.length c93), (18, .slice a95 x90.2.length c96), (19, .slice a107 x105.1.length c108), (20, .int .i64 x105.2), (21, .slice a119 x117.1.length c120), (22, .int .i64 x117.2), (25, .slice a143 x141.1.length c144), (26, .int .i64 x141.2), (27, .slice a155 x153.1.length c156), (28, .int .i64 x153.2), (29, .slice a167 x165.1.length c168), (30, .slice a170 x165.2.length c171), (31, .slice a182 x180.1.length c183), (32, .int .i64 x180.2), (137, .bool (!x280))] (by kernel_rfl) ?_
    refine WL.case (!x280) [137] ⟨rfl, trivial⟩ (fun hc288 => ?_) (fun hc288 => ?_)
    · have hm := iteT hm hc288
      refine WL.runk 66 [3, 4, 6, 7, 17, 18, 20, 21, 203] [(3, .slice a17 x15.1.length c18), (4, .slice a20 x15.2.length c21), (6, .int .i64 x30.2), (7, .slice a44 x42.1.length c45), (17, .slice a92 x90.1.length c93), (18, .slice a95 x90.2.length c96), (20, .int .i64 x105.2), (21, .slice a119 x117.1.length c120), (203, .bool true)] (by kernel_rfl) ?_
      refine WL.nil ?_
      obtain rfl := Option.some.inj hm
      exact WQ.post' ⟨rfl, hb285, hL286, (SH.take 6 (SH.front 11 (SH.front 12 (SH.front 12 (SH.front 12 (SH.front 13 (SH.front 13 hS287)))))))⟩ ⟨rfl, rfl, rfl, rfl, rfl, rfl, rfl, rfl, rfl, trivial⟩
    have hm := iteF hm hc288
    refine WL.runk 5 [3, 4, 6, 7, 9, 11, 13, 14, 15, 16, 17, 18, 19, 20, 21, 22, 25, 26, 27, 28, 29, 30, 31, 32, 142] [(3, .slice a17 x15.1.length c18), (4, .slice a20 x15.2.length c21), (6, .int .i64 x30.2), (7, .slice a44 x42.1.length c45), (9, .int .i64 x54.1), (11, .int .i64 x63.1), (13, .int .i64 x72.1), (14, .int .i64 x72.2), (15, .int .i64 x81.1), (16, .int .i64 x81.2), (17, .slice a92 x90.1.length c93), (18, .slice a95 x90.2.length c96), (19, .slice a107 x105.1.length c108), (20, .int .i64 x105.2), (21, .slice a119 x117.1.length c120), (22, .int .i64 x117.2), (25, .slice a143 x141.1.length c144), (26, .int .i64 x141.2), (27, .slice a155 x153.1.length c156), (28, .int .i64 x153.2), (29, .slice a167 x165.1.length c168), (30, .slice a170 x165.2.length c171), (31, .slice a182 x180.1.length c183), (32, .int .i64 x180.2), (142, .bool (x54.2 != x63.2))] (by kernel_rfl) ?_
    refine WL.case (x54.2 != x63.2) [142] ⟨rfl, trivial⟩ (fun hc289 => ?_) (fun hc289 => ?_)
    · have hm := iteT hm hc289
      refine WL.runk 61 [3, 4, 6, 7, 17, 18, 20, 21, 203] [(3, .slice a17 x15.1.length c18), (4, .slice a20 x15.2.length c21), (6, .int .i64 x30.2), (7, .slice a44 x42.1.length c45), (17, .slice a92 x90.1.length c93), (18, .slice a95 x90.2.length c96), (20, .int .i64 x105.2), (21, .slice a119 x117.1.length c120), (203, .bool true)] (by kernel_rfl) ?_
      refine WL.nil ?_
      obtain rfl := Option.some.inj hm
      exact WQ.post' ⟨rfl, hb285, hL286, (SH.take 6 (SH.front 11 (SH.front 12 (SH.front 12 (SH.front 12 (SH.front 13 (SH.front 13 hS287)))))))⟩ ⟨rfl, rfl, rfl, rfl, rfl, rfl, rfl, rfl, rfl, trivial⟩
    have hm := iteF hm hc289
    refine WL.runk 5 [3, 4, 6, 7, 13, 14, 15, 16, 17, 18, 19, 20, 21, 22, 25, 26, 27, 28, 29, 30, 31, 32, 147] [(3, .slice a17 x15.1.length c18), (4, .slice a20 x15.2.length c21), (6, .int .i64 x30.2), (7, .slice a44 x42.1.length c45), (13, .int .i64 x72.1), (14, .int .i64 x72.2), (15, .int .i64 x81.1), (16, .int .i64 x81.2), (17, .slice a92 x90.1.length c93), (18, .slice a95 x90.2.length c96), (19, .slice a107 x105.1.length c108), (20, .int .i64 x105.2), (21, .slice a119 x117.1.length c120), (22, .int .i64 x117.2), (25, .slice a143 x141.1.length c144), (26, .int .i64 x141.2), (27, .slice a155 x153.1.length c156), (28, .int .i64 x153.2), (29, .slice a167 x165.1.length c168), (30, .slice a170 x165.2.length c171), (31, .slice a182 x180.1.length c183), (32, .int .i64 x180.2), (147, .bool (x54.1 != x63.1))] (by kernel_rfl) ?_
    refine WL.case (x54.1 != x63.1) [147] ⟨rfl, trivial⟩ (fun hc290 => ?_) (fun hc290 => ?_)
    · have hm := iteT hm hc290
      refine WL.runk 56 [3, 4, 6, 7, 17, 18, 20, 21, 203] [(3, .slice a17 x15.1.length c18), (4, .slice a20 x15.2.length c21), (6, .int .i64 x30.2), (7, .slice a44 x42.1.length c45), (17, .slice a92 x90.1.length c93), (18, .slice a95 x90.2.length c96), (20, .int .i64 x105.2), (21, .slice a119 x117.1.length c120), (203, .bool true)] (by kernel_rfl) ?_
      refine WL.nil ?_
      obtain rfl := Option.some.inj hm
      exact WQ.post' ⟨rfl, hb285, hL286, (SH.take 6 (SH.front 11 (SH.front 12 (SH.front 12 (SH.front 12 (SH.front 13 (SH.front 13 hS287)))))))⟩ ⟨rfl, rfl, rfl, rfl, rfl, rfl, rfl, rfl, rfl, trivial⟩
    have hm := iteF hm hc290
    refine WL.runk 5 [3, 4, 6, 7, 13, 15, 17, 18, 19, 20, 21, 22, 25, 26, 27, 28, 29, 30, 31, 32, 152] [(3, .slice a17 x15.1.length c18), (4, .slice a20 x15.2.length c21), (6, .int .i64 x30.2), (7, .slice a44 x42.1.length c45), (13, .int .i64 x72.1), (15, .int .i64 x81.1), (17, .slice a92 x90.1.length c93), (18, .slice a95 x90.2.length c96), (19, .slice a107 x105.1.length c108), (20, .int .i64 x105.2), (21, .slice a119 x117.1.length c120), (22, .int .i64 x117.2), (25, .slice a143 x141.1.length c144), (26, .int .i64 x141.2), (27, .slice a155 x153.1.length c156), (28, .int .i64 x153.2), (29, .slice a167 x165.1.length c168), (30, .slice a170 x165.2.length c171), (31, .slice a182 x180.1.length c183), (32, .int .i64 x180.2), (152, .bool (x72.2 != x81.2))] (by kernel_rfl) ?_
    refine WL.case (x72.2 != x81.2) [152] ⟨rfl, trivial⟩ (fun hc291 => ?_) (fun hc291 => ?_)
    · have hm := iteT hm hc291
      refine WL.runk 51 [3, 4, 6, 7, 17, 18, 20, 21, 203] [(3, .slice a17 x15.1.length c18), (4, .slice a20 x15.2.length c21), (6, .int .i64 x30.2), (7, .slice a44 x42.1.length c45), (17, .slice a92 x90.1.length c93), (18, .slice a95 x90.2.length c96), (20, .int .i64 x105.2), (21, .slice a119 x117.1.length c120), (203, .bool true)] (by kernel_rfl) ?_
      refine WL.nil ?_
      obtain rfl := Option.some.inj hm
      exact WQ.post' ⟨rfl, hb285, hL286, (SH.take 6 (SH.front 11 (SH.front 12 (SH.front 12 (SH.front 12 (SH.front 13 (SH.front 13 hS287)))))))⟩ ⟨rfl, rfl, rfl, rfl, rfl, rfl, rfl, rfl, rfl, trivial⟩
    have hm := iteF hm hc291
    refine WL.runk 5 [3, 4, 6, 7, 17, 18, 19, 20, 21, 22, 25, 26, 27, 28, 29, 30, 31, 32, 157] [(3, .slice a17 x15.1.length c18), (4, .slice a20 x15.2.length c21), (6, .int .i64 x30.2), (7, .slice a44 x42.1.length c45), (17, .slice a92 x90.1.length c93), (18, .slice a95 x90.2.length c96), (19, .slice a107 x105.1.length c108), (20, .int .i64 x105.2), (21, .slice a119 x117.1.length c120), (22, .int .i64 x117.2), (25, .slice a143 x141.1.length c144), (26, .int .i64 x141.2), (27, .slice a155 x153.1.length c156), (28, .int .i64 x153.2), (29, .slice a167 x165.1.length c168), (30, .slice a170 x165.2.length c171), (31, .slice a182 x180.1.length c183), (32, .int .i64 x180.2), (157, .bool (x72.1 != x81.1))] (by kernel_rfl) ?_
    refine WL.case (x72.1 != x81.1) [157] ⟨rfl, trivial⟩ (fun hc292 => ?_) (fun hc292 => ?_)
    · have hm := iteT hm hc292
      refine WL.runk 46 [3, 4, 6, 7, 17, 18, 20, 21, 203] [(3, .slice a17 x15.1.length c18), (4, .slice a20 x15.2.length c21), (6, .int .i64 x30.2), (7, .slice a44 x42.1.length c45), (17, .slice a92 x90.1.length c93), (18, .slice a95 x90.2.length c96), (20, .int .i64 x105.2), (21, .slice a119 x117.1.length c120), (203, .bool true)] (by kernel_rfl) ?_
      refine WL.nil ?_
      obtain rfl := Option.some.inj hm
      exact WQ.post' ⟨rfl, hb285, hL286, (SH.take 6 (SH.front 11 (SH.front 12 (SH.front 12 (SH.front 12 (SH.front 13 (SH.front 13 hS287)))))))⟩ ⟨rfl, rfl, rfl, rfl, rfl, rfl, rfl, rfl, rfl, trivial⟩
    have hm := iteF hm hc292
    refine WL.runk 5 [3, 4, 6, 7, 17, 18, 19, 20, 21, 25, 26, 27, 28, 29, 30, 31, 32, 162] [(3, .slice a17 x15.1.length c18), (4, .slice a20 x15.2.length c21), (6, .int .i64 x30.2), (7, .slice a44 x42.1.length c45), (17, .slice a92 x90.1.length c93), (18, .slice a95 x90.2.length c96), (19, .slice a107 x105.1.length c108), (20, .int .i64 x105.2), (21, .slice a119 x117.1.length c120), (25, .slice a143 x141.1.length c144), (26, .int .i64 x141.2), (27, .slice a155 x153.1.length c156), (28, .int .i64 x153.2), (29, .slice a167 x165.1.length c168), (30, .slice a170 x165.2.length c171), (31, .slice a182 x180.1.length c183), (32, .int .i64 x180.2), (162, .bool (x105.2 != x117.2))] (by kernel_rfl) ?_
    refine WL.case (x105.2 != x117.2) [162] ⟨rfl, trivial⟩ (fun hc293 => ?_) (fun hc293 => ?_)
    · have hm := iteT hm hc293
      refine WL.runk 41 [3, 4, 6, 7, 17, 18, 20, 21, 203] [(3, .slice a17 x15.1.length c18), (4, .slice a20 x15.2.length c21), (6, .int .i64 x30.2), (7, .slice a44 x42.1.length c45), (17, .slice a92 x90.1.length c93), (18, .slice a95 x90.2.length c96), (20, .int .i64 x105.2), (21, .slice a119 x117.1.length c120), (203, .bool true)] (by kernel_rfl) ?_
      refine WL.nil ?_
      obtain rfl := Option.some.inj hm
      exact WQ.post' ⟨rfl, hb285, hL286, (SH.take 6 (SH.front 11 (SH.front 12 (SH.front 12 (SH.front 12 (SH.front 13 (SH.front 13 hS287)))))))⟩ ⟨rfl, rfl, rfl, rfl, rfl, rfl, rfl, rfl, rfl, trivial⟩
    have hm := iteF hm hc293
    refine WL.runk 2 [3, 4, 6, 7, 17, 18, 20, 21, 25, 26, 27, 28, 29, 30, 31, 32, 162, 163, 164] [(3, .slice a17 x15.1.length c18), (4, .slice a20 x15.2.length c21), (6, .int .i64 x30.2), (7, .slice a44 x42.1.length c45), (17, .slice a92 x90.1.length c93), (18, .slice a95 x90.2.length c96), (20, .int .i64 x105.2), (21, .slice a119 x117.1.length c120), (25, .slice a143 x141.1.length c144), (26, .int .i64 x141.2), (27, .slice a155 x153.1.length c156), (28, .int .i64 x153.2), (29, .slice a167 x165.1.length c168), (30, .slice a170 x165.2.length c171), (31, .slice a182 x180.1.length c183), (32, .int .i64 x180.2), (162, .bool false), (163, .slice a107 x105.1.length c108), (164, .slice a119 x117.1.length c120)] (by kernel_rfl) ?_
    obtain ⟨x294, hx295, hm⟩ := bindE hm
    refine WL.call 20 #[.slice a107 x105.1.length c108, .slice a119 x117.1.length c120] rfl rfl (by kernel_rfl) (c_20 n x105.1 a107 c108 x117.1 a119 c120 w282 hx295 (SH.rd (SH.front 7 hS287)) (SH.le (SH.front 7 hS287)).1 (SH.rd (SH.front 6 hS287)) (SH.le (SH.front 6 hS287)).1) ?_
    rintro _ w296 ⟨rfl, hE297⟩
    refine ⟨_, rfl, ?_⟩
    have hb299 : Ext w w296 := Ext.trans hb285 hE297
    have hL300 : w.heap.size ≤ w296.heap.size := Nat.le_trans hL286 hE297.size
    have hS301 : SH w296 w.heap.size [aNest fRepair 48 2 a182 c183 x180.1, aNest fRepair 48 2 a167 c168 x165.1, aNest fRepair 48 2 a170 c171 x165.2, aOwn fInt 2 a155 c156 x153.1, aOwn fInt 2 a143 c144 x141.1, aNest fRepair 48 2 a131 c132 x129.1, aOwn fInt 2 a119 c120 x117.1, aOwn fInt 2 a107 c108 x105.1, aNest fRepair 48 2 a92 c93 x90.1, aOwn fInt 2 a95 c96 x90.2, aOwn fInt 2 a44 c45 x42.1, aOwn fInt 2 a32 c33 x30.1, aNest fRepair 48 2 a17 c18 x15.1, aOwn fInt 2 a20 c21 x15.2] := SH.ext hS287 hE297
    refine WL.runk 3 [3, 4, 6, 7, 17, 18, 20, 21, 25, 26, 27, 28, 29, 30, 31, 32, 168] [(3, .slice a17 x15.1.length c18), (4, .slice a20 x15.2.length c21), (6, .int .i64 x30.2), (7, .slice a44 x42.1.length c45), (17, .slice a92 x90.1.length c93), (18, .slice a95 x90.2.length c96), (20, .int .i64 x105.2), (21, .slice a119 x117.1.length c120), (25, .slice a143 x141.1.length c144), (26, .int .i64 x141.2), (27, .slice a155 x153.1.length c156), (28, .int .i64 x153.2), (29, .slice a167 x165.1.length c168), (30, .slice a170 x165.2.length c171), (31, .slice a182 x180.1.length c183), (32, .int .i64 x180.2), (168, .bool (!x294))] (by kernel_rfl) ?_
    refine WL.case (!x294) [168] ⟨rfl, trivial⟩ (fun hc302 => ?_) (fun hc302 => ?_)
    · have hm := iteT hm hc302
      refine WL.runk 35 [3, 4, 6, 7, 17, 18, 20, 21, 203] [(3, .slice a17 x15.1.length c18), (4, .slice a20 x15.2.length c21), (6, .int .i64 x30.2), (7, .slice a44 x42.1.length c45), (17, .slice a92 x90.1.length c93), (18, .slice a95 x90.2.length c96), (20, .int .i64 x105.2), (21, .slice a119 x117.1.length c120), (203, .bool true)] (by kernel_rfl) ?_
      refine WL.nil ?_
      obtain rfl := Option.some.inj hm
      exact WQ.post' ⟨rfl, hb299, hL300, (SH.take 6 (SH.front 11 (SH.front 12 (SH.front 12 (SH.front 12 (SH.front 13 (SH.front 13 hS301)))))))⟩ ⟨rfl, rfl, rfl, rfl, rfl, rfl, rfl, rfl, rfl, trivial⟩
    have hm := iteF hm hc302
    refine WL.runk 5 [3, 4, 6, 7, 17, 18, 20, 21, 25, 27, 29, 30, 31, 32, 173] [(3, .slice a17 x15.1.length c18), (4, .slice a20 x15.2.length c21), (6, .int .i64 x30.2), (7, .slice a44 x42.1.length c45), (17, .slice a92 x90.1.length c93), (18, .slice a95 x90.2.length c96), (20, .int .i64 x105.2), (21, .slice a119 x117.1.length c120), (25, .slice a143 x141.1.length c144), (27, .slice a155 x153.1.length c156), (29, .slice a167 x165.1.length c168), (30, .slice a170 x165.2.length c171), (31, .slice a182 x180.1.length c183), (32, .int .i64 x180.2), (173, .bool (x141.2 != x153.2))] (by kernel_rfl) ?_
    refine WL.case (x141.2 != x153.2) [173] ⟨rfl, trivial⟩ (fun hc303 => ?_) (fun hc303 => ?_)
    · have hm := iteT hm hc303
      refine WL.runk 30 [3, 4, 6, 7, 17, 18, 20, 21, 203] [(3, .slice a17 x15.1.length c18), (4, .slice a20 x15.2.length c21), (6, .int .i64 x30.2), (7, .slice a44 x42.1.length c45), (17, .slice a92 x90.1.length c93), (18, .slice a95 x90.2.length c96), (20, .int .i64 x105.2), (21, .slice a119 x117.1.length c120), (203, .bool true)] (by kernel_rfl) ?_
      refine WL.nil ?_
      obtain rfl := Option.some.inj hm
      exact WQ.post' ⟨rfl, hb299, hL300, (SH.take 6 (SH.front 11 (SH.front 12 (SH.front 12 (SH.front 12 (SH.front 13 (SH.front 13 hS301)))))))⟩ ⟨rfl, rfl, rfl, rfl, rfl, rfl, rfl, rfl, rfl, trivial⟩
    have hm := iteF hm hc303
    refine WL.runk 2 [3, 4, 6, 7, 17, 18, 20, 21, 29, 30, 31, 32, 173, 174, 175] [(3, .slice a17 x15.1.length c18), (4, .slice a20 x15.2.length c21), (6, .int .i64 x30.2), (7, .slice a44 x42.1.length c45), (17, .slice a92 x90.1.length c93), (18, .slice a95 x90.2.length c96), (20, .int .i64 x105.2), (21, .slice a119 x117.1.length c120), (29, .slice a167 x165.1.length c168), (30, .slice a170 x165.2.length c171), (31, .slice a182 x180.1.length c183), (32, .int .i64 x180.2), (173, .bool false), (174, .slice a143 x141.1.length c144), (175, .slice a155 x153.1.length c156)] (by kernel_rfl) ?_
    obtain ⟨x304, hx305, hm⟩ := bindE hm
    refine WL.call 20 #[.slice a143 x141.1.length c144, .slice a155 x153.1.length c156] rfl rfl (by kernel_rfl) (c_20 n x141.1 a143 c144 x153.1 a155 c156 w296 hx305 (SH.rd (SH.front 4 hS301)) (SH.le (SH.front 4 hS301)).1 (SH.rd (SH.front 3 hS301)) (SH.le (SH.front 3 hS301)).1) ?_
    rintro _ w306 ⟨rfl, hE307⟩
    refine ⟨_, rfl, ?_⟩
    have hb309 : Ext w w306 := Ext.trans hb299 hE307
    have hL310 : w.heap.size ≤ w306.heap.size := Nat.le_trans hL300 hE307.size
    have hS311 : SH w306 w.heap.size [aNest fRepair 48 2 a182 c183 x180.1, aNest fRepair 48 2 a167 c168 x165.1, aNest fRepair 48 2 a170 c171 x165.2, aOwn fInt 2 a155 c156 x153.1, aOwn fInt 2 a143 c144 x141.1, aNest fRepair 48 2 a131 c132 x129.1, aOwn fInt 2 a119 c120 x117.1, aOwn fInt 2 a107 c108 x105.1, aNest fRepair 48 2 a92 c93 x90.1, aOwn fInt 2 a95 c96 x90.2, aOwn fInt 2 a44 c45 x42.1, aOwn fInt 2 a32 c33 x30.1, aNest fRepair 48 2 a17 c18 x15.1, aOwn fInt 2 a20 c21 x15.2] := SH.ext hS301 hE307
    refine WL.runk 3 [3, 4, 6, 7, 17, 18, 20, 21, 29, 30, 31, 32, 179] [(3, .slice a17 x15.1.length c18), (4, .slice a20 x15.2.length c21), (6, .int .i64 x30.2), (7, .slice a44 x42.1.length c45), (17, .slice a92 x90.1.length c93), (18, .slice a95 x90.2.length c96), (20, .int .i64 x105.2), (21, .slice a119 x117.1.length c120), (29, .slice a167 x165.1.length c168), (30, .slice a170 x165.2.length c171), (31, .slice a182 x180.1.length c183), (32, .int .i64 x180.2), (179, .bool (!x304))] (by kernel_rfl) ?_
    refine WL.case (!x304) [179] ⟨rfl, trivial⟩ (fun hc312 => ?_) (fun hc312 => ?_)
    · have hm := iteT hm hc312
      refine WL.runk 24 [3, 4, 6, 7, 17, 18, 20, 21, 203] [(3, .slice a17 x15.1.length c18), (4, .slice a20 x15.2.length c21), (6, .int .i64 x30.2), (7, .slice a44 x42.1.length c45), (17, .slice a92 x90.1.length c93), (18, .slice a95 x90.2.length c96), (20, .int .i64 x105.2), (21, .slice a119 x117.1.length c120), (203, .bool true)] (by kernel_rfl) ?_
      refine WL.nil ?_
      obtain rfl := Option.some.inj hm
      exact WQ.post' ⟨rfl, hb309, hL310, (SH.take 6 (SH.front 11 (SH.front 12 (SH.front 12 (SH.front 12 (SH.front 13 (SH.front 13 hS311)))))))⟩ ⟨rfl, rfl, rfl, rfl, rfl, rfl, rfl, rfl, rfl, trivial⟩
    have hm := iteF hm hc312
    refine WL.runk 2 [3, 4, 6, 7, 17, 18, 20, 21, 29, 30, 31, 32, 179, 180, 181] [(3, .slice a17 x15.1.length c18), (4, .slice a20 x15.2.length c21), (6, .int .i64 x30.2), (7, .slice a44 x42.1.length c45), (17, .slice a92 x90.1.length c93), (18, .slice a95 x90.2.length c96), (20, .int .i64 x105.2), (21, .slice a119 x117.1.length c120), (29, .slice a167 x165.1.length c168), (30, .slice a170 x165.2.length c171), (31, .slice a182 x180.1.length c183), (32, .int .i64 x180.2), (179, .bool false), (180, .slice a167 x165.1.length c168), (181, .slice a170 x165.2.length c171)] (by kernel_rfl) ?_
    obtain ⟨x313, hx314, hm⟩ := bindE hm
    refine WL.call 21 #[.slice a167 x165.1.length c168, .slice a170 x165.2.length c171] rfl rfl (by kernel_rfl) (c_21 n x165.1 a167 c168 x165.2 a170 c171 w306 hx314 (SH.rdN (SH.front 1 hS311)) (SH.leN (SH.front 1 hS311)).1 (SH.rdN (SH.front 2 hS311)) (SH.leN (SH.front 2 hS311)).1) ?_
    rintro _ w315 ⟨rfl, hE316⟩
    refine ⟨_, rfl, ?_⟩
    have hb318 : Ext w w315 := Ext.trans hb309 hE316
    have hL319 : w.heap.size ≤ w315.heap.size := Nat.le_trans hL310 hE316.size
    have hS320 : SH w315 w.heap.size [aNest fRepair 48 2 a182 c183 x180.1, aNest fRepair 48 2 a167 c168 x165.1, aNest fRepair 48 2 a170 c171 x165.2, aOwn fInt 2 a155 c156 x153.1, aOwn fInt 2 a143 c144 x141.1, aNest fRepair 48 2 a131 c132 x129.1, aOwn fInt 2 a119 c120 x117.1, aOwn fInt 2 a107 c108 x105.1, aNest fRepair 48 2 a92 c93 x90.1, aOwn fInt 2 a95 c96 x90.2, aOwn fInt 2 a44 c45 x42.1, aOwn fInt 2 a32 c33 x30.1, aNest fRepair 48 2 a17 c18 x15.1, aOwn fInt 2 a20 c21 x15.2] := SH.ext hS311 hE316
    refine WL.runk 2 [3, 4, 6, 7, 17, 18, 20, 21, 31, 32, 179, 182, 183, 184] [(3, .slice a17 x15.1.length c18), (4, .slice a20 x15.2.length c21), (6, .int .i64 x30.2), (7, .slice a44 x42.1.length c45), (17, .slice a92 x90.1.length c93), (18, .slice a95 x90.2.length c96), (20, .int .i64 x105.2), (21, .slice a119 x117.1.length c120), (31, .slice a182 x180.1.length c183), (32, .int .i64 x180.2), (179, .bool false), (182, .bool x313), (183, .slice a167 x165.1.length c168), (184, .slice a170 x165.2.length c171)] (by kernel_rfl) ?_
    obtain ⟨x321, hx322, hm⟩ := bindE hm
    refine WL.call 22 #[.slice a167 x165.1.length c168, .slice a170 x165.2.length c171] rfl rfl (by kernel_rfl) (c_22 n x165.1 a167 c168 x165.2 a170 c171 w315 hx322 (SH.rdN (SH.front 1 hS320)) (SH.leN (SH.front 1 hS320)).1 (SH.rdN (SH.front 2 hS320)) (SH.leN (SH.front 2 hS320)).1) ?_
    rintro _ w323 ⟨rfl, hE324⟩
    refine ⟨_, rfl, ?_⟩
    have hb326 : Ext w w323 := Ext.trans hb318 hE324
    have hL327 : w.heap.size ≤ w323.heap.size := Nat.le_trans hL319 hE324.size
    have hS328 : SH w323 w.heap.size [aNest fRepair 48 2 a182 c183 x180.1, aNest fRepair 48 2 a167 c168 x165.1, aNest fRepair 48 2 a170 c171 x165.2, aOwn fInt 2 a155 c156 x153.1, aOwn fInt 2 a143 c144 x141.1, aNest fRepair 48 2 a131 c132 x129.1, aOwn fInt 2 a119 c120 x117.1, aOwn fInt 2 a107 c108 x105.1, aNest fRepair 48 2 a92 c93 x90.1, aOwn fInt 2 a95 c96 x90.2, aOwn fInt 2 a44 c45 x42.1, aOwn fInt 2 a32 c33 x30.1, aNest fRepair 48 2 a17 c18 x15.1, aOwn fInt 2 a20 c21 x15.2] := SH.ext hS320 hE324
    refine WL.runk 3 [3, 4, 6, 7, 17, 18, 20, 21, 31, 32, 188] [(3, .slice a17 x15.1.length c18), (4, .slice a20 x15.2.length c21), (6, .int .i64 x30.2), (7, .slice a44 x42.1.length c45), (17, .slice a92 x90.1.length c93), (18, .slice a95 x90.2.length c96), (20, .int .i64 x105.2), (21, .slice a119 x117.1.length c120), (31, .slice a182 x180.1.length c183), (32, .int .i64 x180.2), (188, .bool (!(x313 == x321)))] (by kernel_rfl) ?_
    refine WL.case (!(x313 == x321)) [188] ⟨rfl, trivial⟩ (fun hc329 => ?_) (fun hc329 => ?_)
    · have hm := iteT hm hc329
      refine WL.runk 15 [3, 4, 6, 7, 17, 18, 20, 21, 203] [(3, .slice a17 x15.1.length c18), (4, .slice a20 x15.2.length c21), (6, .int .i64 x30.2), (7, .slice a44 x42.1.length c45), (17, .slice a92 x90.1.length c93), (18, .slice a95 x90.2.length c96), (20, .int .i64 x105.2), (21, .slice a119 x117.1.length c120), (203, .bool true)] (by kernel_rfl) ?_
      refine WL.nil ?_
      obtain rfl := Option.some.inj hm
      exact WQ.post' ⟨rfl, hb326, hL327, (SH.take 6 (SH.front 11 (SH.front 12 (SH.front 12 (SH.front 12 (SH.front 13 (SH.front 13 hS328)))))))⟩ ⟨rfl, rfl, rfl, rfl, rfl, rfl, rfl, rfl, rfl, trivial⟩
    have hm := iteF hm hc329
    refine WL.runk 2 [3, 4, 6, 7, 17, 18, 20, 21, 31, 32, 188, 189, 190] [(3, .slice a17 x15.1.length c18), (4, .slice a20 x15.2.length c21), (6, .int .i64 x30.2), (7, .slice a44 x42.1.length c45), (17, .slice a92 x90.1.length c93), (18, .slice a95 x90.2.length c96), (20, .int .i64 x105.2), (21, .slice a119 x117.1.length c120), (31, .slice a182 x180.1.length c183), (32, .int .i64 x180.2), (188, .bool false), (189, .slice a182 x180.1.length c183), (190, .int .i64 x180.2)] (by kernel_rfl) ?_
    obtain ⟨x330, hx331, hm⟩ := bindE hm
    refine WL.call 23 #[.slice a182 x180.1.length c183, .int .i64 x180.2] rfl rfl (by kernel_rfl) (c_23 n x180.1 a182 c183 x180.2 w323 hx331 (GL.below hG hb326) (SH.rdN (SH.front 0 hS328)) (SH.leN (SH.front 0 hS328)).1) ?_
    rintro _ w332 ⟨rfl, hE333⟩
    refine ⟨_, rfl, ?_⟩
    have hb335 : Ext w w332 := Ext.trans hb326 hE333
    have hL336 : w.heap.size ≤ w332.heap.size := Nat.le_trans hL327 hE333.size
    have hS337 : SH w332 w.heap.size [aNest fRepair 48 2 a182 c183 x180.1, aNest fRepair 48 2 a167 c168 x165.1, aNest fRepair 48 2 a170 c171 x165.2, aOwn fInt 2 a155 c156 x153.1, aOwn fInt 2 a143 c144 x141.1, aNest fRepair 48 2 a131 c132 x129.1, aOwn fInt 2 a119 c120 x117.1, aOwn fInt 2 a107 c108 x105.1, aNest fRepair 48 2 a92 c93 x90.1, aOwn fInt 2 a95 c96 x90.2, aOwn fInt 2 a44 c45 x42.1, aOwn fInt 2 a32 c33 x30.1, aNest fRepair 48 2 a17 c18 x15.1, aOwn fInt 2 a20 c21 x15.2] := SH.ext hS328 hE333
    refine WL.runk 2 [3, 4, 6, 7, 17, 18, 20, 21, 188, 191, 192, 193] [(3, .slice a17 x15.1.length c18), (4, .slice a20 x15.2.length c21), (6, .int .i64 x30.2), (7, .slice a44 x42.1.length c45), (17, .slice a92 x90.1.length c93), (18, .slice a95 x90.2.length c96), (20, .int .i64 x105.2), (21, .slice a119 x117.1.length c120), (188, .bool false), (191, .string (bs x330)), (192, .slice a182 x180.1.length c183), (193, .int .i64 x180.2)] (by kernel_rfl) ?_
    obtain ⟨x338, hx339, hm⟩ := bindE hm
    refine WL.call 24 #[.slice a182 x180.1.length c183, .int .i64 x180.2] rfl rfl (by kernel_rfl) (c_24 n x180.1 a182 c183 x180.2 w332 hx339 (SH.rdN (SH.front 0 hS337)) (SH.leN (SH.front 0 hS337)).1) ?_
    rintro _ w340 ⟨rfl, hE341⟩
    refine ⟨_, rfl, ?_⟩
    have hb343 : Ext w w340 := Ext.trans hb335 hE341
    have hL344 : w.heap.size ≤ w340.heap.size := Nat.le_trans hL336 hE341.size
    have hS345 : SH w340 w.heap.size [aNest fRepair 48 2 a182 c183 x180.1, aNest fRepair 48 2 a167 c168 x165.1, aNest fRepair 48 2 a170 c171 x165.2, aOwn fInt 2 a155 c156 x153.1, aOwn fInt 2 a143 c144 x141.1, aNest fRepair 48 2 a131 c132 x129.1, aOwn fInt 2 a119 c120 x117.1, aOwn fInt 2 a107 c108 x105.1, aNest fRepair 48 2 a92 c93 x90.1, aOwn fInt 2 a95 c96 x90.2, aOwn fInt 2 a44 c45 x42.1, aOwn fInt 2 a32 c33 x30.1, aNest fRepair 48 2 a17 c18 x15.1, aOwn fInt 2 a20 c21 x15.2] := SH.ext hS337 hE341
    refine WL.st (.bool (!(x330 == x338))) (ST.strne (x := x330) (y := x338) rfl rfl rfl) rfl rfl rfl ?_
    refine WL.runk 2 [3, 4, 6, 7, 17, 18, 20, 21, 197] [(3, .slice a17 x15.1.length c18), (4, .slice a20 x15.2.length c21), (6, .int .i64 x30.2), (7, .slice a44 x42.1.length c45), (17, .slice a92 x90.1.length c93), (18, .slice a95 x90.2.length c96), (20, .int .i64 x105.2), (21, .slice a119 x117.1.length c120), (197, .bool (!(x330 == x338)))] (by kernel_rfl) ?_
    refine WL.case (!(x330 == x338)) [197] ⟨rfl, trivial⟩ (fun hc346 => ?_) (fun hc346 => ?_)
    · have hm := iteT hm hc346
      refine WL.runk 6 [3, 4, 6, 7, 17, 18, 20, 21, 203] [(3, .slice a17 x15.1.length c18), (4, .slice a20 x15.2.length c21), (6, .int .i64 x30.2), (7, .slice a44 x42.1.length c45), (17, .slice a92 x90.1.length c93), (18, .slice a95 x90.2.length c96), (20, .int .i64 x105.2), (21, .slice a119 x117.1.length c120), (203, .bool true)] (by kernel_rfl) ?_
      refine WL.nil ?_
      obtain rfl := Option.some.inj hm
      exact WQ.post' ⟨rfl, hb343, hL344, (SH.take 6 (SH.front 11 (SH.front 12 (SH.front 12 (SH.front 12 (SH.front 13 (SH.front 13 hS345)))))))⟩ ⟨rfl, rfl, rfl, rfl, rfl, rfl, rfl, rfl, rfl, trivial⟩
    have hm := iteF hm hc346
    refine WL.runk 1 [3, 4, 6, 7, 17, 18, 20, 21, 197, 198] [(3, .slice a17 x15.1.length c18), (4, .slice a20 x15.2.length c21), (6, .int .i64 x30.2), (7, .slice a44 x42.1.length c45), (17, .slice a92 x90.1.length c93), (18, .slice a95 x90.2.length c96), (20, .int .i64 x105.2), (21, .slice a119 x117.1.length c120), (197, .bool false), (198, .slice a17 x15.1.length c18)] (by kernel_rfl) ?_
    obtain ⟨x347, hx348, hm⟩ := bindE hm
    refine WL.call 25 #[.slice a17 x15.1.length c18] rfl rfl (by kernel_rfl) (c_25 n x15.1 a17 c18 w340 hx348 (SH.rdN (SH.front 12 hS345)) (SH.leN (SH.front 12 hS345)).1) ?_
    rintro _ w349 ⟨rfl, hE350⟩
    refine ⟨_, rfl, ?_⟩
    have hb352 : Ext w w349 := Ext.trans hb343 hE350
    have hL353 : w.heap.size ≤ w349.heap.size := Nat.le_trans hL344 hE350.size
    have hS354 : SH w349 w.heap.size [aNest fRepair 48 2 a182 c183 x180.1, aNest fRepair 48 2 a167 c168 x165.1, aNest fRepair 48 2 a170 c171 x165.2, aOwn fInt 2 a155 c156 x153.1, aOwn fInt 2 a143 c144 x141.1, aNest fRepair 48 2 a131 c132 x129.1, aOwn fInt 2 a119 c120 x117.1, aOwn fInt 2 a107 c108 x105.1, aNest fRepair 48 2 a92 c93 x90.1, aOwn fInt 2 a95 c96 x90.2, aOwn fInt 2 a44 c45 x42.1, aOwn fInt 2 a32 c33 x30.1, aNest fRepair 48 2 a17 c18 x15.1, aOwn fInt 2 a20 c21 x15.2] := SH.ext hS345 hE350
    refine WL.runk 1 [3, 4, 6, 7, 17, 18, 20, 21, 197, 199, 200] [(3, .slice a17 x15.1.length c18), (4, .slice a20 x15.2.length c21), (6, .int .i64 x30.2), (7, .slice a44 x42.1.length c45), (17, .slice a92 x90.1.length c93), (18, .slice a95 x90.2.length c96), (20, .int .i64 x105.2), (21, .slice a119 x117.1.length c120), (197, .bool false), (199, .bool x347), (200, .slice a17 x15.1.length c18)] (by kernel_rfl) ?_
    obtain ⟨x355, hx356, hm⟩ := bindE hm
    refine WL.call 26 #[.slice a17 x15.1.length c18] rfl rfl (by kernel_rfl) (c_26 n x15.1 a17 c18 w349 hx356 (SH.rdN (SH.front 12 hS354)) (SH.leN (SH.front 12 hS354)).1) ?_
    rintro _ w357 ⟨rfl, hE358⟩
    refine ⟨_, rfl, ?_⟩
    have hb360 : Ext w w357 := Ext.trans hb352 hE358
    have hL361 : w.heap.size ≤ w357.heap.size := Nat.le_trans hL353 hE358.size
    have hS362 : SH w357 w.heap.size [aNest fRepair 48 2 a182 c183 x180.1, aNest fRepair 48 2 a167 c168 x165.1, aNest fRepair 48 2 a170 c171 x165.2, aOwn fInt 2 a155 c156 x153.1, aOwn fInt 2 a143 c144 x141.1, aNest fRepair 48 2 a131 c132 x129.1, aOwn fInt 2 a119 c120 x117.1, aOwn fInt 2 a107 c108 x105.1, aNest fRepair 48 2 a92 c93 x90.1, aOwn fInt 2 a95 c96 x90.2, aOwn fInt 2 a44 c45 x42.1, aOwn fInt 2 a32 c33 x30.1, aNest fRepair 48 2 a17 c18 x15.1, aOwn fInt 2 a20 c21 x15.2] := SH.ext hS354 hE358
    refine WL.runk 2 [3, 4, 6, 7, 17, 18, 20, 21, 203] [(3, .slice a17 x15.1.length c18), (4, .slice a20 x15.2.length c21), (6, .int .i64 x30.2), (7, .slice a44 x42.1.length c45), (17, .slice a92 x90.1.length c93), (18, .slice a95 x90.2.length c96), (20, .int .i64 x105.2), (21, .slice a119 x117.1.length c120), (203, .bool (!(x347 == x355)))] (by kernel_rfl) ?_
    refine WL.nil ?_
    obtain rfl := Option.some.inj hm
    exact WQ.post' ⟨rfl, hb360, hL361, (SH.take 6 (SH.front 11 (SH.front 12 (SH.front 12 (SH.front 12 (SH.front 13 (SH.front 13 hS362)))))))⟩ ⟨rfl, rfl, rfl, rfl, rfl, rfl, rfl, rfl, rfl, trivial⟩
  clear hx278
  rintro _ w363 ⟨rfl, hb364, hL365, hS366⟩
  refine WQ.then_normal (hK192 _ _ _ ?_)
  refine WP.cond x277 rfl rfl (fun hc367 => ?_) (fun hc367 => ?_)
  · have hm := iteT hm hc367
    refine WP.seq (fun K368 hK368 => ?_)
    refine WP.region ?_
    refine WL.runk 1 [2] [(2, .bool false)] (by kernel_rfl) ?_
    refine WL.nil ?_
    refine WQ.then_normal (hK368 _ _ _ ?_)
    refine WP.ret ?_
    refine WQ.then_ret ?_
    obtain rfl := Option.some.inj hm
    exact WQ.ret1 _ rfl rfl ⟨rfl, hb364⟩
  have hm := iteF hm hc367
  refine WP.skip ?_
  refine WQ.then_normal (hK191 _ _ _ ?_)
  refine WP.seq (fun K369 hK369 => ?_)
  refine WP.seq (fun K370 hK370 => ?_)
  refine WP.region ?_
  refine WL.runk 2 [3, 4, 6, 7, 17, 18, 21, 205] [(3, .slice a17 x15.1.length c18), (4, .slice a20 x15.2.length c21), (6, .int .i64 x30.2), (7, .slice a44 x42.1.length c45), (17, .slice a92 x90.1.length c93), (18, .slice a95 x90.2.length c96), (21, .slice a119 x117.1.length c120), (205, .bool (x105.2 == 0))] (by kernel_rfl) ?_
  refine WL.nil ?_
  refine WQ.then_normal (hK370 _ _ _ ?_)
  refine WP.cond (x105.2 == 0) rfl rfl (fun hc371 => ?_) (fun hc371 => ?_)
  rotate_left
  · have hm := iteF hm hc371
    refine WP.skip ?_
    refine WQ.then_normal (hK369 _ _ _ ?_)
    refine WP.seq (fun K686 hK686 => ?_)
    refine WP.seq (fun K687 hK687 => ?_)
    refine WP.region ?_
    refine WL.runk 2 [3, 4, 7, 236] [(3, .slice a17 x15.1.length c18), (4, .slice a20 x15.2.length c21), (7, .slice a44 x42.1.length c45), (236, .bool (x30.2 != 0))] (by kernel_rfl) ?_
    refine WL.nil ?_
    refine WQ.then_normal (hK687 _ _ _ ?_)
    refine WP.cond (x30.2 != 0) rfl rfl (fun hc688 => ?_) (fun hc688 => ?_)
    · have hm := iteT hm hc688
      refine WP.seq (fun K689 hK689 => ?_)
      refine WP.region ?_
      refine WL.runk 1 [2] [(2, .bool true)] (by kernel_rfl) ?_
      refine WL.nil ?_
      refine WQ.then_normal (hK689 _ _ _ ?_)
      refine WP.ret ?_
      refine WQ.then_ret ?_
      obtain rfl := Option.some.inj hm
      exact WQ.ret1 _ rfl rfl ⟨rfl, hb364⟩
    have hm := iteF hm hc688
    refine WP.skip ?_
    refine WQ.then_normal (hK686 _ _ _ ?_)
    refine WP.seq (fun K690 hK690 => ?_)
    refine WP.region ?_
    refine WL.runk 2 [3, 4, 7, 238, 239] [(3, .slice a17 x15.1.length c18), (4, .slice a20 x15.2.length c21), (7, .slice a44 x42.1.length c45), (238, .slice a17 x15.1.length c18), (239, .slice a44 x42.1.length c45)] (by kernel_rfl) ?_
    obtain ⟨x691, hx692, hm⟩ := bindE hm
    refine WL.call 6 #[.slice a17 x15.1.length c18, .slice a44 x42.1.length c45] rfl rfl (by kernel_rfl) (c_6 n x15.1 a17 c18 x42.1 a44 c45 w363 hx692 (SH.rdN (SH.front 4 hS366)) (SH.leN (SH.front 4 hS366)).1 (SH.rd (SH.front 3 hS366)) (SH.le (SH.front 3 hS366)).1) ?_
    rintro _ w696 ⟨a693, c694, rfl, hE697, hR698⟩
    refine ⟨_, rfl, ?_⟩
    have hb699 : Ext w w696 := Ext.trans hb364 hE697
    have hL700 : w.heap.size ≤ w696.heap.size := Nat.le_trans hL365 hE697.size
    have hS701 : SH w696 w.heap.size [aOwn fInt 2 a693 c694 x691.1, aOwn fInt 2 a119 c120 x117.1, aNest fRepair 48 2 a92 c93 x90.1, aOwn fInt 2 a95 c96 x90.2, aOwn fInt 2 a44 c45 x42.1, aNest fRepair 48 2 a17 c18 x15.1, aOwn fInt 2 a20 c21 x15.2] := SH.add hS366 hE697 hL365 hR698
    refine WL.runk 5 [3, 4, 7, 36, 37] [(3, .slice a17 x15.1.length c18), (4, .slice a20 x15.2.length c21), (7, .slice a44 x42.1.length c45), (36, .slice a693 x691.1.length c694), (37, .int .i64 x691.2)] (by kernel_rfl) ?_
    refine WL.nil ?_
    refine WQ.then_normal (hK690 _ _ _ ?_)
    refine WP.seq (fun K702 hK702 => ?_)
    refine WP.region ?_
    refine WL.runk 2 [4, 7, 36, 37, 244, 245] [(4, .slice a20 x15.2.length c21), (7, .slice a44 x42.1.length c45), (36, .slice a693 x691.1.length c694), (37, .int .i64 x691.2), (244, .slice a17 x15.1.length c18), (245, .slice a44 x42.1.length c45)] (by kernel_rfl) ?_
    refine WL.row fInt 2 ([] : List Int) 0 #[] 246 (by kernel_rfl) rfl rfl rfl rfl rfl rfl rfl ?_
    intro a703 c704 w705 hE706 hR707
    have hb709 : Ext w w705 := Ext.trans hb699 hE706
    have hL710 : w.heap.size ≤ w705.heap.size := Nat.le_trans hL700 hE706.size
    have hS711 : SH w705 w.heap.size [aOwn fInt 2 a703 c704 ([] : List Int), aOwn fInt 2 a693 c694 x691.1, aOwn fInt 2 a119 c120 x117.1, aNest fRepair 48 2 a92 c93 x90.1, aOwn fInt 2 a95 c96 x90.2, aOwn fInt 2 a44 c45 x42.1, aNest fRepair 48 2 a17 c18 x15.1, aOwn fInt 2 a20 c21 x15.2] := SH.add hS701 hE706 hL700 hR707
    obtain ⟨x712, hx713, hm⟩ := bindE hm
    refine WL.call 28 #[.slice a17 x15.1.length c18, .slice a44 x42.1.length c45, .slice a703 (([] : List Int).length) c704] rfl rfl (by kernel_rfl) (c_28 n x15.1 a17 c18 x42.1 a44 c45 ([] : List Int) a703 c704 w705 hx713 (SH.rdN (SH.front 6 hS711)) (SH.leN (SH.front 6 hS711)).1 (SH.rd (SH.front 5 hS711)) (SH.le (SH.front 5 hS711)).1 (SH.rd (SH.front 0 hS711)) (SH.le (SH.front 0 hS711)).1) ?_
    rintro _ w714 ⟨rfl, hE715⟩
    refine ⟨_, rfl, ?_⟩
    have hb717 : Ext w w714 := Ext.trans hb709 hE715
    have hL718 : w.heap.size ≤ w714.heap.size := Nat.le_trans hL710 hE715.size
    have hS719 : SH w714 w.heap.size [aOwn fInt 2 a703 c704 ([] : List Int), aOwn fInt 2 a693 c694 x691.1, aOwn fInt 2 a119 c120 x117.1, aNest fRepair 48 2 a92 c93 x90.1, aOwn fInt 2 a95 c96 x90.2, aOwn fInt 2 a44 c45 x42.1, aNest fRepair 48 2 a17 c18 x15.1, aOwn fInt 2 a20 c21 x15.2] := SH.ext hS711 hE715
    refine WL.runk 5 [4, 7, 36, 37, 38, 39] [(4, .slice a20 x15.2.length c21), (7, .slice a44 x42.1.length c45), (36, .slice a693 x691.1.length c694), (37, .int .i64 x691.2), (38, .bool x712.1), (39, .int .i64 x712.2)] (by kernel_rfl) ?_
    refine WL.nil ?_
    refine WQ.then_normal (hK702 _ _ _ ?_)
    refine WP.seq (fun K720 hK720 => ?_)
    refine WP.seq (fun K721 hK721 => ?_)
    refine WP.region ?_
    refine WL.runk 1 [4, 7, 36, 37, 38, 39, 40] [(4, .slice a20 x15.2.length c21), (7, .slice a44 x42.1.length c45), (36, .slice a693 x691.1.length c694), (37, .int .i64 x691.2), (38, .bool x712.1), (39, .int .i64 x712.2), (40, .int .i64 0)] (by kernel_rfl) ?_
    refine WL.nil ?_
    refine WQ.then_normal (hK721 _ _ _ ?_)
    refine WP.block ?_
    obtain ⟨t733, ht734, hm⟩ := bindE hm
    have hmo728 := hm; clear hm
    refine WP.sub [(4, .slice a20 x15.2.length c21), (7, .slice a44 x42.1.length c45), (36, .slice a693 x691.1.length c694), (37, .int .i64 x691.2), (38, .bool x712.1), (39, .int .i64 x712.2), (40, .int .i64 0)] ⟨rfl, rfl, rfl, rfl, rfl, rfl, rfl, trivial⟩ ?_
    refine WP.loop (fun n' env' w' => ∃ (st722 : Int) , env' = [(4, .slice a20 x15.2.length c21), (7, .slice a44 x42.1.length c45), (36, .slice a693 x691.1.length c694), (37, .int .i64 x691.2), (38, .bool x712.1), (39, .int .i64 x712.2), (40, .int .i64 st722)] ∧ Ext w w' ∧ w.heap.size ≤ w'.heap.size ∧ SH w' w.heap.size [aOwn fInt 2 a693 c694 x691.1, aOwn fInt 2 a44 c45 x42.1, aOwn fInt 2 a20 c21 x15.2] ∧ loopN (m_laws_FnRepairs_l4 n x15 x42) n' st722 = some t733) n ⟨0, rfl, hb717, hL718, (SH.take 3 (SH.front 3 (SH.front 6 (SH.front 7 hS719)))), ht734⟩ ?_
    rintro n730 _ w723 ⟨st722, rfl, hb724, hL725, hS726, hl727⟩ K729 hK729
    obtain ⟨n731, s732, rfl, hm, hl727⟩ := loopN_some hl727
    unfold m_laws_FnRepairs_l4 at hm
    refine WP.seq (fun K735 hK735 => ?_)
    refine WP.seq (fun K736 hK736 => ?_)
    refine WP.region ?_
    refine WL.runk 4 [4, 7, 36, 37, 38, 39, 40, 253] [(4, .slice a20 x15.2.length c21), (7, .slice a44 x42.1.length c45), (36, .slice a693 x691.1.length c694), (37, .int .i64 x691.2), (38, .bool x712.1), (39, .int .i64 x712.2), (40, .int .i64 st722), (253, .bool (decide (st722 < (x15.2.length : Int))))] (by kernel_rfl) ?_
    refine WL.nil ?_
    refine WQ.then_normal (hK736 _ _ _ ?_)
    refine WP.cond (decide (st722 < (x15.2.length : Int))) rfl rfl (fun hc737 => ?_) (fun hc737 => ?_)
    · have hm := iteT hm hc737
      refine WP.skip ?_
      refine WQ.then_normal (hK735 _ _ _ ?_)
      refine WP.seq (fun K738 hK738 => ?_)
      refine WP.block ?_
      refine WP.seq (fun K739 hK739 => ?_)
      refine WP.region ?_
      refine WL.runk 3 [4, 7, 36, 37, 38, 39, 40, 256, 257, 258] [(4, .slice a20 x15.2.length c21), (7, .slice a44 x42.1.length c45), (36, .slice a693 x691.1.length c694), (37, .int .i64 x691.2), (38, .bool x712.1), (39, .int .i64 x712.2), (40, .int .i64 st722), (256, .slice a44 x42.1.length c45), (257, .slice a20 x15.2.length c21), (258, .int .i64 st722)] (by kernel_rfl) ?_
      obtain ⟨x740, hx741, hm⟩ := bindE hm
      refine WL.st (.pointer (some (at_ a20 (Int.toNat st722 * 1)))) (ST.index (T := fInt.ty) (xs := x15.2) (SH.rd (SH.front 2 hS726)) hx741 rfl rfl rfl Tryz.underlying25 (info2).1 (info2).2.1) rfl rfl rfl ?_
      refine WL.st (.int .i64 x740) (ST.load (cell_ext (Rd.flat (F := fInt) (SH.rd (SH.front 2 hS726)) hx741 0 rfl)) rfl rfl Tryz.underlying2 rfl) rfl rfl rfl ?_
      obtain ⟨x742, hx743, hm⟩ := bindE hm
      refine WL.call 27 #[.slice a44 x42.1.length c45, .int .i64 x740] rfl rfl (by kernel_rfl) (c_27 n x42.1 a44 c45 x740 w723 hx743 (SH.rd (SH.front 1 hS726)) (SH.le (SH.front 1 hS726)).1) ?_
      rintro _ w744 ⟨rfl, hE745⟩
      refine ⟨_, rfl, ?_⟩
      have hb747 : Ext w w744 := Ext.trans hb724 hE745
      have hL748 : w.heap.size ≤ w744.heap.size := Nat.le_trans hL725 hE745.size
      have hS749 : SH w744 w.heap.size [aOwn fInt 2 a693 c694 x691.1, aOwn fInt 2 a44 c45 x42.1, aOwn fInt 2 a20 c21 x15.2] := SH.ext hS726 hE745
      refine WL.runk 1 [4, 7, 36, 37, 38, 39, 40, 262] [(4, .slice a20 x15.2.length c21), (7, .slice a44 x42.1.length c45), (36, .slice a693 x691.1.length c694), (37, .int .i64 x691.2), (38, .bool x712.1), (39, .int .i64 x712.2), (40, .int .i64 st722), (262, .bool (!x742))] (by kernel_rfl) ?_
      refine WL.nil ?_
      refine WQ.then_normal (hK739 _ _ _ ?_)
      refine WP.cond (!x742) rfl rfl (fun hc750 => ?_) (fun hc750 => ?_)
      rotate_left
      · have hm := iteF hm hc750
        refine WP.skip ?_
        refine WQ.block_normal ?_
        refine WQ.then_normal (hK738 _ _ _ ?_)
        refine WP.region ?_
        refine WL.runk 3 [4, 7, 36, 37, 38, 39, 40] [(4, .slice a20 x15.2.length c21), (7, .slice a44 x42.1.length c45), (36, .slice a693 x691.1.length c694), (37, .int .i64 x691.2), (38, .bool x712.1), (39, .int .i64 x712.2), (40, .int .i64 (wI64 (st722 + 1)))] (by kernel_rfl) ?_
        refine WL.nil ?_
        obtain rfl := Option.some.inj hm
        exact WQ.round hK729 ⟨(wI64 (st722 + 1)), rfl, hb747, hL748, hS749, hl727⟩ (Nat.lt_succ_self _) ⟨rfl, rfl, rfl, rfl, rfl, rfl, rfl, trivial⟩
      have hm := iteT hm hc750
      refine WP.seq (fun K751 hK751 => ?_)
      refine WP.region ?_
      refine WL.runk 1 [2] [(2, .bool false)] (by kernel_rfl) ?_
      refine WL.nil ?_
      refine WQ.then_normal (hK751 _ _ _ ?_)
      refine WP.ret ?_
      refine WQ.block_ret ?_
      refine WQ.then_ret ?_
      refine WQ.then_ret ?_
      refine WQ.block_ret ?_
      refine WQ.then_ret ?_
      obtain rfl := Option.some.inj hm
      obtain rfl := afterN_done hl727
      have hm := hmo728
      obtain rfl := Option.some.inj hm
      exact WQ.ret1 _ rfl rfl ⟨rfl, hb747⟩
    have hm := iteF hm hc737
    refine WP.exit ?_
    refine WQ.then_exit ?_
    refine WQ.then_exit ?_
    refine WQ.block_here ?_
    obtain rfl := Option.some.inj hm
    obtain rfl := afterN_done hl727
    have hm := hmo728
    refine WQ.then_normal (hK720 _ _ _ ?_)
    refine WP.seq (fun K752 hK752 => ?_)
    obtain ⟨x764, hx765, hm⟩ := bindE hm
    refine WP.cut (fun env' w' => env' = [(2, .bool x764)] ∧ Ext w w' ∧ w.heap.size ≤ w'.heap.size ∧ SH w' w.heap.size []) ?_ ?_
    rotate_left
    · clear hx765
      rintro _ w777 ⟨rfl, hb778, hL779, hS780⟩
      refine WQ.then_normal (hK752 _ _ _ ?_)
      refine WP.ret ?_
      obtain rfl := Option.some.inj hm
      exact WQ.ret1 _ rfl rfl ⟨rfl, hb778⟩
    have hm := hx765; clear hx765
    refine WP.region ?_
    refine WL.runk 3 [7, 36, 38, 39, 265] [(7, .slice a44 x42.1.length c45), (36, .slice a693 x691.1.length c694), (38, .bool x712.1), (39, .int .i64 x712.2), (265, .bool (x691.2 == 0))] (by kernel_rfl) ?_
    refine WL.case (x691.2 == 0) [265] ⟨rfl, trivial⟩ (fun hc766 => ?_) (fun hc766 => ?_)
    rotate_left
    · have hm := iteF hm hc766
      refine WL.runk 12 [2] [(2, .bool false)] (by kernel_rfl) ?_
      refine WL.nil ?_
      obtain rfl := Option.some.inj hm
      exact WQ.post' ⟨rfl, hb724, hL725, (SH.take 0 hS726)⟩ ⟨rfl, trivial⟩
    have hm := iteT hm hc766
    refine WL.runk 2 [38, 39, 265, 266, 267] [(38, .bool x712.1), (39, .int .i64 x712.2), (265, .bool true), (266, .slice a693 x691.1.length c694), (267, .slice a44 x42.1.length c45)] (by kernel_rfl) ?_
    obtain ⟨x767, hx768, hm⟩ := bindE hm
    refine WL.call 20 #[.slice a693 x691.1.length c694, .slice a44 x42.1.length c45] rfl rfl (by kernel_rfl) (c_20 n x691.1 a693 c694 x42.1 a44 c45 w723 hx768 (SH.rd (SH.front 0 hS726)) (SH.le (SH.front 0 hS726)).1 (SH.rd (SH.front 1 hS726)) (SH.le (SH.front 1 hS726)).1) ?_
    rintro _ w769 ⟨rfl, hE770⟩
    refine ⟨_, rfl, ?_⟩
    have hb772 : Ext w w769 := Ext.trans hb724 hE770
    have hL773 : w.heap.size ≤ w769.heap.size := Nat.le_trans hL725 hE770.size
    have hS774 : SH w769 w.heap.size [aOwn fInt 2 a693 c694 x691.1, aOwn fInt 2 a44 c45 x42.1, aOwn fInt 2 a20 c21 x15.2] := SH.ext hS726 hE770
    refine WL.runk 2 [38, 39, 270] [(38, .bool x712.1), (39, .int .i64 x712.2), (270, .bool x767)] (by kernel_rfl) ?_
    refine WL.case x767 [270] ⟨rfl, trivial⟩ (fun hc775 => ?_) (fun hc775 => ?_)
    rotate_left
    · have hm := iteF hm hc775
      refine WL.runk 7 [2] [(2, .bool false)] (by kernel_rfl) ?_
      refine WL.nil ?_
      obtain rfl := Option.some.inj hm
      exact WQ.post' ⟨rfl, hb772, hL773, (SH.take 0 hS774)⟩ ⟨rfl, trivial⟩
    have hm := iteT hm hc775
    refine WL.runk 4 [38, 274] [(38, .bool x712.1), (274, .bool (x712.2 == 0))] (by kernel_rfl) ?_
    refine WL.case (x712.2 == 0) [274] ⟨rfl, trivial⟩ (fun hc776 => ?_) (fun hc776 => ?_)
    · have hm := iteT hm hc776
      refine WL.runk 3 [2] [(2, .bool x712.1)] (by kernel_rfl) ?_
      refine WL.nil ?_
      obtain rfl := Option.some.inj hm
      exact WQ.post' ⟨rfl, hb772, hL773, (SH.take 0 hS774)⟩ ⟨rfl, trivial⟩
    have hm := iteF hm hc776
    refine WL.runk 3 [2] [(2, .bool false)] (by kernel_rfl) ?_
    refine WL.nil ?_
    obtain rfl := Option.some.inj hm
    exact WQ.post' ⟨rfl, hb772, hL773, (SH.take 0 hS774)⟩ ⟨rfl, trivial⟩
  have hm := iteT hm hc371
  refine WP.seq (fun K372 hK372 => ?_)
  refine WP.region ?_
  refine WL.runk 1 [3, 4, 6, 7, 17, 18, 21, 33] [(3, .slice a17 x15.1.length c18), (4, .slice a20 x15.2.length c21), (6, .int .i64 x30.2), (7, .slice a44 x42.1.length c45), (17, .slice a92 x90.1.length c93), (18, .slice a95 x90.2.length c96), (21, .slice a119 x117.1.length c120), (33, .int .i64 0)] (by kernel_rfl) ?_
  refine WL.nil ?_
  refine WQ.then_normal (hK372 _ _ _ ?_)
  refine WP.block ?_
  obtain ⟨t384, ht385, hm⟩ := bindE hm
  have hmo379 := hm; clear hm
  refine WP.sub [(3, .slice a17 x15.1.length c18), (4, .slice a20 x15.2.length c21), (6, .int .i64 x30.2), (7, .slice a44 x42.1.length c45), (17, .slice a92 x90.1.length c93), (18, .slice a95 x90.2.length c96), (21, .slice a119 x117.1.length c120), (33, .int .i64 0)] ⟨rfl, rfl, rfl, rfl, rfl, rfl, rfl, rfl, trivial⟩ ?_
  refine WP.loop (fun n' env' w' => ∃ (st373 : Int) , env' = [(3, .slice a17 x15.1.length c18), (4, .slice a20 x15.2.length c21), (6, .int .i64 x30.2), (7, .slice a44 x42.1.length c45), (17, .slice a92 x90.1.length c93), (18, .slice a95 x90.2.length c96), (21, .slice a119 x117.1.length c120), (33, .int .i64 st373)] ∧ Ext w w' ∧ w.heap.size ≤ w'.heap.size ∧ SH w' w.heap.size [aOwn fInt 2 a119 c120 x117.1, aNest fRepair 48 2 a92 c93 x90.1, aOwn fInt 2 a95 c96 x90.2, aOwn fInt 2 a44 c45 x42.1, aNest fRepair 48 2 a17 c18 x15.1, aOwn fInt 2 a20 c21 x15.2] ∧ loopN (m_laws_FnRepairs_l1 n x90 x117) n' st373 = some t384) n ⟨0, rfl, hb364, hL365, hS366, ht385⟩ ?_
  rintro n381 _ w374 ⟨st373, rfl, hb375, hL376, hS377, hl378⟩ K380 hK380
  obtain ⟨n382, s383, rfl, hm, hl378⟩ := loopN_some hl378
  unfold m_laws_FnRepairs_l1 at hm
  refine WP.seq (fun K386 hK386 => ?_)
  refine WP.seq (fun K387 hK387 => ?_)
  refine WP.region ?_
  refine WL.runk 4 [3, 4, 6, 7, 17, 18, 21, 33, 209] [(3, .slice a17 x15.1.length c18), (4, .slice a20 x15.2.length c21), (6, .int .i64 x30.2), (7, .slice a44 x42.1.length c45), (17, .slice a92 x90.1.length c93), (18, .slice a95 x90.2.length c96), (21, .slice a119 x117.1.length c120), (33, .int .i64 st373), (209, .bool (decide (st373 < (x90.2.length : Int))))] (by kernel_rfl) ?_
  refine WL.nil ?_
  refine WQ.then_normal (hK387 _ _ _ ?_)
  refine WP.cond (decide (st373 < (x90.2.length : Int))) rfl rfl (fun hc388 => ?_) (fun hc388 => ?_)
  · have hm := iteT hm hc388
    refine WP.skip ?_
    refine WQ.then_normal (hK386 _ _ _ ?_)
    refine WP.seq (fun K389 hK389 => ?_)
    refine WP.block ?_
    refine WP.seq (fun K390 hK390 => ?_)
    refine WP.region ?_
    refine WL.runk 3 [3, 4, 6, 7, 17, 18, 21, 33, 213, 214, 215] [(3, .slice a17 x15.1.length c18), (4, .slice a20 x15.2.length c21), (6, .int .i64 x30.2), (7, .slice a44 x42.1.length c45), (17, .slice a92 x90.1.length c93), (18, .slice a95 x90.2.length c96), (21, .slice a119 x117.1.length c120), (33, .int .i64 st373), (213, .slice a92 x90.1.length c93), (214, .slice a95 x90.2.length c96), (215, .int .i64 st373)] (by kernel_rfl) ?_
    obtain ⟨x391, hx392, hm⟩ := bindE hm
    refine WL.st (.pointer (some (at_ a95 (Int.toNat st373 * 1)))) (ST.index (T := fInt.ty) (xs := x90.2) (SH.rd (SH.front 2 hS377)) hx392 rfl rfl rfl Tryz.underlying25 (info2).1 (info2).2.1) rfl rfl rfl ?_
    refine WL.st (.int .i64 x391) (ST.load (cell_ext (Rd.flat (F := fInt) (SH.rd (SH.front 2 hS377)) hx392 0 rfl)) rfl rfl Tryz.underlying2 rfl) rfl rfl rfl ?_
    obtain ⟨x393, hx394, hm⟩ := bindE hm
    refine WL.call 16 #[.slice a92 x90.1.length c93, .int .i64 x391] rfl rfl (by kernel_rfl) (c_16 n x90.1 a92 c93 x391 w374 hx394 (SH.rdN (SH.front 1 hS377)) (SH.leN (SH.front 1 hS377)).1) ?_
    rintro _ w398 ⟨a395, c396, rfl, hE399, hR400⟩
    refine ⟨_, rfl, ?_⟩
    have hb401 : Ext w w398 := Ext.trans hb375 hE399
    have hL402 : w.heap.size ≤ w398.heap.size := Nat.le_trans hL376 hE399.size
    have hS403 : SH w398 w.heap.size [aOwn fInt 2 a395 c396 x393.1, aOwn fInt 2 a119 c120 x117.1, aNest fRepair 48 2 a92 c93 x90.1, aOwn fInt 2 a95 c96 x90.2, aOwn fInt 2 a44 c45 x42.1, aNest fRepair 48 2 a17 c18 x15.1, aOwn fInt 2 a20 c21 x15.2] := SH.add hS377 hE399 hL376 hR400
    refine WL.runk 5 [3, 4, 6, 7, 17, 18, 21, 33, 34, 35] [(3, .slice a17 x15.1.length c18), (4, .slice a20 x15.2.length c21), (6, .int .i64 x30.2), (7, .slice a44 x42.1.length c45), (17, .slice a92 x90.1.length c93), (18, .slice a95 x90.2.length c96), (21, .slice a119 x117.1.length c120), (33, .int .i64 st373), (34, .slice a395 x393.1.length c396), (35, .int .i64 x393.2)] (by kernel_rfl) ?_
    refine WL.nil ?_
    refine WQ.then_normal (hK390 _ _ _ ?_)
    refine WP.seq (fun K404 hK404 => ?_)
    obtain ⟨x416, hx417, hm⟩ := bindE hm
    refine WP.cut (fun env' w' => env' = [(3, .slice a17 x15.1.length c18), (4, .slice a20 x15.2.length c21), (6, .int .i64 x30.2), (7, .slice a44 x42.1.length c45), (17, .slice a92 x90.1.length c93), (18, .slice a95 x90.2.length c96), (21, .slice a119 x117.1.length c120), (33, .int .i64 st373), (234, .bool x416)] ∧ Ext w w' ∧ w.heap.size ≤ w'.heap.size ∧ SH w' w.heap.size [aOwn fInt 2 a119 c120 x117.1, aNest fRepair 48 2 a92 c93 x90.1, aOwn fInt 2 a95 c96 x90.2, aOwn fInt 2 a44 c45 x42.1, aNest fRepair 48 2 a17 c18 x15.1, aOwn fInt 2 a20 c21 x15.2]) ?_ ?_
    · have hm := hx417; clear hx417
      refine WP.region ?_
      refine WL.runk 3 [3, 4, 6, 7, 17, 18, 21, 33, 34, 223] [(3, .slice a17 x15.1.length c18), (4, .slice a20 x15.2.length c21), (6, .int .i64 x30.2), (7, .slice a44 x42.1.length c45), (17, .slice a92 x90.1.length c93), (18, .slice a95 x90.2.length c96), (21, .slice a119 x117.1.length c120), (33, .int .i64 st373), (34, .slice a395 x393.1.length c396), (223, .bool (x393.2 != 0))] (by kernel_rfl) ?_
      refine WL.case (x393.2 != 0) [223] ⟨rfl, trivial⟩ (fun hc418 => ?_) (fun hc418 => ?_)
      · have hm := iteT hm hc418
        refine WL.runk 11 [3, 4, 6, 7, 17, 18, 21, 33, 234] [(3, .slice a17 x15.1.length c18), (4, .slice a20 x15.2.length c21), (6, .int .i64 x30.2), (7, .slice a44 x42.1.length c45), (17, .slice a92 x90.1.length c93), (18, .slice a95 x90.2.length c96), (21, .slice a119 x117.1.length c120), (33, .int .i64 st373), (234, .bool true)] (by kernel_rfl) ?_
        refine WL.nil ?_
        obtain rfl := Option.some.inj hm
        exact WQ.post' ⟨rfl, hb401, hL402, (SH.take 6 (SH.front 6 (SH.front 6 (SH.front 6 (SH.front 6 (SH.front 6 (SH.front 6 hS403)))))))⟩ ⟨rfl, rfl, rfl, rfl, rfl, rfl, rfl, rfl, rfl, trivial⟩
      have hm := iteF hm hc418
      refine WL.runk 6 [3, 4, 6, 7, 17, 18, 21, 33, 223, 226, 227, 228, 229] [(3, .slice a17 x15.1.length c18), (4, .slice a20 x15.2.length c21), (6, .int .i64 x30.2), (7, .slice a44 x42.1.length c45), (17, .slice a92 x90.1.length c93), (18, .slice a95 x90.2.length c96), (21, .slice a119 x117.1.length c120), (33, .int .i64 st373), (223, .bool false), (226, .bool ((x393.1.length : Int) == 0)), (227, .slice a119 x117.1.length c120), (228, .slice a95 x90.2.length c96), (229, .int .i64 st373)] (by kernel_rfl) ?_
      obtain ⟨x419, hx420, hm⟩ := bindE hm
      refine WL.st (.pointer (some (at_ a95 (Int.toNat st373 * 1)))) (ST.index (T := fInt.ty) (xs := x90.2) (SH.rd (SH.front 3 hS403)) hx420 rfl rfl rfl Tryz.underlying25 (info2).1 (info2).2.1) rfl rfl rfl ?_
      refine WL.st (.int .i64 x419) (ST.load (cell_ext (Rd.flat (F := fInt) (SH.rd (SH.front 3 hS403)) hx420 0 rfl)) rfl rfl Tryz.underlying2 rfl) rfl rfl rfl ?_
      obtain ⟨x421, hx422, hm⟩ := bindE hm
      refine WL.call 27 #[.slice a119 x117.1.length c120, .int .i64 x419] rfl rfl (by kernel_rfl) (c_27 n x117.1 a119 c120 x419 w398 hx422 (SH.rd (SH.front 1 hS403)) (SH.le (SH.front 1 hS403)).1) ?_
      rintro _ w423 ⟨rfl, hE424⟩
      refine ⟨_, rfl, ?_⟩
      have hb426 : Ext w w423 := Ext.trans hb401 hE424
      have hL427 : w.heap.size ≤ w423.heap.size := Nat.le_trans hL402 hE424.size
      have hS428 : SH w423 w.heap.size [aOwn fInt 2 a395 c396 x393.1, aOwn fInt 2 a119 c120 x117.1, aNest fRepair 48 2 a92 c93 x90.1, aOwn fInt 2 a95 c96 x90.2, aOwn fInt 2 a44 c45 x42.1, aNest fRepair 48 2 a17 c18 x15.1, aOwn fInt 2 a20 c21 x15.2] := SH.ext hS403 hE424
      refine WL.runk 2 [3, 4, 6, 7, 17, 18, 21, 33, 234] [(3, .slice a17 x15.1.length c18), (4, .slice a20 x15.2.length c21), (6, .int .i64 x30.2), (7, .slice a44 x42.1.length c45), (17, .slice a92 x90.1.length c93), (18, .slice a95 x90.2.length c96), (21, .slice a119 x117.1.length c120), (33, .int .i64 st373), (234, .bool (!(((x393.1.length : Int) == 0) == x421)))] (by kernel_rfl) ?_
      refine WL.nil ?_
      obtain rfl := Option.some.inj hm
      exact WQ.post' ⟨rfl, hb426, hL427, (SH.take 6 (SH.front 6 (SH.front 6 (SH.front 6 (SH.front 6 (SH.front 6 (SH.front 6 hS428)))))))⟩ ⟨rfl, rfl, rfl, rfl, rfl, rfl, rfl, rfl, rfl, trivial⟩
    clear hx417
    rintro _ w429 ⟨rfl, hb430, hL431, hS432⟩
    refine WQ.then_normal (hK404 _ _ _ ?_)
    refine WP.cond x416 rfl rfl (fun hc433 => ?_) (fun hc433 => ?_)
    rotate_left
    · have hm := iteF hm hc433
      refine WP.skip ?_
      refine WQ.block_normal ?_
      refine WQ.then_normal (hK389 _ _ _ ?_)
      refine WP.region ?_
      refine WL.runk 3 [3, 4, 6, 7, 17, 18, 21, 33] [(3, .slice a17 x15.1.length c18), (4, .slice a20 x15.2.length c21), (6, .int .i64 x30.2), (7, .slice a44 x42.1.length c45), (17, .slice a92 x90.1.length c93), (18, .slice a95 x90.2.length c96), (21, .slice a119 x117.1.length c120), (33, .int .i64 (wI64 (st373 + 1)))] (by kernel_rfl) ?_
      refine WL.nil ?_
      obtain rfl := Option.some.inj hm
      exact WQ.round hK380 ⟨(wI64 (st373 + 1)), rfl, hb430, hL431, hS432, hl378⟩ (Nat.lt_succ_self _) ⟨rfl, rfl, rfl, rfl, rfl, rfl, rfl, rfl, trivial⟩
    have hm := iteT hm hc433
    refine WP.seq (fun K434 hK434 => ?_)
    refine WP.region ?_
    refine WL.runk 1 [2] [(2, .bool false)] (by kernel_rfl) ?_
    refine WL.nil ?_
    refine WQ.then_normal (hK434 _ _ _ ?_)
    refine WP.ret ?_
    refine WQ.block_ret ?_
    refine WQ.then_ret ?_
    refine WQ.then_ret ?_
    refine WQ.block_ret ?_
    refine WQ.then_ret ?_
    obtain rfl := Option.some.inj hm
    obtain rfl := afterN_done hl378
    have hm := hmo379
    obtain rfl := Option.some.inj hm
    exact WQ.ret1 _ rfl rfl ⟨rfl, hb430⟩
  have hm := iteF hm hc388
  refine WP.exit ?_
  refine WQ.then_exit ?_
  refine WQ.then_exit ?_
  refine WQ.block_here ?_
  obtain rfl := Option.some.inj hm
  obtain rfl := afterN_done hl378
  have hm := hmo379
  refine WQ.then_normal (hK369 _ _ _ ?_)
  refine WP.seq (fun K435 hK435 => ?_)
  refine WP.seq (fun K436 hK436 => ?_)
  refine WP.region ?_
  refine WL.runk 2 [3, 4, 7, 236] [(3, .slice a17 x15.1.length c18), (4, .slice a20 x15.2.length c21), (7, .slice a44 x42.1.length c45), (236, .bool (x30.2 != 0))] (by kernel_rfl) ?_
  refine WL.nil ?_
  refine WQ.then_normal (hK436 _ _ _ ?_)
  refine WP.cond (x30.2 != 0) rfl rfl (fun hc437 => ?_) (fun hc437 => ?_)
  · have hm := iteT hm hc437
    refine WP.seq (fun K438 hK438 => ?_)
    refine WP.region ?_
    refine WL.runk 1 [2] [(2, .bool true)] (by kernel_rfl) ?_
    refine WL.nil ?_
    refine WQ.then_normal (hK438 _ _ _ ?_)
    refine WP.ret ?_
    refine WQ.then_ret ?_
    obtain rfl := Option.some.inj hm
    exact WQ.ret1 _ rfl rfl ⟨rfl, hb375⟩
  have hm := iteF hm hc437
  refine WP.skip ?_
  refine WQ.then_normal (hK435 _ _ _ ?_)
  refine WP.seq (fun K439 hK439 => ?_)
  refine WP.region ?_
  refine WL.runk 2 [3, 4, 7, 238, 239] [(3, .slice a17 x15.1.length c18), (4, .slice a20 x15.2.length c21), (7, .slice a44 x42.1.length c45), (238, .slice a17 x15.1.length c18), (239, .slice a44 x42.1.length c45)] (by kernel_rfl) ?_
  obtain ⟨x440, hx441, hm⟩ := bindE hm
  refine WL.call 6 #[.slice a17 x15.1.length c18, .slice a44 x42.1.length c45] rfl rfl (by kernel_rfl) (c_6 n x15.1 a17 c18 x42.1 a44 c45 w374 hx441 (SH.rdN (SH.front 4 hS377)) (SH.leN (SH.front 4 hS377)).1 (SH.rd (SH.front 3 hS377)) (SH.le (SH.front 3 hS377)).1) ?_
  rintro _ w445 ⟨a442, c443, rfl, hE446, hR447⟩
  refine ⟨_, rfl, ?_⟩
  have hb448 : Ext w w445 := Ext.trans hb375 hE446
  have hL449 : w.heap.size ≤ w445.heap.size := Nat.le_trans hL376 hE446.size
  have hS450 : SH w445 w.heap.size [aOwn fInt 2 a442 c443 x440.1, aOwn fInt 2 a119 c120 x117.1, aNest fRepair 48 2 a92 c93 x90.1, aOwn fInt 2 a95 c96 x90.2, aOwn fInt 2 a44 c45 x42.1, aNest fRepair 48 2 a17 c18 x15.1, aOwn fInt 2 a20 c21 x15.2] := SH.add hS377 hE446 hL376 hR447
  refine WL.runk 5 [3, 4, 7, 36, 37] [(3, .slice a17 x15.1.length c18), (4, .slice a20 x15.2.length c21), (7, .slice a44 x42.1.length c45), (36, .slice a442 x440.1.length c443), (37, .int .i64 x440.2)] (by kernel_rfl) ?_
  refine WL.nil ?_
  refine WQ.then_normal (hK439 _ _ _ ?_)
  refine WP.seq (fun K451 hK451 => ?_)
  refine WP.region ?_
  refine WL.runk 2 [4, 7, 36, 37, 244, 245] [(4, .slice a20 x15.2.length c21), (7, .slice a44 x42.1.length c45), (36, .slice a442 x440.1.length c443), (37, .int .i64 x440.2), (244, .slice a17 x15.1.length c18), (245, .slice a44 x42.1.length c45)] (by kernel_rfl) ?_
  refine WL.row fInt 2 ([] : List Int) 0 #[] 246 (by kernel_rfl) rfl rfl rfl rfl rfl rfl rfl ?_
  intro a452 c453 w454 hE455 hR456
  have hb458 : Ext w w454 := Ext.trans hb448 hE455
  have hL459 : w.heap.size ≤ w454.heap.size := Nat.le_trans hL449 hE455.size
  have hS460 : SH w454 w.heap.size [aOwn fInt 2 a452 c453 ([] : List Int), aOwn fInt 2 a442 c443 x440.1, aOwn fInt 2 a119 c120 x117.1, aNest fRepair 48 2 a92 c93 x90.1, aOwn fInt 2 a95 c96 x90.2, aOwn fInt 2 a44 c45 x42.1, aNest fRepair 48 2 a17 c18 x15.1, aOwn fInt 2 a20 c21 x15.2] := SH.add hS450 hE455 hL449 hR456
  obtain ⟨x461, hx462, hm⟩ := bindE hm
  refine WL.call 28 #[.slice a17 x15.1.length c18, .slice a44 x42.1.length c45, .slice a452 (([] : List Int).length) c453] rfl rfl (by kernel_rfl) (c_28 n x15.1 a17 c18 x42.1 a44 c45 ([] : List Int) a452 c453 w454 hx462 (SH.rdN (SH.front 6 hS460)) (SH.leN (SH.front 6 hS460)).1 (SH.rd (SH.front 5 hS460)) (SH.le (SH.front 5 hS460)).1 (SH.rd (SH.front 0 hS460)) (SH.le (SH.front 0 hS460)).1) ?_
  rintro _ w463 ⟨rfl, hE464⟩
  refine ⟨_, rfl, ?_⟩
  have hb466 : Ext w w463 := Ext.trans hb458 hE464
  have hL467 : w.heap.size ≤ w463.heap.size := Nat.le_trans hL459 hE464.size
  have hS468 : SH w463 w.heap.size [aOwn fInt 2 a452 c453 ([] : List Int), aOwn fInt 2 a442 c443 x440.1, aOwn fInt 2 a119 c120 x117.1, aNest fRepair 48 2 a92 c93 x90.1, aOwn fInt 2 a95 c96 x90.2, aOwn fInt 2 a44 c45 x42.1, aNest fRepair 48 2 a17 c18 x15.1, aOwn fInt 2 a20 c21 x15.2] := SH.ext hS460 hE464
  refine WL.runk 5 [4, 7, 36, 37, 38, 39] [(4, .slice a20 x15.2.length c21), (7, .slice a44 x42.1.length c45), (36, .slice a442 x440.1.length c443), (37, .int .i64 x440.2), (38, .bool x461.1), (39, .int .i64 x461.2)] (by kernel_rfl) ?_
  refine WL.nil ?_
  refine WQ.then_normal (hK451 _ _ _ ?_)
  refine WP.seq (fun K469 hK469 => ?_)
  refine WP.seq (fun K470 hK470 => ?_)
  refine WP.region ?_
  refine WL.runk 1 [4, 7, 36, 37, 38, 39, 40] [(4, .slice a20 x15.2.length c21), (7, .slice a44 x42.1.length c45), (36, .slice a442 x440.1.length c443), (37, .int .i64 x440.2), (38, .bool x461.1), (39, .int .i64 x461.2), (40, .int .i64 0)] (by kernel_rfl) ?_
  refine WL.nil ?_
  refine WQ.then_normal (hK470 _ _ _ ?_)
  refine WP.block ?_
  obtain ⟨t482, ht483, hm⟩ := bindE hm
  have hmo477 := hm; clear hm
  refine WP.sub [(4, .slice a20 x15.2.length c21), (7, .slice a44 x42.1.length c45), (36, .slice a442 x440.1.length c443), (37, .int .i64 x440.2), (38, .bool x461.1), (39, .int .i64 x461.2), (40, .int .i64 0)] ⟨rfl, rfl, rfl, rfl, rfl, rfl, rfl, trivial⟩ ?_
  refine WP.loop (fun n' env' w' => ∃ (st471 : Int) , env' = [(4, .slice a20 x15.2.length c21), (7, .slice a44 x42.1.length c45), (36, .slice a442 x440.1.length c443), (37, .int .i64 x440.2), (38, .bool x461.1), (39, .int .i64 x461.2), (40, .int .i64 st471)] ∧ Ext w w' ∧ w.heap.size ≤ w'.heap.size ∧ SH w' w.heap.size [aOwn fInt 2 a442 c443 x440.1, aOwn fInt 2 a44 c45 x42.1, aOwn fInt 2 a20 c21 x15.2] ∧ loopN (m_laws_FnRepairs_l2 n x15 x42) n' st471 = some t482) n ⟨0, rfl, hb466, hL467, (SH.take 3 (SH.front 3 (SH.front 6 (SH.front 7 hS468)))), ht483⟩ ?_
  rintro n479 _ w472 ⟨st471, rfl, hb473, hL474, hS475, hl476⟩ K478 hK478
  obtain ⟨n480, s481, rfl, hm, hl476⟩ := loopN_some hl476
  unfold m_laws_FnRepairs_l2 at hm
  refine WP.seq (fun K484 hK484 => ?_)
  refine WP.seq (fun K485 hK485 => ?_)
  refine WP.region ?_
  refine WL.runk 4 [4, 7, 36, 37, 38, 39, 40, 253] [(4, .slice a20 x15.2.length c21), (7, .slice a44 x42.1.length c45), (36, .slice a442 x440.1.length c443), (37, .int .i64 x440.2), (38, .bool x461.1), (39, .int .i64 x461.2), (40, .int .i64 st471), (253, .bool (decide (st471 < (x15.2.length : Int))))] (by kernel_rfl) ?_
  refine WL.nil ?_
  refine WQ.then_normal (hK485 _ _ _ ?_)
  refine WP.cond (decide (st471 < (x15.2.length : Int))) rfl rfl (fun hc486 => ?_) (fun hc486 => ?_)
  · have hm := iteT hm hc486
    refine WP.skip ?_
    refine WQ.then_normal (hK484 _ _ _ ?_)
    refine WP.seq (fun K487 hK487 => ?_)
    refine WP.block ?_
    refine WP.seq (fun K488 hK488 => ?_)
    refine WP.region ?_
    refine WL.runk 3 [4, 7, 36, 37, 38, 39, 40, 256, 257, 258] [(4, .slice a20 x15.2.length c21), (7, .slice a44 x42.1.length c45), (36, .slice a442 x440.1.length c443), (37, .int .i64 x440.2), (38, .bool x461.1), (39, .int .i64 x461.2), (40, .int .i64 st471), (256, .slice a44 x42.1.length c45), (257, .slice a20 x15.2.length c21), (258, .int .i64 st471)] (by kernel_rfl) ?_
    obtain ⟨x489, hx490, hm⟩ := bindE hm
    refine WL.st (.pointer (some (at_ a20 (Int.toNat st471 * 1)))) (ST.index (T := fInt.ty) (xs := x15.2) (SH.rd (SH.front 2 hS475)) hx490 rfl rfl rfl Tryz.underlying25 (info2).1 (info2).2.1) rfl rfl rfl ?_
    refine WL.st (.int .i64 x489) (ST.load (cell_ext (Rd.flat (F := fInt) (SH.rd (SH.front 2 hS475)) hx490 0 rfl)) rfl rfl Tryz.underlying2 rfl) rfl rfl rfl ?_
    obtain ⟨x491, hx492, hm⟩ := bindE hm
    refine WL.call 27 #[.slice a44 x42.1.length c45, .int .i64 x489] rfl rfl (by kernel_rfl) (c_27 n x42.1 a44 c45 x489 w472 hx492 (SH.rd (SH.front 1 hS475)) (SH.le (SH.front 1 hS475)).1) ?_
    rintro _ w493 ⟨rfl, hE494⟩
    refine ⟨_, rfl, ?_⟩
    have hb496 : Ext w w493 := Ext.trans hb473 hE494
    have hL497 : w.heap.size ≤ w493.heap.size := Nat.le_trans hL474 hE494.size
    have hS498 : SH w493 w.heap.size [aOwn fInt 2 a442 c443 x440.1, aOwn fInt 2 a44 c45 x42.1, aOwn fInt 2 a20 c21 x15.2] := SH.ext hS475 hE494
    refine WL.runk 1 [4, 7, 36, 37, 38, 39, 40, 262] [(4, .slice a20 x15.2.length c21), (7, .slice a44 x42.1.length c45), (36, .slice a442 x440.1.length c443), (37, .int .i64 x440.2), (38, .bool x461.1), (39, .int .i64 x461.2), (40, .int .i64 st471), (262, .bool (!x491))] (by kernel_rfl) ?_
    refine WL.nil ?_
    refine WQ.then_normal (hK488 _ _ _ ?_)
    refine WP.cond (!x491) rfl rfl (fun hc499 => ?_) (fun hc499 => ?_)
    rotate_left
    · have hm := iteF hm hc499
      refine WP.skip ?_
      refine WQ.block_normal ?_
      refine WQ.then_normal (hK487 _ _ _ ?_)
      refine WP.region ?_
      refine WL.runk 3 [4, 7, 36, 37, 38, 39, 40] [(4, .slice a20 x15.2.length c21), (7, .slice a44 x42.1.length c45), (36, .slice a442 x440.1.length c443), (37, .int .i64 x440.2), (38, .bool x461.1), (39, .int .i64 x461.2), (40, .int .i64 (wI64 (st471 + 1)))] (by kernel_rfl) ?_
      refine WL.nil ?_
      obtain rfl := Option.some.inj hm
      exact WQ.round hK478 ⟨(wI64 (st471 + 1)), rfl, hb496, hL497, hS498, hl476⟩ (Nat.lt_succ_self _) ⟨rfl, rfl, rfl, rfl, rfl, rfl, rfl, trivial⟩
    have hm := iteT hm hc499
    refine WP.seq (fun K500 hK500 => ?_)
    refine WP.region ?_
    refine WL.runk 1 [2] [(2, .bool false)] (by kernel_rfl) ?_
    refine WL.nil ?_
    refine WQ.then_normal (hK500 _ _ _ ?_)
    refine WP.ret ?_
    refine WQ.block_ret ?_
    refine WQ.then_ret ?_
    refine WQ.then_ret ?_
    refine WQ.block_ret ?_
    refine WQ.then_ret ?_
    obtain rfl := Option.some.inj hm
    obtain rfl := afterN_done hl476
    have hm := hmo477
    obtain rfl := Option.some.inj hm
    exact WQ.ret1 _ rfl rfl ⟨rfl, hb496⟩
  have hm := iteF hm hc486
  refine WP.exit ?_
  refine WQ.then_exit ?_
  refine WQ.then_exit ?_
  refine WQ.block_here ?_
  obtain rfl := Option.some.inj hm
  obtain rfl := afterN_done hl476
  have hm := hmo477
  refine WQ.then_normal (hK469 _ _ _ ?_)
  refine WP.seq (fun K501 hK501 => ?_)
  obtain ⟨x513, hx514, hm⟩ := bindE hm
  refine WP.cut (fun env' w' => env' = [(2, .bool x513)] ∧ Ext w w' ∧ w.heap.size ≤ w'.heap.size ∧ SH w' w.heap.size []) ?_ ?_
  rotate_left
  · clear hx514
    rintro _ w526 ⟨rfl, hb527, hL528, hS529⟩
    refine WQ.then_normal (hK501 _ _ _ ?_)
    refine WP.ret ?_
    obtain rfl := Option.some.inj hm
    exact WQ.ret1 _ rfl rfl ⟨rfl, hb527⟩
  have hm := hx514; clear hx514
  refine WP.region ?_
  refine WL.runk 3 [7, 36, 38, 39, 265] [(7, .slice a44 x42.1.length c45), (36, .slice a442 x440.1.length c443), (38, .bool x461.1), (39, .int .i64 x461.2), (265, .bool (x440.2 == 0))] (by kernel_rfl) ?_
  refine WL.case (x440.2 == 0) [265] ⟨rfl, trivial⟩ (fun hc515 => ?_) (fun hc515 => ?_)
  rotate_left
  · have hm := iteF hm hc515
    refine WL.runk 12 [2] [(2, .bool false)] (by kernel_rfl) ?_
    refine WL.nil ?_
    obtain rfl := Option.some.inj hm
    exact WQ.post' ⟨rfl, hb473, hL474, (SH.take 0 hS475)⟩ ⟨rfl, trivial⟩
  have hm := iteT hm hc515
  refine WL.runk 2 [38, 39, 265, 266, 267] [(38, .bool x461.1), (39, .int .i64 x461.2), (265, .bool true), (266, .slice a442 x440.1.length c443), (267, .slice a44 x42.1.length c45)] (by kernel_rfl) ?_
  obtain ⟨x516, hx517, hm⟩ := bindE hm
  refine WL.call 20 #[.slice a442 x440.1.length c443, .slice a44 x42.1.length c45] rfl rfl (by kernel_rfl) (c_20 n x440.1 a442 c443 x42.1 a44 c45 w472 hx517 (SH.rd (SH.front 0 hS475)) (SH.le (SH.front 0 hS475)).1 (SH.rd (SH.front 1 hS475)) (SH.le (SH.front 1 hS475)).1) ?_
  rintro _ w518 ⟨rfl, hE519⟩
  refine ⟨_, rfl, ?_⟩
  have hb521 : Ext w w518 := Ext.trans hb473 hE519
  have hL522 : w.heap.size ≤ w518.heap.size := Nat.le_trans hL474 hE519.size
  have hS523 : SH w518 w.heap.size [aOwn fInt 2 a442 c443 x440.1, aOwn fInt 2 a44 c45 x42.1, aOwn fInt 2 a20 c21 x15.2] := SH.ext hS475 hE519
  refine WL.runk 2 [38, 39, 270] [(38, .bool x461.1), (39, .int .i64 x461.2), (270, .bool x516)] (by kernel_rfl) ?_
  refine WL.case x516 [270] ⟨rfl, trivial⟩ (fun hc524 => ?_) (fun hc524 => ?_)
  rotate_left
  · have hm := iteF hm hc524
    refine WL.runk 7 [2] [(2, .bool false)] (by kernel_rfl) ?_
    refine WL.nil ?_
    obtain rfl := Option.some.inj hm
    exact WQ.post' ⟨rfl, hb521, hL522, (SH.take 0 hS523)⟩ ⟨rfl, trivial⟩
  have hm := iteT hm hc524
  refine WL.runk 4 [38, 274] [(38, .bool x461.1), (274, .bool (x461.2 == 0))] (by kernel_rfl) ?_
  refine WL.case (x461.2 == 0) [274] ⟨rfl, trivial⟩ (fun hc525 => ?_) (fun hc525 => ?_)
  · have hm := iteT hm hc525
    refine WL.runk 3 [2] [(2, .bool x461.1)] (by kernel_rfl) ?_
    refine WL.nil ?_
    obtain rfl := Option.some.inj hm
    exact WQ.post' ⟨rfl, hb521, hL522, (SH.take 0 hS523)⟩ ⟨rfl, trivial⟩
  have hm := iteF hm hc525
  refine WL.runk 3 [2] [(2, .bool false)] (by kernel_rfl) ?_
  refine WL.nil ?_
  obtain rfl := Option.some.inj hm
  exact WQ.post' ⟨rfl, hb521, hL522, (SH.take 0 hS523)⟩ ⟨rfl, trivial⟩

end Go.Proofs.YtkglfbcelaphhaaGreatDoor
