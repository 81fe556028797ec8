/- Each call does what its Lean function says. -/
import Derived.Test.YtlplbjeegkkilaaCo4
set_option maxRecDepth 20000
namespace Go.Proofs.Ytlplbjeegkkilaa
open Go Go.Gv Go.RowKit

theorem c_61 (n : Nat) (c_0 : SChange) (w : World) {r : Bool} (hm : m_impl_ValidChanges_1 n c_0 = some r)  :
    CallV Try.prog 61 #[.agg #[.int .i64 c_0.Kind, .int .i64 c_0.Amount]] w (fun v w' => v = .bool r ∧ Ext w w') := by
  unfold m_impl_ValidChanges_1 at hm
  refine CallV.enter Try.func61 rfl (by kernel_rfl) Try.ntmps61 (env := [(0, .agg #[.int .i64 c_0.Kind, .int .i64 c_0.Amount])]) ⟨rfl, trivial⟩ ?_
  refine WP.seq (fun K1 hK1 => ?_)
  refine WP.region ?_
  refine WL.box 42 [.int .i64 c_0.Kind, .int .i64 c_0.Amount] 1 (by kernel_rfl) rfl rfl rfl rfl ?_
  intro b2 w3 hE4 hR5
  have hb7 : Ext w w3 := Ext.trans (Ext.refl w) hE4
  have hL8 : w.heap.size ≤ w3.heap.size := Nat.le_trans (Nat.le_refl _) hE4.size
  have hS9 : SH w3 w.heap.size [aBox 42 b2 [.int .i64 c_0.Kind, .int .i64 c_0.Amount]] := SH.add (SH.nil _ _) hE4 (Nat.le_refl _) hR5
  refine WL.runk 1 [1] [(1, .pointer (some ⟨b2, 0, none⟩))] (by kernel_rfl) ?_
  refine WL.nil ?_
  refine WQ.then_normal (hK1 _ _ _ ?_)
  refine WP.seq (fun K10 hK10 => ?_)
  refine WP.region ?_
  refine WL.st (.agg #[.int .i64 c_0.Kind, .int .i64 c_0.Amount]) (ST.loadAgg (vs := [.int .i64 c_0.Kind, .int .i64 c_0.Amount]) (fun j v hv => SH.boxPart (us := [.int .i64 c_0.Kind, .int .i64 c_0.Amount]) (SH.front 0 hS9) 0 rfl j v hv) rfl rfl rfl Try.underlying42 rfl (info42).1 (info42).2.1) rfl rfl rfl ?_
  obtain ⟨x11, hx12, hm⟩ := bindE hm
  refine WL.call 62 #[.agg #[.int .i64 c_0.Kind, .int .i64 c_0.Amount]] rfl rfl (by kernel_rfl) (c_62 n c_0 w3 hx12 ) ?_
  rintro _ w13 ⟨rfl, hE14⟩
  refine ⟨_, rfl, ?_⟩
  have hb16 : Ext w w13 := Ext.trans hb7 hE14
  have hL17 : w.heap.size ≤ w13.heap.size := Nat.le_trans hL8 hE14.size
  have hS18 : SH w13 w.heap.size [aBox 42 b2 [.int .i64 c_0.Kind, .int .i64 c_0.Amount]] := SH.ext hS9 hE14
  refine WL.runk 2 [2] [(2, .bool (!x11))] (by kernel_rfl) ?_
  refine WL.nil ?_
  refine WQ.then_normal (hK10 _ _ _ ?_)
  refine WP.ret ?_
  obtain rfl := Option.some.inj hm
  exact WQ.ret1 _ rfl rfl ⟨rfl, hb16⟩

theorem c_68_61 (n : Nat) (s_0 : List SChange) (a0' : Option Addr) (c0' : Nat) (w : World) {r : Int} (hm : m_slices_IndexFunc_impl_Change_impl_Change_f61 n s_0 = some r) (h0 : Rd fChange.ty w a0' s_0) (hle0 : s_0.length ≤ c0') :
    CallV Try.prog 68 #[.slice a0' s_0.length c0', .func (.func 61) #[] #[]] w (fun v w' => v = .int .i64 r ∧ Ext w w') := by
  unfold m_slices_IndexFunc_impl_Change_impl_Change_f61 at hm
  refine CallV.enter Try.func68 rfl (by kernel_rfl) Try.ntmps68 (env := [(0, .slice a0' s_0.length c0'), (1, .func (.func 61) #[] #[])]) ⟨rfl, rfl, trivial⟩ ?_
  refine WP.seq (fun K1 hK1 => ?_)
  refine WP.region ?_
  refine WL.runk 1 [0, 1] [(0, .slice a0' s_0.length c0'), (1, .func (.func 61) #[] #[])] (by kernel_rfl) ?_
  refine WL.nil ?_
  refine WQ.then_normal (hK1 _ _ _ ?_)
  refine WP.seq (fun K2 hK2 => ?_)
  refine WP.seq (fun K3 hK3 => ?_)
  refine WP.region ?_
  refine WL.runk 3 [0, 1, 7, 8] [(0, .slice a0' s_0.length c0'), (1, .func (.func 61) #[] #[]), (7, .int .i64 (s_0.length : Int)), (8, .int .i64 0)] (by kernel_rfl) ?_
  refine WL.nil ?_
  refine WQ.then_normal (hK3 _ _ _ ?_)
  refine WP.block ?_
  obtain ⟨t15, ht16, hm⟩ := bindE hm
  have hmo10 := hm; clear hm
  refine WP.sub [(0, .slice a0' s_0.length c0'), (1, .func (.func 61) #[] #[]), (7, .int .i64 (s_0.length : Int)), (8, .int .i64 0)] ⟨rfl, rfl, rfl, rfl, trivial⟩ ?_
  refine WP.loop (fun n' env' w' => ∃ (st4 : Int) , env' = [(0, .slice a0' s_0.length c0'), (1, .func (.func 61) #[] #[]), (7, .int .i64 (s_0.length : Int)), (8, .int .i64 st4)] ∧ Ext w w' ∧ w.heap.size ≤ w'.heap.size ∧ SH w' w.heap.size [] ∧ loopN (m_slices_IndexFunc_impl_Change_impl_Change_f61_l1 n s_0) n' st4 = some t15) n ⟨0, rfl, (Ext.refl w), (Nat.le_refl _), (SH.nil _ _), ht16⟩ ?_
  rintro n12 _ w5 ⟨st4, rfl, hb6, hL7, hS8, hl9⟩ K11 hK11
  obtain ⟨n13, s14, rfl, hm, hl9⟩ := loopN_some hl9
  unfold m_slices_IndexFunc_impl_Change_impl_Change_f61_l1 at hm
  refine WP.seq (fun K17 hK17 => ?_)
  refine WP.region ?_
  refine WL.runk 1 [0, 1, 7, 8, 9] [(0, .slice a0' s_0.length c0'), (1, .func (.func 61) #[] #[]), (7, .int .i64 (s_0.length : Int)), (8, .int .i64 st4), (9, .bool (decide (st4 < (s_0.length : Int))))] (by kernel_rfl) ?_
  refine WL.nil ?_
  refine WQ.then_normal (hK17 _ _ _ ?_)
  refine WP.seq (fun K18 hK18 => ?_)
  refine WP.cond (decide (st4 < (s_0.length : Int))) rfl rfl (fun hc19 => ?_) (fun hc19 => ?_)
  · have hm := iteT hm hc19
    refine WP.skip ?_
    refine WQ.then_normal (hK18 _ _ _ ?_)
    refine WP.seq (fun K20 hK20 => ?_)
    refine WP.block ?_
    refine WP.seq (fun K21 hK21 => ?_)
    refine WP.region ?_
    refine WL.runk 2 [0, 1, 5, 7, 8] [(0, .slice a0' s_0.length c0'), (1, .func (.func 61) #[] #[]), (7, .int .i64 (s_0.length : Int)), (8, .int .i64 st4), (5, .int .i64 st4)] (by kernel_rfl) ?_
    refine WL.nil ?_
    refine WQ.then_normal (hK21 _ _ _ ?_)
    refine WP.seq (fun K22 hK22 => ?_)
    refine WP.region ?_
    refine WL.runk 3 [0, 1, 5, 7, 8, 11, 12, 13] [(0, .slice a0' s_0.length c0'), (1, .func (.func 61) #[] #[]), (7, .int .i64 (s_0.length : Int)), (8, .int .i64 st4), (5, .int .i64 st4), (11, .func (.func 61) #[] #[]), (12, .slice a0' s_0.length c0'), (13, .int .i64 st4)] (by kernel_rfl) ?_
    obtain ⟨x23, hx24, hm⟩ := bindE hm
    refine WL.st (.pointer (some (at_ a0' (Int.toNat st4 * 2)))) (ST.index (T := fChange.ty) (xs := s_0) (Rd.below h0 hb6) hx24 rfl rfl rfl Try.underlying28 (info42).1 (info42).2.1) rfl rfl rfl ?_
    refine WL.st (.agg #[.int .i64 x23.Kind, .int .i64 x23.Amount]) (ST.loadAgg (vs := fChange.leaf x23) (fun j v hv => Rd.flatA (F := fChange) (Rd.below h0 hb6) hx24 j hv) rfl rfl rfl Try.underlying42 rfl (info42).1 (info42).2.1) rfl rfl rfl ?_
    obtain ⟨x25, hx26, hm⟩ := bindE hm
    refine WL.call 61 #[.agg #[.int .i64 x23.Kind, .int .i64 x23.Amount]] rfl rfl (by kernel_rfl) (c_61 n x23 w5 hx26 ) ?_
    rintro _ w27 ⟨rfl, hE28⟩
    refine ⟨_, rfl, ?_⟩
    have hb30 : Ext w w27 := Ext.trans hb6 hE28
    have hL31 : w.heap.size ≤ w27.heap.size := Nat.le_trans hL7 hE28.size
    have hS32 : SH w27 w.heap.size [] := SH.ext hS8 hE28
    refine WL.sub [(0, .slice a0' s_0.length c0'), (1, .func (.func 61) #[] #[]), (7, .int .i64 (s_0.length : Int)), (8, .int .i64 st4), (5, .int .i64 st4), (16, .bool x25)] ⟨rfl, rfl, rfl, rfl, rfl, rfl, trivial⟩ ?_
    refine WL.nil ?_
    refine WQ.then_normal (hK22 _ _ _ ?_)
    refine WP.cond x25 rfl rfl (fun hc33 => ?_) (fun hc33 => ?_)
    · have hm := iteT hm hc33
      refine WP.seq (fun K34 hK34 => ?_)
      refine WP.region ?_
      refine WL.runk 2 [4] [(4, .int .i64 st4)] (by kernel_rfl) ?_
      refine WL.nil ?_
      refine WQ.then_normal (hK34 _ _ _ ?_)
      refine WP.ret ?_
      refine WQ.block_ret ?_
      refine WQ.then_ret ?_
      refine WQ.then_ret ?_
      refine WQ.block_ret ?_
      refine WQ.then_ret ?_
      obtain rfl := Option.some.inj hm
      obtain rfl := afterN_done hl9
      have hm := hmo10
      obtain rfl := Option.some.inj hm
      exact WQ.ret1 _ rfl rfl ⟨rfl, hb30⟩
    · have hm := iteF hm hc33
      refine WP.skip ?_
      refine WQ.block_normal ?_
      refine WQ.then_normal (hK20 _ _ _ ?_)
      refine WP.region ?_
      refine WL.runk 2 [0, 1, 7, 8] [(0, .slice a0' s_0.length c0'), (1, .func (.func 61) #[] #[]), (7, .int .i64 (s_0.length : Int)), (8, .int .i64 (wI64 (st4 + 1)))] (by kernel_rfl) ?_
      refine WL.nil ?_
      obtain rfl := Option.some.inj hm
      exact WQ.round hK11 ⟨(wI64 (st4 + 1)), rfl, hb30, hL31, hS32, hl9⟩ (Nat.lt_succ_self _) ⟨rfl, rfl, rfl, rfl, trivial⟩
  · have hm := iteF hm hc19
    refine WP.exit ?_
    refine WQ.then_exit ?_
    refine WQ.then_exit ?_
    refine WQ.block_here ?_
    obtain rfl := Option.some.inj hm
    obtain rfl := afterN_done hl9
    have hm := hmo10
    refine WQ.then_normal (hK2 _ _ _ ?_)
    refine WP.seq (fun K35 hK35 => ?_)
    refine WP.region ?_
    refine WL.runk 1 [4] [(4, .int .i64 (-1))] (by kernel_rfl) ?_
    refine WL.nil ?_
    refine WQ.then_normal (hK35 _ _ _ ?_)
    refine WP.ret ?_
    obtain rfl := Option.some.inj hm
    exact WQ.ret1 _ rfl rfl ⟨rfl, hb6⟩

theorem c_60_61 (n : Nat) (s_0 : List SChange) (a0' : Option Addr) (c0' : Nat) (w : World) {r : Bool} (hm : m_slices_ContainsFunc_impl_Change_impl_Change_f61 n s_0 = some r) (h0 : Rd fChange.ty w a0' s_0) (hle0 : s_0.length ≤ c0') :
    CallV Try.prog 60 #[.slice a0' s_0.length c0', .func (.func 61) #[] #[]] w (fun v w' => v = .bool r ∧ Ext w w') := by
  unfold m_slices_ContainsFunc_impl_Change_impl_Change_f61 at hm
  refine CallV.enter Try.func60 rfl (by kernel_rfl) Try.ntmps60 (env := [(0, .slice a0' s_0.length c0'), (1, .func (.func 61) #[] #[])]) ⟨rfl, rfl, trivial⟩ ?_
  refine WP.seq (fun K1 hK1 => ?_)
  refine WP.region ?_
  refine WL.runk 1 [0, 1] [(0, .slice a0' s_0.length c0'), (1, .func (.func 61) #[] #[])] (by kernel_rfl) ?_
  refine WL.nil ?_
  refine WQ.then_normal (hK1 _ _ _ ?_)
  refine WP.seq (fun K2 hK2 => ?_)
  refine WP.region ?_
  refine WL.runk 2 [5, 6] [(5, .slice a0' s_0.length c0'), (6, .func (.func 61) #[] #[])] (by kernel_rfl) ?_
  obtain ⟨x3, hx4, hm⟩ := bindE hm
  refine WL.call 68 #[.slice a0' s_0.length c0', .func (.func 61) #[] #[]] rfl rfl (by kernel_rfl) (c_68_61 n s_0 a0' c0' w hx4 (Rd.below h0 (Ext.refl w)) hle0) ?_
  rintro _ w5 ⟨rfl, hE6⟩
  refine ⟨_, rfl, ?_⟩
  have hb8 : Ext w w5 := Ext.trans (Ext.refl w) hE6
  have hL9 : w.heap.size ≤ w5.heap.size := Nat.le_trans (Nat.le_refl _) hE6.size
  have hS10 : SH w5 w.heap.size [] := SH.ext (SH.nil _ _) hE6
  refine WL.runk 2 [4] [(4, .bool (decide (x3 ≥ 0)))] (by kernel_rfl) ?_
  refine WL.nil ?_
  refine WQ.then_normal (hK2 _ _ _ ?_)
  refine WP.ret ?_
  obtain rfl := Option.some.inj hm
  exact WQ.ret1 _ rfl rfl ⟨rfl, hb8⟩

theorem c_27 (n : Nat) (list_0 : List SChange) (a0' : Option Addr) (c0' : Nat) (w : World) {r : Bool} (hm : m_impl_ValidChanges n list_0 = some r) (h0 : Rd fChange.ty w a0' list_0) (hle0 : list_0.length ≤ c0') :
    CallV Try.prog 27 #[.slice a0' list_0.length c0'] w (fun v w' => v = .bool r ∧ Ext w w') := by
  unfold m_impl_ValidChanges at hm
  refine CallV.enter Try.func27 rfl (by kernel_rfl) Try.ntmps27 (env := [(0, .slice a0' list_0.length c0')]) ⟨rfl, trivial⟩ ?_
  refine WP.seq (fun K1 hK1 => ?_)
  refine WP.region ?_
  refine WL.runk 1 [0] [(0, .slice a0' list_0.length c0')] (by kernel_rfl) ?_
  refine WL.nil ?_
  refine WQ.then_normal (hK1 _ _ _ ?_)
  refine WP.seq (fun K2 hK2 => ?_)
  obtain ⟨x12, hx13, hm⟩ := bindE hm
  refine WP.cut (fun env' w' => env' = [(2, .bool x12)] ∧ Ext w w' ∧ w.heap.size ≤ w'.heap.size ∧ SH w' w.heap.size []) ?_ ?_
  · have hm := hx13; clear hx13
    refine WP.region ?_
    refine WL.runk 4 [0, 6] [(0, .slice a0' list_0.length c0'), (6, .bool (decide ((list_0.length : Int) ≤ 20)))] (by kernel_rfl) ?_
    refine WL.case (decide ((list_0.length : Int) ≤ 20)) [6] ⟨rfl, trivial⟩ (fun hc14 => ?_) (fun hc14 => ?_)
    · have hm := iteT hm hc14
      refine WL.runk 1 [6, 7] [(6, .bool true), (7, .slice a0' list_0.length c0')] (by kernel_rfl) ?_
      obtain ⟨x15, hx16, hm⟩ := bindE hm
      refine WL.call 60 #[.slice a0' list_0.length c0', .func (.func 61) #[] #[]] rfl rfl (by kernel_rfl) (c_60_61 n list_0 a0' c0' w hx16 (Rd.below h0 (Ext.refl w)) hle0) ?_
      rintro _ w17 ⟨rfl, hE18⟩
      refine ⟨_, rfl, ?_⟩
      have hb20 : Ext w w17 := Ext.trans (Ext.refl w) hE18
      have hL21 : w.heap.size ≤ w17.heap.size := Nat.le_trans (Nat.le_refl _) hE18.size
      have hS22 : SH w17 w.heap.size [] := SH.ext (SH.nil _ _) hE18
      refine WL.runk 3 [2] [(2, .bool (!x15))] (by kernel_rfl) ?_
      refine WL.nil ?_
      obtain rfl := Option.some.inj hm
      exact WQ.post' ⟨rfl, hb20, hL21, hS22⟩ ⟨rfl, trivial⟩
    · have hm := iteF hm hc14
      refine WL.runk 5 [2] [(2, .bool false)] (by kernel_rfl) ?_
      refine WL.nil ?_
      obtain rfl := Option.some.inj hm
      exact WQ.post' ⟨rfl, (Ext.refl w), (Nat.le_refl _), (SH.nil _ _)⟩ ⟨rfl, trivial⟩
  · clear hx13
    rintro _ w23 ⟨rfl, hb24, hL25, hS26⟩
    refine WQ.then_normal (hK2 _ _ _ ?_)
    refine WP.ret ?_
    obtain rfl := Option.some.inj hm
    exact WQ.ret1 _ rfl rfl ⟨rfl, hb24⟩

theorem c_6 (n : Nat) (aList_0 : List SChange) (a0' : Option Addr) (c0' : Nat) (w : World) {r : Bool} (hm : m_laws_FnExactValidChanges n aList_0 = some r) (h0 : Rd fChange.ty w a0' aList_0) (hle0 : aList_0.length ≤ c0') :
    CallV Try.prog 6 #[.slice a0' aList_0.length c0'] w (fun v w' => v = .bool r ∧ Ext w w') := by
  unfold m_laws_FnExactValidChanges at hm
  refine CallV.enter Try.func6 rfl (by kernel_rfl) Try.ntmps6 (env := [(0, .slice a0' aList_0.length c0')]) ⟨rfl, trivial⟩ ?_
  refine WP.seq (fun K1 hK1 => ?_)
  refine WP.region ?_
  refine WL.runk 1 [0] [(0, .slice a0' aList_0.length c0')] (by kernel_rfl) ?_
  refine WL.nil ?_
  refine WQ.then_normal (hK1 _ _ _ ?_)
  refine WP.seq (fun K2 hK2 => ?_)
  refine WP.region ?_
  refine WL.runk 1 [0, 3] [(0, .slice a0' aList_0.length c0'), (3, .int .i64 1048576)] (by kernel_rfl) ?_
  refine WL.nil ?_
  refine WQ.then_normal (hK2 _ _ _ ?_)
  refine WP.seq (fun K3 hK3 => ?_)
  refine WP.region ?_
  refine WL.runk 2 [0, 7, 8] [(0, .slice a0' aList_0.length c0'), (7, .slice a0' aList_0.length c0'), (8, .int .i64 1048576)] (by kernel_rfl) ?_
  obtain ⟨x4, hx5, hm⟩ := bindE hm
  refine WL.call 16 #[.slice a0' aList_0.length c0', .int .i64 1048576] rfl rfl (by kernel_rfl) (c_16 n aList_0 a0' c0' 1048576 w hx5 (Rd.below h0 (Ext.refl w)) hle0) ?_
  rintro _ w6 ⟨rfl, hE7⟩
  refine ⟨_, rfl, ?_⟩
  have hb9 : Ext w w6 := Ext.trans (Ext.refl w) hE7
  have hL10 : w.heap.size ≤ w6.heap.size := Nat.le_trans (Nat.le_refl _) hE7.size
  have hS11 : SH w6 w.heap.size [] := SH.ext (SH.nil _ _) hE7
  refine WL.runk 1 [0, 3] [(0, .slice a0' aList_0.length c0'), (3, .int .i64 x4)] (by kernel_rfl) ?_
  refine WL.nil ?_
  refine WQ.then_normal (hK3 _ _ _ ?_)
  refine WP.seq (fun K12 hK12 => ?_)
  refine WP.seq (fun K13 hK13 => ?_)
  refine WP.region ?_
  refine WL.runk 2 [0, 11] [(0, .slice a0' aList_0.length c0'), (11, .bool (decide (x4 < 0)))] (by kernel_rfl) ?_
  refine WL.nil ?_
  refine WQ.then_normal (hK13 _ _ _ ?_)
  refine WP.cond (decide (x4 < 0)) rfl rfl (fun hc14 => ?_) (fun hc14 => ?_)
  · have hm := iteT hm hc14
    refine WP.seq (fun K15 hK15 => ?_)
    refine WP.region ?_
    refine WL.runk 1 [2] [(2, .bool true)] (by kernel_rfl) ?_
    refine WL.nil ?_
    refine WQ.then_normal (hK15 _ _ _ ?_)
    refine WP.ret ?_
    refine WQ.then_ret ?_
    obtain rfl := Option.some.inj hm
    exact WQ.ret1 _ rfl rfl ⟨rfl, hb9⟩
  · have hm := iteF hm hc14
    refine WP.skip ?_
    refine WQ.then_normal (hK12 _ _ _ ?_)
    refine WP.seq (fun K16 hK16 => ?_)
    refine WP.region ?_
    refine WL.runk 1 [0, 12] [(0, .slice a0' aList_0.length c0'), (12, .slice a0' aList_0.length c0')] (by kernel_rfl) ?_
    obtain ⟨x17, hx18, hm⟩ := bindE hm
    refine WL.call 18 #[.slice a0' aList_0.length c0'] rfl rfl (by kernel_rfl) (c_18 n aList_0 a0' c0' w6 hx18 (Rd.below h0 hb9) hle0) ?_
    rintro _ w22 ⟨a19, c20, rfl, hE23, hR24⟩
    refine ⟨_, rfl, ?_⟩
    have hb25 : Ext w w22 := Ext.trans hb9 hE23
    have hL26 : w.heap.size ≤ w22.heap.size := Nat.le_trans hL10 hE23.size
    have hS27 : SH w22 w.heap.size [aOwn fChange 42 a19 c20 x17] := SH.add hS11 hE23 hL10 hR24
    obtain ⟨x28, hx29, hm⟩ := bindE hm
    refine WL.call 26 #[.slice a19 x17.length c20] rfl rfl (by kernel_rfl) (c_26 n x17 a19 c20 w22 hx29 (SH.rd (SH.front 0 hS27)) (SH.le (SH.front 0 hS27)).1) ?_
    rintro _ w30 ⟨rfl, hE31⟩
    refine ⟨_, rfl, ?_⟩
    have hb33 : Ext w w30 := Ext.trans hb25 hE31
    have hL34 : w.heap.size ≤ w30.heap.size := Nat.le_trans hL26 hE31.size
    have hS35 : SH w30 w.heap.size [aOwn fChange 42 a19 c20 x17] := SH.ext hS27 hE31
    refine WL.runk 1 [0, 4] [(0, .slice a0' aList_0.length c0'), (4, .bool x28)] (by kernel_rfl) ?_
    refine WL.nil ?_
    refine WQ.then_normal (hK16 _ _ _ ?_)
    refine WP.seq (fun K36 hK36 => ?_)
    refine WP.region ?_
    refine WL.runk 1 [0, 4, 15] [(0, .slice a0' aList_0.length c0'), (4, .bool x28), (15, .slice a0' aList_0.length c0')] (by kernel_rfl) ?_
    obtain ⟨x37, hx38, hm⟩ := bindE hm
    refine WL.call 18 #[.slice a0' aList_0.length c0'] rfl rfl (by kernel_rfl) (c_18 n aList_0 a0' c0' w30 hx38 (Rd.below h0 hb33) hle0) ?_
    rintro _ w42 ⟨a39, c40, rfl, hE43, hR44⟩
    refine ⟨_, rfl, ?_⟩
    have hb45 : Ext w w42 := Ext.trans hb33 hE43
    have hL46 : w.heap.size ≤ w42.heap.size := Nat.le_trans hL34 hE43.size
    have hS47 : SH w42 w.heap.size [aOwn fChange 42 a39 c40 x37, aOwn fChange 42 a19 c20 x17] := SH.add hS35 hE43 hL34 hR44
    refine WL.runk 1 [0, 4, 5] [(0, .slice a0' aList_0.length c0'), (4, .bool x28), (5, .slice a39 x37.length c40)] (by kernel_rfl) ?_
    refine WL.nil ?_
    refine WQ.then_normal (hK36 _ _ _ ?_)
    refine WP.seq (fun K48 hK48 => ?_)
    refine WP.region ?_
    refine WL.runk 1 [0, 4, 5, 17] [(0, .slice a0' aList_0.length c0'), (4, .bool x28), (5, .slice a39 x37.length c40), (17, .slice a39 x37.length c40)] (by kernel_rfl) ?_
    obtain ⟨x49, hx50, hm⟩ := bindE hm
    refine WL.call 27 #[.slice a39 x37.length c40] rfl rfl (by kernel_rfl) (c_27 n x37 a39 c40 w42 hx50 (SH.rd (SH.front 0 hS47)) (SH.le (SH.front 0 hS47)).1) ?_
    rintro _ w51 ⟨rfl, hE52⟩
    refine ⟨_, rfl, ?_⟩
    have hb54 : Ext w w51 := Ext.trans hb45 hE52
    have hL55 : w.heap.size ≤ w51.heap.size := Nat.le_trans hL46 hE52.size
    have hS56 : SH w51 w.heap.size [aOwn fChange 42 a39 c40 x37, aOwn fChange 42 a19 c20 x17] := SH.ext hS47 hE52
    refine WL.runk 1 [0, 4, 5, 6] [(0, .slice a0' aList_0.length c0'), (4, .bool x28), (5, .slice a39 x37.length c40), (6, .bool x49)] (by kernel_rfl) ?_
    refine WL.nil ?_
    refine WQ.then_normal (hK48 _ _ _ ?_)
    refine WP.seq (fun K57 hK57 => ?_)
    refine WP.seq (fun K58 hK58 => ?_)
    refine WP.region ?_
    refine WL.runk 3 [0, 5, 21] [(0, .slice a0' aList_0.length c0'), (5, .slice a39 x37.length c40), (21, .bool (!(x49 == x28)))] (by kernel_rfl) ?_
    refine WL.nil ?_
    refine WQ.then_normal (hK58 _ _ _ ?_)
    refine WP.cond (!(x49 == x28)) rfl rfl (fun hc59 => ?_) (fun hc59 => ?_)
    · have hm := iteT hm hc59
      refine WP.seq (fun K60 hK60 => ?_)
      refine WP.region ?_
      refine WL.runk 1 [2] [(2, .bool false)] (by kernel_rfl) ?_
      refine WL.nil ?_
      refine WQ.then_normal (hK60 _ _ _ ?_)
      refine WP.ret ?_
      refine WQ.then_ret ?_
      obtain rfl := Option.some.inj hm
      exact WQ.ret1 _ rfl rfl ⟨rfl, hb54⟩
    · have hm := iteF hm hc59
      refine WP.skip ?_
      refine WQ.then_normal (hK57 _ _ _ ?_)
      refine WP.seq (fun K61 hK61 => ?_)
      refine WP.seq (fun K62 hK62 => ?_)
      refine WP.region ?_
      refine WL.runk 2 [22, 23] [(22, .slice a39 x37.length c40), (23, .slice a0' aList_0.length c0')] (by kernel_rfl) ?_
      obtain ⟨x63, hx64, hm⟩ := bindE hm
      refine WL.call 18 #[.slice a0' aList_0.length c0'] rfl rfl (by kernel_rfl) (c_18 n aList_0 a0' c0' w51 hx64 (Rd.below h0 hb54) hle0) ?_
      rintro _ w68 ⟨a65, c66, rfl, hE69, hR70⟩
      refine ⟨_, rfl, ?_⟩
      have hb71 : Ext w w68 := Ext.trans hb54 hE69
      have hL72 : w.heap.size ≤ w68.heap.size := Nat.le_trans hL55 hE69.size
      have hS73 : SH w68 w.heap.size [aOwn fChange 42 a65 c66 x63, aOwn fChange 42 a39 c40 x37, aOwn fChange 42 a19 c20 x17] := SH.add hS56 hE69 hL55 hR70
      obtain ⟨x74, hx75, hm⟩ := bindE hm
      refine WL.call 20 #[.slice a39 x37.length c40, .slice a65 x63.length c66] rfl rfl (by kernel_rfl) (c_20 n x37 a39 c40 x63 a65 c66 w68 hx75 (SH.rd (SH.front 1 hS73)) (SH.le (SH.front 1 hS73)).1 (SH.rd (SH.front 0 hS73)) (SH.le (SH.front 0 hS73)).1) ?_
      rintro _ w76 ⟨rfl, hE77⟩
      refine ⟨_, rfl, ?_⟩
      have hb79 : Ext w w76 := Ext.trans hb71 hE77
      have hL80 : w.heap.size ≤ w76.heap.size := Nat.le_trans hL72 hE77.size
      have hS81 : SH w76 w.heap.size [aOwn fChange 42 a65 c66 x63, aOwn fChange 42 a39 c40 x37, aOwn fChange 42 a19 c20 x17] := SH.ext hS73 hE77
      refine WL.runk 1 [26] [(26, .bool (!x74))] (by kernel_rfl) ?_
      refine WL.nil ?_
      refine WQ.then_normal (hK62 _ _ _ ?_)
      refine WP.cond (!x74) rfl rfl (fun hc82 => ?_) (fun hc82 => ?_)
      · have hm := iteT hm hc82
        refine WP.seq (fun K83 hK83 => ?_)
        refine WP.region ?_
        refine WL.runk 1 [2] [(2, .bool false)] (by kernel_rfl) ?_
        refine WL.nil ?_
        refine WQ.then_normal (hK83 _ _ _ ?_)
        refine WP.ret ?_
        refine WQ.then_ret ?_
        obtain rfl := Option.some.inj hm
        exact WQ.ret1 _ rfl rfl ⟨rfl, hb79⟩
      · have hm := iteF hm hc82
        refine WP.skip ?_
        refine WQ.then_normal (hK61 _ _ _ ?_)
        refine WP.seq (fun K84 hK84 => ?_)
        refine WP.region ?_
        refine WL.runk 1 [2] [(2, .bool true)] (by kernel_rfl) ?_
        refine WL.nil ?_
        refine WQ.then_normal (hK84 _ _ _ ?_)
        refine WP.ret ?_
        obtain rfl := Option.some.inj hm
        exact WQ.ret1 _ rfl rfl ⟨rfl, hb79⟩

theorem c_65 (n : Nat) (n_0 : Int) (w : World) {r : Int} (hm : m_spec_l02Size n n_0 = some r)  :
    CallV Try.prog 65 #[.int .i64 n_0] w (fun v w' => v = .int .i64 r ∧ Ext w w') := by
  unfold m_spec_l02Size at hm
  refine CallV.enter Try.func65 rfl (by kernel_rfl) Try.ntmps65 (env := [(0, .int .i64 n_0)]) ⟨rfl, trivial⟩ ?_
  refine WP.seq (fun K1 hK1 => ?_)
  refine WP.region ?_
  refine WL.runk 1 [0] [(0, .int .i64 n_0)] (by kernel_rfl) ?_
  refine WL.nil ?_
  refine WQ.then_normal (hK1 _ _ _ ?_)
  refine WP.seq (fun K2 hK2 => ?_)
  refine WP.seq (fun K3 hK3 => ?_)
  refine WP.region ?_
  refine WL.runk 2 [0, 4] [(0, .int .i64 n_0), (4, .bool (decide (n_0 < 0)))] (by kernel_rfl) ?_
  refine WL.nil ?_
  refine WQ.then_normal (hK3 _ _ _ ?_)
  refine WP.cond (decide (n_0 < 0)) rfl rfl (fun hc4 => ?_) (fun hc4 => ?_)
  · have hm := iteT hm hc4
    refine WP.seq (fun K5 hK5 => ?_)
    refine WP.region ?_
    refine WL.runk 3 [2] [(2, .int .i64 (wI64 (0 - n_0)))] (by kernel_rfl) ?_
    refine WL.nil ?_
    refine WQ.then_normal (hK5 _ _ _ ?_)
    refine WP.ret ?_
    refine WQ.then_ret ?_
    obtain rfl := Option.some.inj hm
    exact WQ.ret1 _ rfl rfl ⟨rfl, (Ext.refl w)⟩
  · have hm := iteF hm hc4
    refine WP.skip ?_
    refine WQ.then_normal (hK2 _ _ _ ?_)
    refine WP.seq (fun K6 hK6 => ?_)
    refine WP.region ?_
    refine WL.runk 2 [2] [(2, .int .i64 n_0)] (by kernel_rfl) ?_
    refine WL.nil ?_
    refine WQ.then_normal (hK6 _ _ _ ?_)
    refine WP.ret ?_
    obtain rfl := Option.some.inj hm
    exact WQ.ret1 _ rfl rfl ⟨rfl, (Ext.refl w)⟩

theorem c_28 (n : Nat) (c_0 : SChange) (step_1 : Int) (w : World) {r : List Int × Int} (hm : m_spec_FittingsOf n c_0 step_1 = some r)  :
    CallV Try.prog 28 #[.agg #[.int .i64 c_0.Kind, .int .i64 c_0.Amount], .int .i64 step_1] w (fun v w' => ∃ (ra0 : Option Addr) (rc0 : Nat), v = .tuple #[.slice ra0 r.1.length rc0, .int .i64 r.2] ∧ Ext w w' ∧ SH w' w.heap.size [aOwn fInt 2 ra0 rc0 r.1]) := by
  unfold m_spec_FittingsOf at hm
  refine CallV.enter Try.func28 rfl (by kernel_rfl) Try.ntmps28 (env := [(0, .agg #[.int .i64 c_0.Kind, .int .i64 c_0.Amount]), (1, .int .i64 step_1)]) ⟨rfl, rfl, trivial⟩ ?_
  refine WP.seq (fun K1 hK1 => ?_)
  refine WP.region ?_
  refine WL.box 42 [.int .i64 c_0.Kind, .int .i64 c_0.Amount] 2 (by kernel_rfl) rfl rfl rfl rfl ?_
  intro b2 w3 hE4 hR5
  have hb7 : Ext w w3 := Ext.trans (Ext.refl w) hE4
  have hL8 : w.heap.size ≤ w3.heap.size := Nat.le_trans (Nat.le_refl _) hE4.size
  have hS9 : SH w3 w.heap.size [aBox 42 b2 [.int .i64 c_0.Kind, .int .i64 c_0.Amount]] := SH.add (SH.nil _ _) hE4 (Nat.le_refl _) hR5
  refine WL.runk 2 [1, 2] [(1, .int .i64 step_1), (2, .pointer (some ⟨b2, 0, none⟩))] (by kernel_rfl) ?_
  refine WL.nil ?_
  refine WQ.then_normal (hK1 _ _ _ ?_)
  refine WP.seq (fun K10 hK10 => ?_)
  refine WP.seq (fun K11 hK11 => ?_)
  refine WP.region ?_
  refine WL.st (.agg #[.int .i64 c_0.Kind, .int .i64 c_0.Amount]) (ST.loadAgg (vs := [.int .i64 c_0.Kind, .int .i64 c_0.Amount]) (fun j v hv => SH.boxPart (us := [.int .i64 c_0.Kind, .int .i64 c_0.Amount]) (SH.front 0 hS9) 0 rfl j v hv) rfl rfl rfl Try.underlying42 rfl (info42).1 (info42).2.1) rfl rfl rfl ?_
  obtain ⟨x12, hx13, hm⟩ := bindE hm
  refine WL.call 63 #[.agg #[.int .i64 c_0.Kind, .int .i64 c_0.Amount]] rfl rfl (by kernel_rfl) (c_63 n c_0 w3 hx13 ) ?_
  rintro _ w14 ⟨rfl, hE15⟩
  refine ⟨_, rfl, ?_⟩
  have hb17 : Ext w w14 := Ext.trans hb7 hE15
  have hL18 : w.heap.size ≤ w14.heap.size := Nat.le_trans hL8 hE15.size
  have hS19 : SH w14 w.heap.size [aBox 42 b2 [.int .i64 c_0.Kind, .int .i64 c_0.Amount]] := SH.ext hS9 hE15
  refine WL.runk 1 [1, 2, 13] [(1, .int .i64 step_1), (2, .pointer (some ⟨b2, 0, none⟩)), (13, .bool (!x12))] (by kernel_rfl) ?_
  refine WL.nil ?_
  refine WQ.then_normal (hK11 _ _ _ ?_)
  refine WP.cond (!x12) rfl rfl (fun hc20 => ?_) (fun hc20 => ?_)
  · have hm := iteT hm hc20
    refine WP.seq (fun K21 hK21 => ?_)
    refine WP.region ?_
    refine WL.runk 2 [4, 5] [(4, .slice none 0 0), (5, .int .i64 1)] (by kernel_rfl) ?_
    refine WL.nil ?_
    refine WQ.then_normal (hK21 _ _ _ ?_)
    refine WP.ret ?_
    refine WQ.then_ret ?_
    obtain rfl := Option.some.inj hm
    have hS23 : SH w14 w.heap.size [aOwn fInt 2 none 0 ([] : List Int), aBox 42 b2 [.int .i64 c_0.Kind, .int .i64 c_0.Amount]] := SH.nilOwn hS19
    exact WQ.ret2 _ _ rfl rfl rfl ⟨_, _, rfl, hb17, (SH.take 1 hS23)⟩
  · have hm := iteF hm hc20
    refine WP.skip ?_
    refine WQ.then_normal (hK10 _ _ _ ?_)
    refine WP.seq (fun K24 hK24 => ?_)
    refine WP.seq (fun K25 hK25 => ?_)
    refine WP.region ?_
    refine WL.runk 1 [1, 2, 14] [(1, .int .i64 step_1), (2, .pointer (some ⟨b2, 0, none⟩)), (14, .int .i64 step_1)] (by kernel_rfl) ?_
    obtain ⟨x26, hx27, hm⟩ := bindE hm
    refine WL.call 64 #[.int .i64 step_1, .int .i64 1, .int .i64 100] rfl rfl (by kernel_rfl) (c_64 n step_1 1 100 w14 hx27 ) ?_
    rintro _ w28 ⟨rfl, hE29⟩
    refine ⟨_, rfl, ?_⟩
    have hb31 : Ext w w28 := Ext.trans hb17 hE29
    have hL32 : w.heap.size ≤ w28.heap.size := Nat.le_trans hL18 hE29.size
    have hS33 : SH w28 w.heap.size [aBox 42 b2 [.int .i64 c_0.Kind, .int .i64 c_0.Amount]] := SH.ext hS19 hE29
    refine WL.runk 1 [1, 2, 16] [(1, .int .i64 step_1), (2, .pointer (some ⟨b2, 0, none⟩)), (16, .bool (!x26))] (by kernel_rfl) ?_
    refine WL.nil ?_
    refine WQ.then_normal (hK25 _ _ _ ?_)
    refine WP.cond (!x26) rfl rfl (fun hc34 => ?_) (fun hc34 => ?_)
    · have hm := iteT hm hc34
      refine WP.seq (fun K35 hK35 => ?_)
      refine WP.region ?_
      refine WL.runk 2 [4, 5] [(4, .slice none 0 0), (5, .int .i64 2)] (by kernel_rfl) ?_
      refine WL.nil ?_
      refine WQ.then_normal (hK35 _ _ _ ?_)
      refine WP.ret ?_
      refine WQ.then_ret ?_
      obtain rfl := Option.some.inj hm
      have hS37 : SH w28 w.heap.size [aOwn fInt 2 none 0 ([] : List Int), aBox 42 b2 [.int .i64 c_0.Kind, .int .i64 c_0.Amount]] := SH.nilOwn hS33
      exact WQ.ret2 _ _ rfl rfl rfl ⟨_, _, rfl, hb31, (SH.take 1 hS37)⟩
    · have hm := iteF hm hc34
      refine WP.skip ?_
      refine WQ.then_normal (hK24 _ _ _ ?_)
      refine WP.seq (fun K38 hK38 => ?_)
      refine WP.region ?_
      refine WL.runk 1 [1, 2, 17] [(1, .int .i64 step_1), (2, .pointer (some ⟨b2, 0, none⟩)), (17, .pointer (some ⟨b2, 1, none⟩))] (by kernel_rfl) ?_
      refine WL.st (.int .i64 c_0.Amount) (ST.load (cell_ext (SH.boxAt (SH.front 0 hS33) 1 _ rfl)) rfl rfl Try.underlying2 rfl) rfl rfl rfl ?_
      obtain ⟨x39, hx40, hm⟩ := bindE hm
      refine WL.call 65 #[.int .i64 c_0.Amount] rfl rfl (by kernel_rfl) (c_65 n c_0.Amount w28 hx40 ) ?_
      rintro _ w41 ⟨rfl, hE42⟩
      refine ⟨_, rfl, ?_⟩
      have hb44 : Ext w w41 := Ext.trans hb31 hE42
      have hL45 : w.heap.size ≤ w41.heap.size := Nat.le_trans hL32 hE42.size
      have hS46 : SH w41 w.heap.size [aBox 42 b2 [.int .i64 c_0.Kind, .int .i64 c_0.Amount]] := SH.ext hS33 hE42
      refine WL.runk 1 [1, 2, 6] [(1, .int .i64 step_1), (2, .pointer (some ⟨b2, 0, none⟩)), (6, .int .i64 x39)] (by kernel_rfl) ?_
      refine WL.nil ?_
      refine WQ.then_normal (hK38 _ _ _ ?_)
      refine WP.seq (fun K47 hK47 => ?_)
      refine WP.region ?_
      refine WL.runk 5 [2, 6, 23, 24] [(2, .pointer (some ⟨b2, 0, none⟩)), (6, .int .i64 x39), (23, .int .i64 (wI64 ((wI64 (x39 + step_1)) - 1))), (24, .int .i64 step_1)] (by kernel_rfl) ?_
      obtain ⟨x48, hx49, hm⟩ := bindE hm
      refine WL.st (.int .i64 x48) (ST.quo (k := .i64) hx49 rfl rfl rfl) rfl rfl rfl ?_
      refine WL.runk 1 [2, 6, 7] [(2, .pointer (some ⟨b2, 0, none⟩)), (6, .int .i64 x39), (7, .int .i64 x48)] (by kernel_rfl) ?_
      refine WL.nil ?_
      refine WQ.then_normal (hK47 _ _ _ ?_)
      refine WP.seq (fun K50 hK50 => ?_)
      refine WP.region ?_
      refine WL.row fInt 2 ([] : List Int) 0 #[] 26 (by kernel_rfl) rfl rfl rfl rfl rfl rfl rfl ?_
      intro a51 c52 w53 hE54 hR55
      have hb57 : Ext w w53 := Ext.trans hb44 hE54
      have hL58 : w.heap.size ≤ w53.heap.size := Nat.le_trans hL45 hE54.size
      have hS59 : SH w53 w.heap.size [aOwn fInt 2 a51 c52 ([] : List Int), aBox 42 b2 [.int .i64 c_0.Kind, .int .i64 c_0.Amount]] := SH.add hS46 hE54 hL45 hR55
      refine WL.runk 1 [2, 6, 7, 8] [(2, .pointer (some ⟨b2, 0, none⟩)), (6, .int .i64 x39), (7, .int .i64 x48), (8, .slice a51 (([] : List Int).length) c52)] (by kernel_rfl) ?_
      refine WL.nil ?_
      refine WQ.then_normal (hK50 _ _ _ ?_)
      refine WP.seq (fun K60 hK60 => ?_)
      refine WP.seq (fun K61 hK61 => ?_)
      refine WP.region ?_
      refine WL.runk 1 [2, 6, 7, 8, 9] [(2, .pointer (some ⟨b2, 0, none⟩)), (6, .int .i64 x39), (7, .int .i64 x48), (8, .slice a51 (([] : List Int).length) c52), (9, .int .i64 0)] (by kernel_rfl) ?_
      refine WL.nil ?_
      refine WQ.then_normal (hK61 _ _ _ ?_)
      refine WP.block ?_
      obtain ⟨t76, ht77, hm⟩ := bindE hm
      have hmo71 := hm; clear hm
      refine WP.sub [(2, .pointer (some ⟨b2, 0, none⟩)), (6, .int .i64 x39), (7, .int .i64 x48), (8, .slice a51 (([] : List Int).length) c52), (9, .int .i64 0)] ⟨rfl, rfl, rfl, rfl, rfl, trivial⟩ ?_
      refine WP.loop (fun n' env' w' => ∃ (st62 : List Int × Int) (a63 : Option Addr) (c64 : Nat), env' = [(2, .pointer (some ⟨b2, 0, none⟩)), (6, .int .i64 x39), (7, .int .i64 x48), (8, .slice a63 st62.1.length c64), (9, .int .i64 st62.2)] ∧ Ext w w' ∧ w.heap.size ≤ w'.heap.size ∧ SH w' w.heap.size [aOwn fInt 2 a63 c64 st62.1, aBox 42 b2 [.int .i64 c_0.Kind, .int .i64 c_0.Amount]] ∧ loopN (m_spec_FittingsOf_l1 n c_0 x39 x48) n' st62 = some t76) n ⟨(([] : List Int), 0), _, _, rfl, hb57, hL58, hS59, ht77⟩ ?_
      rintro n73 _ w66 ⟨st62, a63, c64, rfl, hb67, hL68, hS69, hl70⟩ K72 hK72
      obtain ⟨n74, s75, rfl, hm, hl70⟩ := loopN_some hl70
      unfold m_spec_FittingsOf_l1 at hm
      refine WP.seq (fun K78 hK78 => ?_)
      refine WP.seq (fun K79 hK79 => ?_)
      refine WP.region ?_
      refine WL.runk 3 [2, 6, 7, 8, 9, 29] [(2, .pointer (some ⟨b2, 0, none⟩)), (6, .int .i64 x39), (7, .int .i64 x48), (8, .slice a63 st62.1.length c64), (9, .int .i64 st62.2), (29, .bool (decide (st62.2 < x48)))] (by kernel_rfl) ?_
      refine WL.nil ?_
      refine WQ.then_normal (hK79 _ _ _ ?_)
      refine WP.cond (decide (st62.2 < x48)) rfl rfl (fun hc80 => ?_) (fun hc80 => ?_)
      · have hm := iteT hm hc80
        refine WP.skip ?_
        refine WQ.then_normal (hK78 _ _ _ ?_)
        refine WP.seq (fun K81 hK81 => ?_)
        refine WP.block ?_
        refine WP.seq (fun K82 hK82 => ?_)
        refine WP.region ?_
        refine WL.runk 2 [2, 6, 7, 8, 9, 32, 33] [(2, .pointer (some ⟨b2, 0, none⟩)), (6, .int .i64 x39), (7, .int .i64 x48), (8, .slice a63 st62.1.length c64), (9, .int .i64 st62.2), (32, .int .i64 x39), (33, .int .i64 x48)] (by kernel_rfl) ?_
        obtain ⟨x83, hx84, hm⟩ := bindE hm
        refine WL.st (.int .i64 x83) (ST.quo (k := .i64) hx84 rfl rfl rfl) rfl rfl rfl ?_
        refine WL.runk 1 [2, 6, 7, 8, 9, 10] [(2, .pointer (some ⟨b2, 0, none⟩)), (6, .int .i64 x39), (7, .int .i64 x48), (8, .slice a63 st62.1.length c64), (9, .int .i64 st62.2), (10, .int .i64 x83)] (by kernel_rfl) ?_
        refine WL.nil ?_
        refine WQ.then_normal (hK82 _ _ _ ?_)
        refine WP.seq (fun K85 hK85 => ?_)
        refine WP.seq (fun K86 hK86 => ?_)
        refine WP.region ?_
        refine WL.runk 3 [2, 6, 7, 8, 9, 10, 35, 36, 37] [(2, .pointer (some ⟨b2, 0, none⟩)), (6, .int .i64 x39), (7, .int .i64 x48), (8, .slice a63 st62.1.length c64), (9, .int .i64 st62.2), (10, .int .i64 x83), (35, .int .i64 st62.2), (36, .int .i64 x39), (37, .int .i64 x48)] (by kernel_rfl) ?_
        obtain ⟨x87, hx88, hm⟩ := bindE hm
        refine WL.st (.int .i64 x87) (ST.rem (k := .i64) hx88 rfl rfl rfl) rfl rfl rfl ?_
        refine WL.runk 1 [2, 6, 7, 8, 9, 10, 39] [(2, .pointer (some ⟨b2, 0, none⟩)), (6, .int .i64 x39), (7, .int .i64 x48), (8, .slice a63 st62.1.length c64), (9, .int .i64 st62.2), (10, .int .i64 x83), (39, .bool (decide (st62.2 < x87)))] (by kernel_rfl) ?_
        refine WL.nil ?_
        refine WQ.then_normal (hK86 _ _ _ ?_)
        obtain ⟨x90, hx91, hm⟩ := bindE hm
        refine WP.cut (fun env' w' => env' = [(2, .pointer (some ⟨b2, 0, none⟩)), (6, .int .i64 x39), (7, .int .i64 x48), (8, .slice a63 st62.1.length c64), (9, .int .i64 st62.2), (10, .int .i64 x90)] ∧ Ext w w' ∧ w.heap.size ≤ w'.heap.size ∧ SH w' w.heap.size [aOwn fInt 2 a63 c64 st62.1, aBox 42 b2 [.int .i64 c_0.Kind, .int .i64 c_0.Amount]]) ?_ ?_
        · have hm := hx91; clear hx91
          refine WP.cond (decide (st62.2 < x87)) rfl rfl (fun hc89 => ?_) (fun hc89 => ?_)
          · have hm := iteT hm hc89
            refine WP.region ?_
            refine WL.runk 3 [2, 6, 7, 8, 9, 10] [(2, .pointer (some ⟨b2, 0, none⟩)), (6, .int .i64 x39), (7, .int .i64 x48), (8, .slice a63 st62.1.length c64), (9, .int .i64 st62.2), (10, .int .i64 (wI64 (x83 + 1)))] (by kernel_rfl) ?_
            refine WL.nil ?_
            obtain rfl := Option.some.inj hm
            exact WQ.post' ⟨rfl, hb67, hL68, hS69⟩ ⟨rfl, rfl, rfl, rfl, rfl, rfl, trivial⟩
          · have hm := iteF hm hc89
            refine WP.skip ?_
            obtain rfl := Option.some.inj hm
            exact WQ.post' ⟨rfl, hb67, hL68, hS69⟩ ⟨rfl, rfl, rfl, rfl, rfl, rfl, trivial⟩
        · clear hx91
          rintro _ w92 ⟨rfl, hb93, hL94, hS95⟩
          refine WQ.then_normal (hK85 _ _ _ ?_)
          refine WP.seq (fun K96 hK96 => ?_)
          refine WP.seq (fun K97 hK97 => ?_)
          refine WP.region ?_
          refine WL.runk 1 [2, 6, 7, 8, 9, 10, 42] [(2, .pointer (some ⟨b2, 0, none⟩)), (6, .int .i64 x39), (7, .int .i64 x48), (8, .slice a63 st62.1.length c64), (9, .int .i64 st62.2), (10, .int .i64 x90), (42, .pointer (some ⟨b2, 1, none⟩))] (by kernel_rfl) ?_
          refine WL.st (.int .i64 c_0.Amount) (ST.load (cell_ext (SH.boxAt (SH.front 1 hS95) 1 _ rfl)) rfl rfl Try.underlying2 rfl) rfl rfl rfl ?_
          refine WL.runk 1 [2, 6, 7, 8, 9, 10, 44] [(2, .pointer (some ⟨b2, 0, none⟩)), (6, .int .i64 x39), (7, .int .i64 x48), (8, .slice a63 st62.1.length c64), (9, .int .i64 st62.2), (10, .int .i64 x90), (44, .bool (decide (c_0.Amount < 0)))] (by kernel_rfl) ?_
          refine WL.nil ?_
          refine WQ.then_normal (hK97 _ _ _ ?_)
          obtain ⟨x99, hx100, hm⟩ := bindE hm
          refine WP.cut (fun env' w' => env' = [(2, .pointer (some ⟨b2, 0, none⟩)), (6, .int .i64 x39), (7, .int .i64 x48), (8, .slice a63 st62.1.length c64), (9, .int .i64 st62.2), (10, .int .i64 x99)] ∧ Ext w w' ∧ w.heap.size ≤ w'.heap.size ∧ SH w' w.heap.size [aOwn fInt 2 a63 c64 st62.1, aBox 42 b2 [.int .i64 c_0.Kind, .int .i64 c_0.Amount]]) ?_ ?_
          · have hm := hx100; clear hx100
            refine WP.cond (decide (c_0.Amount < 0)) rfl rfl (fun hc98 => ?_) (fun hc98 => ?_)
            · have hm := iteT hm hc98
              refine WP.region ?_
              refine WL.runk 3 [2, 6, 7, 8, 9, 10] [(2, .pointer (some ⟨b2, 0, none⟩)), (6, .int .i64 x39), (7, .int .i64 x48), (8, .slice a63 st62.1.length c64), (9, .int .i64 st62.2), (10, .int .i64 (wI64 (0 - x90)))] (by kernel_rfl) ?_
              refine WL.nil ?_
              obtain rfl := Option.some.inj hm
              exact WQ.post' ⟨rfl, hb93, hL94, hS95⟩ ⟨rfl, rfl, rfl, rfl, rfl, rfl, trivial⟩
            · have hm := iteF hm hc98
              refine WP.skip ?_
              obtain rfl := Option.some.inj hm
              exact WQ.post' ⟨rfl, hb93, hL94, hS95⟩ ⟨rfl, rfl, rfl, rfl, rfl, rfl, trivial⟩
          · clear hx100
            rintro _ w101 ⟨rfl, hb102, hL103, hS104⟩
            refine WQ.then_normal (hK96 _ _ _ ?_)
            refine WP.region ?_
            refine WL.runk 2 [2, 6, 7, 9, 47, 48] [(2, .pointer (some ⟨b2, 0, none⟩)), (6, .int .i64 x39), (7, .int .i64 x48), (9, .int .i64 st62.2), (47, .slice a63 st62.1.length c64), (48, .int .i64 x99)] (by kernel_rfl) ?_
            refine WL.row fInt 2 ([x99] : List Int) 1 #[.int .i64 x99] 49 (by kernel_rfl) rfl rfl rfl rfl rfl rfl rfl ?_
            intro a105 c106 w107 hE108 hR109
            have hb111 : Ext w w107 := Ext.trans hb102 hE108
            have hL112 : w.heap.size ≤ w107.heap.size := Nat.le_trans hL103 hE108.size
            have hS113 : SH w107 w.heap.size [aOwn fInt 2 a105 c106 ([x99] : List Int), aOwn fInt 2 a63 c64 st62.1, aBox 42 b2 [.int .i64 c_0.Kind, .int .i64 c_0.Amount]] := SH.add hS104 hE108 hL103 hR109
            obtain ⟨x114, hx115, hm⟩ := bindE hm
            refine WL.append (F := fInt) (xs := st62.1) (ys := ([x99] : List Int)) 50 (SH.front 1 hS113) hL112 (SH.rd (SH.front 0 hS113)) hx115 rfl rfl rfl Try.underlying31 (info2).1 (info2).2.2.1 (info2).2.1 (info2).2.2.2 rfl rfl rfl rfl rfl ?_
            intro a116 c117 w118 hB119 hS120
            have hb121 : Ext w w118 := Below.trans hb111 hB119
            have hL122 : w.heap.size ≤ w118.heap.size := Nat.le_trans hL112 hB119.size
            refine WL.runk 1 [2, 6, 7, 8, 9] [(2, .pointer (some ⟨b2, 0, none⟩)), (6, .int .i64 x39), (7, .int .i64 x48), (9, .int .i64 st62.2), (8, .slice a116 x114.length c117)] (by kernel_rfl) ?_
            refine WL.nil ?_
            refine WQ.block_normal ?_
            refine WQ.then_normal (hK81 _ _ _ ?_)
            refine WP.region ?_
            refine WL.runk 3 [2, 6, 7, 8, 9] [(2, .pointer (some ⟨b2, 0, none⟩)), (6, .int .i64 x39), (7, .int .i64 x48), (9, .int .i64 (wI64 (st62.2 + 1))), (8, .slice a116 x114.length c117)] (by kernel_rfl) ?_
            refine WL.nil ?_
            obtain rfl := Option.some.inj hm
            exact WQ.round hK72 ⟨(x114, (wI64 (st62.2 + 1))), _, _, rfl, hb121, hL122, (SH.take 2 (SH.front 1 (SH.front 2 hS120))), hl70⟩ (Nat.lt_succ_self _) ⟨rfl, rfl, rfl, rfl, rfl, trivial⟩
      · have hm := iteF hm hc80
        refine WP.exit ?_
        refine WQ.then_exit ?_
        refine WQ.then_exit ?_
        refine WQ.block_here ?_
        obtain rfl := Option.some.inj hm
        obtain rfl := afterN_done hl70
        have hm := hmo71
        refine WQ.then_normal (hK60 _ _ _ ?_)
        refine WP.seq (fun K123 hK123 => ?_)
        refine WP.region ?_
        refine WL.runk 3 [4, 5] [(4, .slice a63 st62.1.length c64), (5, .int .i64 0)] (by kernel_rfl) ?_
        refine WL.nil ?_
        refine WQ.then_normal (hK123 _ _ _ ?_)
        refine WP.ret ?_
        obtain rfl := Option.some.inj hm
        exact WQ.ret2 _ _ rfl rfl rfl ⟨_, _, rfl, hb67, (SH.take 1 hS69)⟩

theorem c_67 (n : Nat) (a_0 : Int) (b_1 : Int) (w : World) {r : Int} (hm : m_impl_apart n a_0 b_1 = some r)  :
    CallV Try.prog 67 #[.int .i64 a_0, .int .i64 b_1] w (fun v w' => v = .int .i64 r ∧ Ext w w') := by
  unfold m_impl_apart at hm
  refine CallV.enter Try.func67 rfl (by kernel_rfl) Try.ntmps67 (env := [(0, .int .i64 a_0), (1, .int .i64 b_1)]) ⟨rfl, rfl, trivial⟩ ?_
  refine WP.seq (fun K1 hK1 => ?_)
  refine WP.region ?_
  refine WL.runk 1 [0, 1] [(0, .int .i64 a_0), (1, .int .i64 b_1)] (by kernel_rfl) ?_
  refine WL.nil ?_
  refine WQ.then_normal (hK1 _ _ _ ?_)
  refine WP.seq (fun K2 hK2 => ?_)
  refine WP.region ?_
  refine WL.runk 8 [4] [(4, .int .i64 (imax (wI64 (a_0 - b_1)) (wI64 (b_1 - a_0))))] (by kernel_rfl) ?_
  refine WL.nil ?_
  refine WQ.then_normal (hK2 _ _ _ ?_)
  refine WP.ret ?_
  obtain rfl := Option.some.inj hm
  exact WQ.ret1 _ rfl rfl ⟨rfl, (Ext.refl w)⟩

end Go.Proofs.Ytlplbjeegkkilaa
