/- Each call does what its Lean function says. -/
import Derived.Test.YtlplbjeegkkilaaTi
import Derived.Test.YtlplbjeegkkilaaEq
import Derived.Test.YtlplbjeegkkilaaMo
set_option maxRecDepth 20000
set_option maxHeartbeats 40000000
namespace Go.Proofs.Ytlplbjeegkkilaa
open Go Go.Gv Go.RowKit

theorem c_53 (n : Nat) (kind_0 : Int) (w : World) {r : Int} (hm : m_impl_mostChange n kind_0 = some r)  :
    CallV Try.prog 53 #[.int .i64 kind_0] w (fun v w' => v = .int .i64 r ∧ Ext w w') := by
  unfold m_impl_mostChange at hm
  refine CallV.enter Try.func53 rfl (by kernel_rfl) Try.ntmps53 (env := [(0, .int .i64 kind_0)]) ⟨rfl, trivial⟩ ?_
  refine WP.seq (fun K1 hK1 => ?_)
  refine WP.region ?_
  refine WL.runk 1 [0] [(0, .int .i64 kind_0)] (by kernel_rfl) ?_
  refine WL.nil ?_
  refine WQ.then_normal (hK1 _ _ _ ?_)
  refine WP.seq (fun K2 hK2 => ?_)
  refine WP.seq (fun K3 hK3 => ?_)
  refine WP.region ?_
  refine WL.runk 1 [3] [(3, .int .i64 kind_0)] (by kernel_rfl) ?_
  refine WL.nil ?_
  refine WQ.then_normal (hK3 _ _ _ ?_)
  refine WP.block ?_
  refine WP.seq (fun K4 hK4 => ?_)
  refine WP.region ?_
  refine WL.runk 2 [3, 4] [(3, .int .i64 kind_0), (4, .bool (kind_0 == 1))] (by kernel_rfl) ?_
  refine WL.nil ?_
  refine WQ.then_normal (hK4 _ _ _ ?_)
  refine WP.cond (kind_0 == 1) rfl rfl (fun hc5 => ?_) (fun hc5 => ?_)
  · have hm := iteT hm hc5
    refine WP.seq (fun K6 hK6 => ?_)
    refine WP.region ?_
    refine WL.runk 1 [2] [(2, .int .i64 200)] (by kernel_rfl) ?_
    refine WL.nil ?_
    refine WQ.then_normal (hK6 _ _ _ ?_)
    refine WP.ret ?_
    refine WQ.block_ret ?_
    refine WQ.then_ret ?_
    obtain rfl := Option.some.inj hm
    exact WQ.ret1 _ rfl rfl ⟨rfl, (Ext.refl w)⟩
  have hm := iteF hm hc5
  refine WP.seq (fun K7 hK7 => ?_)
  refine WP.seq (fun K8 hK8 => ?_)
  refine WP.region ?_
  refine WL.runk 2 [3, 6] [(3, .int .i64 kind_0), (6, .bool (kind_0 == 2))] (by kernel_rfl) ?_
  refine WL.nil ?_
  refine WQ.then_normal (hK8 _ _ _ ?_)
  obtain ⟨x18, hx19, hm⟩ := bindE hm
  refine WP.cut (fun env' w' => env' = [(3, .int .i64 kind_0), (6, .bool x18)] ∧ Ext w w' ∧ w.heap.size ≤ w'.heap.size ∧ SH w' w.heap.size []) ?_ ?_
  · have hm := hx19; clear hx19
    refine WP.cond (kind_0 == 2) rfl rfl (fun hc9 => ?_) (fun hc9 => ?_)
    · have hm := iteT hm hc9
      refine WP.skip ?_
      obtain rfl := Option.some.inj hm
      exact WQ.post' ⟨rfl, (Ext.refl w), (Nat.le_refl _), (SH.nil _ _)⟩ ⟨rfl, rfl, trivial⟩
    have hm := iteF hm hc9
    refine WP.seq (fun K20 hK20 => ?_)
    refine WP.region ?_
    refine WL.runk 2 [3, 6] [(3, .int .i64 kind_0), (6, .bool (kind_0 == 3))] (by kernel_rfl) ?_
    refine WL.nil ?_
    refine WQ.then_normal (hK20 _ _ _ ?_)
    obtain ⟨x22, hx23, hm⟩ := bindE hm
    refine WP.cut (fun env' w' => env' = [(3, .int .i64 kind_0), (6, .bool x22)] ∧ Ext w w' ∧ w.heap.size ≤ w'.heap.size ∧ SH w' w.heap.size []) ?_ ?_
    rotate_left
    · clear hx23
      rintro _ w24 ⟨rfl, hb25, hL26, hS27⟩
      obtain rfl := Option.some.inj hm
      exact WQ.post' ⟨rfl, hb25, hL26, hS27⟩ ⟨rfl, rfl, trivial⟩
    have hm := hx23; clear hx23
    refine WP.cond (kind_0 == 3) rfl rfl (fun hc21 => ?_) (fun hc21 => ?_)
    · have hm := iteT hm hc21
      refine WP.skip ?_
      obtain rfl := Option.some.inj hm
      exact WQ.post' ⟨rfl, (Ext.refl w), (Nat.le_refl _), (SH.nil _ _)⟩ ⟨rfl, rfl, trivial⟩
    have hm := iteF hm hc21
    refine WP.region ?_
    refine WL.runk 2 [3, 6] [(3, .int .i64 kind_0), (6, .bool (kind_0 == 4))] (by kernel_rfl) ?_
    refine WL.nil ?_
    obtain rfl := Option.some.inj hm
    exact WQ.post' ⟨rfl, (Ext.refl w), (Nat.le_refl _), (SH.nil _ _)⟩ ⟨rfl, rfl, trivial⟩
  clear hx19
  rintro _ w28 ⟨rfl, hb29, hL30, hS31⟩
  refine WQ.then_normal (hK7 _ _ _ ?_)
  refine WP.cond x18 rfl rfl (fun hc32 => ?_) (fun hc32 => ?_)
  · have hm := iteT hm hc32
    refine WP.seq (fun K33 hK33 => ?_)
    refine WP.region ?_
    refine WL.runk 1 [2] [(2, .int .i64 300)] (by kernel_rfl) ?_
    refine WL.nil ?_
    refine WQ.then_normal (hK33 _ _ _ ?_)
    refine WP.ret ?_
    refine WQ.block_ret ?_
    refine WQ.then_ret ?_
    obtain rfl := Option.some.inj hm
    exact WQ.ret1 _ rfl rfl ⟨rfl, hb29⟩
  have hm := iteF hm hc32
  refine WP.seq (fun K34 hK34 => ?_)
  refine WP.region ?_
  refine WL.runk 2 [10] [(10, .bool (kind_0 == 5))] (by kernel_rfl) ?_
  refine WL.nil ?_
  refine WQ.then_normal (hK34 _ _ _ ?_)
  refine WP.cond (kind_0 == 5) rfl rfl (fun hc35 => ?_) (fun hc35 => ?_)
  · have hm := iteT hm hc35
    refine WP.seq (fun K36 hK36 => ?_)
    refine WP.region ?_
    refine WL.runk 1 [2] [(2, .int .i64 150)] (by kernel_rfl) ?_
    refine WL.nil ?_
    refine WQ.then_normal (hK36 _ _ _ ?_)
    refine WP.ret ?_
    refine WQ.block_ret ?_
    refine WQ.then_ret ?_
    obtain rfl := Option.some.inj hm
    exact WQ.ret1 _ rfl rfl ⟨rfl, hb29⟩
  have hm := iteF hm hc35
  refine WP.skip ?_
  refine WQ.block_normal ?_
  refine WQ.then_normal (hK2 _ _ _ ?_)
  refine WP.seq (fun K37 hK37 => ?_)
  refine WP.region ?_
  refine WL.runk 1 [2] [(2, .int .i64 0)] (by kernel_rfl) ?_
  refine WL.nil ?_
  refine WQ.then_normal (hK37 _ _ _ ?_)
  refine WP.ret ?_
  obtain rfl := Option.some.inj hm
  exact WQ.ret1 _ rfl rfl ⟨rfl, hb29⟩

theorem c_66 (n : Nat) (n_0 : Int) (low_1 : Int) (high_2 : Int) (w : World) {r : Bool} (hm : m_impl_within n n_0 low_1 high_2 = some r)  :
    CallV Try.prog 66 #[.int .i64 n_0, .int .i64 low_1, .int .i64 high_2] w (fun v w' => v = .bool r ∧ Ext w w') := by
  unfold m_impl_within at hm
  refine CallV.enter Try.func66 rfl (by kernel_rfl) Try.ntmps66 (env := [(0, .int .i64 n_0), (1, .int .i64 low_1), (2, .int .i64 high_2)]) ⟨rfl, rfl, rfl, trivial⟩ ?_
  refine WP.seq (fun K1 hK1 => ?_)
  refine WP.region ?_
  refine WL.runk 1 [0, 1, 2] [(0, .int .i64 n_0), (1, .int .i64 low_1), (2, .int .i64 high_2)] (by kernel_rfl) ?_
  refine WL.nil ?_
  refine WQ.then_normal (hK1 _ _ _ ?_)
  refine WP.seq (fun K2 hK2 => ?_)
  obtain ⟨x4, hx5, hm⟩ := bindE hm
  refine WP.cut (fun env' w' => env' = [(6, .bool x4)] ∧ Ext w w' ∧ w.heap.size ≤ w'.heap.size ∧ SH w' w.heap.size []) ?_ ?_
  rotate_left
  · clear hx5
    rintro _ w7 ⟨rfl, hb8, hL9, hS10⟩
    refine WQ.then_normal (hK2 _ _ _ ?_)
    refine WP.ret ?_
    obtain rfl := Option.some.inj hm
    exact WQ.ret1 _ rfl rfl ⟨rfl, hb8⟩
  have hm := hx5; clear hx5
  refine WP.region ?_
  refine WL.runk 4 [0, 2, 10] [(0, .int .i64 n_0), (2, .int .i64 high_2), (10, .bool (decide (n_0 ≥ low_1)))] (by kernel_rfl) ?_
  refine WL.case (decide (n_0 ≥ low_1)) [10] ⟨rfl, trivial⟩ (fun hc6 => ?_) (fun hc6 => ?_)
  · have hm := iteT hm hc6
    refine WL.runk 5 [6] [(6, .bool (decide (n_0 ≤ high_2)))] (by kernel_rfl) ?_
    refine WL.nil ?_
    obtain rfl := Option.some.inj hm
    exact WQ.post' ⟨rfl, (Ext.refl w), (Nat.le_refl _), (SH.nil _ _)⟩ ⟨rfl, trivial⟩
  have hm := iteF hm hc6
  refine WL.runk 5 [6] [(6, .bool false)] (by kernel_rfl) ?_
  refine WL.nil ?_
  obtain rfl := Option.some.inj hm
  exact WQ.post' ⟨rfl, (Ext.refl w), (Nat.le_refl _), (SH.nil _ _)⟩ ⟨rfl, trivial⟩

theorem c_82 (n : Nat) (n_0 : Int) (cap_1 : Int) (b1' o1' : Nat) (cap_2 : Int) (b2' o2' : Nat) (w : World) {r : Bool} (hm : m_impl_outside_1 n n_0 cap_1 cap_2 = some r) (h1 : RdB w b1' o1' [.int .i64 cap_1]) (h2 : RdB w b2' o2' [.int .i64 cap_2]) :
    CallV Try.prog 82 #[.int .i64 n_0, .pointer (some ⟨b1', o1', none⟩), .pointer (some ⟨b2', o2', none⟩)] w (fun v w' => v = .bool r ∧ Ext w w') := by
  unfold m_impl_outside_1 at hm
  refine CallV.enter Try.func82 rfl (by kernel_rfl) Try.ntmps82 (env := [(0, .int .i64 n_0), (1, .pointer (some ⟨b1', o1', none⟩)), (2, .pointer (some ⟨b2', o2', none⟩))]) ⟨rfl, rfl, rfl, trivial⟩ ?_
  refine WP.seq (fun K1 hK1 => ?_)
  refine WP.region ?_
  refine WL.runk 1 [0, 1, 2] [(0, .int .i64 n_0), (1, .pointer (some ⟨b1', o1', none⟩)), (2, .pointer (some ⟨b2', o2', none⟩))] (by kernel_rfl) ?_
  refine WL.nil ?_
  refine WQ.then_normal (hK1 _ _ _ ?_)
  refine WP.seq (fun K2 hK2 => ?_)
  refine WP.region ?_
  refine WL.runk 1 [1, 2, 5] [(1, .pointer (some ⟨b1', o1', none⟩)), (2, .pointer (some ⟨b2', o2', none⟩)), (5, .int .i64 n_0)] (by kernel_rfl) ?_
  refine WL.st (.int .i64 cap_1) (ST.load (cell_ext (RdB.at (RdB.below h1 (Ext.refl w)) 0 _ rfl)) rfl rfl Try.underlying2 rfl) rfl rfl rfl ?_
  refine WL.st (.int .i64 cap_2) (ST.load (cell_ext (RdB.at (RdB.below h2 (Ext.refl w)) 0 _ rfl)) rfl rfl Try.underlying2 rfl) rfl rfl rfl ?_
  obtain ⟨x3, hx4, hm⟩ := bindE hm
  refine WL.call 66 #[.int .i64 n_0, .int .i64 cap_1, .int .i64 cap_2] rfl rfl (by kernel_rfl) (c_66 n n_0 cap_1 cap_2 w hx4 ) ?_
  rintro _ w5 ⟨rfl, hE6⟩
  refine ⟨_, rfl, ?_⟩
  have hb8 : Ext w w5 := Ext.trans (Ext.refl w) hE6
  have hL9 : w.heap.size ≤ w5.heap.size := Nat.le_trans (Nat.le_refl _) hE6.size
  have hS10 : SH w5 w.heap.size [] := SH.ext (SH.nil _ _) hE6
  refine WL.runk 2 [4] [(4, .bool (!x3))] (by kernel_rfl) ?_
  refine WL.nil ?_
  refine WQ.then_normal (hK2 _ _ _ ?_)
  refine WP.ret ?_
  obtain rfl := Option.some.inj hm
  exact WQ.ret1 _ rfl rfl ⟨rfl, hb8⟩

theorem c_92_82 (n : Nat) (s_0 : List Int) (a0' : Option Addr) (c0' : Nat) (cap_1_0 : Int) (b1_0' o1_0' : Nat) (cap_1_1 : Int) (b1_1' o1_1' : Nat) (w : World) {r : Int} (hm : m_slices_IndexFunc_int64_int64_f82 n s_0 cap_1_0 cap_1_1 = some r) (h0 : Rd fInt.ty w a0' s_0) (_hle0 : s_0.length ≤ c0') (h1_0 : RdB w b1_0' o1_0' [.int .i64 cap_1_0]) (h1_1 : RdB w b1_1' o1_1' [.int .i64 cap_1_1]) :
    CallV Try.prog 92 #[.slice a0' s_0.length c0', .func (.func 82) #[] #[.pointer (some ⟨b1_0', o1_0', none⟩), .pointer (some ⟨b1_1', o1_1', none⟩)]] w (fun v w' => v = .int .i64 r ∧ Ext w w') := by
  unfold m_slices_IndexFunc_int64_int64_f82 at hm
  refine CallV.enter Try.func92 rfl (by kernel_rfl) Try.ntmps92 (env := [(0, .slice a0' s_0.length c0'), (1, .func (.func 82) #[] #[.pointer (some ⟨b1_0', o1_0', none⟩), .pointer (some ⟨b1_1', o1_1', none⟩)])]) ⟨rfl, rfl, trivial⟩ ?_
  refine WP.seq (fun K1 hK1 => ?_)
  refine WP.region ?_
  refine WL.runk 1 [0, 1] [(0, .slice a0' s_0.length c0'), (1, .func (.func 82) #[] #[.pointer (some ⟨b1_0', o1_0', none⟩), .pointer (some ⟨b1_1', o1_1', none⟩)])] (by kernel_rfl) ?_
  refine WL.nil ?_
  refine WQ.then_normal (hK1 _ _ _ ?_)
  refine WP.seq (fun K2 hK2 => ?_)
  refine WP.seq (fun K3 hK3 => ?_)
  refine WP.region ?_
  refine WL.runk 3 [0, 1, 7, 8] [(0, .slice a0' s_0.length c0'), (1, .func (.func 82) #[] #[.pointer (some ⟨b1_0', o1_0', none⟩), .pointer (some ⟨b1_1', o1_1', none⟩)]), (7, .int .i64 (s_0.length : Int)), (8, .int .i64 0)] (by kernel_rfl) ?_
  refine WL.nil ?_
  refine WQ.then_normal (hK3 _ _ _ ?_)
  refine WP.block ?_
  obtain ⟨t15, ht16, hm⟩ := bindE hm
  have hmo10 := hm; clear hm
  refine WP.sub [(0, .slice a0' s_0.length c0'), (1, .func (.func 82) #[] #[.pointer (some ⟨b1_0', o1_0', none⟩), .pointer (some ⟨b1_1', o1_1', none⟩)]), (7, .int .i64 (s_0.length : Int)), (8, .int .i64 0)] ⟨rfl, rfl, rfl, rfl, trivial⟩ ?_
  refine WP.loop (fun n' env' w' => ∃ (st4 : Int) , env' = [(0, .slice a0' s_0.length c0'), (1, .func (.func 82) #[] #[.pointer (some ⟨b1_0', o1_0', none⟩), .pointer (some ⟨b1_1', o1_1', none⟩)]), (7, .int .i64 (s_0.length : Int)), (8, .int .i64 st4)] ∧ Ext w w' ∧ w.heap.size ≤ w'.heap.size ∧ SH w' w.heap.size [] ∧ loopN (m_slices_IndexFunc_int64_int64_f82_l1 n s_0 cap_1_0 cap_1_1) n' st4 = some t15) n ⟨0, rfl, (Ext.refl w), (Nat.le_refl _), (SH.nil _ _), ht16⟩ ?_
  rintro n12 _ w5 ⟨st4, rfl, hb6, hL7, hS8, hl9⟩ K11 hK11
  obtain ⟨n13, s14, rfl, hm, hl9⟩ := loopN_some hl9
  unfold m_slices_IndexFunc_int64_int64_f82_l1 at hm
  refine WP.seq (fun K17 hK17 => ?_)
  refine WP.region ?_
  refine WL.runk 1 [0, 1, 7, 8, 9] [(0, .slice a0' s_0.length c0'), (1, .func (.func 82) #[] #[.pointer (some ⟨b1_0', o1_0', none⟩), .pointer (some ⟨b1_1', o1_1', none⟩)]), (7, .int .i64 (s_0.length : Int)), (8, .int .i64 st4), (9, .bool (decide (st4 < (s_0.length : Int))))] (by kernel_rfl) ?_
  refine WL.nil ?_
  refine WQ.then_normal (hK17 _ _ _ ?_)
  refine WP.seq (fun K18 hK18 => ?_)
  refine WP.cond (decide (st4 < (s_0.length : Int))) rfl rfl (fun hc19 => ?_) (fun hc19 => ?_)
  rotate_left
  · have hm := iteF hm hc19
    refine WP.exit ?_
    refine WQ.then_exit ?_
    refine WQ.then_exit ?_
    refine WQ.block_here ?_
    obtain rfl := Option.some.inj hm
    obtain rfl := afterN_done hl9
    have hm := hmo10
    refine WQ.then_normal (hK2 _ _ _ ?_)
    refine WP.seq (fun K35 hK35 => ?_)
    refine WP.region ?_
    refine WL.runk 1 [4] [(4, .int .i64 (-1))] (by kernel_rfl) ?_
    refine WL.nil ?_
    refine WQ.then_normal (hK35 _ _ _ ?_)
    refine WP.ret ?_
    obtain rfl := Option.some.inj hm
    exact WQ.ret1 _ rfl rfl ⟨rfl, hb6⟩
  have hm := iteT hm hc19
  refine WP.skip ?_
  refine WQ.then_normal (hK18 _ _ _ ?_)
  refine WP.seq (fun K20 hK20 => ?_)
  refine WP.block ?_
  refine WP.seq (fun K21 hK21 => ?_)
  refine WP.region ?_
  refine WL.runk 2 [0, 1, 5, 7, 8] [(0, .slice a0' s_0.length c0'), (1, .func (.func 82) #[] #[.pointer (some ⟨b1_0', o1_0', none⟩), .pointer (some ⟨b1_1', o1_1', none⟩)]), (7, .int .i64 (s_0.length : Int)), (8, .int .i64 st4), (5, .int .i64 st4)] (by kernel_rfl) ?_
  refine WL.nil ?_
  refine WQ.then_normal (hK21 _ _ _ ?_)
  refine WP.seq (fun K22 hK22 => ?_)
  refine WP.region ?_
  refine WL.runk 3 [0, 1, 5, 7, 8, 11, 12, 13] [(0, .slice a0' s_0.length c0'), (1, .func (.func 82) #[] #[.pointer (some ⟨b1_0', o1_0', none⟩), .pointer (some ⟨b1_1', o1_1', none⟩)]), (7, .int .i64 (s_0.length : Int)), (8, .int .i64 st4), (5, .int .i64 st4), (11, .func (.func 82) #[] #[.pointer (some ⟨b1_0', o1_0', none⟩), .pointer (some ⟨b1_1', o1_1', none⟩)]), (12, .slice a0' s_0.length c0'), (13, .int .i64 st4)] (by kernel_rfl) ?_
  obtain ⟨x23, hx24, hm⟩ := bindE hm
  refine WL.st (.pointer (some (at_ a0' (Int.toNat st4 * 1)))) (ST.index (T := fInt.ty) (xs := s_0) (Rd.below h0 hb6) hx24 rfl rfl rfl Try.underlying31 (info2).1 (info2).2.1) rfl rfl rfl ?_
  refine WL.st (.int .i64 x23) (ST.load (cell_ext (Rd.flat (F := fInt) (Rd.below h0 hb6) hx24 0 rfl)) rfl rfl Try.underlying2 rfl) rfl rfl rfl ?_
  obtain ⟨x25, hx26, hm⟩ := bindE hm
  refine WL.call 82 #[.int .i64 x23, .pointer (some ⟨b1_0', o1_0', none⟩), .pointer (some ⟨b1_1', o1_1', none⟩)] rfl rfl (by kernel_rfl) (c_82 n x23 cap_1_0 b1_0' o1_0' cap_1_1 b1_1' o1_1' w5 hx26 (RdB.below h1_0 hb6) (RdB.below h1_1 hb6)) ?_
  rintro _ w27 ⟨rfl, hE28⟩
  refine ⟨_, rfl, ?_⟩
  have hb30 : Ext w w27 := Ext.trans hb6 hE28
  have hL31 : w.heap.size ≤ w27.heap.size := Nat.le_trans hL7 hE28.size
  have hS32 : SH w27 w.heap.size [] := SH.ext hS8 hE28
  refine WL.sub [(0, .slice a0' s_0.length c0'), (1, .func (.func 82) #[] #[.pointer (some ⟨b1_0', o1_0', none⟩), .pointer (some ⟨b1_1', o1_1', none⟩)]), (7, .int .i64 (s_0.length : Int)), (8, .int .i64 st4), (5, .int .i64 st4), (16, .bool x25)] ⟨rfl, rfl, rfl, rfl, rfl, rfl, trivial⟩ ?_
  refine WL.nil ?_
  refine WQ.then_normal (hK22 _ _ _ ?_)
  refine WP.cond x25 rfl rfl (fun hc33 => ?_) (fun hc33 => ?_)
  rotate_left
  · have hm := iteF hm hc33
    refine WP.skip ?_
    refine WQ.block_normal ?_
    refine WQ.then_normal (hK20 _ _ _ ?_)
    refine WP.region ?_
    refine WL.runk 2 [0, 1, 7, 8] [(0, .slice a0' s_0.length c0'), (1, .func (.func 82) #[] #[.pointer (some ⟨b1_0', o1_0', none⟩), .pointer (some ⟨b1_1', o1_1', none⟩)]), (7, .int .i64 (s_0.length : Int)), (8, .int .i64 (wI64 (st4 + 1)))] (by kernel_rfl) ?_
    refine WL.nil ?_
    obtain rfl := Option.some.inj hm
    exact WQ.round hK11 ⟨(wI64 (st4 + 1)), rfl, hb30, hL31, hS32, hl9⟩ (Nat.lt_succ_self _) ⟨rfl, rfl, rfl, rfl, trivial⟩
  have hm := iteT hm hc33
  refine WP.seq (fun K34 hK34 => ?_)
  refine WP.region ?_
  refine WL.runk 2 [4] [(4, .int .i64 st4)] (by kernel_rfl) ?_
  refine WL.nil ?_
  refine WQ.then_normal (hK34 _ _ _ ?_)
  refine WP.ret ?_
  refine WQ.block_ret ?_
  refine WQ.then_ret ?_
  refine WQ.then_ret ?_
  refine WQ.block_ret ?_
  refine WQ.then_ret ?_
  obtain rfl := Option.some.inj hm
  obtain rfl := afterN_done hl9
  have hm := hmo10
  obtain rfl := Option.some.inj hm
  exact WQ.ret1 _ rfl rfl ⟨rfl, hb30⟩

theorem c_81_82 (n : Nat) (s_0 : List Int) (a0' : Option Addr) (c0' : Nat) (cap_1_0 : Int) (b1_0' o1_0' : Nat) (cap_1_1 : Int) (b1_1' o1_1' : Nat) (w : World) {r : Bool} (hm : m_slices_ContainsFunc_int64_int64_f82 n s_0 cap_1_0 cap_1_1 = some r) (h0 : Rd fInt.ty w a0' s_0) (hle0 : s_0.length ≤ c0') (h1_0 : RdB w b1_0' o1_0' [.int .i64 cap_1_0]) (h1_1 : RdB w b1_1' o1_1' [.int .i64 cap_1_1]) :
    CallV Try.prog 81 #[.slice a0' s_0.length c0', .func (.func 82) #[] #[.pointer (some ⟨b1_0', o1_0', none⟩), .pointer (some ⟨b1_1', o1_1', none⟩)]] w (fun v w' => v = .bool r ∧ Ext w w') := by
  unfold m_slices_ContainsFunc_int64_int64_f82 at hm
  refine CallV.enter Try.func81 rfl (by kernel_rfl) Try.ntmps81 (env := [(0, .slice a0' s_0.length c0'), (1, .func (.func 82) #[] #[.pointer (some ⟨b1_0', o1_0', none⟩), .pointer (some ⟨b1_1', o1_1', none⟩)])]) ⟨rfl, rfl, trivial⟩ ?_
  refine WP.seq (fun K1 hK1 => ?_)
  refine WP.region ?_
  refine WL.runk 1 [0, 1] [(0, .slice a0' s_0.length c0'), (1, .func (.func 82) #[] #[.pointer (some ⟨b1_0', o1_0', none⟩), .pointer (some ⟨b1_1', o1_1', none⟩)])] (by kernel_rfl) ?_
  refine WL.nil ?_
  refine WQ.then_normal (hK1 _ _ _ ?_)
  refine WP.seq (fun K2 hK2 => ?_)
  refine WP.region ?_
  refine WL.runk 2 [5, 6] [(5, .slice a0' s_0.length c0'), (6, .func (.func 82) #[] #[.pointer (some ⟨b1_0', o1_0', none⟩), .pointer (some ⟨b1_1', o1_1', none⟩)])] (by kernel_rfl) ?_
  obtain ⟨x3, hx4, hm⟩ := bindE hm
  refine WL.call 92 #[.slice a0' s_0.length c0', .func (.func 82) #[] #[.pointer (some ⟨b1_0', o1_0', none⟩), .pointer (some ⟨b1_1', o1_1', none⟩)]] rfl rfl (by kernel_rfl) (c_92_82 n s_0 a0' c0' cap_1_0 b1_0' o1_0' cap_1_1 b1_1' o1_1' w hx4 (Rd.below h0 (Ext.refl w)) hle0 (RdB.below h1_0 (Ext.refl w)) (RdB.below h1_1 (Ext.refl w))) ?_
  rintro _ w5 ⟨rfl, hE6⟩
  refine ⟨_, rfl, ?_⟩
  have hb8 : Ext w w5 := Ext.trans (Ext.refl w) hE6
  have hL9 : w.heap.size ≤ w5.heap.size := Nat.le_trans (Nat.le_refl _) hE6.size
  have hS10 : SH w5 w.heap.size [] := SH.ext (SH.nil _ _) hE6
  refine WL.runk 2 [4] [(4, .bool (decide (x3 ≥ 0)))] (by kernel_rfl) ?_
  refine WL.nil ?_
  refine WQ.then_normal (hK2 _ _ _ ?_)
  refine WP.ret ?_
  obtain rfl := Option.some.inj hm
  exact WQ.ret1 _ rfl rfl ⟨rfl, hb8⟩

theorem c_58 (n : Nat) (list_0 : List Int) (a0' : Option Addr) (c0' : Nat) (low_1 : Int) (high_2 : Int) (w : World) {r : Bool} (hm : m_impl_outside n list_0 low_1 high_2 = some r) (h0 : Rd fInt.ty w a0' list_0) (hle0 : list_0.length ≤ c0') :
    CallV Try.prog 58 #[.slice a0' list_0.length c0', .int .i64 low_1, .int .i64 high_2] w (fun v w' => v = .bool r ∧ Ext w w') := by
  unfold m_impl_outside at hm
  refine CallV.enter Try.func58 rfl (by kernel_rfl) Try.ntmps58 (env := [(0, .slice a0' list_0.length c0'), (1, .int .i64 low_1), (2, .int .i64 high_2)]) ⟨rfl, rfl, rfl, trivial⟩ ?_
  refine WP.seq (fun K1 hK1 => ?_)
  refine WP.region ?_
  refine WL.box 2 [.int .i64 low_1] 4 (by kernel_rfl) rfl rfl rfl rfl ?_
  intro b2 w3 hE4 hR5
  have hb7 : Ext w w3 := Ext.trans (Ext.refl w) hE4
  have hL8 : w.heap.size ≤ w3.heap.size := Nat.le_trans (Nat.le_refl _) hE4.size
  have hS9 : SH w3 w.heap.size [aBox 2 b2 [.int .i64 low_1]] := SH.add (SH.nil _ _) hE4 (Nat.le_refl _) hR5
  refine WL.box 2 [.int .i64 high_2] 5 (by kernel_rfl) rfl rfl rfl rfl ?_
  intro b10 w11 hE12 hR13
  have hb15 : Ext w w11 := Ext.trans hb7 hE12
  have hL16 : w.heap.size ≤ w11.heap.size := Nat.le_trans hL8 hE12.size
  have hS17 : SH w11 w.heap.size [aBox 2 b10 [.int .i64 high_2], aBox 2 b2 [.int .i64 low_1]] := SH.add hS9 hE12 hL8 hR13
  refine WL.runk 1 [0, 4, 5] [(0, .slice a0' list_0.length c0'), (4, .pointer (some ⟨b2, 0, none⟩)), (5, .pointer (some ⟨b10, 0, none⟩))] (by kernel_rfl) ?_
  refine WL.nil ?_
  refine WQ.then_normal (hK1 _ _ _ ?_)
  refine WP.seq (fun K18 hK18 => ?_)
  refine WP.region ?_
  refine WL.runk 2 [7, 8] [(7, .slice a0' list_0.length c0'), (8, .func (.func 82) #[] #[.pointer (some ⟨b2, 0, none⟩), .pointer (some ⟨b10, 0, none⟩)])] (by kernel_rfl) ?_
  obtain ⟨x19, hx20, hm⟩ := bindE hm
  refine WL.call 81 #[.slice a0' list_0.length c0', .func (.func 82) #[] #[.pointer (some ⟨b2, 0, none⟩), .pointer (some ⟨b10, 0, none⟩)]] rfl rfl (by kernel_rfl) (c_81_82 n list_0 a0' c0' low_1 b2 0 high_2 b10 0 w11 hx20 (Rd.below h0 hb15) hle0 (SH.boxRd (SH.front 1 hS17)) (SH.boxRd (SH.front 0 hS17))) ?_
  rintro _ w21 ⟨rfl, hE22⟩
  refine ⟨_, rfl, ?_⟩
  have hb24 : Ext w w21 := Ext.trans hb15 hE22
  have hL25 : w.heap.size ≤ w21.heap.size := Nat.le_trans hL16 hE22.size
  have hS26 : SH w21 w.heap.size [aBox 2 b10 [.int .i64 high_2], aBox 2 b2 [.int .i64 low_1]] := SH.ext hS17 hE22
  refine WL.runk 1 [6] [(6, .bool x19)] (by kernel_rfl) ?_
  refine WL.nil ?_
  refine WQ.then_normal (hK18 _ _ _ ?_)
  refine WP.ret ?_
  obtain rfl := Option.some.inj hm
  exact WQ.ret1 _ rfl rfl ⟨rfl, hb24⟩

theorem c_22 (n : Nat) (short_0 : Int) (inside_1 : Int) (heel_2 : Int) (sole_3 : Int) (w : World) {r : List Int × Int} (hm : m_impl_RaiseFor n short_0 inside_1 heel_2 sole_3 = some r)  :
    CallV Try.prog 22 #[.int .i64 short_0, .int .i64 inside_1, .int .i64 heel_2, .int .i64 sole_3] w (fun v w' => ∃ (ra0 : Option Addr) (rc0 : Nat), v = .tuple #[.slice ra0 r.1.length rc0, .int .i64 r.2] ∧ Ext w w' ∧ SH w' w.heap.size [aOwn fInt 2 ra0 rc0 r.1]) := by
  unfold m_impl_RaiseFor at hm
  refine CallV.enter Try.func22 rfl (by kernel_rfl) Try.ntmps22 (env := [(0, .int .i64 short_0), (1, .int .i64 inside_1), (2, .int .i64 heel_2), (3, .int .i64 sole_3)]) ⟨rfl, rfl, rfl, rfl, trivial⟩ ?_
  refine WP.seq (fun K1 hK1 => ?_)
  refine WP.region ?_
  refine WL.runk 2 [0, 1, 2, 3] [(0, .int .i64 short_0), (1, .int .i64 inside_1), (2, .int .i64 heel_2), (3, .int .i64 sole_3)] (by kernel_rfl) ?_
  refine WL.nil ?_
  refine WQ.then_normal (hK1 _ _ _ ?_)
  refine WP.seq (fun K2 hK2 => ?_)
  refine WP.seq (fun K3 hK3 => ?_)
  refine WP.region ?_
  refine WL.runk 4 [0, 1, 2, 3, 13, 14, 15, 16] [(0, .int .i64 short_0), (1, .int .i64 inside_1), (2, .int .i64 heel_2), (3, .int .i64 sole_3), (13, .int .i64 short_0), (14, .int .i64 inside_1), (15, .int .i64 heel_2), (16, .int .i64 sole_3)] (by kernel_rfl) ?_
  refine WL.row fInt 2 ([short_0, inside_1, heel_2, sole_3] : List Int) 4 #[.int .i64 short_0, .int .i64 inside_1, .int .i64 heel_2, .int .i64 sole_3] 17 (by kernel_rfl) rfl rfl rfl rfl rfl rfl rfl ?_
  intro a4 c5 w6 hE7 hR8
  have hb10 : Ext w w6 := Ext.trans (Ext.refl w) hE7
  have hL11 : w.heap.size ≤ w6.heap.size := Nat.le_trans (Nat.le_refl _) hE7.size
  have hS12 : SH w6 w.heap.size [aOwn fInt 2 a4 c5 ([short_0, inside_1, heel_2, sole_3] : List Int)] := SH.add (SH.nil _ _) hE7 (Nat.le_refl _) hR8
  obtain ⟨x13, hx14, hm⟩ := bindE hm
  refine WL.call 58 #[.slice a4 (([short_0, inside_1, heel_2, sole_3] : List Int).length) c5, .int .i64 0, .int .i64 400] rfl rfl (by kernel_rfl) (c_58 n ([short_0, inside_1, heel_2, sole_3] : List Int) a4 c5 0 400 w6 hx14 (SH.rd (SH.front 0 hS12)) (SH.le (SH.front 0 hS12)).1) ?_
  rintro _ w15 ⟨rfl, hE16⟩
  refine ⟨_, rfl, ?_⟩
  have hb18 : Ext w w15 := Ext.trans hb10 hE16
  have hL19 : w.heap.size ≤ w15.heap.size := Nat.le_trans hL11 hE16.size
  have hS20 : SH w15 w.heap.size [aOwn fInt 2 a4 c5 ([short_0, inside_1, heel_2, sole_3] : List Int)] := SH.ext hS12 hE16
  refine WL.sub [(0, .int .i64 short_0), (1, .int .i64 inside_1), (2, .int .i64 heel_2), (3, .int .i64 sole_3), (18, .bool x13)] ⟨rfl, rfl, rfl, rfl, rfl, trivial⟩ ?_
  refine WL.nil ?_
  refine WQ.then_normal (hK3 _ _ _ ?_)
  refine WP.cond x13 rfl rfl (fun hc21 => ?_) (fun hc21 => ?_)
  · have hm := iteT hm hc21
    refine WP.seq (fun K22 hK22 => ?_)
    refine WP.region ?_
    refine WL.runk 2 [8, 9] [(8, .slice none 0 0), (9, .int .i64 2)] (by kernel_rfl) ?_
    refine WL.nil ?_
    refine WQ.then_normal (hK22 _ _ _ ?_)
    refine WP.ret ?_
    refine WQ.then_ret ?_
    obtain rfl := Option.some.inj hm
    have hS24 : SH w15 w.heap.size [aOwn fInt 2 none 0 ([] : List Int), aOwn fInt 2 a4 c5 ([short_0, inside_1, heel_2, sole_3] : List Int)] := SH.nilOwn hS20
    exact WQ.ret2 _ _ rfl rfl rfl ⟨_, _, rfl, hb18, (SH.take 1 hS24)⟩
  have hm := iteF hm hc21
  refine WP.skip ?_
  refine WQ.then_normal (hK2 _ _ _ ?_)
  refine WP.seq (fun K25 hK25 => ?_)
  refine WP.region ?_
  refine WL.runk 4 [0, 2, 3, 10] [(0, .int .i64 short_0), (2, .int .i64 heel_2), (3, .int .i64 sole_3), (10, .int .i64 (imin short_0 inside_1))] (by kernel_rfl) ?_
  refine WL.nil ?_
  refine WQ.then_normal (hK25 _ _ _ ?_)
  refine WP.seq (fun K26 hK26 => ?_)
  refine WP.region ?_
  refine WL.runk 6 [0, 3, 10, 11] [(0, .int .i64 short_0), (3, .int .i64 sole_3), (10, .int .i64 (imin short_0 inside_1)), (11, .int .i64 (imin (wI64 (short_0 - (imin short_0 inside_1))) heel_2))] (by kernel_rfl) ?_
  refine WL.nil ?_
  refine WQ.then_normal (hK26 _ _ _ ?_)
  refine WP.seq (fun K27 hK27 => ?_)
  refine WP.region ?_
  refine WL.runk 8 [0, 10, 11, 12] [(0, .int .i64 short_0), (10, .int .i64 (imin short_0 inside_1)), (11, .int .i64 (imin (wI64 (short_0 - (imin short_0 inside_1))) heel_2)), (12, .int .i64 (imin (wI64 ((wI64 (short_0 - (imin short_0 inside_1))) - (imin (wI64 (short_0 - (imin short_0 inside_1))) heel_2))) sole_3))] (by kernel_rfl) ?_
  refine WL.nil ?_
  refine WQ.then_normal (hK27 _ _ _ ?_)
  refine WP.seq (fun K28 hK28 => ?_)
  refine WP.seq (fun K29 hK29 => ?_)
  refine WP.region ?_
  refine WL.runk 7 [10, 11, 12, 40] [(10, .int .i64 (imin short_0 inside_1)), (11, .int .i64 (imin (wI64 (short_0 - (imin short_0 inside_1))) heel_2)), (12, .int .i64 (imin (wI64 ((wI64 (short_0 - (imin short_0 inside_1))) - (imin (wI64 (short_0 - (imin short_0 inside_1))) heel_2))) sole_3)), (40, .bool (decide ((wI64 ((wI64 ((imin short_0 inside_1) + (imin (wI64 (short_0 - (imin short_0 inside_1))) heel_2))) + (imin (wI64 ((wI64 (short_0 - (imin short_0 inside_1))) - (imin (wI64 (short_0 - (imin short_0 inside_1))) heel_2))) sole_3))) < short_0)))] (by kernel_rfl) ?_
  refine WL.nil ?_
  refine WQ.then_normal (hK29 _ _ _ ?_)
  refine WP.cond (decide ((wI64 ((wI64 ((imin short_0 inside_1) + (imin (wI64 (short_0 - (imin short_0 inside_1))) heel_2))) + (imin (wI64 ((wI64 (short_0 - (imin short_0 inside_1))) - (imin (wI64 (short_0 - (imin short_0 inside_1))) heel_2))) sole_3))) < short_0)) rfl rfl (fun hc30 => ?_) (fun hc30 => ?_)
  · have hm := iteT hm hc30
    refine WP.seq (fun K31 hK31 => ?_)
    refine WP.region ?_
    refine WL.runk 2 [8, 9] [(8, .slice none 0 0), (9, .int .i64 10)] (by kernel_rfl) ?_
    refine WL.nil ?_
    refine WQ.then_normal (hK31 _ _ _ ?_)
    refine WP.ret ?_
    refine WQ.then_ret ?_
    obtain rfl := Option.some.inj hm
    have hS33 : SH w15 w.heap.size [aOwn fInt 2 none 0 ([] : List Int), aOwn fInt 2 a4 c5 ([short_0, inside_1, heel_2, sole_3] : List Int)] := SH.nilOwn hS20
    exact WQ.ret2 _ _ rfl rfl rfl ⟨_, _, rfl, hb18, (SH.take 1 hS33)⟩
  have hm := iteF hm hc30
  refine WP.skip ?_
  refine WQ.then_normal (hK28 _ _ _ ?_)
  refine WP.seq (fun K34 hK34 => ?_)
  refine WP.region ?_
  refine WL.runk 5 [41, 44, 45] [(41, .int .i64 (imin short_0 inside_1)), (44, .int .i64 (wI64 ((imin (wI64 (short_0 - (imin short_0 inside_1))) heel_2) + (imin (wI64 ((wI64 (short_0 - (imin short_0 inside_1))) - (imin (wI64 (short_0 - (imin short_0 inside_1))) heel_2))) sole_3)))), (45, .int .i64 (imin (wI64 ((wI64 (short_0 - (imin short_0 inside_1))) - (imin (wI64 (short_0 - (imin short_0 inside_1))) heel_2))) sole_3))] (by kernel_rfl) ?_
  refine WL.row fInt 2 ([(imin short_0 inside_1), (wI64 ((imin (wI64 (short_0 - (imin short_0 inside_1))) heel_2) + (imin (wI64 ((wI64 (short_0 - (imin short_0 inside_1))) - (imin (wI64 (short_0 - (imin short_0 inside_1))) heel_2))) sole_3))), (imin (wI64 ((wI64 (short_0 - (imin short_0 inside_1))) - (imin (wI64 (short_0 - (imin short_0 inside_1))) heel_2))) sole_3)] : List Int) 3 #[.int .i64 (imin short_0 inside_1), .int .i64 (wI64 ((imin (wI64 (short_0 - (imin short_0 inside_1))) heel_2) + (imin (wI64 ((wI64 (short_0 - (imin short_0 inside_1))) - (imin (wI64 (short_0 - (imin short_0 inside_1))) heel_2))) sole_3))), .int .i64 (imin (wI64 ((wI64 (short_0 - (imin short_0 inside_1))) - (imin (wI64 (short_0 - (imin short_0 inside_1))) heel_2))) sole_3)] 46 (by kernel_rfl) rfl rfl rfl rfl rfl rfl rfl ?_
  intro a35 c36 w37 hE38 hR39
  have hb41 : Ext w w37 := Ext.trans hb18 hE38
  have hL42 : w.heap.size ≤ w37.heap.size := Nat.le_trans hL19 hE38.size
  have hS43 : SH w37 w.heap.size [aOwn fInt 2 a35 c36 ([(imin short_0 inside_1), (wI64 ((imin (wI64 (short_0 - (imin short_0 inside_1))) heel_2) + (imin (wI64 ((wI64 (short_0 - (imin short_0 inside_1))) - (imin (wI64 (short_0 - (imin short_0 inside_1))) heel_2))) sole_3))), (imin (wI64 ((wI64 (short_0 - (imin short_0 inside_1))) - (imin (wI64 (short_0 - (imin short_0 inside_1))) heel_2))) sole_3)] : List Int), aOwn fInt 2 a4 c5 ([short_0, inside_1, heel_2, sole_3] : List Int)] := SH.add hS20 hE38 hL19 hR39
  refine WL.runk 2 [8, 9] [(8, .slice a35 (([(imin short_0 inside_1), (wI64 ((imin (wI64 (short_0 - (imin short_0 inside_1))) heel_2) + (imin (wI64 ((wI64 (short_0 - (imin short_0 inside_1))) - (imin (wI64 (short_0 - (imin short_0 inside_1))) heel_2))) sole_3))), (imin (wI64 ((wI64 (short_0 - (imin short_0 inside_1))) - (imin (wI64 (short_0 - (imin short_0 inside_1))) heel_2))) sole_3)] : List Int).length) c36), (9, .int .i64 0)] (by kernel_rfl) ?_
  refine WL.nil ?_
  refine WQ.then_normal (hK34 _ _ _ ?_)
  refine WP.ret ?_
  obtain rfl := Option.some.inj hm
  exact WQ.ret2 _ _ rfl rfl rfl ⟨_, _, rfl, hb41, (SH.take 1 hS43)⟩

theorem c_62 (n : Nat) (c_0 : SChange) (w : World) {r : Bool} (hm : m_impl_validChange n c_0 = some r)  :
    CallV Try.prog 62 #[.agg #[.int .i64 c_0.Kind, .int .i64 c_0.Amount]] w (fun v w' => v = .bool r ∧ Ext w w') := by
  unfold m_impl_validChange at hm
  refine CallV.enter Try.func62 rfl (by kernel_rfl) Try.ntmps62 (env := [(0, .agg #[.int .i64 c_0.Kind, .int .i64 c_0.Amount])]) ⟨rfl, trivial⟩ ?_
  refine WP.seq (fun K1 hK1 => ?_)
  refine WP.region ?_
  refine WL.box 42 [.int .i64 c_0.Kind, .int .i64 c_0.Amount] 1 (by kernel_rfl) rfl rfl rfl rfl ?_
  intro b2 w3 hE4 hR5
  have hb7 : Ext w w3 := Ext.trans (Ext.refl w) hE4
  have hL8 : w.heap.size ≤ w3.heap.size := Nat.le_trans (Nat.le_refl _) hE4.size
  have hS9 : SH w3 w.heap.size [aBox 42 b2 [.int .i64 c_0.Kind, .int .i64 c_0.Amount]] := SH.add (SH.nil _ _) hE4 (Nat.le_refl _) hR5
  refine WL.runk 1 [1] [(1, .pointer (some ⟨b2, 0, none⟩))] (by kernel_rfl) ?_
  refine WL.nil ?_
  refine WQ.then_normal (hK1 _ _ _ ?_)
  refine WP.seq (fun K10 hK10 => ?_)
  refine WP.region ?_
  refine WL.runk 1 [1, 4] [(1, .pointer (some ⟨b2, 0, none⟩)), (4, .pointer (some ⟨b2, 0, none⟩))] (by kernel_rfl) ?_
  refine WL.st (.int .i64 c_0.Kind) (ST.load (cell_ext (SH.boxAt (SH.front 0 hS9) 0 _ rfl)) rfl rfl Try.underlying2 rfl) rfl rfl rfl ?_
  obtain ⟨x11, hx12, hm⟩ := bindE hm
  refine WL.call 53 #[.int .i64 c_0.Kind] rfl rfl (by kernel_rfl) (c_53 n c_0.Kind w3 hx12 ) ?_
  rintro _ w13 ⟨rfl, hE14⟩
  refine ⟨_, rfl, ?_⟩
  have hb16 : Ext w w13 := Ext.trans hb7 hE14
  have hL17 : w.heap.size ≤ w13.heap.size := Nat.le_trans hL8 hE14.size
  have hS18 : SH w13 w.heap.size [aBox 42 b2 [.int .i64 c_0.Kind, .int .i64 c_0.Amount]] := SH.ext hS9 hE14
  refine WL.runk 1 [1, 3] [(1, .pointer (some ⟨b2, 0, none⟩)), (3, .int .i64 x11)] (by kernel_rfl) ?_
  refine WL.nil ?_
  refine WQ.then_normal (hK10 _ _ _ ?_)
  refine WP.seq (fun K19 hK19 => ?_)
  obtain ⟨x30, hx31, hm⟩ := bindE hm
  refine WP.cut (fun env' w' => env' = [(2, .bool x30)] ∧ Ext w w' ∧ w.heap.size ≤ w'.heap.size ∧ SH w' w.heap.size [aBox 42 b2 [.int .i64 c_0.Kind, .int .i64 c_0.Amount]]) ?_ ?_
  rotate_left
  · clear hx31
    rintro _ w42 ⟨rfl, hb43, hL44, hS45⟩
    refine WQ.then_normal (hK19 _ _ _ ?_)
    refine WP.ret ?_
    obtain rfl := Option.some.inj hm
    exact WQ.ret1 _ rfl rfl ⟨rfl, hb43⟩
  have hm := hx31; clear hx31
  refine WP.region ?_
  refine WL.runk 3 [1, 3, 9] [(1, .pointer (some ⟨b2, 0, none⟩)), (3, .int .i64 x11), (9, .bool (decide (x11 > 0)))] (by kernel_rfl) ?_
  refine WL.case (decide (x11 > 0)) [9] ⟨rfl, trivial⟩ (fun hc32 => ?_) (fun hc32 => ?_)
  rotate_left
  · have hm := iteF hm hc32
    refine WL.runk 13 [2] [(2, .bool false)] (by kernel_rfl) ?_
    refine WL.nil ?_
    obtain rfl := Option.some.inj hm
    exact WQ.post' ⟨rfl, hb16, hL17, hS18⟩ ⟨rfl, trivial⟩
  have hm := iteT hm hc32
  refine WL.runk 1 [1, 3, 9, 10] [(1, .pointer (some ⟨b2, 0, none⟩)), (3, .int .i64 x11), (9, .bool true), (10, .pointer (some ⟨b2, 1, none⟩))] (by kernel_rfl) ?_
  refine WL.st (.int .i64 c_0.Amount) (ST.load (cell_ext (SH.boxAt (SH.front 0 hS18) 1 _ rfl)) rfl rfl Try.underlying2 rfl) rfl rfl rfl ?_
  refine WL.runk 3 [1, 3, 14] [(1, .pointer (some ⟨b2, 0, none⟩)), (3, .int .i64 x11), (14, .bool (c_0.Amount != 0))] (by kernel_rfl) ?_
  refine WL.case (c_0.Amount != 0) [14] ⟨rfl, trivial⟩ (fun hc33 => ?_) (fun hc33 => ?_)
  rotate_left
  · have hm := iteF hm hc33
    refine WL.runk 8 [2] [(2, .bool false)] (by kernel_rfl) ?_
    refine WL.nil ?_
    obtain rfl := Option.some.inj hm
    exact WQ.post' ⟨rfl, hb16, hL17, hS18⟩ ⟨rfl, trivial⟩
  have hm := iteT hm hc33
  refine WL.runk 1 [3, 14, 15] [(3, .int .i64 x11), (14, .bool true), (15, .pointer (some ⟨b2, 1, none⟩))] (by kernel_rfl) ?_
  refine WL.st (.int .i64 c_0.Amount) (ST.load (cell_ext (SH.boxAt (SH.front 0 hS18) 1 _ rfl)) rfl rfl Try.underlying2 rfl) rfl rfl rfl ?_
  refine WL.runk 3 [14, 16, 18, 19] [(14, .bool true), (16, .int .i64 c_0.Amount), (18, .int .i64 (wI64 (0 - x11))), (19, .int .i64 x11)] (by kernel_rfl) ?_
  obtain ⟨x34, hx35, hm⟩ := bindE hm
  refine WL.call 66 #[.int .i64 c_0.Amount, .int .i64 (wI64 (0 - x11)), .int .i64 x11] rfl rfl (by kernel_rfl) (c_66 n c_0.Amount (wI64 (0 - x11)) x11 w13 hx35 ) ?_
  rintro _ w36 ⟨rfl, hE37⟩
  refine ⟨_, rfl, ?_⟩
  have hb39 : Ext w w36 := Ext.trans hb16 hE37
  have hL40 : w.heap.size ≤ w36.heap.size := Nat.le_trans hL17 hE37.size
  have hS41 : SH w36 w.heap.size [aBox 42 b2 [.int .i64 c_0.Kind, .int .i64 c_0.Amount]] := SH.ext hS18 hE37
  refine WL.runk 2 [2] [(2, .bool x34)] (by kernel_rfl) ?_
  refine WL.nil ?_
  obtain rfl := Option.some.inj hm
  exact WQ.post' ⟨rfl, hb39, hL40, hS41⟩ ⟨rfl, trivial⟩

theorem c_61 (n : Nat) (c_0 : SChange) (w : World) {r : Bool} (hm : m_impl_ValidChanges_1 n c_0 = some r)  :
    CallV Try.prog 61 #[.agg #[.int .i64 c_0.Kind, .int .i64 c_0.Amount]] w (fun v w' => v = .bool r ∧ Ext w w') := by
  unfold m_impl_ValidChanges_1 at hm
  refine CallV.enter Try.func61 rfl (by kernel_rfl) Try.ntmps61 (env := [(0, .agg #[.int .i64 c_0.Kind, .int .i64 c_0.Amount])]) ⟨rfl, trivial⟩ ?_
  refine WP.seq (fun K1 hK1 => ?_)
  refine WP.region ?_
  refine WL.box 42 [.int .i64 c_0.Kind, .int .i64 c_0.Amount] 1 (by kernel_rfl) rfl rfl rfl rfl ?_
  intro b2 w3 hE4 hR5
  have hb7 : Ext w w3 := Ext.trans (Ext.refl w) hE4
  have hL8 : w.heap.size ≤ w3.heap.size := Nat.le_trans (Nat.le_refl _) hE4.size
  have hS9 : SH w3 w.heap.size [aBox 42 b2 [.int .i64 c_0.Kind, .int .i64 c_0.Amount]] := SH.add (SH.nil _ _) hE4 (Nat.le_refl _) hR5
  refine WL.runk 1 [1] [(1, .pointer (some ⟨b2, 0, none⟩))] (by kernel_rfl) ?_
  refine WL.nil ?_
  refine WQ.then_normal (hK1 _ _ _ ?_)
  refine WP.seq (fun K10 hK10 => ?_)
  refine WP.region ?_
  refine WL.st (.agg #[.int .i64 c_0.Kind, .int .i64 c_0.Amount]) (ST.loadAgg (vs := [.int .i64 c_0.Kind, .int .i64 c_0.Amount]) (fun j v hv => SH.boxPart (us := [.int .i64 c_0.Kind, .int .i64 c_0.Amount]) (SH.front 0 hS9) 0 rfl j v hv) rfl rfl rfl Try.underlying42 rfl (info42).1 (info42).2.1) rfl rfl rfl ?_
  obtain ⟨x11, hx12, hm⟩ := bindE hm
  refine WL.call 62 #[.agg #[.int .i64 c_0.Kind, .int .i64 c_0.Amount]] rfl rfl (by kernel_rfl) (c_62 n c_0 w3 hx12 ) ?_
  rintro _ w13 ⟨rfl, hE14⟩
  refine ⟨_, rfl, ?_⟩
  have hb16 : Ext w w13 := Ext.trans hb7 hE14
  have hL17 : w.heap.size ≤ w13.heap.size := Nat.le_trans hL8 hE14.size
  have hS18 : SH w13 w.heap.size [aBox 42 b2 [.int .i64 c_0.Kind, .int .i64 c_0.Amount]] := SH.ext hS9 hE14
  refine WL.runk 2 [2] [(2, .bool (!x11))] (by kernel_rfl) ?_
  refine WL.nil ?_
  refine WQ.then_normal (hK10 _ _ _ ?_)
  refine WP.ret ?_
  obtain rfl := Option.some.inj hm
  exact WQ.ret1 _ rfl rfl ⟨rfl, hb16⟩

theorem c_68_61 (n : Nat) (s_0 : List SChange) (a0' : Option Addr) (c0' : Nat) (w : World) {r : Int} (hm : m_slices_IndexFunc_impl_Change_impl_Change_f61 n s_0 = some r) (h0 : Rd fChange.ty w a0' s_0) (_hle0 : s_0.length ≤ c0') :
    CallV Try.prog 68 #[.slice a0' s_0.length c0', .func (.func 61) #[] #[]] w (fun v w' => v = .int .i64 r ∧ Ext w w') := by
  unfold m_slices_IndexFunc_impl_Change_impl_Change_f61 at hm
  refine CallV.enter Try.func68 rfl (by kernel_rfl) Try.ntmps68 (env := [(0, .slice a0' s_0.length c0'), (1, .func (.func 61) #[] #[])]) ⟨rfl, rfl, trivial⟩ ?_
  refine WP.seq (fun K1 hK1 => ?_)
  refine WP.region ?_
  refine WL.runk 1 [0, 1] [(0, .slice a0' s_0.length c0'), (1, .func (.func 61) #[] #[])] (by kernel_rfl) ?_
  refine WL.nil ?_
  refine WQ.then_normal (hK1 _ _ _ ?_)
  refine WP.seq (fun K2 hK2 => ?_)
  refine WP.seq (fun K3 hK3 => ?_)
  refine WP.region ?_
  refine WL.runk 3 [0, 1, 7, 8] [(0, .slice a0' s_0.length c0'), (1, .func (.func 61) #[] #[]), (7, .int .i64 (s_0.length : Int)), (8, .int .i64 0)] (by kernel_rfl) ?_
  refine WL.nil ?_
  refine WQ.then_normal (hK3 _ _ _ ?_)
  refine WP.block ?_
  obtain ⟨t15, ht16, hm⟩ := bindE hm
  have hmo10 := hm; clear hm
  refine WP.sub [(0, .slice a0' s_0.length c0'), (1, .func (.func 61) #[] #[]), (7, .int .i64 (s_0.length : Int)), (8, .int .i64 0)] ⟨rfl, rfl, rfl, rfl, trivial⟩ ?_
  refine WP.loop (fun n' env' w' => ∃ (st4 : Int) , env' = [(0, .slice a0' s_0.length c0'), (1, .func (.func 61) #[] #[]), (7, .int .i64 (s_0.length : Int)), (8, .int .i64 st4)] ∧ Ext w w' ∧ w.heap.size ≤ w'.heap.size ∧ SH w' w.heap.size [] ∧ loopN (m_slices_IndexFunc_impl_Change_impl_Change_f61_l1 n s_0) n' st4 = some t15) n ⟨0, rfl, (Ext.refl w), (Nat.le_refl _), (SH.nil _ _), ht16⟩ ?_
  rintro n12 _ w5 ⟨st4, rfl, hb6, hL7, hS8, hl9⟩ K11 hK11
  obtain ⟨n13, s14, rfl, hm, hl9⟩ := loopN_some hl9
  unfold m_slices_IndexFunc_impl_Change_impl_Change_f61_l1 at hm
  refine WP.seq (fun K17 hK17 => ?_)
  refine WP.region ?_
  refine WL.runk 1 [0, 1, 7, 8, 9] [(0, .slice a0' s_0.length c0'), (1, .func (.func 61) #[] #[]), (7, .int .i64 (s_0.length : Int)), (8, .int .i64 st4), (9, .bool (decide (st4 < (s_0.length : Int))))] (by kernel_rfl) ?_
  refine WL.nil ?_
  refine WQ.then_normal (hK17 _ _ _ ?_)
  refine WP.seq (fun K18 hK18 => ?_)
  refine WP.cond (decide (st4 < (s_0.length : Int))) rfl rfl (fun hc19 => ?_) (fun hc19 => ?_)
  rotate_left
  · have hm := iteF hm hc19
    refine WP.exit ?_
    refine WQ.then_exit ?_
    refine WQ.then_exit ?_
    refine WQ.block_here ?_
    obtain rfl := Option.some.inj hm
    obtain rfl := afterN_done hl9
    have hm := hmo10
    refine WQ.then_normal (hK2 _ _ _ ?_)
    refine WP.seq (fun K35 hK35 => ?_)
    refine WP.region ?_
    refine WL.runk 1 [4] [(4, .int .i64 (-1))] (by kernel_rfl) ?_
    refine WL.nil ?_
    refine WQ.then_normal (hK35 _ _ _ ?_)
    refine WP.ret ?_
    obtain rfl := Option.some.inj hm
    exact WQ.ret1 _ rfl rfl ⟨rfl, hb6⟩
  have hm := iteT hm hc19
  refine WP.skip ?_
  refine WQ.then_normal (hK18 _ _ _ ?_)
  refine WP.seq (fun K20 hK20 => ?_)
  refine WP.block ?_
  refine WP.seq (fun K21 hK21 => ?_)
  refine WP.region ?_
  refine WL.runk 2 [0, 1, 5, 7, 8] [(0, .slice a0' s_0.length c0'), (1, .func (.func 61) #[] #[]), (7, .int .i64 (s_0.length : Int)), (8, .int .i64 st4), (5, .int .i64 st4)] (by kernel_rfl) ?_
  refine WL.nil ?_
  refine WQ.then_normal (hK21 _ _ _ ?_)
  refine WP.seq (fun K22 hK22 => ?_)
  refine WP.region ?_
  refine WL.runk 3 [0, 1, 5, 7, 8, 11, 12, 13] [(0, .slice a0' s_0.length c0'), (1, .func (.func 61) #[] #[]), (7, .int .i64 (s_0.length : Int)), (8, .int .i64 st4), (5, .int .i64 st4), (11, .func (.func 61) #[] #[]), (12, .slice a0' s_0.length c0'), (13, .int .i64 st4)] (by kernel_rfl) ?_
  obtain ⟨x23, hx24, hm⟩ := bindE hm
  refine WL.st (.pointer (some (at_ a0' (Int.toNat st4 * 2)))) (ST.index (T := fChange.ty) (xs := s_0) (Rd.below h0 hb6) hx24 rfl rfl rfl Try.underlying28 (info42).1 (info42).2.1) rfl rfl rfl ?_
  refine WL.st (.agg #[.int .i64 x23.Kind, .int .i64 x23.Amount]) (ST.loadAgg (vs := fChange.leaf x23) (fun j v hv => Rd.flatA (F := fChange) (Rd.below h0 hb6) hx24 j hv) rfl rfl rfl Try.underlying42 rfl (info42).1 (info42).2.1) rfl rfl rfl ?_
  obtain ⟨x25, hx26, hm⟩ := bindE hm
  refine WL.call 61 #[.agg #[.int .i64 x23.Kind, .int .i64 x23.Amount]] rfl rfl (by kernel_rfl) (c_61 n x23 w5 hx26 ) ?_
  rintro _ w27 ⟨rfl, hE28⟩
  refine ⟨_, rfl, ?_⟩
  have hb30 : Ext w w27 := Ext.trans hb6 hE28
  have hL31 : w.heap.size ≤ w27.heap.size := Nat.le_trans hL7 hE28.size
  have hS32 : SH w27 w.heap.size [] := SH.ext hS8 hE28
  refine WL.sub [(0, .slice a0' s_0.length c0'), (1, .func (.func 61) #[] #[]), (7, .int .i64 (s_0.length : Int)), (8, .int .i64 st4), (5, .int .i64 st4), (16, .bool x25)] ⟨rfl, rfl, rfl, rfl, rfl, rfl, trivial⟩ ?_
  refine WL.nil ?_
  refine WQ.then_normal (hK22 _ _ _ ?_)
  refine WP.cond x25 rfl rfl (fun hc33 => ?_) (fun hc33 => ?_)
  rotate_left
  · have hm := iteF hm hc33
    refine WP.skip ?_
    refine WQ.block_normal ?_
    refine WQ.then_normal (hK20 _ _ _ ?_)
    refine WP.region ?_
    refine WL.runk 2 [0, 1, 7, 8] [(0, .slice a0' s_0.length c0'), (1, .func (.func 61) #[] #[]), (7, .int .i64 (s_0.length : Int)), (8, .int .i64 (wI64 (st4 + 1)))] (by kernel_rfl) ?_
    refine WL.nil ?_
    obtain rfl := Option.some.inj hm
    exact WQ.round hK11 ⟨(wI64 (st4 + 1)), rfl, hb30, hL31, hS32, hl9⟩ (Nat.lt_succ_self _) ⟨rfl, rfl, rfl, rfl, trivial⟩
  have hm := iteT hm hc33
  refine WP.seq (fun K34 hK34 => ?_)
  refine WP.region ?_
  refine WL.runk 2 [4] [(4, .int .i64 st4)] (by kernel_rfl) ?_
  refine WL.nil ?_
  refine WQ.then_normal (hK34 _ _ _ ?_)
  refine WP.ret ?_
  refine WQ.block_ret ?_
  refine WQ.then_ret ?_
  refine WQ.then_ret ?_
  refine WQ.block_ret ?_
  refine WQ.then_ret ?_
  obtain rfl := Option.some.inj hm
  obtain rfl := afterN_done hl9
  have hm := hmo10
  obtain rfl := Option.some.inj hm
  exact WQ.ret1 _ rfl rfl ⟨rfl, hb30⟩

theorem c_60_61 (n : Nat) (s_0 : List SChange) (a0' : Option Addr) (c0' : Nat) (w : World) {r : Bool} (hm : m_slices_ContainsFunc_impl_Change_impl_Change_f61 n s_0 = some r) (h0 : Rd fChange.ty w a0' s_0) (hle0 : s_0.length ≤ c0') :
    CallV Try.prog 60 #[.slice a0' s_0.length c0', .func (.func 61) #[] #[]] w (fun v w' => v = .bool r ∧ Ext w w') := by
  unfold m_slices_ContainsFunc_impl_Change_impl_Change_f61 at hm
  refine CallV.enter Try.func60 rfl (by kernel_rfl) Try.ntmps60 (env := [(0, .slice a0' s_0.length c0'), (1, .func (.func 61) #[] #[])]) ⟨rfl, rfl, trivial⟩ ?_
  refine WP.seq (fun K1 hK1 => ?_)
  refine WP.region ?_
  refine WL.runk 1 [0, 1] [(0, .slice a0' s_0.length c0'), (1, .func (.func 61) #[] #[])] (by kernel_rfl) ?_
  refine WL.nil ?_
  refine WQ.then_normal (hK1 _ _ _ ?_)
  refine WP.seq (fun K2 hK2 => ?_)
  refine WP.region ?_
  refine WL.runk 2 [5, 6] [(5, .slice a0' s_0.length c0'), (6, .func (.func 61) #[] #[])] (by kernel_rfl) ?_
  obtain ⟨x3, hx4, hm⟩ := bindE hm
  refine WL.call 68 #[.slice a0' s_0.length c0', .func (.func 61) #[] #[]] rfl rfl (by kernel_rfl) (c_68_61 n s_0 a0' c0' w hx4 (Rd.below h0 (Ext.refl w)) hle0) ?_
  rintro _ w5 ⟨rfl, hE6⟩
  refine ⟨_, rfl, ?_⟩
  have hb8 : Ext w w5 := Ext.trans (Ext.refl w) hE6
  have hL9 : w.heap.size ≤ w5.heap.size := Nat.le_trans (Nat.le_refl _) hE6.size
  have hS10 : SH w5 w.heap.size [] := SH.ext (SH.nil _ _) hE6
  refine WL.runk 2 [4] [(4, .bool (decide (x3 ≥ 0)))] (by kernel_rfl) ?_
  refine WL.nil ?_
  refine WQ.then_normal (hK2 _ _ _ ?_)
  refine WP.ret ?_
  obtain rfl := Option.some.inj hm
  exact WQ.ret1 _ rfl rfl ⟨rfl, hb8⟩

theorem c_27 (n : Nat) (list_0 : List SChange) (a0' : Option Addr) (c0' : Nat) (w : World) {r : Bool} (hm : m_impl_ValidChanges n list_0 = some r) (h0 : Rd fChange.ty w a0' list_0) (hle0 : list_0.length ≤ c0') :
    CallV Try.prog 27 #[.slice a0' list_0.length c0'] w (fun v w' => v = .bool r ∧ Ext w w') := by
  unfold m_impl_ValidChanges at hm
  refine CallV.enter Try.func27 rfl (by kernel_rfl) Try.ntmps27 (env := [(0, .slice a0' list_0.length c0')]) ⟨rfl, trivial⟩ ?_
  refine WP.seq (fun K1 hK1 => ?_)
  refine WP.region ?_
  refine WL.runk 1 [0] [(0, .slice a0' list_0.length c0')] (by kernel_rfl) ?_
  refine WL.nil ?_
  refine WQ.then_normal (hK1 _ _ _ ?_)
  refine WP.seq (fun K2 hK2 => ?_)
  obtain ⟨x12, hx13, hm⟩ := bindE hm
  refine WP.cut (fun env' w' => env' = [(2, .bool x12)] ∧ Ext w w' ∧ w.heap.size ≤ w'.heap.size ∧ SH w' w.heap.size []) ?_ ?_
  rotate_left
  · clear hx13
    rintro _ w23 ⟨rfl, hb24, hL25, hS26⟩
    refine WQ.then_normal (hK2 _ _ _ ?_)
    refine WP.ret ?_
    obtain rfl := Option.some.inj hm
    exact WQ.ret1 _ rfl rfl ⟨rfl, hb24⟩
  have hm := hx13; clear hx13
  refine WP.region ?_
  refine WL.runk 4 [0, 6] [(0, .slice a0' list_0.length c0'), (6, .bool (decide ((list_0.length : Int) ≤ 20)))] (by kernel_rfl) ?_
  refine WL.case (decide ((list_0.length : Int) ≤ 20)) [6] ⟨rfl, trivial⟩ (fun hc14 => ?_) (fun hc14 => ?_)
  rotate_left
  · have hm := iteF hm hc14
    refine WL.runk 5 [2] [(2, .bool false)] (by kernel_rfl) ?_
    refine WL.nil ?_
    obtain rfl := Option.some.inj hm
    exact WQ.post' ⟨rfl, (Ext.refl w), (Nat.le_refl _), (SH.nil _ _)⟩ ⟨rfl, trivial⟩
  have hm := iteT hm hc14
  refine WL.runk 1 [6, 7] [(6, .bool true), (7, .slice a0' list_0.length c0')] (by kernel_rfl) ?_
  obtain ⟨x15, hx16, hm⟩ := bindE hm
  refine WL.call 60 #[.slice a0' list_0.length c0', .func (.func 61) #[] #[]] rfl rfl (by kernel_rfl) (c_60_61 n list_0 a0' c0' w hx16 (Rd.below h0 (Ext.refl w)) hle0) ?_
  rintro _ w17 ⟨rfl, hE18⟩
  refine ⟨_, rfl, ?_⟩
  have hb20 : Ext w w17 := Ext.trans (Ext.refl w) hE18
  have hL21 : w.heap.size ≤ w17.heap.size := Nat.le_trans (Nat.le_refl _) hE18.size
  have hS22 : SH w17 w.heap.size [] := SH.ext (SH.nil _ _) hE18
  refine WL.runk 3 [2] [(2, .bool (!x15))] (by kernel_rfl) ?_
  refine WL.nil ?_
  obtain rfl := Option.some.inj hm
  exact WQ.post' ⟨rfl, hb20, hL21, hS22⟩ ⟨rfl, trivial⟩

theorem c_67 (n : Nat) (a_0 : Int) (b_1 : Int) (w : World) {r : Int} (hm : m_impl_apart n a_0 b_1 = some r)  :
    CallV Try.prog 67 #[.int .i64 a_0, .int .i64 b_1] w (fun v w' => v = .int .i64 r ∧ Ext w w') := by
  unfold m_impl_apart at hm
  refine CallV.enter Try.func67 rfl (by kernel_rfl) Try.ntmps67 (env := [(0, .int .i64 a_0), (1, .int .i64 b_1)]) ⟨rfl, rfl, trivial⟩ ?_
  refine WP.seq (fun K1 hK1 => ?_)
  refine WP.region ?_
  refine WL.runk 1 [0, 1] [(0, .int .i64 a_0), (1, .int .i64 b_1)] (by kernel_rfl) ?_
  refine WL.nil ?_
  refine WQ.then_normal (hK1 _ _ _ ?_)
  refine WP.seq (fun K2 hK2 => ?_)
  refine WP.region ?_
  refine WL.runk 8 [4] [(4, .int .i64 (imax (wI64 (a_0 - b_1)) (wI64 (b_1 - a_0))))] (by kernel_rfl) ?_
  refine WL.nil ?_
  refine WQ.then_normal (hK2 _ _ _ ?_)
  refine WP.ret ?_
  obtain rfl := Option.some.inj hm
  exact WQ.ret1 _ rfl rfl ⟨rfl, (Ext.refl w)⟩

theorem c_30 (n : Nat) (c_0 : SChange) (step_1 : Int) (w : World) {r : List Int × Int} (hm : m_impl_FittingsOf n c_0 step_1 = some r)  :
    CallV Try.prog 30 #[.agg #[.int .i64 c_0.Kind, .int .i64 c_0.Amount], .int .i64 step_1] w (fun v w' => ∃ (ra0 : Option Addr) (rc0 : Nat), v = .tuple #[.slice ra0 r.1.length rc0, .int .i64 r.2] ∧ Ext w w' ∧ SH w' w.heap.size [aOwn fInt 2 ra0 rc0 r.1]) := by
  unfold m_impl_FittingsOf at hm
  refine CallV.enter Try.func30 rfl (by kernel_rfl) Try.ntmps30 (env := [(0, .agg #[.int .i64 c_0.Kind, .int .i64 c_0.Amount]), (1, .int .i64 step_1)]) ⟨rfl, rfl, trivial⟩ ?_
  refine WP.seq (fun K1 hK1 => ?_)
  refine WP.region ?_
  refine WL.box 42 [.int .i64 c_0.Kind, .int .i64 c_0.Amount] 2 (by kernel_rfl) rfl rfl rfl rfl ?_
  intro b2 w3 hE4 hR5
  have hb7 : Ext w w3 := Ext.trans (Ext.refl w) hE4
  have hL8 : w.heap.size ≤ w3.heap.size := Nat.le_trans (Nat.le_refl _) hE4.size
  have hS9 : SH w3 w.heap.size [aBox 42 b2 [.int .i64 c_0.Kind, .int .i64 c_0.Amount]] := SH.add (SH.nil _ _) hE4 (Nat.le_refl _) hR5
  refine WL.runk 2 [1, 2] [(1, .int .i64 step_1), (2, .pointer (some ⟨b2, 0, none⟩))] (by kernel_rfl) ?_
  refine WL.nil ?_
  refine WQ.then_normal (hK1 _ _ _ ?_)
  refine WP.seq (fun K10 hK10 => ?_)
  refine WP.block ?_
  refine WP.seq (fun K11 hK11 => ?_)
  refine WP.region ?_
  refine WL.st (.agg #[.int .i64 c_0.Kind, .int .i64 c_0.Amount]) (ST.loadAgg (vs := [.int .i64 c_0.Kind, .int .i64 c_0.Amount]) (fun j v hv => SH.boxPart (us := [.int .i64 c_0.Kind, .int .i64 c_0.Amount]) (SH.front 0 hS9) 0 rfl j v hv) rfl rfl rfl Try.underlying42 rfl (info42).1 (info42).2.1) rfl rfl rfl ?_
  obtain ⟨x12, hx13, hm⟩ := bindE hm
  refine WL.call 62 #[.agg #[.int .i64 c_0.Kind, .int .i64 c_0.Amount]] rfl rfl (by kernel_rfl) (c_62 n c_0 w3 hx13 ) ?_
  rintro _ w14 ⟨rfl, hE15⟩
  refine ⟨_, rfl, ?_⟩
  have hb17 : Ext w w14 := Ext.trans hb7 hE15
  have hL18 : w.heap.size ≤ w14.heap.size := Nat.le_trans hL8 hE15.size
  have hS19 : SH w14 w.heap.size [aBox 42 b2 [.int .i64 c_0.Kind, .int .i64 c_0.Amount]] := SH.ext hS9 hE15
  refine WL.runk 2 [1, 2, 11] [(1, .int .i64 step_1), (2, .pointer (some ⟨b2, 0, none⟩)), (11, .bool (!x12))] (by kernel_rfl) ?_
  refine WL.nil ?_
  refine WQ.then_normal (hK11 _ _ _ ?_)
  refine WP.cond (!x12) rfl rfl (fun hc20 => ?_) (fun hc20 => ?_)
  · have hm := iteT hm hc20
    refine WP.seq (fun K21 hK21 => ?_)
    refine WP.region ?_
    refine WL.runk 2 [4, 5] [(4, .slice none 0 0), (5, .int .i64 1)] (by kernel_rfl) ?_
    refine WL.nil ?_
    refine WQ.then_normal (hK21 _ _ _ ?_)
    refine WP.ret ?_
    refine WQ.block_ret ?_
    refine WQ.then_ret ?_
    obtain rfl := Option.some.inj hm
    have hS23 : SH w14 w.heap.size [aOwn fInt 2 none 0 ([] : List Int), aBox 42 b2 [.int .i64 c_0.Kind, .int .i64 c_0.Amount]] := SH.nilOwn hS19
    exact WQ.ret2 _ _ rfl rfl rfl ⟨_, _, rfl, hb17, (SH.take 1 hS23)⟩
  have hm := iteF hm hc20
  refine WP.seq (fun K24 hK24 => ?_)
  refine WP.region ?_
  refine WL.runk 1 [1, 2, 16] [(1, .int .i64 step_1), (2, .pointer (some ⟨b2, 0, none⟩)), (16, .int .i64 step_1)] (by kernel_rfl) ?_
  obtain ⟨x25, hx26, hm⟩ := bindE hm
  refine WL.call 66 #[.int .i64 step_1, .int .i64 1, .int .i64 100] rfl rfl (by kernel_rfl) (c_66 n step_1 1 100 w14 hx26 ) ?_
  rintro _ w27 ⟨rfl, hE28⟩
  refine ⟨_, rfl, ?_⟩
  have hb30 : Ext w w27 := Ext.trans hb17 hE28
  have hL31 : w.heap.size ≤ w27.heap.size := Nat.le_trans hL18 hE28.size
  have hS32 : SH w27 w.heap.size [aBox 42 b2 [.int .i64 c_0.Kind, .int .i64 c_0.Amount]] := SH.ext hS19 hE28
  refine WL.runk 2 [1, 2, 15] [(1, .int .i64 step_1), (2, .pointer (some ⟨b2, 0, none⟩)), (15, .bool (!x25))] (by kernel_rfl) ?_
  refine WL.nil ?_
  refine WQ.then_normal (hK24 _ _ _ ?_)
  refine WP.cond (!x25) rfl rfl (fun hc33 => ?_) (fun hc33 => ?_)
  · have hm := iteT hm hc33
    refine WP.seq (fun K34 hK34 => ?_)
    refine WP.region ?_
    refine WL.runk 2 [4, 5] [(4, .slice none 0 0), (5, .int .i64 2)] (by kernel_rfl) ?_
    refine WL.nil ?_
    refine WQ.then_normal (hK34 _ _ _ ?_)
    refine WP.ret ?_
    refine WQ.block_ret ?_
    refine WQ.then_ret ?_
    obtain rfl := Option.some.inj hm
    have hS36 : SH w27 w.heap.size [aOwn fInt 2 none 0 ([] : List Int), aBox 42 b2 [.int .i64 c_0.Kind, .int .i64 c_0.Amount]] := SH.nilOwn hS32
    exact WQ.ret2 _ _ rfl rfl rfl ⟨_, _, rfl, hb30, (SH.take 1 hS36)⟩
  have hm := iteF hm hc33
  refine WP.skip ?_
  refine WQ.block_normal ?_
  refine WQ.then_normal (hK10 _ _ _ ?_)
  refine WP.seq (fun K37 hK37 => ?_)
  refine WP.region ?_
  refine WL.runk 1 [1, 2, 19] [(1, .int .i64 step_1), (2, .pointer (some ⟨b2, 0, none⟩)), (19, .pointer (some ⟨b2, 1, none⟩))] (by kernel_rfl) ?_
  refine WL.st (.int .i64 c_0.Amount) (ST.load (cell_ext (SH.boxAt (SH.front 0 hS32) 1 _ rfl)) rfl rfl Try.underlying2 rfl) rfl rfl rfl ?_
  obtain ⟨x38, hx39, hm⟩ := bindE hm
  refine WL.call 67 #[.int .i64 c_0.Amount, .int .i64 0] rfl rfl (by kernel_rfl) (c_67 n c_0.Amount 0 w27 hx39 ) ?_
  rintro _ w40 ⟨rfl, hE41⟩
  refine ⟨_, rfl, ?_⟩
  have hb43 : Ext w w40 := Ext.trans hb30 hE41
  have hL44 : w.heap.size ≤ w40.heap.size := Nat.le_trans hL31 hE41.size
  have hS45 : SH w40 w.heap.size [aBox 42 b2 [.int .i64 c_0.Kind, .int .i64 c_0.Amount]] := SH.ext hS32 hE41
  refine WL.runk 1 [1, 2, 6] [(1, .int .i64 step_1), (2, .pointer (some ⟨b2, 0, none⟩)), (6, .int .i64 x38)] (by kernel_rfl) ?_
  refine WL.nil ?_
  refine WQ.then_normal (hK37 _ _ _ ?_)
  refine WP.seq (fun K46 hK46 => ?_)
  refine WP.region ?_
  refine WL.runk 5 [2, 6, 25, 26] [(2, .pointer (some ⟨b2, 0, none⟩)), (6, .int .i64 x38), (25, .int .i64 (wI64 ((wI64 (x38 + step_1)) - 1))), (26, .int .i64 step_1)] (by kernel_rfl) ?_
  obtain ⟨x47, hx48, hm⟩ := bindE hm
  refine WL.st (.int .i64 x47) (ST.quo (k := .i64) hx48 rfl rfl rfl) rfl rfl rfl ?_
  refine WL.row fInt 2 ([] : List Int) 0 #[] 28 (by kernel_rfl) rfl rfl rfl rfl rfl rfl rfl ?_
  intro a49 c50 w51 hE52 hR53
  have hb55 : Ext w w51 := Ext.trans hb43 hE52
  have hL56 : w.heap.size ≤ w51.heap.size := Nat.le_trans hL44 hE52.size
  have hS57 : SH w51 w.heap.size [aOwn fInt 2 a49 c50 ([] : List Int), aBox 42 b2 [.int .i64 c_0.Kind, .int .i64 c_0.Amount]] := SH.add hS45 hE52 hL44 hR53
  refine WL.runk 2 [2, 6, 7, 8] [(2, .pointer (some ⟨b2, 0, none⟩)), (6, .int .i64 x38), (7, .int .i64 x47), (8, .slice a49 (([] : List Int).length) c50)] (by kernel_rfl) ?_
  refine WL.nil ?_
  refine WQ.then_normal (hK46 _ _ _ ?_)
  refine WP.seq (fun K58 hK58 => ?_)
  refine WP.seq (fun K59 hK59 => ?_)
  refine WP.region ?_
  refine WL.runk 2 [2, 6, 7, 8, 29, 30] [(2, .pointer (some ⟨b2, 0, none⟩)), (6, .int .i64 x38), (7, .int .i64 x47), (8, .slice a49 (([] : List Int).length) c50), (29, .int .i64 x47), (30, .int .i64 0)] (by kernel_rfl) ?_
  refine WL.nil ?_
  refine WQ.then_normal (hK59 _ _ _ ?_)
  refine WP.block ?_
  obtain ⟨t74, ht75, hm⟩ := bindE hm
  have hmo69 := hm; clear hm
  refine WP.sub [(2, .pointer (some ⟨b2, 0, none⟩)), (6, .int .i64 x38), (7, .int .i64 x47), (8, .slice a49 (([] : List Int).length) c50), (29, .int .i64 x47), (30, .int .i64 0)] ⟨rfl, rfl, rfl, rfl, rfl, rfl, trivial⟩ ?_
  refine WP.loop (fun n' env' w' => ∃ (st60 : List Int × Int) (a61 : Option Addr) (c62 : Nat), env' = [(2, .pointer (some ⟨b2, 0, none⟩)), (6, .int .i64 x38), (7, .int .i64 x47), (8, .slice a61 st60.1.length c62), (29, .int .i64 x47), (30, .int .i64 st60.2)] ∧ Ext w w' ∧ w.heap.size ≤ w'.heap.size ∧ SH w' w.heap.size [aOwn fInt 2 a61 c62 st60.1, aBox 42 b2 [.int .i64 c_0.Kind, .int .i64 c_0.Amount]] ∧ loopN (m_impl_FittingsOf_l1 n c_0 x38 x47) n' st60 = some t74) n ⟨(([] : List Int), 0), _, _, rfl, hb55, hL56, hS57, ht75⟩ ?_
  rintro n71 _ w64 ⟨st60, a61, c62, rfl, hb65, hL66, hS67, hl68⟩ K70 hK70
  obtain ⟨n72, s73, rfl, hm, hl68⟩ := loopN_some hl68
  unfold m_impl_FittingsOf_l1 at hm
  refine WP.seq (fun K76 hK76 => ?_)
  refine WP.region ?_
  refine WL.runk 1 [2, 6, 7, 8, 29, 30, 31] [(2, .pointer (some ⟨b2, 0, none⟩)), (6, .int .i64 x38), (7, .int .i64 x47), (8, .slice a61 st60.1.length c62), (29, .int .i64 x47), (30, .int .i64 st60.2), (31, .bool (decide (st60.2 < x47)))] (by kernel_rfl) ?_
  refine WL.nil ?_
  refine WQ.then_normal (hK76 _ _ _ ?_)
  refine WP.seq (fun K77 hK77 => ?_)
  refine WP.cond (decide (st60.2 < x47)) rfl rfl (fun hc78 => ?_) (fun hc78 => ?_)
  rotate_left
  · have hm := iteF hm hc78
    refine WP.exit ?_
    refine WQ.then_exit ?_
    refine WQ.then_exit ?_
    refine WQ.block_here ?_
    obtain rfl := Option.some.inj hm
    obtain rfl := afterN_done hl68
    have hm := hmo69
    refine WQ.then_normal (hK58 _ _ _ ?_)
    refine WP.seq (fun K122 hK122 => ?_)
    refine WP.region ?_
    refine WL.runk 3 [4, 5] [(4, .slice a61 st60.1.length c62), (5, .int .i64 0)] (by kernel_rfl) ?_
    refine WL.nil ?_
    refine WQ.then_normal (hK122 _ _ _ ?_)
    refine WP.ret ?_
    obtain rfl := Option.some.inj hm
    exact WQ.ret2 _ _ rfl rfl rfl ⟨_, _, rfl, hb65, (SH.take 1 hS67)⟩
  have hm := iteT hm hc78
  refine WP.skip ?_
  refine WQ.then_normal (hK77 _ _ _ ?_)
  refine WP.seq (fun K79 hK79 => ?_)
  refine WP.block ?_
  refine WP.seq (fun K80 hK80 => ?_)
  refine WP.region ?_
  refine WL.runk 2 [2, 6, 7, 8, 9, 29, 30] [(2, .pointer (some ⟨b2, 0, none⟩)), (6, .int .i64 x38), (7, .int .i64 x47), (8, .slice a61 st60.1.length c62), (29, .int .i64 x47), (30, .int .i64 st60.2), (9, .int .i64 st60.2)] (by kernel_rfl) ?_
  refine WL.nil ?_
  refine WQ.then_normal (hK80 _ _ _ ?_)
  refine WP.seq (fun K81 hK81 => ?_)
  refine WP.region ?_
  refine WL.runk 2 [2, 6, 7, 8, 9, 29, 30, 33, 34] [(2, .pointer (some ⟨b2, 0, none⟩)), (6, .int .i64 x38), (7, .int .i64 x47), (8, .slice a61 st60.1.length c62), (29, .int .i64 x47), (30, .int .i64 st60.2), (9, .int .i64 st60.2), (33, .int .i64 x38), (34, .int .i64 x47)] (by kernel_rfl) ?_
  obtain ⟨x82, hx83, hm⟩ := bindE hm
  refine WL.st (.int .i64 x82) (ST.quo (k := .i64) hx83 rfl rfl rfl) rfl rfl rfl ?_
  refine WL.runk 1 [2, 6, 7, 8, 9, 10, 29, 30] [(2, .pointer (some ⟨b2, 0, none⟩)), (6, .int .i64 x38), (7, .int .i64 x47), (8, .slice a61 st60.1.length c62), (29, .int .i64 x47), (30, .int .i64 st60.2), (9, .int .i64 st60.2), (10, .int .i64 x82)] (by kernel_rfl) ?_
  refine WL.nil ?_
  refine WQ.then_normal (hK81 _ _ _ ?_)
  refine WP.seq (fun K84 hK84 => ?_)
  refine WP.seq (fun K85 hK85 => ?_)
  refine WP.region ?_
  refine WL.runk 3 [2, 6, 7, 8, 10, 29, 30, 36, 37, 38] [(2, .pointer (some ⟨b2, 0, none⟩)), (6, .int .i64 x38), (7, .int .i64 x47), (8, .slice a61 st60.1.length c62), (29, .int .i64 x47), (30, .int .i64 st60.2), (10, .int .i64 x82), (36, .int .i64 st60.2), (37, .int .i64 x38), (38, .int .i64 x47)] (by kernel_rfl) ?_
  obtain ⟨x86, hx87, hm⟩ := bindE hm
  refine WL.st (.int .i64 x86) (ST.rem (k := .i64) hx87 rfl rfl rfl) rfl rfl rfl ?_
  refine WL.runk 1 [2, 6, 7, 8, 10, 29, 30, 40] [(2, .pointer (some ⟨b2, 0, none⟩)), (6, .int .i64 x38), (7, .int .i64 x47), (8, .slice a61 st60.1.length c62), (29, .int .i64 x47), (30, .int .i64 st60.2), (10, .int .i64 x82), (40, .bool (decide (st60.2 < x86)))] (by kernel_rfl) ?_
  refine WL.nil ?_
  refine WQ.then_normal (hK85 _ _ _ ?_)
  obtain ⟨x89, hx90, hm⟩ := bindE hm
  refine WP.cut (fun env' w' => env' = [(2, .pointer (some ⟨b2, 0, none⟩)), (6, .int .i64 x38), (7, .int .i64 x47), (8, .slice a61 st60.1.length c62), (29, .int .i64 x47), (30, .int .i64 st60.2), (10, .int .i64 x89)] ∧ Ext w w' ∧ w.heap.size ≤ w'.heap.size ∧ SH w' w.heap.size [aOwn fInt 2 a61 c62 st60.1, aBox 42 b2 [.int .i64 c_0.Kind, .int .i64 c_0.Amount]]) ?_ ?_
  · have hm := hx90; clear hx90
    refine WP.cond (decide (st60.2 < x86)) rfl rfl (fun hc88 => ?_) (fun hc88 => ?_)
    rotate_left
    · have hm := iteF hm hc88
      refine WP.skip ?_
      obtain rfl := Option.some.inj hm
      exact WQ.post' ⟨rfl, hb65, hL66, hS67⟩ ⟨rfl, rfl, rfl, rfl, rfl, rfl, rfl, trivial⟩
    have hm := iteT hm hc88
    refine WP.region ?_
    refine WL.runk 3 [2, 6, 7, 8, 10, 29, 30] [(2, .pointer (some ⟨b2, 0, none⟩)), (6, .int .i64 x38), (7, .int .i64 x47), (8, .slice a61 st60.1.length c62), (29, .int .i64 x47), (30, .int .i64 st60.2), (10, .int .i64 (wI64 (x82 + 1)))] (by kernel_rfl) ?_
    refine WL.nil ?_
    obtain rfl := Option.some.inj hm
    exact WQ.post' ⟨rfl, hb65, hL66, hS67⟩ ⟨rfl, rfl, rfl, rfl, rfl, rfl, rfl, trivial⟩
  clear hx90
  rintro _ w91 ⟨rfl, hb92, hL93, hS94⟩
  refine WQ.then_normal (hK84 _ _ _ ?_)
  refine WP.seq (fun K95 hK95 => ?_)
  refine WP.seq (fun K96 hK96 => ?_)
  refine WP.region ?_
  refine WL.runk 1 [2, 6, 7, 8, 10, 29, 30, 43] [(2, .pointer (some ⟨b2, 0, none⟩)), (6, .int .i64 x38), (7, .int .i64 x47), (8, .slice a61 st60.1.length c62), (29, .int .i64 x47), (30, .int .i64 st60.2), (10, .int .i64 x89), (43, .pointer (some ⟨b2, 1, none⟩))] (by kernel_rfl) ?_
  refine WL.st (.int .i64 c_0.Amount) (ST.load (cell_ext (SH.boxAt (SH.front 1 hS94) 1 _ rfl)) rfl rfl Try.underlying2 rfl) rfl rfl rfl ?_
  refine WL.runk 1 [2, 6, 7, 8, 10, 29, 30, 45] [(2, .pointer (some ⟨b2, 0, none⟩)), (6, .int .i64 x38), (7, .int .i64 x47), (8, .slice a61 st60.1.length c62), (29, .int .i64 x47), (30, .int .i64 st60.2), (10, .int .i64 x89), (45, .bool (decide (c_0.Amount < 0)))] (by kernel_rfl) ?_
  refine WL.nil ?_
  refine WQ.then_normal (hK96 _ _ _ ?_)
  obtain ⟨x98, hx99, hm⟩ := bindE hm
  refine WP.cut (fun env' w' => env' = [(2, .pointer (some ⟨b2, 0, none⟩)), (6, .int .i64 x38), (7, .int .i64 x47), (8, .slice a61 st60.1.length c62), (29, .int .i64 x47), (30, .int .i64 st60.2), (10, .int .i64 x98)] ∧ Ext w w' ∧ w.heap.size ≤ w'.heap.size ∧ SH w' w.heap.size [aOwn fInt 2 a61 c62 st60.1, aBox 42 b2 [.int .i64 c_0.Kind, .int .i64 c_0.Amount]]) ?_ ?_
  · have hm := hx99; clear hx99
    refine WP.cond (decide (c_0.Amount < 0)) rfl rfl (fun hc97 => ?_) (fun hc97 => ?_)
    rotate_left
    · have hm := iteF hm hc97
      refine WP.skip ?_
      obtain rfl := Option.some.inj hm
      exact WQ.post' ⟨rfl, hb92, hL93, hS94⟩ ⟨rfl, rfl, rfl, rfl, rfl, rfl, rfl, trivial⟩
    have hm := iteT hm hc97
    refine WP.region ?_
    refine WL.runk 3 [2, 6, 7, 8, 10, 29, 30] [(2, .pointer (some ⟨b2, 0, none⟩)), (6, .int .i64 x38), (7, .int .i64 x47), (8, .slice a61 st60.1.length c62), (29, .int .i64 x47), (30, .int .i64 st60.2), (10, .int .i64 (wI64 (0 - x89)))] (by kernel_rfl) ?_
    refine WL.nil ?_
    obtain rfl := Option.some.inj hm
    exact WQ.post' ⟨rfl, hb92, hL93, hS94⟩ ⟨rfl, rfl, rfl, rfl, rfl, rfl, rfl, trivial⟩
  clear hx99
  rintro _ w100 ⟨rfl, hb101, hL102, hS103⟩
  refine WQ.then_normal (hK95 _ _ _ ?_)
  refine WP.region ?_
  refine WL.runk 2 [2, 6, 7, 29, 30, 48, 49] [(2, .pointer (some ⟨b2, 0, none⟩)), (6, .int .i64 x38), (7, .int .i64 x47), (29, .int .i64 x47), (30, .int .i64 st60.2), (48, .slice a61 st60.1.length c62), (49, .int .i64 x98)] (by kernel_rfl) ?_
  refine WL.row fInt 2 ([x98] : List Int) 1 #[.int .i64 x98] 50 (by kernel_rfl) rfl rfl rfl rfl rfl rfl rfl ?_
  intro a104 c105 w106 hE107 hR108
  have hb110 : Ext w w106 := Ext.trans hb101 hE107
  have hL111 : w.heap.size ≤ w106.heap.size := Nat.le_trans hL102 hE107.size
  have hS112 : SH w106 w.heap.size [aOwn fInt 2 a104 c105 ([x98] : List Int), aOwn fInt 2 a61 c62 st60.1, aBox 42 b2 [.int .i64 c_0.Kind, .int .i64 c_0.Amount]] := SH.add hS103 hE107 hL102 hR108
  obtain ⟨x113, hx114, hm⟩ := bindE hm
  refine WL.append (F := fInt) (xs := st60.1) (ys := ([x98] : List Int)) 51 (SH.front 1 hS112) hL111 (SH.rd (SH.front 0 hS112)) hx114 rfl rfl rfl Try.underlying31 (info2).1 (info2).2.2.1 (info2).2.1 (info2).2.2.2 rfl rfl rfl rfl rfl ?_
  intro a115 c116 w117 hB118 hS119
  have hb120 : Ext w w117 := Below.trans hb110 hB118
  have hL121 : w.heap.size ≤ w117.heap.size := Nat.le_trans hL111 hB118.size
  refine WL.runk 1 [2, 6, 7, 8, 29, 30] [(2, .pointer (some ⟨b2, 0, none⟩)), (6, .int .i64 x38), (7, .int .i64 x47), (29, .int .i64 x47), (30, .int .i64 st60.2), (8, .slice a115 x113.length c116)] (by kernel_rfl) ?_
  refine WL.nil ?_
  refine WQ.block_normal ?_
  refine WQ.then_normal (hK79 _ _ _ ?_)
  refine WP.region ?_
  refine WL.runk 2 [2, 6, 7, 8, 29, 30] [(2, .pointer (some ⟨b2, 0, none⟩)), (6, .int .i64 x38), (7, .int .i64 x47), (29, .int .i64 x47), (30, .int .i64 (wI64 (st60.2 + 1))), (8, .slice a115 x113.length c116)] (by kernel_rfl) ?_
  refine WL.nil ?_
  obtain rfl := Option.some.inj hm
  exact WQ.round hK70 ⟨(x113, (wI64 (st60.2 + 1))), _, _, rfl, hb120, hL121, (SH.take 2 (SH.front 1 (SH.front 2 hS119))), hl68⟩ (Nat.lt_succ_self _) ⟨rfl, rfl, rfl, rfl, rfl, rfl, trivial⟩

theorem c_69 (n : Nat) (o_0 : SChange) (cap_1 : SChange) (b1' o1' : Nat) (w : World) {r : Bool} (hm : m_impl_FirstClash_1 n o_0 cap_1 = some r) (h1 : RdB w b1' o1' [.int .i64 cap_1.Kind, .int .i64 cap_1.Amount]) :
    CallV Try.prog 69 #[.agg #[.int .i64 o_0.Kind, .int .i64 o_0.Amount], .pointer (some ⟨b1', o1', none⟩)] w (fun v w' => v = .bool r ∧ Ext w w') := by
  unfold m_impl_FirstClash_1 at hm
  refine CallV.enter Try.func69 rfl (by kernel_rfl) Try.ntmps69 (env := [(0, .agg #[.int .i64 o_0.Kind, .int .i64 o_0.Amount]), (1, .pointer (some ⟨b1', o1', none⟩))]) ⟨rfl, rfl, trivial⟩ ?_
  refine WP.seq (fun K1 hK1 => ?_)
  refine WP.region ?_
  refine WL.box 42 [.int .i64 o_0.Kind, .int .i64 o_0.Amount] 2 (by kernel_rfl) rfl rfl rfl rfl ?_
  intro b2 w3 hE4 hR5
  have hb7 : Ext w w3 := Ext.trans (Ext.refl w) hE4
  have hL8 : w.heap.size ≤ w3.heap.size := Nat.le_trans (Nat.le_refl _) hE4.size
  have hS9 : SH w3 w.heap.size [aBox 42 b2 [.int .i64 o_0.Kind, .int .i64 o_0.Amount]] := SH.add (SH.nil _ _) hE4 (Nat.le_refl _) hR5
  refine WL.runk 1 [1, 2] [(1, .pointer (some ⟨b1', o1', none⟩)), (2, .pointer (some ⟨b2, 0, none⟩))] (by kernel_rfl) ?_
  refine WL.nil ?_
  refine WQ.then_normal (hK1 _ _ _ ?_)
  refine WP.seq (fun K10 hK10 => ?_)
  obtain ⟨x12, hx13, hm⟩ := bindE hm
  refine WP.cut (fun env' w' => env' = [(3, .bool x12)] ∧ Ext w w' ∧ w.heap.size ≤ w'.heap.size ∧ SH w' w.heap.size [aBox 42 b2 [.int .i64 o_0.Kind, .int .i64 o_0.Amount]]) ?_ ?_
  rotate_left
  · clear hx13
    rintro _ w15 ⟨rfl, hb16, hL17, hS18⟩
    refine WQ.then_normal (hK10 _ _ _ ?_)
    refine WP.ret ?_
    obtain rfl := Option.some.inj hm
    exact WQ.ret1 _ rfl rfl ⟨rfl, hb16⟩
  have hm := hx13; clear hx13
  refine WP.region ?_
  refine WL.runk 1 [1, 2, 4] [(1, .pointer (some ⟨b1', o1', none⟩)), (2, .pointer (some ⟨b2, 0, none⟩)), (4, .pointer (some ⟨b2, 0, none⟩))] (by kernel_rfl) ?_
  refine WL.st (.int .i64 o_0.Kind) (ST.load (cell_ext (SH.boxAt (SH.front 0 hS9) 0 _ rfl)) rfl rfl Try.underlying2 rfl) rfl rfl rfl ?_
  refine WL.runk 1 [1, 2, 5, 6] [(1, .pointer (some ⟨b1', o1', none⟩)), (2, .pointer (some ⟨b2, 0, none⟩)), (5, .int .i64 o_0.Kind), (6, .pointer (some ⟨b1', o1', none⟩))] (by kernel_rfl) ?_
  refine WL.st (.int .i64 cap_1.Kind) (ST.load (cell_ext (RdB.at (RdB.below h1 hb7) 0 _ rfl)) rfl rfl Try.underlying2 rfl) rfl rfl rfl ?_
  refine WL.runk 2 [1, 2, 9] [(1, .pointer (some ⟨b1', o1', none⟩)), (2, .pointer (some ⟨b2, 0, none⟩)), (9, .bool (o_0.Kind == cap_1.Kind))] (by kernel_rfl) ?_
  refine WL.case (o_0.Kind == cap_1.Kind) [9] ⟨rfl, trivial⟩ (fun hc14 => ?_) (fun hc14 => ?_)
  rotate_left
  · have hm := iteF hm hc14
    refine WL.runk 9 [3] [(3, .bool false)] (by kernel_rfl) ?_
    refine WL.nil ?_
    obtain rfl := Option.some.inj hm
    exact WQ.post' ⟨rfl, hb7, hL8, hS9⟩ ⟨rfl, trivial⟩
  have hm := iteT hm hc14
  refine WL.runk 1 [1, 9, 10] [(1, .pointer (some ⟨b1', o1', none⟩)), (9, .bool true), (10, .pointer (some ⟨b2, 1, none⟩))] (by kernel_rfl) ?_
  refine WL.st (.int .i64 o_0.Amount) (ST.load (cell_ext (SH.boxAt (SH.front 0 hS9) 1 _ rfl)) rfl rfl Try.underlying2 rfl) rfl rfl rfl ?_
  refine WL.runk 2 [9, 12, 13] [(9, .bool true), (12, .bool (decide (o_0.Amount < 0))), (13, .pointer (some ⟨b1', o1' + 1, none⟩))] (by kernel_rfl) ?_
  refine WL.st (.int .i64 cap_1.Amount) (ST.load (cell_ext (RdB.at (RdB.below h1 hb7) 1 _ rfl)) rfl rfl Try.underlying2 rfl) rfl rfl rfl ?_
  refine WL.runk 4 [3] [(3, .bool (!((decide (o_0.Amount < 0)) == (decide (cap_1.Amount < 0)))))] (by kernel_rfl) ?_
  refine WL.nil ?_
  obtain rfl := Option.some.inj hm
  exact WQ.post' ⟨rfl, hb7, hL8, hS9⟩ ⟨rfl, trivial⟩

theorem c_68_69 (n : Nat) (s_0 : List SChange) (a0' : Option Addr) (c0' : Nat) (cap_1_0 : SChange) (b1_0' o1_0' : Nat) (w : World) {r : Int} (hm : m_slices_IndexFunc_impl_Change_impl_Change_f69 n s_0 cap_1_0 = some r) (h0 : Rd fChange.ty w a0' s_0) (_hle0 : s_0.length ≤ c0') (h1_0 : RdB w b1_0' o1_0' [.int .i64 cap_1_0.Kind, .int .i64 cap_1_0.Amount]) :
    CallV Try.prog 68 #[.slice a0' s_0.length c0', .func (.func 69) #[] #[.pointer (some ⟨b1_0', o1_0', none⟩)]] w (fun v w' => v = .int .i64 r ∧ Ext w w') := by
  unfold m_slices_IndexFunc_impl_Change_impl_Change_f69 at hm
  refine CallV.enter Try.func68 rfl (by kernel_rfl) Try.ntmps68 (env := [(0, .slice a0' s_0.length c0'), (1, .func (.func 69) #[] #[.pointer (some ⟨b1_0', o1_0', none⟩)])]) ⟨rfl, rfl, trivial⟩ ?_
  refine WP.seq (fun K1 hK1 => ?_)
  refine WP.region ?_
  refine WL.runk 1 [0, 1] [(0, .slice a0' s_0.length c0'), (1, .func (.func 69) #[] #[.pointer (some ⟨b1_0', o1_0', none⟩)])] (by kernel_rfl) ?_
  refine WL.nil ?_
  refine WQ.then_normal (hK1 _ _ _ ?_)
  refine WP.seq (fun K2 hK2 => ?_)
  refine WP.seq (fun K3 hK3 => ?_)
  refine WP.region ?_
  refine WL.runk 3 [0, 1, 7, 8] [(0, .slice a0' s_0.length c0'), (1, .func (.func 69) #[] #[.pointer (some ⟨b1_0', o1_0', none⟩)]), (7, .int .i64 (s_0.length : Int)), (8, .int .i64 0)] (by kernel_rfl) ?_
  refine WL.nil ?_
  refine WQ.then_normal (hK3 _ _ _ ?_)
  refine WP.block ?_
  obtain ⟨t15, ht16, hm⟩ := bindE hm
  have hmo10 := hm; clear hm
  refine WP.sub [(0, .slice a0' s_0.length c0'), (1, .func (.func 69) #[] #[.pointer (some ⟨b1_0', o1_0', none⟩)]), (7, .int .i64 (s_0.length : Int)), (8, .int .i64 0)] ⟨rfl, rfl, rfl, rfl, trivial⟩ ?_
  refine WP.loop (fun n' env' w' => ∃ (st4 : Int) , env' = [(0, .slice a0' s_0.length c0'), (1, .func (.func 69) #[] #[.pointer (some ⟨b1_0', o1_0', none⟩)]), (7, .int .i64 (s_0.length : Int)), (8, .int .i64 st4)] ∧ Ext w w' ∧ w.heap.size ≤ w'.heap.size ∧ SH w' w.heap.size [] ∧ loopN (m_slices_IndexFunc_impl_Change_impl_Change_f69_l1 n s_0 cap_1_0) n' st4 = some t15) n ⟨0, rfl, (Ext.refl w), (Nat.le_refl _), (SH.nil _ _), ht16⟩ ?_
  rintro n12 _ w5 ⟨st4, rfl, hb6, hL7, hS8, hl9⟩ K11 hK11
  obtain ⟨n13, s14, rfl, hm, hl9⟩ := loopN_some hl9
  unfold m_slices_IndexFunc_impl_Change_impl_Change_f69_l1 at hm
  refine WP.seq (fun K17 hK17 => ?_)
  refine WP.region ?_
  refine WL.runk 1 [0, 1, 7, 8, 9] [(0, .slice a0' s_0.length c0'), (1, .func (.func 69) #[] #[.pointer (some ⟨b1_0', o1_0', none⟩)]), (7, .int .i64 (s_0.length : Int)), (8, .int .i64 st4), (9, .bool (decide (st4 < (s_0.length : Int))))] (by kernel_rfl) ?_
  refine WL.nil ?_
  refine WQ.then_normal (hK17 _ _ _ ?_)
  refine WP.seq (fun K18 hK18 => ?_)
  refine WP.cond (decide (st4 < (s_0.length : Int))) rfl rfl (fun hc19 => ?_) (fun hc19 => ?_)
  rotate_left
  · have hm := iteF hm hc19
    refine WP.exit ?_
    refine WQ.then_exit ?_
    refine WQ.then_exit ?_
    refine WQ.block_here ?_
    obtain rfl := Option.some.inj hm
    obtain rfl := afterN_done hl9
    have hm := hmo10
    refine WQ.then_normal (hK2 _ _ _ ?_)
    refine WP.seq (fun K35 hK35 => ?_)
    refine WP.region ?_
    refine WL.runk 1 [4] [(4, .int .i64 (-1))] (by kernel_rfl) ?_
    refine WL.nil ?_
    refine WQ.then_normal (hK35 _ _ _ ?_)
    refine WP.ret ?_
    obtain rfl := Option.some.inj hm
    exact WQ.ret1 _ rfl rfl ⟨rfl, hb6⟩
  have hm := iteT hm hc19
  refine WP.skip ?_
  refine WQ.then_normal (hK18 _ _ _ ?_)
  refine WP.seq (fun K20 hK20 => ?_)
  refine WP.block ?_
  refine WP.seq (fun K21 hK21 => ?_)
  refine WP.region ?_
  refine WL.runk 2 [0, 1, 5, 7, 8] [(0, .slice a0' s_0.length c0'), (1, .func (.func 69) #[] #[.pointer (some ⟨b1_0', o1_0', none⟩)]), (7, .int .i64 (s_0.length : Int)), (8, .int .i64 st4), (5, .int .i64 st4)] (by kernel_rfl) ?_
  refine WL.nil ?_
  refine WQ.then_normal (hK21 _ _ _ ?_)
  refine WP.seq (fun K22 hK22 => ?_)
  refine WP.region ?_
  refine WL.runk 3 [0, 1, 5, 7, 8, 11, 12, 13] [(0, .slice a0' s_0.length c0'), (1, .func (.func 69) #[] #[.pointer (some ⟨b1_0', o1_0', none⟩)]), (7, .int .i64 (s_0.length : Int)), (8, .int .i64 st4), (5, .int .i64 st4), (11, .func (.func 69) #[] #[.pointer (some ⟨b1_0', o1_0', none⟩)]), (12, .slice a0' s_0.length c0'), (13, .int .i64 st4)] (by kernel_rfl) ?_
  obtain ⟨x23, hx24, hm⟩ := bindE hm
  refine WL.st (.pointer (some (at_ a0' (Int.toNat st4 * 2)))) (ST.index (T := fChange.ty) (xs := s_0) (Rd.below h0 hb6) hx24 rfl rfl rfl Try.underlying28 (info42).1 (info42).2.1) rfl rfl rfl ?_
  refine WL.st (.agg #[.int .i64 x23.Kind, .int .i64 x23.Amount]) (ST.loadAgg (vs := fChange.leaf x23) (fun j v hv => Rd.flatA (F := fChange) (Rd.below h0 hb6) hx24 j hv) rfl rfl rfl Try.underlying42 rfl (info42).1 (info42).2.1) rfl rfl rfl ?_
  obtain ⟨x25, hx26, hm⟩ := bindE hm
  refine WL.call 69 #[.agg #[.int .i64 x23.Kind, .int .i64 x23.Amount], .pointer (some ⟨b1_0', o1_0', none⟩)] rfl rfl (by kernel_rfl) (c_69 n x23 cap_1_0 b1_0' o1_0' w5 hx26 (RdB.below h1_0 hb6)) ?_
  rintro _ w27 ⟨rfl, hE28⟩
  refine ⟨_, rfl, ?_⟩
  have hb30 : Ext w w27 := Ext.trans hb6 hE28
  have hL31 : w.heap.size ≤ w27.heap.size := Nat.le_trans hL7 hE28.size
  have hS32 : SH w27 w.heap.size [] := SH.ext hS8 hE28
  refine WL.sub [(0, .slice a0' s_0.length c0'), (1, .func (.func 69) #[] #[.pointer (some ⟨b1_0', o1_0', none⟩)]), (7, .int .i64 (s_0.length : Int)), (8, .int .i64 st4), (5, .int .i64 st4), (16, .bool x25)] ⟨rfl, rfl, rfl, rfl, rfl, rfl, trivial⟩ ?_
  refine WL.nil ?_
  refine WQ.then_normal (hK22 _ _ _ ?_)
  refine WP.cond x25 rfl rfl (fun hc33 => ?_) (fun hc33 => ?_)
  rotate_left
  · have hm := iteF hm hc33
    refine WP.skip ?_
    refine WQ.block_normal ?_
    refine WQ.then_normal (hK20 _ _ _ ?_)
    refine WP.region ?_
    refine WL.runk 2 [0, 1, 7, 8] [(0, .slice a0' s_0.length c0'), (1, .func (.func 69) #[] #[.pointer (some ⟨b1_0', o1_0', none⟩)]), (7, .int .i64 (s_0.length : Int)), (8, .int .i64 (wI64 (st4 + 1)))] (by kernel_rfl) ?_
    refine WL.nil ?_
    obtain rfl := Option.some.inj hm
    exact WQ.round hK11 ⟨(wI64 (st4 + 1)), rfl, hb30, hL31, hS32, hl9⟩ (Nat.lt_succ_self _) ⟨rfl, rfl, rfl, rfl, trivial⟩
  have hm := iteT hm hc33
  refine WP.seq (fun K34 hK34 => ?_)
  refine WP.region ?_
  refine WL.runk 2 [4] [(4, .int .i64 st4)] (by kernel_rfl) ?_
  refine WL.nil ?_
  refine WQ.then_normal (hK34 _ _ _ ?_)
  refine WP.ret ?_
  refine WQ.block_ret ?_
  refine WQ.then_ret ?_
  refine WQ.then_ret ?_
  refine WQ.block_ret ?_
  refine WQ.then_ret ?_
  obtain rfl := Option.some.inj hm
  obtain rfl := afterN_done hl9
  have hm := hmo10
  obtain rfl := Option.some.inj hm
  exact WQ.ret1 _ rfl rfl ⟨rfl, hb30⟩

theorem c_32 (n : Nat) (list_0 : List SChange) (a0' : Option Addr) (c0' : Nat) (w : World) {r : Int × Int × Int} (hm : m_impl_FirstClash n list_0 = some r) (h0 : Rd fChange.ty w a0' list_0) (hle0 : list_0.length ≤ c0') :
    CallV Try.prog 32 #[.slice a0' list_0.length c0'] w (fun v w' => v = .tuple #[.int .i64 r.1, .int .i64 r.2.1, .int .i64 r.2.2] ∧ Ext w w') := by
  unfold m_impl_FirstClash at hm
  refine CallV.enter Try.func32 rfl (by kernel_rfl) Try.ntmps32 (env := [(0, .slice a0' list_0.length c0')]) ⟨rfl, trivial⟩ ?_
  refine WP.seq (fun K1 hK1 => ?_)
  refine WP.region ?_
  refine WL.runk 3 [0] [(0, .slice a0' list_0.length c0')] (by kernel_rfl) ?_
  refine WL.nil ?_
  refine WQ.then_normal (hK1 _ _ _ ?_)
  refine WP.seq (fun K2 hK2 => ?_)
  refine WP.seq (fun K3 hK3 => ?_)
  refine WP.region ?_
  refine WL.runk 1 [0, 8] [(0, .slice a0' list_0.length c0'), (8, .slice a0' list_0.length c0')] (by kernel_rfl) ?_
  obtain ⟨x4, hx5, hm⟩ := bindE hm
  refine WL.call 27 #[.slice a0' list_0.length c0'] rfl rfl (by kernel_rfl) (c_27 n list_0 a0' c0' w hx5 (Rd.below h0 (Ext.refl w)) hle0) ?_
  rintro _ w6 ⟨rfl, hE7⟩
  refine ⟨_, rfl, ?_⟩
  have hb9 : Ext w w6 := Ext.trans (Ext.refl w) hE7
  have hL10 : w.heap.size ≤ w6.heap.size := Nat.le_trans (Nat.le_refl _) hE7.size
  have hS11 : SH w6 w.heap.size [] := SH.ext (SH.nil _ _) hE7
  refine WL.runk 1 [0, 10] [(0, .slice a0' list_0.length c0'), (10, .bool (!x4))] (by kernel_rfl) ?_
  refine WL.nil ?_
  refine WQ.then_normal (hK3 _ _ _ ?_)
  refine WP.cond (!x4) rfl rfl (fun hc12 => ?_) (fun hc12 => ?_)
  · have hm := iteT hm hc12
    refine WP.seq (fun K13 hK13 => ?_)
    refine WP.region ?_
    refine WL.runk 3 [2, 3, 4] [(2, .int .i64 0), (3, .int .i64 0), (4, .int .i64 1)] (by kernel_rfl) ?_
    refine WL.nil ?_
    refine WQ.then_normal (hK13 _ _ _ ?_)
    refine WP.ret ?_
    refine WQ.then_ret ?_
    obtain rfl := Option.some.inj hm
    exact WQ.ret3 _ _ _ rfl rfl rfl rfl ⟨rfl, hb9⟩
  have hm := iteF hm hc12
  refine WP.skip ?_
  refine WQ.then_normal (hK2 _ _ _ ?_)
  refine WP.seq (fun K14 hK14 => ?_)
  refine WP.seq (fun K15 hK15 => ?_)
  refine WP.region ?_
  refine WL.runk 3 [0, 11, 12, 13] [(0, .slice a0' list_0.length c0'), (11, .slice a0' list_0.length c0'), (12, .int .i64 (list_0.length : Int)), (13, .int .i64 0)] (by kernel_rfl) ?_
  refine WL.nil ?_
  refine WQ.then_normal (hK15 _ _ _ ?_)
  refine WP.block ?_
  obtain ⟨t27, ht28, hm⟩ := bindE hm
  have hmo22 := hm; clear hm
  refine WP.sub [(0, .slice a0' list_0.length c0'), (11, .slice a0' list_0.length c0'), (12, .int .i64 (list_0.length : Int)), (13, .int .i64 0)] ⟨rfl, rfl, rfl, rfl, trivial⟩ ?_
  refine WP.loop (fun n' env' w' => ∃ (st16 : Int) , env' = [(0, .slice a0' list_0.length c0'), (11, .slice a0' list_0.length c0'), (12, .int .i64 (list_0.length : Int)), (13, .int .i64 st16)] ∧ Ext w w' ∧ w.heap.size ≤ w'.heap.size ∧ SH w' w.heap.size [] ∧ loopN (m_impl_FirstClash_l1 n list_0) n' st16 = some t27) n ⟨0, rfl, hb9, hL10, hS11, ht28⟩ ?_
  rintro n24 _ w17 ⟨st16, rfl, hb18, hL19, hS20, hl21⟩ K23 hK23
  obtain ⟨n25, s26, rfl, hm, hl21⟩ := loopN_some hl21
  unfold m_impl_FirstClash_l1 at hm
  refine WP.seq (fun K29 hK29 => ?_)
  refine WP.region ?_
  refine WL.runk 1 [0, 11, 12, 13, 14] [(0, .slice a0' list_0.length c0'), (11, .slice a0' list_0.length c0'), (12, .int .i64 (list_0.length : Int)), (13, .int .i64 st16), (14, .bool (decide (st16 < (list_0.length : Int))))] (by kernel_rfl) ?_
  refine WL.nil ?_
  refine WQ.then_normal (hK29 _ _ _ ?_)
  refine WP.seq (fun K30 hK30 => ?_)
  refine WP.cond (decide (st16 < (list_0.length : Int))) rfl rfl (fun hc31 => ?_) (fun hc31 => ?_)
  rotate_left
  · have hm := iteF hm hc31
    refine WP.exit ?_
    refine WQ.then_exit ?_
    refine WQ.then_exit ?_
    refine WQ.block_here ?_
    obtain rfl := Option.some.inj hm
    obtain rfl := afterN_done hl21
    have hm := hmo22
    refine WQ.then_normal (hK14 _ _ _ ?_)
    refine WP.seq (fun K69 hK69 => ?_)
    refine WP.region ?_
    refine WL.runk 3 [2, 3, 4] [(2, .int .i64 0), (3, .int .i64 0), (4, .int .i64 3)] (by kernel_rfl) ?_
    refine WL.nil ?_
    refine WQ.then_normal (hK69 _ _ _ ?_)
    refine WP.ret ?_
    obtain rfl := Option.some.inj hm
    exact WQ.ret3 _ _ _ rfl rfl rfl rfl ⟨rfl, hb18⟩
  have hm := iteT hm hc31
  refine WP.skip ?_
  refine WQ.then_normal (hK30 _ _ _ ?_)
  refine WP.seq (fun K32 hK32 => ?_)
  refine WP.block ?_
  refine WP.seq (fun K33 hK33 => ?_)
  refine WP.region ?_
  refine WL.runk 1 [0, 11, 12, 13, 15] [(0, .slice a0' list_0.length c0'), (11, .slice a0' list_0.length c0'), (12, .int .i64 (list_0.length : Int)), (13, .int .i64 st16), (15, .int .i64 st16)] (by kernel_rfl) ?_
  obtain ⟨x34, hx35, hm⟩ := bindE hm
  refine WL.st (.pointer (some (at_ a0' (Int.toNat st16 * 2)))) (ST.index (T := fChange.ty) (xs := list_0) (Rd.below h0 hb18) hx35 rfl rfl rfl Try.underlying28 (info42).1 (info42).2.1) rfl rfl rfl ?_
  refine WL.st (.agg #[.int .i64 x34.Kind, .int .i64 x34.Amount]) (ST.loadAgg (vs := fChange.leaf x34) (fun j v hv => Rd.flatA (F := fChange) (Rd.below h0 hb18) hx35 j hv) rfl rfl rfl Try.underlying42 rfl (info42).1 (info42).2.1) rfl rfl rfl ?_
  refine WL.box 42 [.int .i64 0, .int .i64 0] 6 (by kernel_rfl) rfl rfl rfl rfl ?_
  intro b36 w37 hE38 hR39
  have hb41 : Ext w w37 := Ext.trans hb18 hE38
  have hL42 : w.heap.size ≤ w37.heap.size := Nat.le_trans hL19 hE38.size
  have hS43 : SH w37 w.heap.size [aBox 42 b36 [.int .i64 0, .int .i64 0]] := SH.add hS20 hE38 hL19 hR39
  refine WL.runk 1 [0, 5, 6, 11, 12, 13, 17] [(0, .slice a0' list_0.length c0'), (11, .slice a0' list_0.length c0'), (12, .int .i64 (list_0.length : Int)), (13, .int .i64 st16), (17, .agg #[.int .i64 x34.Kind, .int .i64 x34.Amount]), (6, .pointer (some ⟨b36, 0, none⟩)), (5, .int .i64 st16)] (by kernel_rfl) ?_
  refine WL.boxStore 0 [.int .i64 x34.Kind, .int .i64 x34.Amount] [.int .i64 x34.Kind, .int .i64 x34.Amount] (SH.front 0 hS43) hL42 rfl rfl rfl rfl rfl rfl rfl (info42).1 (info42).2.1 rfl rfl rfl ?_
  intro w44 hB45 hS46
  have hb47 : Ext w w44 := Below.trans hb41 hB45
  have hL48 : w.heap.size ≤ w44.heap.size := Nat.le_trans hL42 hB45.size
  refine WL.sub [(0, .slice a0' list_0.length c0'), (11, .slice a0' list_0.length c0'), (12, .int .i64 (list_0.length : Int)), (13, .int .i64 st16), (6, .pointer (some ⟨b36, 0, none⟩)), (5, .int .i64 st16)] ⟨rfl, rfl, rfl, rfl, rfl, rfl, trivial⟩ ?_
  refine WL.nil ?_
  refine WQ.then_normal (hK33 _ _ _ ?_)
  refine WP.seq (fun K49 hK49 => ?_)
  refine WP.region ?_
  refine WL.runk 2 [0, 5, 6, 11, 12, 13, 18, 19] [(0, .slice a0' list_0.length c0'), (11, .slice a0' list_0.length c0'), (12, .int .i64 (list_0.length : Int)), (13, .int .i64 st16), (6, .pointer (some ⟨b36, 0, none⟩)), (5, .int .i64 st16), (18, .slice a0' list_0.length c0'), (19, .int .i64 st16)] (by kernel_rfl) ?_
  obtain ⟨x50, hx51, hm⟩ := bindE hm
  refine WL.rsub (T := fChange.ty) 20 h0 hb47 hle0 hx51 rfl rfl Try.underlying28 (info42).1 (info42).2.1 rfl ⟨_, rfl⟩ rfl rfl rfl rfl ?_
  intro a52 c53 hR55 hle56
  refine WL.runk 1 [0, 5, 11, 12, 13, 20, 21] [(0, .slice a0' list_0.length c0'), (11, .slice a0' list_0.length c0'), (12, .int .i64 (list_0.length : Int)), (13, .int .i64 st16), (5, .int .i64 st16), (20, .slice a52 x50.length c53), (21, .func (.func 69) #[] #[.pointer (some ⟨b36, 0, none⟩)])] (by kernel_rfl) ?_
  obtain ⟨x58, hx59, hm⟩ := bindE hm
  refine WL.call 68 #[.slice a52 x50.length c53, .func (.func 69) #[] #[.pointer (some ⟨b36, 0, none⟩)]] rfl rfl (by kernel_rfl) (c_68_69 n x50 a52 c53 x34 b36 0 w44 hx59 (Rd.below hR55 hb47) hle56 (SH.boxRd (SH.front 0 hS46))) ?_
  rintro _ w60 ⟨rfl, hE61⟩
  refine ⟨_, rfl, ?_⟩
  have hb63 : Ext w w60 := Ext.trans hb47 hE61
  have hL64 : w.heap.size ≤ w60.heap.size := Nat.le_trans hL48 hE61.size
  have hS65 : SH w60 w.heap.size [aBox 42 b36 [.int .i64 x34.Kind, .int .i64 x34.Amount]] := SH.ext hS46 hE61
  refine WL.runk 1 [0, 5, 7, 11, 12, 13] [(0, .slice a0' list_0.length c0'), (11, .slice a0' list_0.length c0'), (12, .int .i64 (list_0.length : Int)), (13, .int .i64 st16), (5, .int .i64 st16), (7, .int .i64 x58)] (by kernel_rfl) ?_
  refine WL.nil ?_
  refine WQ.then_normal (hK49 _ _ _ ?_)
  refine WP.seq (fun K66 hK66 => ?_)
  refine WP.region ?_
  refine WL.runk 2 [0, 5, 7, 11, 12, 13, 24] [(0, .slice a0' list_0.length c0'), (11, .slice a0' list_0.length c0'), (12, .int .i64 (list_0.length : Int)), (13, .int .i64 st16), (5, .int .i64 st16), (7, .int .i64 x58), (24, .bool (decide (x58 ≥ 0)))] (by kernel_rfl) ?_
  refine WL.nil ?_
  refine WQ.then_normal (hK66 _ _ _ ?_)
  refine WP.cond (decide (x58 ≥ 0)) rfl rfl (fun hc67 => ?_) (fun hc67 => ?_)
  rotate_left
  · have hm := iteF hm hc67
    refine WP.skip ?_
    refine WQ.block_normal ?_
    refine WQ.then_normal (hK32 _ _ _ ?_)
    refine WP.region ?_
    refine WL.runk 2 [0, 11, 12, 13] [(0, .slice a0' list_0.length c0'), (11, .slice a0' list_0.length c0'), (12, .int .i64 (list_0.length : Int)), (13, .int .i64 (wI64 (st16 + 1)))] (by kernel_rfl) ?_
    refine WL.nil ?_
    obtain rfl := Option.some.inj hm
    exact WQ.round hK23 ⟨(wI64 (st16 + 1)), rfl, hb63, hL64, (SH.take 0 hS65), hl21⟩ (Nat.lt_succ_self _) ⟨rfl, rfl, rfl, rfl, trivial⟩
  have hm := iteT hm hc67
  refine WP.seq (fun K68 hK68 => ?_)
  refine WP.region ?_
  refine WL.runk 5 [2, 3, 4] [(2, .int .i64 st16), (3, .int .i64 x58), (4, .int .i64 0)] (by kernel_rfl) ?_
  refine WL.nil ?_
  refine WQ.then_normal (hK68 _ _ _ ?_)
  refine WP.ret ?_
  refine WQ.block_ret ?_
  refine WQ.then_ret ?_
  refine WQ.then_ret ?_
  refine WQ.block_ret ?_
  refine WQ.then_ret ?_
  obtain rfl := Option.some.inj hm
  obtain rfl := afterN_done hl21
  have hm := hmo22
  obtain rfl := Option.some.inj hm
  exact WQ.ret3 _ _ _ rfl rfl rfl rfl ⟨rfl, hb63⟩

theorem c_33 (n : Nat) (code_0 : List Int) (a0' : Option Addr) (c0' : Nat) (more_1 : List Int) (a1' : Option Addr) (c1' : Nat) (w : World) {r : Bool} (hm : m_laws_a2Long n code_0 more_1 = some r) (_h0 : Rd fU8.ty w a0' code_0) (_hle0 : code_0.length ≤ c0') (_h1 : Rd fU8.ty w a1' more_1) (_hle1 : more_1.length ≤ c1') :
    CallV Try.prog 33 #[.slice a0' code_0.length c0', .slice a1' more_1.length c1'] w (fun v w' => v = .bool r ∧ Ext w w') := by
  unfold m_laws_a2Long at hm
  refine CallV.enter Try.func33 rfl (by kernel_rfl) Try.ntmps33 (env := [(0, .slice a0' code_0.length c0'), (1, .slice a1' more_1.length c1')]) ⟨rfl, rfl, trivial⟩ ?_
  refine WP.seq (fun K1 hK1 => ?_)
  refine WP.region ?_
  refine WL.runk 1 [0, 1] [(0, .slice a0' code_0.length c0'), (1, .slice a1' more_1.length c1')] (by kernel_rfl) ?_
  refine WL.nil ?_
  refine WQ.then_normal (hK1 _ _ _ ?_)
  refine WP.seq (fun K2 hK2 => ?_)
  obtain ⟨x4, hx5, hm⟩ := bindE hm
  refine WP.cut (fun env' w' => env' = [(4, .bool x4)] ∧ Ext w w' ∧ w.heap.size ≤ w'.heap.size ∧ SH w' w.heap.size []) ?_ ?_
  rotate_left
  · clear hx5
    rintro _ w7 ⟨rfl, hb8, hL9, hS10⟩
    refine WQ.then_normal (hK2 _ _ _ ?_)
    refine WP.ret ?_
    obtain rfl := Option.some.inj hm
    exact WQ.ret1 _ rfl rfl ⟨rfl, hb8⟩
  have hm := hx5; clear hx5
  refine WP.region ?_
  refine WL.runk 4 [1, 8] [(1, .slice a1' more_1.length c1'), (8, .bool (decide ((code_0.length : Int) > 3000)))] (by kernel_rfl) ?_
  refine WL.case (decide ((code_0.length : Int) > 3000)) [8] ⟨rfl, trivial⟩ (fun hc6 => ?_) (fun hc6 => ?_)
  · have hm := iteT hm hc6
    refine WL.runk 5 [4] [(4, .bool true)] (by kernel_rfl) ?_
    refine WL.nil ?_
    obtain rfl := Option.some.inj hm
    exact WQ.post' ⟨rfl, (Ext.refl w), (Nat.le_refl _), (SH.nil _ _)⟩ ⟨rfl, trivial⟩
  have hm := iteF hm hc6
  refine WL.runk 5 [4] [(4, .bool (decide ((more_1.length : Int) > 3000)))] (by kernel_rfl) ?_
  refine WL.nil ?_
  obtain rfl := Option.some.inj hm
  exact WQ.post' ⟨rfl, (Ext.refl w), (Nat.le_refl _), (SH.nil _ _)⟩ ⟨rfl, trivial⟩

theorem c_93 (n : Nat) (s_0_code : List Int) (a0_code' : Option Addr) (c0_code' : Nat) (s_0_at_ : Int) (s_0_seed : Int) (b0' : Nat) (w : World) (w0 : World) (B : Nat) (L : List Asrt) {r : Int × Int × Int} (hm : m_spec_l00Src_next n s_0_code s_0_at_ s_0_seed = some r) (hE0 : Ext w0 w) (hW : w0.heap.size ≤ B) (hL : B ≤ w.heap.size) (h0_code : Rd fU8.ty w0 a0_code' s_0_code) (_hle0_code : s_0_code.length ≤ c0_code') (hS : SH w B (aBox 90 b0' [.slice a0_code' s_0_code.length c0_code', .int .i64 s_0_at_, .int .u64 s_0_seed] :: L)) :
    CallV Try.prog 93 #[.pointer (some ⟨b0', 0, none⟩)] w (fun v w' => v = .int .i64 r.1 ∧ Below B w w' ∧ SH w' B (aBox 90 b0' [.slice a0_code' s_0_code.length c0_code', .int .i64 r.2.1, .int .u64 r.2.2] :: L)) := by
  unfold m_spec_l00Src_next at hm
  refine CallV.enter Try.func93 rfl (by kernel_rfl) Try.ntmps93 (env := [(0, .pointer (some ⟨b0', 0, none⟩))]) ⟨rfl, trivial⟩ ?_
  refine WP.seq (fun K1 hK1 => ?_)
  refine WP.region ?_
  refine WL.runk 1 [0] [(0, .pointer (some ⟨b0', 0, none⟩))] (by kernel_rfl) ?_
  refine WL.nil ?_
  refine WQ.then_normal (hK1 _ _ _ ?_)
  refine WP.seq (fun K2 hK2 => ?_)
  refine WP.region ?_
  refine WL.runk 1 [0, 3] [(0, .pointer (some ⟨b0', 0, none⟩)), (3, .int .i64 0)] (by kernel_rfl) ?_
  refine WL.nil ?_
  refine WQ.then_normal (hK2 _ _ _ ?_)
  refine WP.seq (fun K3 hK3 => ?_)
  refine WP.seq (fun K4 hK4 => ?_)
  refine WP.quiet (by kernel_rfl) (by kernel_rfl) ?_
  refine QL.step1v 4 (.pointer (some ⟨b0', 0, none⟩)) rfl (fun _ => by kernel_rfl) ?_
  refine QL.step1v 5 (.pointer (some ⟨b0', 0, none⟩)) rfl (fun _ => by kernel_rfl) ?_
  refine QL.step1v 6 (.pointer (some ⟨b0', 1, none⟩)) rfl (fun _ => by kernel_rfl) ?_
  refine QL.subk [0, 3, 6] [(0, .pointer (some ⟨b0', 0, none⟩)), (3, .int .i64 0), (6, .pointer (some ⟨b0', 1, none⟩))] (by kernel_rfl) ?_
  refine QL.st (.int .i64 s_0_at_) (ST.load (cell_ext (SH.boxAt (SH.front 0 hS) 1 _ rfl)) rfl rfl Try.underlying3 rfl) rfl rfl rfl ?_
  refine QL.step1v 8 (.pointer (some ⟨b0', 0, none⟩)) rfl (fun _ => by kernel_rfl) ?_
  refine QL.step1v 9 (.pointer (some ⟨b0', 0, none⟩)) rfl (fun _ => by kernel_rfl) ?_
  refine QL.step1v 10 (.pointer (some ⟨b0', 0, none⟩)) rfl (fun _ => by kernel_rfl) ?_
  refine QL.subk [0, 3, 7, 10] [(0, .pointer (some ⟨b0', 0, none⟩)), (3, .int .i64 0), (7, .int .i64 s_0_at_), (10, .pointer (some ⟨b0', 0, none⟩))] (by kernel_rfl) ?_
  refine QL.st (.slice a0_code' s_0_code.length c0_code') (ST.load (cell_ext (SH.boxAt (SH.front 0 hS) 0 _ rfl)) rfl rfl Try.underlying47 rfl) rfl rfl rfl ?_
  refine QL.step1v 12 (.int .i64 (s_0_code.length : Int)) rfl (fun _ => by kernel_rfl) ?_
  refine QL.step1v 13 (.bool (decide (s_0_at_ < (s_0_code.length : Int)))) rfl (fun _ => by kernel_rfl) ?_
  refine QL.subk [0, 3, 13] [(0, .pointer (some ⟨b0', 0, none⟩)), (3, .int .i64 0), (13, .bool (decide (s_0_at_ < (s_0_code.length : Int))))] (by kernel_rfl) ?_
  refine QL.nil ?_
  intro w5 hE6
  have hb7 : Below B w w5 := Below.trans (Below.refl _ _) (Below.mono hE6 hL)
  have hL8 : B ≤ w5.heap.size := Nat.le_trans hL hE6.size
  have hS9 : SH w5 B (aBox 90 b0' [.slice a0_code' s_0_code.length c0_code', .int .i64 s_0_at_, .int .u64 s_0_seed] :: L) := SH.ext hS hE6
  refine WQ.then_normal (hK4 _ _ _ ?_)
  obtain ⟨x18, hx19, hm⟩ := bindE hm
  refine WP.cut (fun env' w' => env' = [(0, .pointer (some ⟨b0', 0, none⟩)), (3, .int .i64 x18)] ∧ Below B w w' ∧ B ≤ w'.heap.size ∧ SH w' B (aBox 90 b0' [.slice a0_code' s_0_code.length c0_code', .int .i64 s_0_at_, .int .u64 s_0_seed] :: L)) ?_ ?_
  · have hm := hx19; clear hx19
    refine WP.cond (decide (s_0_at_ < (s_0_code.length : Int))) rfl rfl (fun hc10 => ?_) (fun hc10 => ?_)
    rotate_left
    · have hm := iteF hm hc10
      refine WP.skip ?_
      obtain rfl := Option.some.inj hm
      exact WQ.post' ⟨rfl, hb7, hL8, hS9⟩ ⟨rfl, rfl, trivial⟩
    have hm := iteT hm hc10
    refine WP.quiet (by kernel_rfl) (by kernel_rfl) ?_
    refine QL.step1v 14 (.pointer (some ⟨b0', 0, none⟩)) rfl (fun _ => by kernel_rfl) ?_
    refine QL.step1v 15 (.pointer (some ⟨b0', 0, none⟩)) rfl (fun _ => by kernel_rfl) ?_
    refine QL.step1v 16 (.pointer (some ⟨b0', 0, none⟩)) rfl (fun _ => by kernel_rfl) ?_
    refine QL.subk [0, 16] [(0, .pointer (some ⟨b0', 0, none⟩)), (16, .pointer (some ⟨b0', 0, none⟩))] (by kernel_rfl) ?_
    refine QL.st (.slice a0_code' s_0_code.length c0_code') (ST.load (cell_ext (SH.boxAt (SH.front 0 hS9) 0 _ rfl)) rfl rfl Try.underlying47 rfl) rfl rfl rfl ?_
    refine QL.step1v 18 (.pointer (some ⟨b0', 0, none⟩)) rfl (fun _ => by kernel_rfl) ?_
    refine QL.step1v 19 (.pointer (some ⟨b0', 0, none⟩)) rfl (fun _ => by kernel_rfl) ?_
    refine QL.step1v 20 (.pointer (some ⟨b0', 1, none⟩)) rfl (fun _ => by kernel_rfl) ?_
    refine QL.subk [0, 17, 20] [(0, .pointer (some ⟨b0', 0, none⟩)), (17, .slice a0_code' s_0_code.length c0_code'), (20, .pointer (some ⟨b0', 1, none⟩))] (by kernel_rfl) ?_
    refine QL.st (.int .i64 s_0_at_) (ST.load (cell_ext (SH.boxAt (SH.front 0 hS9) 1 _ rfl)) rfl rfl Try.underlying3 rfl) rfl rfl rfl ?_
    obtain ⟨x20, hx21, hm⟩ := bindE hm
    refine QL.st (.pointer (some (at_ a0_code' (Int.toNat s_0_at_ * 1)))) (ST.index (T := fU8.ty) (xs := s_0_code) (Rd.below h0_code (Below.trans hE0 (Below.mono hb7 hW))) hx21 rfl rfl rfl Try.underlying47 (info5).1 (info5).2.1) rfl rfl rfl ?_
    refine QL.st (.int .u8 x20) (ST.load (cell_ext (Rd.flat (F := fU8) (Rd.below h0_code (Below.trans hE0 (Below.mono hb7 hW))) hx21 0 rfl)) rfl rfl Try.underlying5 rfl) rfl rfl rfl ?_
    refine QL.step1v 24 (.int .i64 (wI64 x20)) rfl (fun _ => by kernel_rfl) ?_
    refine QL.step1v 3 (.int .i64 (wI64 x20)) rfl (fun _ => by kernel_rfl) ?_
    refine QL.subk [0, 3] [(0, .pointer (some ⟨b0', 0, none⟩)), (3, .int .i64 (wI64 x20))] (by kernel_rfl) ?_
    refine QL.nil ?_
    intro w22 hE23
    have hb24 : Below B w w22 := Below.trans hb7 (Below.mono hE23 hL8)
    have hL25 : B ≤ w22.heap.size := Nat.le_trans hL8 hE23.size
    have hS26 : SH w22 B (aBox 90 b0' [.slice a0_code' s_0_code.length c0_code', .int .i64 s_0_at_, .int .u64 s_0_seed] :: L) := SH.ext hS9 hE23
    obtain rfl := Option.some.inj hm
    exact WQ.post' ⟨rfl, hb24, hL25, hS26⟩ ⟨rfl, rfl, trivial⟩
  clear hx19
  rintro _ w27 ⟨rfl, hb28, hL29, hS30⟩
  refine WQ.then_normal (hK3 _ _ _ ?_)
  refine WP.seq (fun K31 hK31 => ?_)
  refine WP.region ?_
  refine WL.runk 3 [0, 3, 25, 27] [(0, .pointer (some ⟨b0', 0, none⟩)), (3, .int .i64 x18), (25, .pointer (some ⟨b0', 0, none⟩)), (27, .pointer (some ⟨b0', 1, none⟩))] (by kernel_rfl) ?_
  refine WL.st (.int .i64 s_0_at_) (ST.load (cell_ext (SH.boxAt (SH.front 0 hS30) 1 _ rfl)) rfl rfl Try.underlying3 rfl) rfl rfl rfl ?_
  refine WL.runk 3 [0, 3, 29, 31] [(0, .pointer (some ⟨b0', 0, none⟩)), (3, .int .i64 x18), (29, .int .i64 (wI64 (s_0_at_ + 1))), (31, .pointer (some ⟨b0', 1, none⟩))] (by kernel_rfl) ?_
  refine WL.boxStore 1 [.int .i64 (wI64 (s_0_at_ + 1))] [.slice a0_code' s_0_code.length c0_code', .int .i64 (wI64 (s_0_at_ + 1)), .int .u64 s_0_seed] (SH.front 0 hS30) hL29 rfl rfl rfl rfl rfl rfl rfl (info3).1 (info3).2.1 rfl rfl rfl ?_
  intro w32 hB33 hS34
  have hb35 : Below B w w32 := Below.trans hb28 hB33
  have hL36 : B ≤ w32.heap.size := Nat.le_trans hL29 hB33.size
  refine WL.sub [(0, .pointer (some ⟨b0', 0, none⟩)), (3, .int .i64 x18)] ⟨rfl, rfl, trivial⟩ ?_
  refine WL.nil ?_
  refine WQ.then_normal (hK31 _ _ _ ?_)
  refine WP.seq (fun K37 hK37 => ?_)
  refine WP.region ?_
  refine WL.runk 4 [0, 3, 32, 35] [(0, .pointer (some ⟨b0', 0, none⟩)), (3, .int .i64 x18), (32, .pointer (some ⟨b0', 0, none⟩)), (35, .pointer (some ⟨b0', 2, none⟩))] (by kernel_rfl) ?_
  refine WL.st (.int .u64 s_0_seed) (ST.load (cell_ext (SH.boxAt (SH.front 0 hS34) 2 _ rfl)) rfl rfl Try.underlying88 rfl) rfl rfl rfl ?_
  refine WL.runk 7 [0, 3, 41, 43] [(0, .pointer (some ⟨b0', 0, none⟩)), (3, .int .i64 x18), (41, .int .u64 (IntKind.u64.wrap ((IntKind.u64.wrap ((IntKind.u64.wrap (s_0_seed * 6364136223846793005)) + (IntKind.u64.wrap x18))) + 1442695040888963407))), (43, .pointer (some ⟨b0', 2, none⟩))] (by kernel_rfl) ?_
  refine WL.boxStore 2 [.int .u64 (IntKind.u64.wrap ((IntKind.u64.wrap ((IntKind.u64.wrap (s_0_seed * 6364136223846793005)) + (IntKind.u64.wrap x18))) + 1442695040888963407))] [.slice a0_code' s_0_code.length c0_code', .int .i64 (wI64 (s_0_at_ + 1)), .int .u64 (IntKind.u64.wrap ((IntKind.u64.wrap ((IntKind.u64.wrap (s_0_seed * 6364136223846793005)) + (IntKind.u64.wrap x18))) + 1442695040888963407))] (SH.front 0 hS34) hL36 rfl rfl rfl rfl rfl rfl rfl (info88).1 (info88).2.1 rfl rfl rfl ?_
  intro w38 hB39 hS40
  have hb41 : Below B w w38 := Below.trans hb35 hB39
  have hL42 : B ≤ w38.heap.size := Nat.le_trans hL36 hB39.size
  refine WL.sub [(0, .pointer (some ⟨b0', 0, none⟩)), (3, .int .i64 x18)] ⟨rfl, rfl, trivial⟩ ?_
  refine WL.nil ?_
  refine WQ.then_normal (hK37 _ _ _ ?_)
  refine WP.seq (fun K43 hK43 => ?_)
  refine WP.seq (fun K44 hK44 => ?_)
  refine WP.quiet (by kernel_rfl) (by kernel_rfl) ?_
  refine QL.step1v 44 (.pointer (some ⟨b0', 0, none⟩)) rfl (fun _ => by kernel_rfl) ?_
  refine QL.step1v 45 (.pointer (some ⟨b0', 0, none⟩)) rfl (fun _ => by kernel_rfl) ?_
  refine QL.step1v 46 (.pointer (some ⟨b0', 1, none⟩)) rfl (fun _ => by kernel_rfl) ?_
  refine QL.subk [0, 3, 46] [(0, .pointer (some ⟨b0', 0, none⟩)), (3, .int .i64 x18), (46, .pointer (some ⟨b0', 1, none⟩))] (by kernel_rfl) ?_
  refine QL.st (.int .i64 (wI64 (s_0_at_ + 1))) (ST.load (cell_ext (SH.boxAt (SH.front 0 hS40) 1 _ rfl)) rfl rfl Try.underlying3 rfl) rfl rfl rfl ?_
  refine QL.step1v 48 (.pointer (some ⟨b0', 0, none⟩)) rfl (fun _ => by kernel_rfl) ?_
  refine QL.step1v 49 (.pointer (some ⟨b0', 0, none⟩)) rfl (fun _ => by kernel_rfl) ?_
  refine QL.step1v 50 (.pointer (some ⟨b0', 0, none⟩)) rfl (fun _ => by kernel_rfl) ?_
  refine QL.subk [0, 3, 47, 50] [(0, .pointer (some ⟨b0', 0, none⟩)), (3, .int .i64 x18), (47, .int .i64 (wI64 (s_0_at_ + 1))), (50, .pointer (some ⟨b0', 0, none⟩))] (by kernel_rfl) ?_
  refine QL.st (.slice a0_code' s_0_code.length c0_code') (ST.load (cell_ext (SH.boxAt (SH.front 0 hS40) 0 _ rfl)) rfl rfl Try.underlying47 rfl) rfl rfl rfl ?_
  refine QL.step1v 52 (.int .i64 (s_0_code.length : Int)) rfl (fun _ => by kernel_rfl) ?_
  refine QL.step1v 53 (.bool (decide ((wI64 (s_0_at_ + 1)) ≤ (s_0_code.length : Int)))) rfl (fun _ => by kernel_rfl) ?_
  refine QL.subk [0, 3, 53] [(0, .pointer (some ⟨b0', 0, none⟩)), (3, .int .i64 x18), (53, .bool (decide ((wI64 (s_0_at_ + 1)) ≤ (s_0_code.length : Int))))] (by kernel_rfl) ?_
  refine QL.nil ?_
  intro w45 hE46
  have hb47 : Below B w w45 := Below.trans hb41 (Below.mono hE46 hL42)
  have hL48 : B ≤ w45.heap.size := Nat.le_trans hL42 hE46.size
  have hS49 : SH w45 B (aBox 90 b0' [.slice a0_code' s_0_code.length c0_code', .int .i64 (wI64 (s_0_at_ + 1)), .int .u64 (IntKind.u64.wrap ((IntKind.u64.wrap ((IntKind.u64.wrap (s_0_seed * 6364136223846793005)) + (IntKind.u64.wrap x18))) + 1442695040888963407))] :: L) := SH.ext hS40 hE46
  refine WQ.then_normal (hK44 _ _ _ ?_)
  refine WP.cond (decide ((wI64 (s_0_at_ + 1)) ≤ (s_0_code.length : Int))) rfl rfl (fun hc50 => ?_) (fun hc50 => ?_)
  · have hm := iteT hm hc50
    refine WP.seq (fun K51 hK51 => ?_)
    refine WP.region ?_
    refine WL.runk 2 [2] [(2, .int .i64 x18)] (by kernel_rfl) ?_
    refine WL.nil ?_
    refine WQ.then_normal (hK51 _ _ _ ?_)
    refine WP.ret ?_
    refine WQ.then_ret ?_
    obtain rfl := Option.some.inj hm
    exact WQ.ret1 _ rfl rfl ⟨rfl, hb47, hS49⟩
  have hm := iteF hm hc50
  refine WP.skip ?_
  refine WQ.then_normal (hK43 _ _ _ ?_)
  refine WP.seq (fun K52 hK52 => ?_)
  refine WP.region ?_
  refine WL.runk 3 [57] [(57, .pointer (some ⟨b0', 2, none⟩))] (by kernel_rfl) ?_
  refine WL.st (.int .u64 (IntKind.u64.wrap ((IntKind.u64.wrap ((IntKind.u64.wrap (s_0_seed * 6364136223846793005)) + (IntKind.u64.wrap x18))) + 1442695040888963407))) (ST.load (cell_ext (SH.boxAt (SH.front 0 hS49) 2 _ rfl)) rfl rfl Try.underlying88 rfl) rfl rfl rfl ?_
  obtain ⟨x53, hx54, hm⟩ := bindE hm
  refine WL.st (.int .u64 x53) (ST.shr (k := .u64) hx54 rfl rfl rfl) rfl rfl rfl ?_
  refine WL.runk 3 [2] [(2, .int .i64 (wI64 (iand .u64 x53 255)))] (by kernel_rfl) ?_
  refine WL.nil ?_
  refine WQ.then_normal (hK52 _ _ _ ?_)
  refine WP.ret ?_
  obtain rfl := Option.some.inj hm
  exact WQ.ret1 _ rfl rfl ⟨rfl, hb47, hS49⟩

theorem c_83 (n : Nat) (s_0_code : List Int) (a0_code' : Option Addr) (c0_code' : Nat) (s_0_at_ : Int) (s_0_seed : Int) (b0' : Nat) (n_1 : Int) (w : World) (w0 : World) (B : Nat) (L : List Asrt) {r : Int × Int × Int} (hm : m_spec_l00Src_pick n s_0_code s_0_at_ s_0_seed n_1 = some r) (hE0 : Ext w0 w) (hW : w0.heap.size ≤ B) (hL : B ≤ w.heap.size) (h0_code : Rd fU8.ty w0 a0_code' s_0_code) (hle0_code : s_0_code.length ≤ c0_code') (hS : SH w B (aBox 90 b0' [.slice a0_code' s_0_code.length c0_code', .int .i64 s_0_at_, .int .u64 s_0_seed] :: L)) :
    CallV Try.prog 83 #[.pointer (some ⟨b0', 0, none⟩), .int .i64 n_1] w (fun v w' => v = .int .i64 r.1 ∧ Below B w w' ∧ SH w' B (aBox 90 b0' [.slice a0_code' s_0_code.length c0_code', .int .i64 r.2.1, .int .u64 r.2.2] :: L)) := by
  unfold m_spec_l00Src_pick at hm
  refine CallV.enter Try.func83 rfl (by kernel_rfl) Try.ntmps83 (env := [(0, .pointer (some ⟨b0', 0, none⟩)), (1, .int .i64 n_1)]) ⟨rfl, rfl, trivial⟩ ?_
  refine WP.seq (fun K1 hK1 => ?_)
  refine WP.region ?_
  refine WL.runk 1 [0, 1] [(0, .pointer (some ⟨b0', 0, none⟩)), (1, .int .i64 n_1)] (by kernel_rfl) ?_
  refine WL.nil ?_
  refine WQ.then_normal (hK1 _ _ _ ?_)
  refine WP.seq (fun K2 hK2 => ?_)
  refine WP.seq (fun K3 hK3 => ?_)
  refine WP.region ?_
  refine WL.runk 2 [0, 1, 7] [(0, .pointer (some ⟨b0', 0, none⟩)), (1, .int .i64 n_1), (7, .bool (decide (n_1 ≤ 1)))] (by kernel_rfl) ?_
  refine WL.nil ?_
  refine WQ.then_normal (hK3 _ _ _ ?_)
  refine WP.cond (decide (n_1 ≤ 1)) rfl rfl (fun hc4 => ?_) (fun hc4 => ?_)
  · have hm := iteT hm hc4
    refine WP.seq (fun K5 hK5 => ?_)
    refine WP.region ?_
    refine WL.runk 1 [4] [(4, .int .i64 0)] (by kernel_rfl) ?_
    refine WL.nil ?_
    refine WQ.then_normal (hK5 _ _ _ ?_)
    refine WP.ret ?_
    refine WQ.then_ret ?_
    obtain rfl := Option.some.inj hm
    exact WQ.ret1 _ rfl rfl ⟨rfl, (Below.refl _ _), hS⟩
  have hm := iteF hm hc4
  refine WP.skip ?_
  refine WQ.then_normal (hK2 _ _ _ ?_)
  refine WP.seq (fun K6 hK6 => ?_)
  refine WP.region ?_
  refine WL.runk 1 [0, 1, 8] [(0, .pointer (some ⟨b0', 0, none⟩)), (1, .int .i64 n_1), (8, .pointer (some ⟨b0', 0, none⟩))] (by kernel_rfl) ?_
  obtain ⟨x7, hx8, hm⟩ := bindE hm
  refine WL.call 93 #[.pointer (some ⟨b0', 0, none⟩)] rfl rfl (by kernel_rfl) (c_93 n s_0_code a0_code' c0_code' s_0_at_ s_0_seed b0' w w0 B (L) hx8 (Below.trans hE0 (Below.mono (Below.refl _ _) hW)) hW hL h0_code hle0_code hS) ?_
  rintro _ w9 ⟨rfl, hB13, hS12⟩
  refine ⟨_, rfl, ?_⟩
  have hb14 : Below B w w9 := Below.trans (Below.refl _ _) hB13
  have hL15 : B ≤ w9.heap.size := Nat.le_trans hL hB13.size
  refine WL.runk 1 [0, 1, 5] [(0, .pointer (some ⟨b0', 0, none⟩)), (1, .int .i64 n_1), (5, .int .i64 x7.1)] (by kernel_rfl) ?_
  refine WL.nil ?_
  refine WQ.then_normal (hK6 _ _ _ ?_)
  refine WP.seq (fun K16 hK16 => ?_)
  refine WP.seq (fun K17 hK17 => ?_)
  refine WP.region ?_
  refine WL.runk 2 [0, 1, 5, 11] [(0, .pointer (some ⟨b0', 0, none⟩)), (1, .int .i64 n_1), (5, .int .i64 x7.1), (11, .bool (decide (n_1 > 200)))] (by kernel_rfl) ?_
  refine WL.nil ?_
  refine WQ.then_normal (hK17 _ _ _ ?_)
  obtain ⟨x48, hx49, hm⟩ := bindE hm
  refine WP.cut (fun env' w' => env' = [(1, .int .i64 n_1), (5, .int .i64 x48.1)] ∧ Below B w w' ∧ B ≤ w'.heap.size ∧ SH w' B (aBox 90 b0' [.slice a0_code' s_0_code.length c0_code', .int .i64 x48.2.1, .int .u64 x48.2.2] :: L)) ?_ ?_
  rotate_left
  · clear hx49
    rintro _ w59 ⟨rfl, hb60, hL61, hS62⟩
    refine WQ.then_normal (hK16 _ _ _ ?_)
    refine WP.seq (fun K63 hK63 => ?_)
    refine WP.region ?_
    refine WL.runk 2 [17, 18] [(17, .int .i64 x48.1), (18, .int .i64 n_1)] (by kernel_rfl) ?_
    obtain ⟨x64, hx65, hm⟩ := bindE hm
    refine WL.st (.int .i64 x64) (ST.rem (k := .i64) hx65 rfl rfl rfl) rfl rfl rfl ?_
    refine WL.runk 1 [4] [(4, .int .i64 x64)] (by kernel_rfl) ?_
    refine WL.nil ?_
    refine WQ.then_normal (hK63 _ _ _ ?_)
    refine WP.ret ?_
    obtain rfl := Option.some.inj hm
    exact WQ.ret1 _ rfl rfl ⟨rfl, hb60, hS62⟩
  have hm := hx49; clear hx49
  refine WP.cond (decide (n_1 > 200)) rfl rfl (fun hc18 => ?_) (fun hc18 => ?_)
  rotate_left
  · have hm := iteF hm hc18
    refine WP.skip ?_
    obtain rfl := Option.some.inj hm
    exact WQ.post' ⟨rfl, hb14, hL15, hS12⟩ ⟨rfl, rfl, trivial⟩
  have hm := iteT hm hc18
  refine WP.region ?_
  refine WL.runk 3 [1, 13, 14] [(1, .int .i64 n_1), (13, .int .i64 (wI64 (x7.1 * 256))), (14, .pointer (some ⟨b0', 0, none⟩))] (by kernel_rfl) ?_
  obtain ⟨x50, hx51, hm⟩ := bindE hm
  refine WL.call 93 #[.pointer (some ⟨b0', 0, none⟩)] rfl rfl (by kernel_rfl) (c_93 n s_0_code a0_code' c0_code' x7.2.1 x7.2.2 b0' w9 w0 B (L) hx51 (Below.trans hE0 (Below.mono hb14 hW)) hW hL15 h0_code hle0_code hS12) ?_
  rintro _ w52 ⟨rfl, hB56, hS55⟩
  refine ⟨_, rfl, ?_⟩
  have hb57 : Below B w w52 := Below.trans hb14 hB56
  have hL58 : B ≤ w52.heap.size := Nat.le_trans hL15 hB56.size
  refine WL.runk 2 [1, 5] [(1, .int .i64 n_1), (5, .int .i64 (wI64 ((wI64 (x7.1 * 256)) + x50.1)))] (by kernel_rfl) ?_
  refine WL.nil ?_
  obtain rfl := Option.some.inj hm
  exact WQ.post' ⟨rfl, hb57, hL58, hS55⟩ ⟨rfl, rfl, trivial⟩

theorem c_84 (n : Nat) (s_0_code : List Int) (a0_code' : Option Addr) (c0_code' : Nat) (s_0_at_ : Int) (s_0_seed : Int) (b0' : Nat) (n_1 : Int) (w : World) (w0 : World) (B : Nat) (L : List Asrt) {r : Bool × Int × Int} (hm : m_spec_l00Src_one n s_0_code s_0_at_ s_0_seed n_1 = some r) (hE0 : Ext w0 w) (hW : w0.heap.size ≤ B) (hL : B ≤ w.heap.size) (h0_code : Rd fU8.ty w0 a0_code' s_0_code) (hle0_code : s_0_code.length ≤ c0_code') (hS : SH w B (aBox 90 b0' [.slice a0_code' s_0_code.length c0_code', .int .i64 s_0_at_, .int .u64 s_0_seed] :: L)) :
    CallV Try.prog 84 #[.pointer (some ⟨b0', 0, none⟩), .int .i64 n_1] w (fun v w' => v = .bool r.1 ∧ Below B w w' ∧ SH w' B (aBox 90 b0' [.slice a0_code' s_0_code.length c0_code', .int .i64 r.2.1, .int .u64 r.2.2] :: L)) := by
  unfold m_spec_l00Src_one at hm
  refine CallV.enter Try.func84 rfl (by kernel_rfl) Try.ntmps84 (env := [(0, .pointer (some ⟨b0', 0, none⟩)), (1, .int .i64 n_1)]) ⟨rfl, rfl, trivial⟩ ?_
  refine WP.seq (fun K1 hK1 => ?_)
  refine WP.region ?_
  refine WL.runk 1 [0, 1] [(0, .pointer (some ⟨b0', 0, none⟩)), (1, .int .i64 n_1)] (by kernel_rfl) ?_
  refine WL.nil ?_
  refine WQ.then_normal (hK1 _ _ _ ?_)
  refine WP.seq (fun K2 hK2 => ?_)
  refine WP.region ?_
  refine WL.runk 2 [5, 6] [(5, .pointer (some ⟨b0', 0, none⟩)), (6, .int .i64 n_1)] (by kernel_rfl) ?_
  obtain ⟨x3, hx4, hm⟩ := bindE hm
  refine WL.call 83 #[.pointer (some ⟨b0', 0, none⟩), .int .i64 n_1] rfl rfl (by kernel_rfl) (c_83 n s_0_code a0_code' c0_code' s_0_at_ s_0_seed b0' n_1 w w0 B (L) hx4 (Below.trans hE0 (Below.mono (Below.refl _ _) hW)) hW hL h0_code hle0_code hS) ?_
  rintro _ w5 ⟨rfl, hB9, hS8⟩
  refine ⟨_, rfl, ?_⟩
  have hb10 : Below B w w5 := Below.trans (Below.refl _ _) hB9
  have hL11 : B ≤ w5.heap.size := Nat.le_trans hL hB9.size
  refine WL.runk 2 [4] [(4, .bool (x3.1 == 0))] (by kernel_rfl) ?_
  refine WL.nil ?_
  refine WQ.then_normal (hK2 _ _ _ ?_)
  refine WP.ret ?_
  obtain rfl := Option.some.inj hm
  exact WQ.ret1 _ rfl rfl ⟨rfl, hb10, hS8⟩

theorem c_70 (n : Nat) (s_0_code : List Int) (a0_code' : Option Addr) (c0_code' : Nat) (s_0_at_ : Int) (s_0_seed : Int) (b0' : Nat) (w : World) (w0 : World) (B : Nat) (L : List Asrt) {r : SChange × Int × Int} (hm : m_spec_l22New n s_0_code s_0_at_ s_0_seed = some r) (hE0 : Ext w0 w) (hW : w0.heap.size ≤ B) (hL : B ≤ w.heap.size) (h0_code : Rd fU8.ty w0 a0_code' s_0_code) (hle0_code : s_0_code.length ≤ c0_code') (hS : SH w B (aBox 90 b0' [.slice a0_code' s_0_code.length c0_code', .int .i64 s_0_at_, .int .u64 s_0_seed] :: L)) :
    CallV Try.prog 70 #[.pointer (some ⟨b0', 0, none⟩)] w (fun v w' => v = .agg #[.int .i64 r.1.Kind, .int .i64 r.1.Amount] ∧ Below B w w' ∧ SH w' B (aBox 90 b0' [.slice a0_code' s_0_code.length c0_code', .int .i64 r.2.1, .int .u64 r.2.2] :: L)) := by
  unfold m_spec_l22New at hm
  refine CallV.enter Try.func70 rfl (by kernel_rfl) Try.ntmps70 (env := [(0, .pointer (some ⟨b0', 0, none⟩))]) ⟨rfl, trivial⟩ ?_
  refine WP.seq (fun K1 hK1 => ?_)
  refine WP.region ?_
  refine WL.box 42 [.int .i64 0, .int .i64 0] 2 (by kernel_rfl) rfl rfl rfl rfl ?_
  intro b2 w3 hE4 hR5
  have hb7 : Below B w w3 := Below.trans (Below.refl _ _) (Below.mono hE4 hL)
  have hL8 : B ≤ w3.heap.size := Nat.le_trans hL hE4.size
  have hS9 : SH w3 B (aBox 42 b2 [.int .i64 0, .int .i64 0] :: aBox 90 b0' [.slice a0_code' s_0_code.length c0_code', .int .i64 s_0_at_, .int .u64 s_0_seed] :: L) := SH.add hS hE4 hL hR5
  refine WL.sub [(0, .pointer (some ⟨b0', 0, none⟩)), (2, .pointer (some ⟨b2, 0, none⟩))] ⟨rfl, rfl, trivial⟩ ?_
  refine WL.nil ?_
  refine WQ.then_normal (hK1 _ _ _ ?_)
  refine WP.seq (fun K10 hK10 => ?_)
  refine WP.region ?_
  refine WL.runk 1 [0, 2, 4] [(0, .pointer (some ⟨b0', 0, none⟩)), (2, .pointer (some ⟨b2, 0, none⟩)), (4, .pointer (some ⟨b0', 0, none⟩))] (by kernel_rfl) ?_
  obtain ⟨x11, hx12, hm⟩ := bindE hm
  refine WL.call 83 #[.pointer (some ⟨b0', 0, none⟩), .int .i64 5] rfl rfl (by kernel_rfl) (c_83 n s_0_code a0_code' c0_code' s_0_at_ s_0_seed b0' 5 w3 w0 B (aBox 42 b2 [.int .i64 0, .int .i64 0] :: L) hx12 (Below.trans hE0 (Below.mono hb7 hW)) hW hL8 h0_code hle0_code (SH.front 1 hS9)) ?_
  rintro _ w13 ⟨rfl, hB17, hS16⟩
  refine ⟨_, rfl, ?_⟩
  have hb18 : Below B w w13 := Below.trans hb7 hB17
  have hL19 : B ≤ w13.heap.size := Nat.le_trans hL8 hB17.size
  refine WL.runk 2 [0, 2, 7] [(0, .pointer (some ⟨b0', 0, none⟩)), (2, .pointer (some ⟨b2, 0, none⟩)), (7, .agg #[.int .i64 (wI64 (1 + x11.1)), .int .i64 0])] (by kernel_rfl) ?_
  refine WL.box 42 [.int .i64 0, .int .i64 0] 3 (by kernel_rfl) rfl rfl rfl rfl ?_
  intro b20 w21 hE22 hR23
  have hb25 : Below B w w21 := Below.trans hb18 (Below.mono hE22 hL19)
  have hL26 : B ≤ w21.heap.size := Nat.le_trans hL19 hE22.size
  have hS27 : SH w21 B (aBox 42 b20 [.int .i64 0, .int .i64 0] :: aBox 90 b0' [.slice a0_code' s_0_code.length c0_code', .int .i64 x11.2.1, .int .u64 x11.2.2] :: aBox 42 b2 [.int .i64 0, .int .i64 0] :: L) := SH.add hS16 hE22 hL19 hR23
  refine WL.boxStore 0 [.int .i64 (wI64 (1 + x11.1)), .int .i64 0] [.int .i64 (wI64 (1 + x11.1)), .int .i64 0] (SH.front 0 hS27) hL26 rfl rfl rfl rfl rfl rfl rfl (info42).1 (info42).2.1 rfl rfl rfl ?_
  intro w28 hB29 hS30
  have hb31 : Below B w w28 := Below.trans hb25 hB29
  have hL32 : B ≤ w28.heap.size := Nat.le_trans hL26 hB29.size
  refine WL.sub [(0, .pointer (some ⟨b0', 0, none⟩)), (2, .pointer (some ⟨b2, 0, none⟩)), (3, .pointer (some ⟨b20, 0, none⟩))] ⟨rfl, rfl, rfl, trivial⟩ ?_
  refine WL.nil ?_
  refine WQ.then_normal (hK10 _ _ _ ?_)
  refine WP.seq (fun K33 hK33 => ?_)
  refine WP.region ?_
  refine WL.runk 1 [0, 2, 3, 8] [(0, .pointer (some ⟨b0', 0, none⟩)), (2, .pointer (some ⟨b2, 0, none⟩)), (3, .pointer (some ⟨b20, 0, none⟩)), (8, .pointer (some ⟨b0', 0, none⟩))] (by kernel_rfl) ?_
  obtain ⟨x34, hx35, hm⟩ := bindE hm
  refine WL.call 83 #[.pointer (some ⟨b0', 0, none⟩), .int .i64 60] rfl rfl (by kernel_rfl) (c_83 n s_0_code a0_code' c0_code' x11.2.1 x11.2.2 b0' 60 w28 w0 B (aBox 42 b20 [.int .i64 (wI64 (1 + x11.1)), .int .i64 0] :: aBox 42 b2 [.int .i64 0, .int .i64 0] :: L) hx35 (Below.trans hE0 (Below.mono hb31 hW)) hW hL32 h0_code hle0_code (SH.front 2 (SH.front 1 (SH.front 2 hS30)))) ?_
  rintro _ w36 ⟨rfl, hB40, hS39⟩
  refine ⟨_, rfl, ?_⟩
  have hb41 : Below B w w36 := Below.trans hb31 hB40
  have hL42 : B ≤ w36.heap.size := Nat.le_trans hL32 hB40.size
  refine WL.runk 2 [0, 2, 3, 10, 11] [(0, .pointer (some ⟨b0', 0, none⟩)), (2, .pointer (some ⟨b2, 0, none⟩)), (3, .pointer (some ⟨b20, 0, none⟩)), (10, .int .i64 (wI64 (1 + x34.1))), (11, .pointer (some ⟨b20, 1, none⟩))] (by kernel_rfl) ?_
  refine WL.boxStore 1 [.int .i64 (wI64 (1 + x34.1))] [.int .i64 (wI64 (1 + x11.1)), .int .i64 (wI64 (1 + x34.1))] (SH.front 1 hS39) hL42 rfl rfl rfl rfl rfl rfl rfl (info2).1 (info2).2.1 rfl rfl rfl ?_
  intro w43 hB44 hS45
  have hb46 : Below B w w43 := Below.trans hb41 hB44
  have hL47 : B ≤ w43.heap.size := Nat.le_trans hL42 hB44.size
  refine WL.sub [(0, .pointer (some ⟨b0', 0, none⟩)), (2, .pointer (some ⟨b2, 0, none⟩)), (3, .pointer (some ⟨b20, 0, none⟩))] ⟨rfl, rfl, rfl, trivial⟩ ?_
  refine WL.nil ?_
  refine WQ.then_normal (hK33 _ _ _ ?_)
  refine WP.seq (fun K48 hK48 => ?_)
  refine WP.seq (fun K49 hK49 => ?_)
  refine WP.region ?_
  refine WL.runk 1 [2, 3, 12] [(2, .pointer (some ⟨b2, 0, none⟩)), (3, .pointer (some ⟨b20, 0, none⟩)), (12, .pointer (some ⟨b0', 0, none⟩))] (by kernel_rfl) ?_
  obtain ⟨x50, hx51, hm⟩ := bindE hm
  refine WL.call 84 #[.pointer (some ⟨b0', 0, none⟩), .int .i64 2] rfl rfl (by kernel_rfl) (c_84 n s_0_code a0_code' c0_code' x34.2.1 x34.2.2 b0' 2 w43 w0 B (aBox 42 b20 [.int .i64 (wI64 (1 + x11.1)), .int .i64 (wI64 (1 + x34.1))] :: aBox 42 b2 [.int .i64 0, .int .i64 0] :: L) hx51 (Below.trans hE0 (Below.mono hb46 hW)) hW hL47 h0_code hle0_code (SH.front 2 (SH.front 1 (SH.front 2 hS45)))) ?_
  rintro _ w52 ⟨rfl, hB56, hS55⟩
  refine ⟨_, rfl, ?_⟩
  have hb57 : Below B w w52 := Below.trans hb46 hB56
  have hL58 : B ≤ w52.heap.size := Nat.le_trans hL47 hB56.size
  refine WL.sub [(2, .pointer (some ⟨b2, 0, none⟩)), (3, .pointer (some ⟨b20, 0, none⟩)), (13, .bool x50.1)] ⟨rfl, rfl, rfl, trivial⟩ ?_
  refine WL.nil ?_
  refine WQ.then_normal (hK49 _ _ _ ?_)
  obtain ⟨x77, hx78, hm⟩ := bindE hm
  refine WP.cut (fun env' w' => env' = [(2, .pointer (some ⟨b2, 0, none⟩)), (3, .pointer (some ⟨b20, 0, none⟩))] ∧ Below B w w' ∧ B ≤ w'.heap.size ∧ SH w' B (aBox 90 b0' [.slice a0_code' s_0_code.length c0_code', .int .i64 x50.2.1, .int .u64 x50.2.2] :: aBox 42 b20 [.int .i64 (wI64 (1 + x11.1)), .int .i64 x77] :: aBox 42 b2 [.int .i64 0, .int .i64 0] :: L)) ?_ ?_
  rotate_left
  · clear hx78
    rintro _ w84 ⟨rfl, hb85, hL86, hS87⟩
    refine WQ.then_normal (hK48 _ _ _ ?_)
    refine WP.seq (fun K88 hK88 => ?_)
    refine WP.region ?_
    refine WL.st (.agg #[.int .i64 (wI64 (1 + x11.1)), .int .i64 x77]) (ST.loadAgg (vs := [.int .i64 (wI64 (1 + x11.1)), .int .i64 x77]) (fun j v hv => SH.boxPart (us := [.int .i64 (wI64 (1 + x11.1)), .int .i64 x77]) (SH.front 1 hS87) 0 rfl j v hv) rfl rfl rfl Try.underlying42 rfl (info42).1 (info42).2.1) rfl rfl rfl ?_
    refine WL.boxStore 0 [.int .i64 (wI64 (1 + x11.1)), .int .i64 x77] [.int .i64 (wI64 (1 + x11.1)), .int .i64 x77] (SH.front 2 hS87) hL86 rfl rfl rfl rfl rfl rfl rfl (info42).1 (info42).2.1 rfl rfl rfl ?_
    intro w89 hB90 hS91
    have hb92 : Below B w w89 := Below.trans hb85 hB90
    have hL93 : B ≤ w89.heap.size := Nat.le_trans hL86 hB90.size
    refine WL.sub [(2, .pointer (some ⟨b2, 0, none⟩))] ⟨rfl, trivial⟩ ?_
    refine WL.nil ?_
    refine WQ.then_normal (hK88 _ _ _ ?_)
    refine WP.ret ?_
    obtain rfl := Option.some.inj hm
    exact WQ.retv1 _ rfl (RVal.box (SH.front 0 hS91) rfl Try.underlying42 rfl (info42).1 (info42).2.1) ⟨rfl, hb92, (SH.cutOut 1 2 (SH.front 1 hS91))⟩
  have hm := hx78; clear hx78
  refine WP.cond x50.1 rfl rfl (fun hc59 => ?_) (fun hc59 => ?_)
  rotate_left
  · have hm := iteF hm hc59
    refine WP.skip ?_
    obtain rfl := Option.some.inj hm
    exact WQ.post' ⟨rfl, hb57, hL58, hS55⟩ ⟨rfl, rfl, trivial⟩
  have hm := iteT hm hc59
  refine WP.region ?_
  refine WL.runk 1 [2, 3, 14] [(2, .pointer (some ⟨b2, 0, none⟩)), (3, .pointer (some ⟨b20, 0, none⟩)), (14, .pointer (some ⟨b20, 1, none⟩))] (by kernel_rfl) ?_
  refine WL.st (.int .i64 (wI64 (1 + x34.1))) (ST.load (cell_ext (SH.boxAt (SH.front 1 hS55) 1 _ rfl)) rfl rfl Try.underlying2 rfl) rfl rfl rfl ?_
  refine WL.runk 2 [2, 3, 16, 17] [(2, .pointer (some ⟨b2, 0, none⟩)), (3, .pointer (some ⟨b20, 0, none⟩)), (16, .int .i64 (wI64 (0 - (wI64 (1 + x34.1))))), (17, .pointer (some ⟨b20, 1, none⟩))] (by kernel_rfl) ?_
  refine WL.boxStore 1 [.int .i64 (wI64 (0 - (wI64 (1 + x34.1))))] [.int .i64 (wI64 (1 + x11.1)), .int .i64 (wI64 (0 - (wI64 (1 + x34.1))))] (SH.front 1 hS55) hL58 rfl rfl rfl rfl rfl rfl rfl (info2).1 (info2).2.1 rfl rfl rfl ?_
  intro w79 hB80 hS81
  have hb82 : Below B w w79 := Below.trans hb57 hB80
  have hL83 : B ≤ w79.heap.size := Nat.le_trans hL58 hB80.size
  refine WL.sub [(2, .pointer (some ⟨b2, 0, none⟩)), (3, .pointer (some ⟨b20, 0, none⟩))] ⟨rfl, rfl, trivial⟩ ?_
  refine WL.nil ?_
  obtain rfl := Option.some.inj hm
  exact WQ.post' ⟨rfl, hb82, hL83, (SH.front 2 (SH.front 1 (SH.front 2 hS81)))⟩ ⟨rfl, rfl, trivial⟩

theorem c_71 (n : Nat) (code_0 : List Int) (a0' : Option Addr) (c0' : Nat) (w : World) {r : (Int × Int)} (hm : m_spec_l00From n code_0 = some r) (_h0 : Rd fU8.ty w a0' code_0) (_hle0 : code_0.length ≤ c0') :
    CallV Try.prog 71 #[.slice a0' code_0.length c0'] w (fun v w' => ∃ (rb0 : Nat), v = .pointer (some ⟨rb0, 0, none⟩) ∧ Ext w w' ∧ SH w' w.heap.size [aBox 90 rb0 [.slice a0' code_0.length c0', .int .i64 r.1, .int .u64 r.2]]) := by
  unfold m_spec_l00From at hm
  refine CallV.enter Try.func71 rfl (by kernel_rfl) Try.ntmps71 (env := [(0, .slice a0' code_0.length c0')]) ⟨rfl, trivial⟩ ?_
  refine WP.seq (fun K1 hK1 => ?_)
  refine WP.region ?_
  refine WL.runk 1 [0] [(0, .slice a0' code_0.length c0')] (by kernel_rfl) ?_
  refine WL.nil ?_
  refine WQ.then_normal (hK1 _ _ _ ?_)
  refine WP.seq (fun K2 hK2 => ?_)
  refine WP.region ?_
  refine WL.runk 2 [4] [(4, .agg #[.slice a0' code_0.length c0', .int .i64 0, .int .u64 0])] (by kernel_rfl) ?_
  refine WL.box 90 [.slice a0' code_0.length c0', .int .i64 0, .int .u64 0] 5 (by kernel_rfl) rfl rfl rfl rfl ?_
  intro b3 w4 hE5 hR6
  have hb8 : Ext w w4 := Ext.trans (Ext.refl w) hE5
  have hL9 : w.heap.size ≤ w4.heap.size := Nat.le_trans (Nat.le_refl _) hE5.size
  have hS10 : SH w4 w.heap.size [aBox 90 b3 [.slice a0' code_0.length c0', .int .i64 0, .int .u64 0]] := SH.add (SH.nil _ _) hE5 (Nat.le_refl _) hR6
  refine WL.runk 1 [2] [(2, .pointer (some ⟨b3, 0, none⟩))] (by kernel_rfl) ?_
  refine WL.nil ?_
  refine WQ.then_normal (hK2 _ _ _ ?_)
  refine WP.ret ?_
  obtain rfl := Option.some.inj hm
  exact WQ.ret1 _ rfl rfl ⟨_, rfl, hb8, hS10⟩

theorem c_34 (n : Nat) (code_0 : List Int) (a0' : Option Addr) (c0' : Nat) (w : World) {r : SChange} (hm : m_spec_A2Change n code_0 = some r) (h0 : Rd fU8.ty w a0' code_0) (hle0 : code_0.length ≤ c0') :
    CallV Try.prog 34 #[.slice a0' code_0.length c0'] w (fun v w' => v = .agg #[.int .i64 r.Kind, .int .i64 r.Amount] ∧ Ext w w') := by
  unfold m_spec_A2Change at hm
  refine CallV.enter Try.func34 rfl (by kernel_rfl) Try.ntmps34 (env := [(0, .slice a0' code_0.length c0')]) ⟨rfl, trivial⟩ ?_
  refine WP.seq (fun K1 hK1 => ?_)
  refine WP.region ?_
  refine WL.box 42 [.int .i64 0, .int .i64 0] 2 (by kernel_rfl) rfl rfl rfl rfl ?_
  intro b2 w3 hE4 hR5
  have hb7 : Ext w w3 := Ext.trans (Ext.refl w) hE4
  have hL8 : w.heap.size ≤ w3.heap.size := Nat.le_trans (Nat.le_refl _) hE4.size
  have hS9 : SH w3 w.heap.size [aBox 42 b2 [.int .i64 0, .int .i64 0]] := SH.add (SH.nil _ _) hE4 (Nat.le_refl _) hR5
  refine WL.sub [(0, .slice a0' code_0.length c0'), (2, .pointer (some ⟨b2, 0, none⟩))] ⟨rfl, rfl, trivial⟩ ?_
  refine WL.nil ?_
  refine WQ.then_normal (hK1 _ _ _ ?_)
  refine WP.seq (fun K10 hK10 => ?_)
  refine WP.region ?_
  refine WL.runk 1 [2, 3] [(2, .pointer (some ⟨b2, 0, none⟩)), (3, .slice a0' code_0.length c0')] (by kernel_rfl) ?_
  obtain ⟨x11, hx12, hm⟩ := bindE hm
  refine WL.call 71 #[.slice a0' code_0.length c0'] rfl rfl (by kernel_rfl) (c_71 n code_0 a0' c0' w3 hx12 (Rd.below h0 hb7) hle0) ?_
  rintro _ w15 ⟨b13, rfl, hE16, hR17⟩
  refine ⟨_, rfl, ?_⟩
  have hb18 : Ext w w15 := Ext.trans hb7 hE16
  have hL19 : w.heap.size ≤ w15.heap.size := Nat.le_trans hL8 hE16.size
  have hS20 : SH w15 w.heap.size [aBox 90 b13 [.slice a0' code_0.length c0', .int .i64 x11.1, .int .u64 x11.2], aBox 42 b2 [.int .i64 0, .int .i64 0]] := SH.add hS9 hE16 hL8 hR17
  obtain ⟨x21, hx22, hm⟩ := bindE hm
  refine WL.call 70 #[.pointer (some ⟨b13, 0, none⟩)] rfl rfl (by kernel_rfl) (c_70 n code_0 a0' c0' x11.1 x11.2 b13 w15 w w.heap.size [aBox 42 b2 [.int .i64 0, .int .i64 0]] hx22 hb18 (Nat.le_refl _) hL19 h0 hle0 hS20) ?_
  rintro _ w23 ⟨rfl, hB27, hS26⟩
  refine ⟨_, rfl, ?_⟩
  have hb28 : Ext w w23 := Below.trans hb18 hB27
  have hL29 : w.heap.size ≤ w23.heap.size := Nat.le_trans hL19 hB27.size
  refine WL.boxStore 0 [.int .i64 x21.1.Kind, .int .i64 x21.1.Amount] [.int .i64 x21.1.Kind, .int .i64 x21.1.Amount] (SH.front 1 hS26) hL29 rfl rfl rfl rfl rfl rfl rfl (info42).1 (info42).2.1 rfl rfl rfl ?_
  intro w30 hB31 hS32
  have hb33 : Ext w w30 := Below.trans hb28 hB31
  have hL34 : w.heap.size ≤ w30.heap.size := Nat.le_trans hL29 hB31.size
  refine WL.sub [(2, .pointer (some ⟨b2, 0, none⟩))] ⟨rfl, trivial⟩ ?_
  refine WL.nil ?_
  refine WQ.then_normal (hK10 _ _ _ ?_)
  refine WP.ret ?_
  obtain rfl := Option.some.inj hm
  exact WQ.retv1 _ rfl (RVal.box (SH.front 0 hS32) rfl Try.underlying42 rfl (info42).1 (info42).2.1) ⟨rfl, hb33⟩

theorem c_35 (n : Nat) (code_0 : List Int) (a0' : Option Addr) (c0' : Nat) (at_1 : Int) (n_2 : Int) (w : World) {r : Int} (hm : m_laws_a2At n code_0 at_1 n_2 = some r) (h0 : Rd fU8.ty w a0' code_0) (_hle0 : code_0.length ≤ c0') :
    CallV Try.prog 35 #[.slice a0' code_0.length c0', .int .i64 at_1, .int .i64 n_2] w (fun v w' => v = .int .i64 r ∧ Ext w w') := by
  unfold m_laws_a2At at hm
  refine CallV.enter Try.func35 rfl (by kernel_rfl) Try.ntmps35 (env := [(0, .slice a0' code_0.length c0'), (1, .int .i64 at_1), (2, .int .i64 n_2)]) ⟨rfl, rfl, rfl, trivial⟩ ?_
  refine WP.seq (fun K1 hK1 => ?_)
  refine WP.region ?_
  refine WL.runk 1 [0, 1, 2] [(0, .slice a0' code_0.length c0'), (1, .int .i64 at_1), (2, .int .i64 n_2)] (by kernel_rfl) ?_
  refine WL.nil ?_
  refine WQ.then_normal (hK1 _ _ _ ?_)
  refine WP.seq (fun K2 hK2 => ?_)
  refine WP.seq (fun K3 hK3 => ?_)
  obtain ⟨x5, hx6, hm⟩ := bindE hm
  refine WP.cut (fun env' w' => env' = [(0, .slice a0' code_0.length c0'), (1, .int .i64 at_1), (2, .int .i64 n_2), (14, .bool x5)] ∧ Ext w w' ∧ w.heap.size ≤ w'.heap.size ∧ SH w' w.heap.size []) ?_ ?_
  · have hm := hx6; clear hx6
    refine WP.region ?_
    refine WL.runk 5 [0, 1, 2, 11] [(0, .slice a0' code_0.length c0'), (1, .int .i64 at_1), (2, .int .i64 n_2), (11, .bool (decide (at_1 ≥ (code_0.length : Int))))] (by kernel_rfl) ?_
    refine WL.case (decide (at_1 ≥ (code_0.length : Int))) [11] ⟨rfl, trivial⟩ (fun hc7 => ?_) (fun hc7 => ?_)
    · have hm := iteT hm hc7
      refine WL.runk 3 [0, 1, 2, 14] [(0, .slice a0' code_0.length c0'), (1, .int .i64 at_1), (2, .int .i64 n_2), (14, .bool true)] (by kernel_rfl) ?_
      refine WL.nil ?_
      obtain rfl := Option.some.inj hm
      exact WQ.post' ⟨rfl, (Ext.refl w), (Nat.le_refl _), (SH.nil _ _)⟩ ⟨rfl, rfl, rfl, rfl, trivial⟩
    have hm := iteF hm hc7
    refine WL.runk 3 [0, 1, 2, 14] [(0, .slice a0' code_0.length c0'), (1, .int .i64 at_1), (2, .int .i64 n_2), (14, .bool (decide (n_2 < 1)))] (by kernel_rfl) ?_
    refine WL.nil ?_
    obtain rfl := Option.some.inj hm
    exact WQ.post' ⟨rfl, (Ext.refl w), (Nat.le_refl _), (SH.nil _ _)⟩ ⟨rfl, rfl, rfl, rfl, trivial⟩
  clear hx6
  rintro _ w8 ⟨rfl, hb9, hL10, hS11⟩
  refine WQ.then_normal (hK3 _ _ _ ?_)
  refine WP.cond x5 rfl rfl (fun hc12 => ?_) (fun hc12 => ?_)
  · have hm := iteT hm hc12
    refine WP.seq (fun K13 hK13 => ?_)
    refine WP.region ?_
    refine WL.runk 1 [6] [(6, .int .i64 0)] (by kernel_rfl) ?_
    refine WL.nil ?_
    refine WQ.then_normal (hK13 _ _ _ ?_)
    refine WP.ret ?_
    refine WQ.then_ret ?_
    obtain rfl := Option.some.inj hm
    exact WQ.ret1 _ rfl rfl ⟨rfl, hb9⟩
  have hm := iteF hm hc12
  refine WP.skip ?_
  refine WQ.then_normal (hK2 _ _ _ ?_)
  refine WP.seq (fun K14 hK14 => ?_)
  refine WP.region ?_
  refine WL.runk 2 [2, 15, 16] [(2, .int .i64 n_2), (15, .slice a0' code_0.length c0'), (16, .int .i64 at_1)] (by kernel_rfl) ?_
  obtain ⟨x15, hx16, hm⟩ := bindE hm
  refine WL.st (.pointer (some (at_ a0' (Int.toNat at_1 * 1)))) (ST.index (T := fU8.ty) (xs := code_0) (Rd.below h0 hb9) hx16 rfl rfl rfl Try.underlying47 (info5).1 (info5).2.1) rfl rfl rfl ?_
  refine WL.st (.int .u8 x15) (ST.load (cell_ext (Rd.flat (F := fU8) (Rd.below h0 hb9) hx16 0 rfl)) rfl rfl Try.underlying5 rfl) rfl rfl rfl ?_
  refine WL.runk 2 [19, 20] [(19, .int .i64 (wI64 x15)), (20, .int .i64 n_2)] (by kernel_rfl) ?_
  obtain ⟨x17, hx18, hm⟩ := bindE hm
  refine WL.st (.int .i64 x17) (ST.rem (k := .i64) hx18 rfl rfl rfl) rfl rfl rfl ?_
  refine WL.runk 1 [6] [(6, .int .i64 x17)] (by kernel_rfl) ?_
  refine WL.nil ?_
  refine WQ.then_normal (hK14 _ _ _ ?_)
  refine WP.ret ?_
  obtain rfl := Option.some.inj hm
  exact WQ.ret1 _ rfl rfl ⟨rfl, hb9⟩

theorem c_36 (n : Nat) (list_0 : List Int) (a0' : Option Addr) (c0' : Nat) (w : World) {r : Int} (hm : m_laws_a2Sum n list_0 = some r) (h0 : Rd fInt.ty w a0' list_0) (_hle0 : list_0.length ≤ c0') :
    CallV Try.prog 36 #[.slice a0' list_0.length c0'] w (fun v w' => v = .int .i64 r ∧ Ext w w') := by
  unfold m_laws_a2Sum at hm
  refine CallV.enter Try.func36 rfl (by kernel_rfl) Try.ntmps36 (env := [(0, .slice a0' list_0.length c0')]) ⟨rfl, trivial⟩ ?_
  refine WP.seq (fun K1 hK1 => ?_)
  refine WP.region ?_
  refine WL.runk 1 [0] [(0, .slice a0' list_0.length c0')] (by kernel_rfl) ?_
  refine WL.nil ?_
  refine WQ.then_normal (hK1 _ _ _ ?_)
  refine WP.seq (fun K2 hK2 => ?_)
  refine WP.region ?_
  refine WL.runk 1 [0, 3] [(0, .slice a0' list_0.length c0'), (3, .int .i64 0)] (by kernel_rfl) ?_
  refine WL.nil ?_
  refine WQ.then_normal (hK2 _ _ _ ?_)
  refine WP.seq (fun K3 hK3 => ?_)
  refine WP.seq (fun K4 hK4 => ?_)
  refine WP.region ?_
  refine WL.runk 1 [0, 3, 4] [(0, .slice a0' list_0.length c0'), (3, .int .i64 0), (4, .int .i64 0)] (by kernel_rfl) ?_
  refine WL.nil ?_
  refine WQ.then_normal (hK4 _ _ _ ?_)
  refine WP.block ?_
  obtain ⟨t16, ht17, hm⟩ := bindE hm
  have hmo11 := hm; clear hm
  refine WP.sub [(0, .slice a0' list_0.length c0'), (3, .int .i64 0), (4, .int .i64 0)] ⟨rfl, rfl, rfl, trivial⟩ ?_
  refine WP.loop (fun n' env' w' => ∃ (st5 : Int × Int) , env' = [(0, .slice a0' list_0.length c0'), (3, .int .i64 st5.1), (4, .int .i64 st5.2)] ∧ Ext w w' ∧ w.heap.size ≤ w'.heap.size ∧ SH w' w.heap.size [] ∧ loopN (m_laws_a2Sum_l1 n list_0) n' st5 = some t16) n ⟨(0, 0), rfl, (Ext.refl w), (Nat.le_refl _), (SH.nil _ _), ht17⟩ ?_
  rintro n13 _ w6 ⟨st5, rfl, hb7, hL8, hS9, hl10⟩ K12 hK12
  obtain ⟨n14, s15, rfl, hm, hl10⟩ := loopN_some hl10
  unfold m_laws_a2Sum_l1 at hm
  refine WP.seq (fun K18 hK18 => ?_)
  refine WP.seq (fun K19 hK19 => ?_)
  refine WP.region ?_
  refine WL.runk 4 [0, 3, 4, 8] [(0, .slice a0' list_0.length c0'), (3, .int .i64 st5.1), (4, .int .i64 st5.2), (8, .bool (decide (st5.2 < (list_0.length : Int))))] (by kernel_rfl) ?_
  refine WL.nil ?_
  refine WQ.then_normal (hK19 _ _ _ ?_)
  refine WP.cond (decide (st5.2 < (list_0.length : Int))) rfl rfl (fun hc20 => ?_) (fun hc20 => ?_)
  rotate_left
  · have hm := iteF hm hc20
    refine WP.exit ?_
    refine WQ.then_exit ?_
    refine WQ.then_exit ?_
    refine WQ.block_here ?_
    obtain rfl := Option.some.inj hm
    obtain rfl := afterN_done hl10
    have hm := hmo11
    refine WQ.then_normal (hK3 _ _ _ ?_)
    refine WP.seq (fun K24 hK24 => ?_)
    refine WP.region ?_
    refine WL.runk 2 [2] [(2, .int .i64 st5.1)] (by kernel_rfl) ?_
    refine WL.nil ?_
    refine WQ.then_normal (hK24 _ _ _ ?_)
    refine WP.ret ?_
    obtain rfl := Option.some.inj hm
    exact WQ.ret1 _ rfl rfl ⟨rfl, hb7⟩
  have hm := iteT hm hc20
  refine WP.skip ?_
  refine WQ.then_normal (hK18 _ _ _ ?_)
  refine WP.seq (fun K21 hK21 => ?_)
  refine WP.block ?_
  refine WP.region ?_
  refine WL.runk 3 [0, 4, 11, 12, 13] [(0, .slice a0' list_0.length c0'), (4, .int .i64 st5.2), (11, .int .i64 st5.1), (12, .slice a0' list_0.length c0'), (13, .int .i64 st5.2)] (by kernel_rfl) ?_
  obtain ⟨x22, hx23, hm⟩ := bindE hm
  refine WL.st (.pointer (some (at_ a0' (Int.toNat st5.2 * 1)))) (ST.index (T := fInt.ty) (xs := list_0) (Rd.below h0 hb7) hx23 rfl rfl rfl Try.underlying31 (info2).1 (info2).2.1) rfl rfl rfl ?_
  refine WL.st (.int .i64 x22) (ST.load (cell_ext (Rd.flat (F := fInt) (Rd.below h0 hb7) hx23 0 rfl)) rfl rfl Try.underlying2 rfl) rfl rfl rfl ?_
  refine WL.runk 2 [0, 3, 4] [(0, .slice a0' list_0.length c0'), (4, .int .i64 st5.2), (3, .int .i64 (wI64 (st5.1 + x22)))] (by kernel_rfl) ?_
  refine WL.nil ?_
  refine WQ.block_normal ?_
  refine WQ.then_normal (hK21 _ _ _ ?_)
  refine WP.region ?_
  refine WL.runk 3 [0, 3, 4] [(0, .slice a0' list_0.length c0'), (4, .int .i64 (wI64 (st5.2 + 1))), (3, .int .i64 (wI64 (st5.1 + x22)))] (by kernel_rfl) ?_
  refine WL.nil ?_
  obtain rfl := Option.some.inj hm
  exact WQ.round hK12 ⟨((wI64 (st5.1 + x22)), (wI64 (st5.2 + 1))), rfl, hb7, hL8, hS9, hl10⟩ (Nat.lt_succ_self _) ⟨rfl, rfl, rfl, trivial⟩

theorem c_37 (n : Nat) (n_0 : Int) (w : World) {r : Int} (hm : m_laws_a2Size n n_0 = some r)  :
    CallV Try.prog 37 #[.int .i64 n_0] w (fun v w' => v = .int .i64 r ∧ Ext w w') := by
  unfold m_laws_a2Size at hm
  refine CallV.enter Try.func37 rfl (by kernel_rfl) Try.ntmps37 (env := [(0, .int .i64 n_0)]) ⟨rfl, trivial⟩ ?_
  refine WP.seq (fun K1 hK1 => ?_)
  refine WP.region ?_
  refine WL.runk 1 [0] [(0, .int .i64 n_0)] (by kernel_rfl) ?_
  refine WL.nil ?_
  refine WQ.then_normal (hK1 _ _ _ ?_)
  refine WP.seq (fun K2 hK2 => ?_)
  refine WP.seq (fun K3 hK3 => ?_)
  refine WP.region ?_
  refine WL.runk 2 [0, 4] [(0, .int .i64 n_0), (4, .bool (decide (n_0 < 0)))] (by kernel_rfl) ?_
  refine WL.nil ?_
  refine WQ.then_normal (hK3 _ _ _ ?_)
  refine WP.cond (decide (n_0 < 0)) rfl rfl (fun hc4 => ?_) (fun hc4 => ?_)
  · have hm := iteT hm hc4
    refine WP.seq (fun K5 hK5 => ?_)
    refine WP.region ?_
    refine WL.runk 3 [2] [(2, .int .i64 (wI64 (0 - n_0)))] (by kernel_rfl) ?_
    refine WL.nil ?_
    refine WQ.then_normal (hK5 _ _ _ ?_)
    refine WP.ret ?_
    refine WQ.then_ret ?_
    obtain rfl := Option.some.inj hm
    exact WQ.ret1 _ rfl rfl ⟨rfl, (Ext.refl w)⟩
  have hm := iteF hm hc4
  refine WP.skip ?_
  refine WQ.then_normal (hK2 _ _ _ ?_)
  refine WP.seq (fun K6 hK6 => ?_)
  refine WP.region ?_
  refine WL.runk 2 [2] [(2, .int .i64 n_0)] (by kernel_rfl) ?_
  refine WL.nil ?_
  refine WQ.then_normal (hK6 _ _ _ ?_)
  refine WP.ret ?_
  obtain rfl := Option.some.inj hm
  exact WQ.ret1 _ rfl rfl ⟨rfl, (Ext.refl w)⟩

theorem c_72 (n : Nat) (s_0_code : List Int) (a0_code' : Option Addr) (c0_code' : Nat) (s_0_at_ : Int) (s_0_seed : Int) (b0' : Nat) (w : World) (w0 : World) (B : Nat) (L : List Asrt) {r : List SChange × Int × Int} (hm : m_spec_l22Draw n s_0_code s_0_at_ s_0_seed = some r) (hE0 : Ext w0 w) (hW : w0.heap.size ≤ B) (hL : B ≤ w.heap.size) (h0_code : Rd fU8.ty w0 a0_code' s_0_code) (hle0_code : s_0_code.length ≤ c0_code') (hS : SH w B (aBox 90 b0' [.slice a0_code' s_0_code.length c0_code', .int .i64 s_0_at_, .int .u64 s_0_seed] :: L)) :
    CallV Try.prog 72 #[.pointer (some ⟨b0', 0, none⟩)] w (fun v w' => ∃ (ra0 : Option Addr) (rc0 : Nat), v = .slice ra0 r.1.length rc0 ∧ Below B w w' ∧ SH w' B (aOwn fChange 42 ra0 rc0 r.1 :: aBox 90 b0' [.slice a0_code' s_0_code.length c0_code', .int .i64 r.2.1, .int .u64 r.2.2] :: L)) := by
  unfold m_spec_l22Draw at hm
  refine CallV.enter Try.func72 rfl (by kernel_rfl) Try.ntmps72 (env := [(0, .pointer (some ⟨b0', 0, none⟩))]) ⟨rfl, trivial⟩ ?_
  refine WP.seq (fun K1 hK1 => ?_)
  refine WP.region ?_
  refine WL.runk 1 [0] [(0, .pointer (some ⟨b0', 0, none⟩))] (by kernel_rfl) ?_
  refine WL.nil ?_
  refine WQ.then_normal (hK1 _ _ _ ?_)
  refine WP.seq (fun K2 hK2 => ?_)
  refine WP.region ?_
  refine WL.row fChange 42 ([] : List SChange) 0 #[] 5 (by kernel_rfl) rfl rfl rfl rfl rfl rfl rfl ?_
  intro a3 c4 w5 hE6 hR7
  have hb9 : Below B w w5 := Below.trans (Below.refl _ _) (Below.mono hE6 hL)
  have hL10 : B ≤ w5.heap.size := Nat.le_trans hL hE6.size
  have hS11 : SH w5 B (aOwn fChange 42 a3 c4 ([] : List SChange) :: aBox 90 b0' [.slice a0_code' s_0_code.length c0_code', .int .i64 s_0_at_, .int .u64 s_0_seed] :: L) := SH.add hS hE6 hL hR7
  refine WL.runk 1 [0, 3] [(0, .pointer (some ⟨b0', 0, none⟩)), (3, .slice a3 (([] : List SChange).length) c4)] (by kernel_rfl) ?_
  refine WL.nil ?_
  refine WQ.then_normal (hK2 _ _ _ ?_)
  refine WP.seq (fun K12 hK12 => ?_)
  refine WP.seq (fun K13 hK13 => ?_)
  refine WP.region ?_
  refine WL.runk 1 [0, 3, 6] [(0, .pointer (some ⟨b0', 0, none⟩)), (3, .slice a3 (([] : List SChange).length) c4), (6, .pointer (some ⟨b0', 0, none⟩))] (by kernel_rfl) ?_
  obtain ⟨x14, hx15, hm⟩ := bindE hm
  refine WL.call 83 #[.pointer (some ⟨b0', 0, none⟩), .int .i64 6] rfl rfl (by kernel_rfl) (c_83 n s_0_code a0_code' c0_code' s_0_at_ s_0_seed b0' 6 w5 w0 B (aOwn fChange 42 a3 c4 ([] : List SChange) :: L) hx15 (Below.trans hE0 (Below.mono hb9 hW)) hW hL10 h0_code hle0_code (SH.front 1 hS11)) ?_
  rintro _ w16 ⟨rfl, hB20, hS19⟩
  refine ⟨_, rfl, ?_⟩
  have hb21 : Below B w w16 := Below.trans hb9 hB20
  have hL22 : B ≤ w16.heap.size := Nat.le_trans hL10 hB20.size
  refine WL.runk 1 [0, 3, 4] [(0, .pointer (some ⟨b0', 0, none⟩)), (3, .slice a3 (([] : List SChange).length) c4), (4, .int .i64 x14.1)] (by kernel_rfl) ?_
  refine WL.nil ?_
  refine WQ.then_normal (hK13 _ _ _ ?_)
  refine WP.block ?_
  obtain ⟨t85, ht86, hm⟩ := bindE hm
  have hmo80 := hm; clear hm
  refine WP.sub [(0, .pointer (some ⟨b0', 0, none⟩)), (3, .slice a3 (([] : List SChange).length) c4), (4, .int .i64 x14.1)] ⟨rfl, rfl, rfl, trivial⟩ ?_
  refine WP.loop (fun n' env' w' => ∃ (st71 : List SChange × Int × Int × Int) (a72 : Option Addr) (c73 : Nat), env' = [(0, .pointer (some ⟨b0', 0, none⟩)), (3, .slice a72 st71.1.length c73), (4, .int .i64 st71.2.1)] ∧ Below B w w' ∧ B ≤ w'.heap.size ∧ SH w' B (aOwn fChange 42 a72 c73 st71.1 :: aBox 90 b0' [.slice a0_code' s_0_code.length c0_code', .int .i64 st71.2.2.1, .int .u64 st71.2.2.2] :: L) ∧ loopN (m_spec_l22Draw_l1 n s_0_code) n' st71 = some t85) n ⟨(([] : List SChange), x14.1, x14.2.1, x14.2.2), _, _, rfl, hb21, hL22, (SH.front 1 hS19), ht86⟩ ?_
  rintro n82 _ w75 ⟨st71, a72, c73, rfl, hb76, hL77, hS78, hl79⟩ K81 hK81
  obtain ⟨n83, s84, rfl, hm, hl79⟩ := loopN_some hl79
  unfold m_spec_l22Draw_l1 at hm
  refine WP.seq (fun K87 hK87 => ?_)
  refine WP.seq (fun K88 hK88 => ?_)
  refine WP.region ?_
  refine WL.runk 2 [0, 3, 4, 9] [(0, .pointer (some ⟨b0', 0, none⟩)), (3, .slice a72 st71.1.length c73), (4, .int .i64 st71.2.1), (9, .bool (decide (st71.2.1 > 0)))] (by kernel_rfl) ?_
  refine WL.nil ?_
  refine WQ.then_normal (hK88 _ _ _ ?_)
  refine WP.cond (decide (st71.2.1 > 0)) rfl rfl (fun hc89 => ?_) (fun hc89 => ?_)
  rotate_left
  · have hm := iteF hm hc89
    refine WP.exit ?_
    refine WQ.then_exit ?_
    refine WQ.then_exit ?_
    refine WQ.block_here ?_
    obtain rfl := Option.some.inj hm
    obtain rfl := afterN_done hl79
    have hm := hmo80
    refine WQ.then_normal (hK12 _ _ _ ?_)
    refine WP.seq (fun K118 hK118 => ?_)
    refine WP.region ?_
    refine WL.runk 2 [2] [(2, .slice a72 st71.1.length c73)] (by kernel_rfl) ?_
    refine WL.nil ?_
    refine WQ.then_normal (hK118 _ _ _ ?_)
    refine WP.ret ?_
    obtain rfl := Option.some.inj hm
    exact WQ.ret1 _ rfl rfl ⟨_, _, rfl, hb76, hS78⟩
  have hm := iteT hm hc89
  refine WP.skip ?_
  refine WQ.then_normal (hK87 _ _ _ ?_)
  refine WP.seq (fun K90 hK90 => ?_)
  refine WP.block ?_
  refine WP.region ?_
  refine WL.runk 2 [0, 4, 12, 13] [(0, .pointer (some ⟨b0', 0, none⟩)), (4, .int .i64 st71.2.1), (12, .slice a72 st71.1.length c73), (13, .pointer (some ⟨b0', 0, none⟩))] (by kernel_rfl) ?_
  obtain ⟨x91, hx92, hm⟩ := bindE hm
  refine WL.call 70 #[.pointer (some ⟨b0', 0, none⟩)] rfl rfl (by kernel_rfl) (c_70 n s_0_code a0_code' c0_code' st71.2.2.1 st71.2.2.2 b0' w75 w0 B (aOwn fChange 42 a72 c73 st71.1 :: L) hx92 (Below.trans hE0 (Below.mono hb76 hW)) hW hL77 h0_code hle0_code (SH.front 1 hS78)) ?_
  rintro _ w93 ⟨rfl, hB97, hS96⟩
  refine ⟨_, rfl, ?_⟩
  have hb98 : Below B w w93 := Below.trans hb76 hB97
  have hL99 : B ≤ w93.heap.size := Nat.le_trans hL77 hB97.size
  refine WL.row fChange 42 ([x91.1] : List SChange) 1 #[.int .i64 x91.1.Kind, .int .i64 x91.1.Amount] 15 (by kernel_rfl) rfl rfl rfl rfl rfl rfl rfl ?_
  intro a100 c101 w102 hE103 hR104
  have hb106 : Below B w w102 := Below.trans hb98 (Below.mono hE103 hL99)
  have hL107 : B ≤ w102.heap.size := Nat.le_trans hL99 hE103.size
  have hS108 : SH w102 B (aOwn fChange 42 a100 c101 ([x91.1] : List SChange) :: aBox 90 b0' [.slice a0_code' s_0_code.length c0_code', .int .i64 x91.2.1, .int .u64 x91.2.2] :: aOwn fChange 42 a72 c73 st71.1 :: L) := SH.add hS96 hE103 hL99 hR104
  obtain ⟨x109, hx110, hm⟩ := bindE hm
  refine WL.append (F := fChange) (xs := st71.1) (ys := ([x91.1] : List SChange)) 16 (SH.front 2 hS108) hL107 (SH.rd (SH.front 0 hS108)) hx110 rfl rfl rfl Try.underlying28 (info42).1 (info42).2.2.1 (info42).2.1 (info42).2.2.2 rfl rfl rfl rfl rfl ?_
  intro a111 c112 w113 hB114 hS115
  have hb116 : Below B w w113 := Below.trans hb106 hB114
  have hL117 : B ≤ w113.heap.size := Nat.le_trans hL107 hB114.size
  refine WL.runk 1 [0, 3, 4] [(0, .pointer (some ⟨b0', 0, none⟩)), (4, .int .i64 st71.2.1), (3, .slice a111 x109.length c112)] (by kernel_rfl) ?_
  refine WL.nil ?_
  refine WQ.block_normal ?_
  refine WQ.then_normal (hK90 _ _ _ ?_)
  refine WP.region ?_
  refine WL.runk 3 [0, 3, 4] [(0, .pointer (some ⟨b0', 0, none⟩)), (4, .int .i64 (wI64 (st71.2.1 - 1))), (3, .slice a111 x109.length c112)] (by kernel_rfl) ?_
  refine WL.nil ?_
  obtain rfl := Option.some.inj hm
  exact WQ.round hK81 ⟨(x109, (wI64 (st71.2.1 - 1)), x91.2.1, x91.2.2), _, _, rfl, hb116, hL117, (SH.cutOut 2 1 (SH.front 1 (SH.front 2 hS115))), hl79⟩ (Nat.lt_succ_self _) ⟨rfl, rfl, rfl, trivial⟩

theorem c_38 (n : Nat) (code_0 : List Int) (a0' : Option Addr) (c0' : Nat) (w : World) {r : List SChange} (hm : m_spec_A2Changes n code_0 = some r) (h0 : Rd fU8.ty w a0' code_0) (hle0 : code_0.length ≤ c0') :
    CallV Try.prog 38 #[.slice a0' code_0.length c0'] w (fun v w' => ∃ (ra0 : Option Addr) (rc0 : Nat), v = .slice ra0 r.length rc0 ∧ Ext w w' ∧ SH w' w.heap.size [aOwn fChange 42 ra0 rc0 r]) := by
  unfold m_spec_A2Changes at hm
  refine CallV.enter Try.func38 rfl (by kernel_rfl) Try.ntmps38 (env := [(0, .slice a0' code_0.length c0')]) ⟨rfl, trivial⟩ ?_
  refine WP.seq (fun K1 hK1 => ?_)
  refine WP.region ?_
  refine WL.runk 1 [0] [(0, .slice a0' code_0.length c0')] (by kernel_rfl) ?_
  refine WL.nil ?_
  refine WQ.then_normal (hK1 _ _ _ ?_)
  refine WP.seq (fun K2 hK2 => ?_)
  refine WP.region ?_
  refine WL.runk 1 [3] [(3, .slice a0' code_0.length c0')] (by kernel_rfl) ?_
  obtain ⟨x3, hx4, hm⟩ := bindE hm
  refine WL.call 71 #[.slice a0' code_0.length c0'] rfl rfl (by kernel_rfl) (c_71 n code_0 a0' c0' w hx4 (Rd.below h0 (Ext.refl w)) hle0) ?_
  rintro _ w7 ⟨b5, rfl, hE8, hR9⟩
  refine ⟨_, rfl, ?_⟩
  have hb10 : Ext w w7 := Ext.trans (Ext.refl w) hE8
  have hL11 : w.heap.size ≤ w7.heap.size := Nat.le_trans (Nat.le_refl _) hE8.size
  have hS12 : SH w7 w.heap.size [aBox 90 b5 [.slice a0' code_0.length c0', .int .i64 x3.1, .int .u64 x3.2]] := SH.add (SH.nil _ _) hE8 (Nat.le_refl _) hR9
  obtain ⟨x13, hx14, hm⟩ := bindE hm
  refine WL.call 72 #[.pointer (some ⟨b5, 0, none⟩)] rfl rfl (by kernel_rfl) (c_72 n code_0 a0' c0' x3.1 x3.2 b5 w7 w w.heap.size [] hx14 hb10 (Nat.le_refl _) hL11 h0 hle0 hS12) ?_
  rintro _ w18 ⟨a15, c16, rfl, hB22, hS21⟩
  refine ⟨_, rfl, ?_⟩
  have hb23 : Ext w w18 := Below.trans hb10 hB22
  have hL24 : w.heap.size ≤ w18.heap.size := Nat.le_trans hL11 hB22.size
  refine WL.runk 1 [2] [(2, .slice a15 x13.1.length c16)] (by kernel_rfl) ?_
  refine WL.nil ?_
  refine WQ.then_normal (hK2 _ _ _ ?_)
  refine WP.ret ?_
  obtain rfl := Option.some.inj hm
  exact WQ.ret1 _ rfl rfl ⟨_, _, rfl, hb23, (SH.take 1 hS21)⟩

end Go.Proofs.Ytlplbjeegkkilaa
