/- Each call does what its Lean function says. -/
import Derived.Test.YtkjjjbfpecmieaaTi
import Derived.Test.YtkjjjbfpecmieaaMo
set_option maxRecDepth 20000
namespace Go.Proofs.Ytkjjjbfpecmieaa
open Go Go.Gv Go.RowKit

theorem c_17 (n : Nat) (n_0 : Int) (low_1 : Int) (high_2 : Int) (w : World) {r : Bool} (hm : m_spec_l00In n n_0 low_1 high_2 = some r)  :
    CallV Try.prog 17 #[.int .i64 n_0, .int .i64 low_1, .int .i64 high_2] w (fun v w' => v = .bool r ∧ Ext w w') := by
  unfold m_spec_l00In at hm
  refine CallV.enter Try.func17 rfl (by kernel_rfl) Try.ntmps17 (env := [(0, .int .i64 n_0), (1, .int .i64 low_1), (2, .int .i64 high_2)]) ⟨rfl, rfl, rfl, trivial⟩ ?_
  refine WP.seq (fun K1 hK1 => ?_)
  refine WP.region ?_
  refine WL.runk 1 [0, 1, 2] [(0, .int .i64 n_0), (1, .int .i64 low_1), (2, .int .i64 high_2)] (by kernel_rfl) ?_
  refine WL.nil ?_
  refine WQ.then_normal (hK1 _ _ _ ?_)
  refine WP.seq (fun K2 hK2 => ?_)
  obtain ⟨x4, hx5, hm⟩ := bindE hm
  refine WP.cut (fun env' w' => env' = [(6, .bool x4)] ∧ Ext w w' ∧ w.heap.size ≤ w'.heap.size ∧ SH w' w.heap.size []) ?_ ?_
  · have hm := hx5; clear hx5
    refine WP.region ?_
    refine WL.runk 4 [0, 2, 10] [(0, .int .i64 n_0), (2, .int .i64 high_2), (10, .bool (decide (n_0 ≥ low_1)))] (by kernel_rfl) ?_
    refine WL.case (decide (n_0 ≥ low_1)) [10] ⟨rfl, trivial⟩ (fun hc3 => ?_) (fun hc3 => ?_)
    · have hm := iteT hm hc3
      refine WL.runk 5 [6] [(6, .bool (decide (n_0 ≤ high_2)))] (by kernel_rfl) ?_
      refine WL.nil ?_
      obtain rfl := Option.some.inj hm
      exact WQ.post' ⟨rfl, (Ext.refl w), (Nat.le_refl _), (SH.nil _ _)⟩ ⟨rfl, trivial⟩
    · have hm := iteF hm hc3
      refine WL.runk 5 [6] [(6, .bool false)] (by kernel_rfl) ?_
      refine WL.nil ?_
      obtain rfl := Option.some.inj hm
      exact WQ.post' ⟨rfl, (Ext.refl w), (Nat.le_refl _), (SH.nil _ _)⟩ ⟨rfl, trivial⟩
  · clear hx5
    rintro _ w6 ⟨rfl, hb7, hL8, hS9⟩
    refine WQ.then_normal (hK2 _ _ _ ?_)
    refine WP.ret ?_
    obtain rfl := Option.some.inj hm
    exact WQ.ret1 _ rfl rfl ⟨rfl, hb7⟩

theorem c_6 (n : Nat) (code_0 : Int) (w : World) {r : List UInt8} (hm : m_spec_TroubleName n code_0 = some r)  :
    CallV Try.prog 6 #[.int .i64 code_0] w (fun v w' => v = .string (bs r) ∧ Ext w w') := by
  unfold m_spec_TroubleName at hm
  refine CallV.enter Try.func6 rfl (by kernel_rfl) Try.ntmps6 (env := [(0, .int .i64 code_0)]) ⟨rfl, trivial⟩ ?_
  refine WP.seq (fun K1 hK1 => ?_)
  refine WP.region ?_
  refine WL.runk 1 [0] [(0, .int .i64 code_0)] (by kernel_rfl) ?_
  refine WL.nil ?_
  refine WQ.then_normal (hK1 _ _ _ ?_)
  refine WP.seq (fun K2 hK2 => ?_)
  refine WP.region ?_
  refine WL.row fStr 9 ([[119, 111, 114, 100], [99, 111, 117, 110, 116], [110, 117, 109, 98, 101, 114], [110, 97, 109, 101], [116, 119, 105, 99, 101], [108, 97, 99, 107, 115]] : List (List UInt8)) 6 #[.string (bs [119, 111, 114, 100]), .string (bs [99, 111, 117, 110, 116]), .string (bs [110, 117, 109, 98, 101, 114]), .string (bs [110, 97, 109, 101]), .string (bs [116, 119, 105, 99, 101]), .string (bs [108, 97, 99, 107, 115])] 4 (by kernel_rfl) rfl rfl rfl rfl rfl rfl rfl ?_
  intro a3 c4 w5 hE6 hR7
  have hb9 : Ext w w5 := Ext.trans (Ext.refl w) hE6
  have hL10 : w.heap.size ≤ w5.heap.size := Nat.le_trans (Nat.le_refl _) hE6.size
  have hS11 : SH w5 w.heap.size [aOwn fStr 9 a3 c4 ([[119, 111, 114, 100], [99, 111, 117, 110, 116], [110, 117, 109, 98, 101, 114], [110, 97, 109, 101], [116, 119, 105, 99, 101], [108, 97, 99, 107, 115]] : List (List UInt8))] := SH.add (SH.nil _ _) hE6 (Nat.le_refl _) hR7
  refine WL.runk 1 [0, 3] [(0, .int .i64 code_0), (3, .slice a3 (([[119, 111, 114, 100], [99, 111, 117, 110, 116], [110, 117, 109, 98, 101, 114], [110, 97, 109, 101], [116, 119, 105, 99, 101], [108, 97, 99, 107, 115]] : List (List UInt8)).length) c4)] (by kernel_rfl) ?_
  refine WL.nil ?_
  refine WQ.then_normal (hK2 _ _ _ ?_)
  refine WP.seq (fun K12 hK12 => ?_)
  refine WP.seq (fun K13 hK13 => ?_)
  refine WP.region ?_
  refine WL.runk 3 [0, 3, 5, 7] [(0, .int .i64 code_0), (3, .slice a3 (([[119, 111, 114, 100], [99, 111, 117, 110, 116], [110, 117, 109, 98, 101, 114], [110, 97, 109, 101], [116, 119, 105, 99, 101], [108, 97, 99, 107, 115]] : List (List UInt8)).length) c4), (5, .int .i64 code_0), (7, .int .i64 ((([[119, 111, 114, 100], [99, 111, 117, 110, 116], [110, 117, 109, 98, 101, 114], [110, 97, 109, 101], [116, 119, 105, 99, 101], [108, 97, 99, 107, 115]] : List (List UInt8)).length) : Int))] (by kernel_rfl) ?_
  obtain ⟨x14, hx15, hm⟩ := bindE hm
  refine WL.call 17 #[.int .i64 code_0, .int .i64 1, .int .i64 ((([[119, 111, 114, 100], [99, 111, 117, 110, 116], [110, 117, 109, 98, 101, 114], [110, 97, 109, 101], [116, 119, 105, 99, 101], [108, 97, 99, 107, 115]] : List (List UInt8)).length) : Int)] rfl rfl (by kernel_rfl) (c_17 n code_0 1 ((([[119, 111, 114, 100], [99, 111, 117, 110, 116], [110, 117, 109, 98, 101, 114], [110, 97, 109, 101], [116, 119, 105, 99, 101], [108, 97, 99, 107, 115]] : List (List UInt8)).length) : Int) w5 hx15 ) ?_
  rintro _ w16 ⟨rfl, hE17⟩
  refine ⟨_, rfl, ?_⟩
  have hb19 : Ext w w16 := Ext.trans hb9 hE17
  have hL20 : w.heap.size ≤ w16.heap.size := Nat.le_trans hL10 hE17.size
  have hS21 : SH w16 w.heap.size [aOwn fStr 9 a3 c4 ([[119, 111, 114, 100], [99, 111, 117, 110, 116], [110, 117, 109, 98, 101, 114], [110, 97, 109, 101], [116, 119, 105, 99, 101], [108, 97, 99, 107, 115]] : List (List UInt8))] := SH.ext hS11 hE17
  refine WL.runk 1 [0, 3, 9] [(0, .int .i64 code_0), (3, .slice a3 (([[119, 111, 114, 100], [99, 111, 117, 110, 116], [110, 117, 109, 98, 101, 114], [110, 97, 109, 101], [116, 119, 105, 99, 101], [108, 97, 99, 107, 115]] : List (List UInt8)).length) c4), (9, .bool (!x14))] (by kernel_rfl) ?_
  refine WL.nil ?_
  refine WQ.then_normal (hK13 _ _ _ ?_)
  refine WP.cond (!x14) rfl rfl (fun hc22 => ?_) (fun hc22 => ?_)
  · have hm := iteT hm hc22
    refine WP.seq (fun K23 hK23 => ?_)
    refine WP.region ?_
    refine WL.runk 1 [2] [(2, .string (bs []))] (by kernel_rfl) ?_
    refine WL.nil ?_
    refine WQ.then_normal (hK23 _ _ _ ?_)
    refine WP.ret ?_
    refine WQ.then_ret ?_
    obtain rfl := Option.some.inj hm
    exact WQ.ret1 _ rfl rfl ⟨rfl, hb19⟩
  · have hm := iteF hm hc22
    refine WP.skip ?_
    refine WQ.then_normal (hK12 _ _ _ ?_)
    refine WP.seq (fun K24 hK24 => ?_)
    refine WP.region ?_
    refine WL.runk 3 [10, 12] [(10, .slice a3 (([[119, 111, 114, 100], [99, 111, 117, 110, 116], [110, 117, 109, 98, 101, 114], [110, 97, 109, 101], [116, 119, 105, 99, 101], [108, 97, 99, 107, 115]] : List (List UInt8)).length) c4), (12, .int .i64 (wI64 (code_0 - 1)))] (by kernel_rfl) ?_
    obtain ⟨x25, hx26, hm⟩ := bindE hm
    refine WL.st (.pointer (some (at_ a3 (Int.toNat (wI64 (code_0 - 1)) * 1)))) (ST.index (T := fStr.ty) (xs := ([[119, 111, 114, 100], [99, 111, 117, 110, 116], [110, 117, 109, 98, 101, 114], [110, 97, 109, 101], [116, 119, 105, 99, 101], [108, 97, 99, 107, 115]] : List (List UInt8))) (SH.rd (SH.front 0 hS21)) hx26 rfl rfl rfl Try.underlying24 (info9).1 (info9).2.1) rfl rfl rfl ?_
    refine WL.st (.string (bs x25)) (ST.load (cell_ext (Rd.flat (F := fStr) (SH.rd (SH.front 0 hS21)) hx26 0 rfl)) rfl rfl Try.underlying9 rfl) rfl rfl rfl ?_
    refine WL.runk 1 [2] [(2, .string (bs x25))] (by kernel_rfl) ?_
    refine WL.nil ?_
    refine WQ.then_normal (hK24 _ _ _ ?_)
    refine WP.ret ?_
    obtain rfl := Option.some.inj hm
    exact WQ.ret1 _ rfl rfl ⟨rfl, hb19⟩

theorem c_18 (n : Nat) (n_0 : Int) (low_1 : Int) (high_2 : Int) (w : World) {r : Bool} (hm : m_impl_within n n_0 low_1 high_2 = some r)  :
    CallV Try.prog 18 #[.int .i64 n_0, .int .i64 low_1, .int .i64 high_2] w (fun v w' => v = .bool r ∧ Ext w w') := by
  unfold m_impl_within at hm
  refine CallV.enter Try.func18 rfl (by kernel_rfl) Try.ntmps18 (env := [(0, .int .i64 n_0), (1, .int .i64 low_1), (2, .int .i64 high_2)]) ⟨rfl, rfl, rfl, trivial⟩ ?_
  refine WP.seq (fun K1 hK1 => ?_)
  refine WP.region ?_
  refine WL.runk 1 [0, 1, 2] [(0, .int .i64 n_0), (1, .int .i64 low_1), (2, .int .i64 high_2)] (by kernel_rfl) ?_
  refine WL.nil ?_
  refine WQ.then_normal (hK1 _ _ _ ?_)
  refine WP.seq (fun K2 hK2 => ?_)
  obtain ⟨x4, hx5, hm⟩ := bindE hm
  refine WP.cut (fun env' w' => env' = [(6, .bool x4)] ∧ Ext w w' ∧ w.heap.size ≤ w'.heap.size ∧ SH w' w.heap.size []) ?_ ?_
  · have hm := hx5; clear hx5
    refine WP.region ?_
    refine WL.runk 4 [0, 2, 10] [(0, .int .i64 n_0), (2, .int .i64 high_2), (10, .bool (decide (n_0 ≥ low_1)))] (by kernel_rfl) ?_
    refine WL.case (decide (n_0 ≥ low_1)) [10] ⟨rfl, trivial⟩ (fun hc3 => ?_) (fun hc3 => ?_)
    · have hm := iteT hm hc3
      refine WL.runk 5 [6] [(6, .bool (decide (n_0 ≤ high_2)))] (by kernel_rfl) ?_
      refine WL.nil ?_
      obtain rfl := Option.some.inj hm
      exact WQ.post' ⟨rfl, (Ext.refl w), (Nat.le_refl _), (SH.nil _ _)⟩ ⟨rfl, trivial⟩
    · have hm := iteF hm hc3
      refine WL.runk 5 [6] [(6, .bool false)] (by kernel_rfl) ?_
      refine WL.nil ?_
      obtain rfl := Option.some.inj hm
      exact WQ.post' ⟨rfl, (Ext.refl w), (Nat.le_refl _), (SH.nil _ _)⟩ ⟨rfl, trivial⟩
  · clear hx5
    rintro _ w6 ⟨rfl, hb7, hL8, hS9⟩
    refine WQ.then_normal (hK2 _ _ _ ?_)
    refine WP.ret ?_
    obtain rfl := Option.some.inj hm
    exact WQ.ret1 _ rfl rfl ⟨rfl, hb7⟩

theorem c_7 (n : Nat) (code_0 : Int) (w : World) {r : List UInt8} (hm : m_impl_TroubleName n code_0 = some r)  :
    CallV Try.prog 7 #[.int .i64 code_0] w (fun v w' => v = .string (bs r) ∧ Ext w w') := by
  unfold m_impl_TroubleName at hm
  refine CallV.enter Try.func7 rfl (by kernel_rfl) Try.ntmps7 (env := [(0, .int .i64 code_0)]) ⟨rfl, trivial⟩ ?_
  refine WP.seq (fun K1 hK1 => ?_)
  refine WP.region ?_
  refine WL.runk 1 [0] [(0, .int .i64 code_0)] (by kernel_rfl) ?_
  refine WL.nil ?_
  refine WQ.then_normal (hK1 _ _ _ ?_)
  refine WP.seq (fun K2 hK2 => ?_)
  refine WP.seq (fun K3 hK3 => ?_)
  refine WP.region ?_
  refine WL.runk 1 [0, 3] [(0, .int .i64 code_0), (3, .int .i64 code_0)] (by kernel_rfl) ?_
  obtain ⟨x4, hx5, hm⟩ := bindE hm
  refine WL.call 18 #[.int .i64 code_0, .int .i64 1, .int .i64 6] rfl rfl (by kernel_rfl) (c_18 n code_0 1 6 w hx5 ) ?_
  rintro _ w6 ⟨rfl, hE7⟩
  refine ⟨_, rfl, ?_⟩
  have hb9 : Ext w w6 := Ext.trans (Ext.refl w) hE7
  have hL10 : w.heap.size ≤ w6.heap.size := Nat.le_trans (Nat.le_refl _) hE7.size
  have hS11 : SH w6 w.heap.size [] := SH.ext (SH.nil _ _) hE7
  refine WL.runk 1 [0, 5] [(0, .int .i64 code_0), (5, .bool (!x4))] (by kernel_rfl) ?_
  refine WL.nil ?_
  refine WQ.then_normal (hK3 _ _ _ ?_)
  refine WP.cond (!x4) rfl rfl (fun hc12 => ?_) (fun hc12 => ?_)
  · have hm := iteT hm hc12
    refine WP.seq (fun K13 hK13 => ?_)
    refine WP.region ?_
    refine WL.runk 1 [2] [(2, .string (bs []))] (by kernel_rfl) ?_
    refine WL.nil ?_
    refine WQ.then_normal (hK13 _ _ _ ?_)
    refine WP.ret ?_
    refine WQ.then_ret ?_
    obtain rfl := Option.some.inj hm
    exact WQ.ret1 _ rfl rfl ⟨rfl, hb9⟩
  · have hm := iteF hm hc12
    refine WP.skip ?_
    refine WQ.then_normal (hK2 _ _ _ ?_)
    refine WP.seq (fun K14 hK14 => ?_)
    refine WP.region ?_
    refine WL.runk 2 [6, 7] [(6, .agg #[.string (bs []), .string (bs [119, 111, 114, 100]), .string (bs [99, 111, 117, 110, 116]), .string (bs [110, 117, 109, 98, 101, 114]), .string (bs [110, 97, 109, 101]), .string (bs [116, 119, 105, 99, 101]), .string (bs [108, 97, 99, 107, 115])]), (7, .int .i64 code_0)] (by kernel_rfl) ?_
    obtain ⟨x15, hx16, hm⟩ := bindE hm
    refine WL.st (.string (bs x15)) (ST.aindex (F := fStr) (xs := ([[], [119, 111, 114, 100], [99, 111, 117, 110, 116], [110, 117, 109, 98, 101, 114], [110, 97, 109, 101], [116, 119, 105, 99, 101], [108, 97, 99, 107, 115]] : List (List UInt8))) rfl hx16 rfl rfl rfl Try.underlying37 rfl Try.underlying9 rfl (info9).1 (info9).2.1 _ rfl) rfl rfl rfl ?_
    refine WL.runk 1 [2] [(2, .string (bs x15))] (by kernel_rfl) ?_
    refine WL.nil ?_
    refine WQ.then_normal (hK14 _ _ _ ?_)
    refine WP.ret ?_
    obtain rfl := Option.some.inj hm
    exact WQ.ret1 _ rfl rfl ⟨rfl, hb9⟩

theorem c_3 (n : Nat) (aCode_0 : Int) (w : World) {r : Bool} (hm : m_laws_FnExactTroubleName n aCode_0 = some r)  :
    CallV Try.prog 3 #[.int .i64 aCode_0] w (fun v w' => v = .bool r ∧ Ext w w') := by
  unfold m_laws_FnExactTroubleName at hm
  refine CallV.enter Try.func3 rfl (by kernel_rfl) Try.ntmps3 (env := [(0, .int .i64 aCode_0)]) ⟨rfl, trivial⟩ ?_
  refine WP.seq (fun K1 hK1 => ?_)
  refine WP.region ?_
  refine WL.runk 1 [0] [(0, .int .i64 aCode_0)] (by kernel_rfl) ?_
  refine WL.nil ?_
  refine WQ.then_normal (hK1 _ _ _ ?_)
  refine WP.seq (fun K2 hK2 => ?_)
  refine WP.region ?_
  refine WL.runk 1 [0, 5] [(0, .int .i64 aCode_0), (5, .int .i64 aCode_0)] (by kernel_rfl) ?_
  obtain ⟨x3, hx4, hm⟩ := bindE hm
  refine WL.call 6 #[.int .i64 aCode_0] rfl rfl (by kernel_rfl) (c_6 n aCode_0 w hx4 ) ?_
  rintro _ w5 ⟨rfl, hE6⟩
  refine ⟨_, rfl, ?_⟩
  have hb8 : Ext w w5 := Ext.trans (Ext.refl w) hE6
  have hL9 : w.heap.size ≤ w5.heap.size := Nat.le_trans (Nat.le_refl _) hE6.size
  have hS10 : SH w5 w.heap.size [] := SH.ext (SH.nil _ _) hE6
  refine WL.runk 1 [0, 3] [(0, .int .i64 aCode_0), (3, .string (bs x3))] (by kernel_rfl) ?_
  refine WL.nil ?_
  refine WQ.then_normal (hK2 _ _ _ ?_)
  refine WP.seq (fun K11 hK11 => ?_)
  refine WP.region ?_
  refine WL.runk 1 [3, 7] [(3, .string (bs x3)), (7, .int .i64 aCode_0)] (by kernel_rfl) ?_
  obtain ⟨x12, hx13, hm⟩ := bindE hm
  refine WL.call 7 #[.int .i64 aCode_0] rfl rfl (by kernel_rfl) (c_7 n aCode_0 w5 hx13 ) ?_
  rintro _ w14 ⟨rfl, hE15⟩
  refine ⟨_, rfl, ?_⟩
  have hb17 : Ext w w14 := Ext.trans hb8 hE15
  have hL18 : w.heap.size ≤ w14.heap.size := Nat.le_trans hL9 hE15.size
  have hS19 : SH w14 w.heap.size [] := SH.ext hS10 hE15
  refine WL.runk 1 [3, 4] [(3, .string (bs x3)), (4, .string (bs x12))] (by kernel_rfl) ?_
  refine WL.nil ?_
  refine WQ.then_normal (hK11 _ _ _ ?_)
  refine WP.seq (fun K20 hK20 => ?_)
  refine WP.seq (fun K21 hK21 => ?_)
  refine WP.region ?_
  refine WL.runk 2 [9, 10] [(9, .string (bs x12)), (10, .string (bs x3))] (by kernel_rfl) ?_
  refine WL.st (.bool (!(x12 == x3))) (ST.strne (x := x12) (y := x3) rfl rfl rfl) rfl rfl rfl ?_
  refine WL.sub [(11, .bool (!(x12 == x3)))] ⟨rfl, trivial⟩ ?_
  refine WL.nil ?_
  refine WQ.then_normal (hK21 _ _ _ ?_)
  refine WP.cond (!(x12 == x3)) rfl rfl (fun hc22 => ?_) (fun hc22 => ?_)
  · have hm := iteT hm hc22
    refine WP.seq (fun K23 hK23 => ?_)
    refine WP.region ?_
    refine WL.runk 1 [2] [(2, .bool false)] (by kernel_rfl) ?_
    refine WL.nil ?_
    refine WQ.then_normal (hK23 _ _ _ ?_)
    refine WP.ret ?_
    refine WQ.then_ret ?_
    obtain rfl := Option.some.inj hm
    exact WQ.ret1 _ rfl rfl ⟨rfl, hb17⟩
  · have hm := iteF hm hc22
    refine WP.skip ?_
    refine WQ.then_normal (hK20 _ _ _ ?_)
    refine WP.seq (fun K24 hK24 => ?_)
    refine WP.region ?_
    refine WL.runk 1 [2] [(2, .bool true)] (by kernel_rfl) ?_
    refine WL.nil ?_
    refine WQ.then_normal (hK24 _ _ _ ?_)
    refine WP.ret ?_
    obtain rfl := Option.some.inj hm
    exact WQ.ret1 _ rfl rfl ⟨rfl, hb17⟩

theorem c_8 (n : Nat)  (w : World) {r : List (List UInt8)} (hm : m_spec_StyleWords n  = some r)  :
    CallV Try.prog 8 #[] w (fun v w' => ∃ (ra0 : Option Addr) (rc0 : Nat), v = .slice ra0 r.length rc0 ∧ Ext w w' ∧ SH w' w.heap.size [aOwn fStr 9 ra0 rc0 r]) := by
  unfold m_spec_StyleWords at hm
  refine CallV.enter Try.func8 rfl (by kernel_rfl) Try.ntmps8 (env := []) trivial ?_
  refine WP.seq (fun K1 hK1 => ?_)
  refine WP.region ?_
  refine WL.runk 1 [] [] (by kernel_rfl) ?_
  refine WL.nil ?_
  refine WQ.then_normal (hK1 _ _ _ ?_)
  refine WP.seq (fun K2 hK2 => ?_)
  refine WP.region ?_
  refine WL.row fStr 9 ([[117, 112, 112, 101, 114], [108, 105, 110, 105, 110, 103], [115, 111, 108, 101], [104, 101, 101, 108], [101, 121, 101, 108, 101, 116, 115], [115, 116, 105, 116, 99, 104]] : List (List UInt8)) 6 #[.string (bs [117, 112, 112, 101, 114]), .string (bs [108, 105, 110, 105, 110, 103]), .string (bs [115, 111, 108, 101]), .string (bs [104, 101, 101, 108]), .string (bs [101, 121, 101, 108, 101, 116, 115]), .string (bs [115, 116, 105, 116, 99, 104])] 1 (by kernel_rfl) rfl rfl rfl rfl rfl rfl rfl ?_
  intro a3 c4 w5 hE6 hR7
  have hb9 : Ext w w5 := Ext.trans (Ext.refl w) hE6
  have hL10 : w.heap.size ≤ w5.heap.size := Nat.le_trans (Nat.le_refl _) hE6.size
  have hS11 : SH w5 w.heap.size [aOwn fStr 9 a3 c4 ([[117, 112, 112, 101, 114], [108, 105, 110, 105, 110, 103], [115, 111, 108, 101], [104, 101, 101, 108], [101, 121, 101, 108, 101, 116, 115], [115, 116, 105, 116, 99, 104]] : List (List UInt8))] := SH.add (SH.nil _ _) hE6 (Nat.le_refl _) hR7
  refine WL.runk 1 [0] [(0, .slice a3 (([[117, 112, 112, 101, 114], [108, 105, 110, 105, 110, 103], [115, 111, 108, 101], [104, 101, 101, 108], [101, 121, 101, 108, 101, 116, 115], [115, 116, 105, 116, 99, 104]] : List (List UInt8)).length) c4)] (by kernel_rfl) ?_
  refine WL.nil ?_
  refine WQ.then_normal (hK2 _ _ _ ?_)
  refine WP.ret ?_
  obtain rfl := Option.some.inj hm
  exact WQ.ret1 _ rfl rfl ⟨_, _, rfl, hb9, hS11⟩

theorem c_9 (n : Nat)  (w : World) {r : List (List UInt8)} (hm : m_impl_StyleWords n  = some r)  :
    CallV Try.prog 9 #[] w (fun v w' => ∃ (ra0 : Option Addr) (rc0 : Nat), v = .slice ra0 r.length rc0 ∧ Ext w w' ∧ SH w' w.heap.size [aOwn fStr 9 ra0 rc0 r]) := by
  unfold m_impl_StyleWords at hm
  refine CallV.enter Try.func9 rfl (by kernel_rfl) Try.ntmps9 (env := []) trivial ?_
  refine WP.seq (fun K1 hK1 => ?_)
  refine WP.region ?_
  refine WL.runk 1 [] [] (by kernel_rfl) ?_
  refine WL.nil ?_
  refine WQ.then_normal (hK1 _ _ _ ?_)
  refine WP.seq (fun K2 hK2 => ?_)
  refine WP.region ?_
  refine WL.row fStr 9 ([[117, 112, 112, 101, 114], [108, 105, 110, 105, 110, 103], [115, 111, 108, 101], [104, 101, 101, 108], [101, 121, 101, 108, 101, 116, 115], [115, 116, 105, 116, 99, 104]] : List (List UInt8)) 6 #[.string (bs [117, 112, 112, 101, 114]), .string (bs [108, 105, 110, 105, 110, 103]), .string (bs [115, 111, 108, 101]), .string (bs [104, 101, 101, 108]), .string (bs [101, 121, 101, 108, 101, 116, 115]), .string (bs [115, 116, 105, 116, 99, 104])] 1 (by kernel_rfl) rfl rfl rfl rfl rfl rfl rfl ?_
  intro a3 c4 w5 hE6 hR7
  have hb9 : Ext w w5 := Ext.trans (Ext.refl w) hE6
  have hL10 : w.heap.size ≤ w5.heap.size := Nat.le_trans (Nat.le_refl _) hE6.size
  have hS11 : SH w5 w.heap.size [aOwn fStr 9 a3 c4 ([[117, 112, 112, 101, 114], [108, 105, 110, 105, 110, 103], [115, 111, 108, 101], [104, 101, 101, 108], [101, 121, 101, 108, 101, 116, 115], [115, 116, 105, 116, 99, 104]] : List (List UInt8))] := SH.add (SH.nil _ _) hE6 (Nat.le_refl _) hR7
  refine WL.runk 1 [0] [(0, .slice a3 (([[117, 112, 112, 101, 114], [108, 105, 110, 105, 110, 103], [115, 111, 108, 101], [104, 101, 101, 108], [101, 121, 101, 108, 101, 116, 115], [115, 116, 105, 116, 99, 104]] : List (List UInt8)).length) c4)] (by kernel_rfl) ?_
  refine WL.nil ?_
  refine WQ.then_normal (hK2 _ _ _ ?_)
  refine WP.ret ?_
  obtain rfl := Option.some.inj hm
  exact WQ.ret1 _ rfl rfl ⟨_, _, rfl, hb9, hS11⟩

theorem c_10 (n : Nat) (a_0 : List (List UInt8)) (a0' : Option Addr) (c0' : Nat) (b_1 : List (List UInt8)) (a1' : Option Addr) (c1' : Nat) (w : World) {r : Bool} (hm : m_laws_eqStringS n a_0 b_1 = some r) (h0 : Rd fStr.ty w a0' a_0) (hle0 : a_0.length ≤ c0') (h1 : Rd fStr.ty w a1' b_1) (hle1 : b_1.length ≤ c1') :
    CallV Try.prog 10 #[.slice a0' a_0.length c0', .slice a1' b_1.length c1'] w (fun v w' => v = .bool r ∧ Ext w w') := by
  unfold m_laws_eqStringS at hm
  refine CallV.enter Try.func10 rfl (by kernel_rfl) Try.ntmps10 (env := [(0, .slice a0' a_0.length c0'), (1, .slice a1' b_1.length c1')]) ⟨rfl, rfl, trivial⟩ ?_
  refine WP.seq (fun K1 hK1 => ?_)
  refine WP.region ?_
  refine WL.runk 1 [0, 1] [(0, .slice a0' a_0.length c0'), (1, .slice a1' b_1.length c1')] (by kernel_rfl) ?_
  refine WL.nil ?_
  refine WQ.then_normal (hK1 _ _ _ ?_)
  refine WP.seq (fun K2 hK2 => ?_)
  refine WP.seq (fun K3 hK3 => ?_)
  refine WP.region ?_
  refine WL.runk 5 [0, 1, 10] [(0, .slice a0' a_0.length c0'), (1, .slice a1' b_1.length c1'), (10, .bool ((a_0.length : Int) != (b_1.length : Int)))] (by kernel_rfl) ?_
  refine WL.nil ?_
  refine WQ.then_normal (hK3 _ _ _ ?_)
  refine WP.cond ((a_0.length : Int) != (b_1.length : Int)) rfl rfl (fun hc4 => ?_) (fun hc4 => ?_)
  · have hm := iteT hm hc4
    refine WP.seq (fun K5 hK5 => ?_)
    refine WP.region ?_
    refine WL.runk 1 [4] [(4, .bool false)] (by kernel_rfl) ?_
    refine WL.nil ?_
    refine WQ.then_normal (hK5 _ _ _ ?_)
    refine WP.ret ?_
    refine WQ.then_ret ?_
    obtain rfl := Option.some.inj hm
    exact WQ.ret1 _ rfl rfl ⟨rfl, (Ext.refl w)⟩
  · have hm := iteF hm hc4
    refine WP.skip ?_
    refine WQ.then_normal (hK2 _ _ _ ?_)
    refine WP.seq (fun K6 hK6 => ?_)
    refine WP.seq (fun K7 hK7 => ?_)
    refine WP.region ?_
    refine WL.runk 1 [0, 1, 5] [(0, .slice a0' a_0.length c0'), (1, .slice a1' b_1.length c1'), (5, .int .i64 0)] (by kernel_rfl) ?_
    refine WL.nil ?_
    refine WQ.then_normal (hK7 _ _ _ ?_)
    refine WP.block ?_
    obtain ⟨t19, ht20, hm⟩ := bindE hm
    have hmo14 := hm; clear hm
    refine WP.sub [(0, .slice a0' a_0.length c0'), (1, .slice a1' b_1.length c1'), (5, .int .i64 0)] ⟨rfl, rfl, rfl, trivial⟩ ?_
    refine WP.loop (fun n' env' w' => ∃ (st8 : Int) , env' = [(0, .slice a0' a_0.length c0'), (1, .slice a1' b_1.length c1'), (5, .int .i64 st8)] ∧ Ext w w' ∧ w.heap.size ≤ w'.heap.size ∧ SH w' w.heap.size [] ∧ loopN (m_laws_eqStringS_l1 n a_0 b_1) n' st8 = some t19) n ⟨0, rfl, (Ext.refl w), (Nat.le_refl _), (SH.nil _ _), ht20⟩ ?_
    rintro n16 _ w9 ⟨st8, rfl, hb10, hL11, hS12, hl13⟩ K15 hK15
    obtain ⟨n17, s18, rfl, hm, hl13⟩ := loopN_some hl13
    unfold m_laws_eqStringS_l1 at hm
    refine WP.seq (fun K21 hK21 => ?_)
    refine WP.seq (fun K22 hK22 => ?_)
    refine WP.region ?_
    refine WL.runk 4 [0, 1, 5, 14] [(0, .slice a0' a_0.length c0'), (1, .slice a1' b_1.length c1'), (5, .int .i64 st8), (14, .bool (decide (st8 < (a_0.length : Int))))] (by kernel_rfl) ?_
    refine WL.nil ?_
    refine WQ.then_normal (hK22 _ _ _ ?_)
    refine WP.cond (decide (st8 < (a_0.length : Int))) rfl rfl (fun hc23 => ?_) (fun hc23 => ?_)
    · have hm := iteT hm hc23
      refine WP.skip ?_
      refine WQ.then_normal (hK21 _ _ _ ?_)
      refine WP.seq (fun K24 hK24 => ?_)
      refine WP.block ?_
      refine WP.seq (fun K25 hK25 => ?_)
      refine WP.quiet (by kernel_rfl) (by kernel_rfl) ?_
      refine QL.step1 rfl (env' := [(0, .slice a0' a_0.length c0'), (1, .slice a1' b_1.length c1'), (5, .int .i64 st8), (14, .bool (decide (st8 < (a_0.length : Int)))), (17, .slice a0' a_0.length c0')]) (fun _ => by kernel_rfl) ?_
      refine QL.sub [(0, .slice a0' a_0.length c0'), (1, .slice a1' b_1.length c1'), (5, .int .i64 st8), (17, .slice a0' a_0.length c0')] ⟨rfl, rfl, rfl, rfl, trivial⟩ ?_
      refine QL.step1 rfl (env' := [(0, .slice a0' a_0.length c0'), (1, .slice a1' b_1.length c1'), (5, .int .i64 st8), (17, .slice a0' a_0.length c0'), (18, .int .i64 st8)]) (fun _ => by kernel_rfl) ?_
      obtain ⟨x26, hx27, hm⟩ := bindE hm
      refine QL.st (.pointer (some (at_ a0' (Int.toNat st8 * 1)))) (ST.index (T := fStr.ty) (xs := a_0) (Rd.below h0 hb10) hx27 rfl rfl rfl Try.underlying24 (info9).1 (info9).2.1) rfl rfl rfl ?_
      refine QL.st (.string (bs x26)) (ST.load (cell_ext (Rd.flat (F := fStr) (Rd.below h0 hb10) hx27 0 rfl)) rfl rfl Try.underlying9 rfl) rfl rfl rfl ?_
      refine QL.step1 rfl (env' := [(0, .slice a0' a_0.length c0'), (1, .slice a1' b_1.length c1'), (5, .int .i64 st8), (17, .slice a0' a_0.length c0'), (18, .int .i64 st8), (19, .pointer (some (at_ a0' (Int.toNat st8 * 1)))), (20, .string (bs x26)), (21, .slice a1' b_1.length c1')]) (fun _ => by kernel_rfl) ?_
      refine QL.sub [(0, .slice a0' a_0.length c0'), (1, .slice a1' b_1.length c1'), (5, .int .i64 st8), (20, .string (bs x26)), (21, .slice a1' b_1.length c1')] ⟨rfl, rfl, rfl, rfl, rfl, trivial⟩ ?_
      refine QL.step1 rfl (env' := [(0, .slice a0' a_0.length c0'), (1, .slice a1' b_1.length c1'), (5, .int .i64 st8), (20, .string (bs x26)), (21, .slice a1' b_1.length c1'), (22, .int .i64 st8)]) (fun _ => by kernel_rfl) ?_
      obtain ⟨x28, hx29, hm⟩ := bindE hm
      refine QL.st (.pointer (some (at_ a1' (Int.toNat st8 * 1)))) (ST.index (T := fStr.ty) (xs := b_1) (Rd.below h1 hb10) hx29 rfl rfl rfl Try.underlying24 (info9).1 (info9).2.1) rfl rfl rfl ?_
      refine QL.st (.string (bs x28)) (ST.load (cell_ext (Rd.flat (F := fStr) (Rd.below h1 hb10) hx29 0 rfl)) rfl rfl Try.underlying9 rfl) rfl rfl rfl ?_
      refine QL.st (.bool (!(x26 == x28))) (ST.strne (x := x26) (y := x28) rfl rfl rfl) rfl rfl rfl ?_
      refine QL.sub [(0, .slice a0' a_0.length c0'), (1, .slice a1' b_1.length c1'), (5, .int .i64 st8), (25, .bool (!(x26 == x28)))] ⟨rfl, rfl, rfl, rfl, trivial⟩ ?_
      refine QL.nil ?_
      intro w30 hE31
      have hb32 : Ext w w30 := Ext.trans hb10 hE31
      have hL33 : w.heap.size ≤ w30.heap.size := Nat.le_trans hL11 hE31.size
      have hS34 : SH w30 w.heap.size [] := SH.ext hS12 hE31
      refine WQ.then_normal (hK25 _ _ _ ?_)
      refine WP.cond (!(x26 == x28)) rfl rfl (fun hc35 => ?_) (fun hc35 => ?_)
      · have hm := iteT hm hc35
        refine WP.seq (fun K36 hK36 => ?_)
        refine WP.region ?_
        refine WL.runk 1 [4] [(4, .bool false)] (by kernel_rfl) ?_
        refine WL.nil ?_
        refine WQ.then_normal (hK36 _ _ _ ?_)
        refine WP.ret ?_
        refine WQ.block_ret ?_
        refine WQ.then_ret ?_
        refine WQ.then_ret ?_
        refine WQ.block_ret ?_
        refine WQ.then_ret ?_
        obtain rfl := Option.some.inj hm
        obtain rfl := afterN_done hl13
        have hm := hmo14
        obtain rfl := Option.some.inj hm
        exact WQ.ret1 _ rfl rfl ⟨rfl, hb32⟩
      · have hm := iteF hm hc35
        refine WP.skip ?_
        refine WQ.block_normal ?_
        refine WQ.then_normal (hK24 _ _ _ ?_)
        refine WP.region ?_
        refine WL.runk 3 [0, 1, 5] [(0, .slice a0' a_0.length c0'), (1, .slice a1' b_1.length c1'), (5, .int .i64 (wI64 (st8 + 1)))] (by kernel_rfl) ?_
        refine WL.nil ?_
        obtain rfl := Option.some.inj hm
        exact WQ.round hK15 ⟨(wI64 (st8 + 1)), rfl, hb32, hL33, hS34, hl13⟩ (Nat.lt_succ_self _) ⟨rfl, rfl, rfl, trivial⟩
    · have hm := iteF hm hc23
      refine WP.exit ?_
      refine WQ.then_exit ?_
      refine WQ.then_exit ?_
      refine WQ.block_here ?_
      obtain rfl := Option.some.inj hm
      obtain rfl := afterN_done hl13
      have hm := hmo14
      refine WQ.then_normal (hK6 _ _ _ ?_)
      refine WP.seq (fun K37 hK37 => ?_)
      refine WP.region ?_
      refine WL.runk 1 [4] [(4, .bool true)] (by kernel_rfl) ?_
      refine WL.nil ?_
      refine WQ.then_normal (hK37 _ _ _ ?_)
      refine WP.ret ?_
      obtain rfl := Option.some.inj hm
      exact WQ.ret1 _ rfl rfl ⟨rfl, hb10⟩

end Go.Proofs.Ytkjjjbfpecmieaa
