/- Each call does what its Lean function says. -/
import Derived.Test.YtlplbjeegkkilaaTi
import Derived.Test.YtlplbjeegkkilaaEq
import Derived.Test.YtlplbjeegkkilaaMo
set_option maxRecDepth 20000
namespace Go.Proofs.Ytlplbjeegkkilaa
open Go Go.Gv Go.RowKit

theorem c_52 (n : Nat) (kind_0 : Int) (w : World) {r : Int} (hm : m_spec_l22Most n kind_0 = some r)  :
    CallV Try.prog 52 #[.int .i64 kind_0] w (fun v w' => v = .int .i64 r ∧ Ext w w') := by
  unfold m_spec_l22Most at hm
  refine CallV.enter Try.func52 rfl (by kernel_rfl) Try.ntmps52 (env := [(0, .int .i64 kind_0)]) ⟨rfl, trivial⟩ ?_
  refine WP.seq (fun K1 hK1 => ?_)
  refine WP.region ?_
  refine WL.runk 1 [0] [(0, .int .i64 kind_0)] (by kernel_rfl) ?_
  refine WL.nil ?_
  refine WQ.then_normal (hK1 _ _ _ ?_)
  refine WP.seq (fun K2 hK2 => ?_)
  refine WP.seq (fun K3 hK3 => ?_)
  refine WP.region ?_
  refine WL.runk 1 [3] [(3, .int .i64 kind_0)] (by kernel_rfl) ?_
  refine WL.nil ?_
  refine WQ.then_normal (hK3 _ _ _ ?_)
  refine WP.block ?_
  refine WP.seq (fun K4 hK4 => ?_)
  refine WP.region ?_
  refine WL.runk 2 [3, 4] [(3, .int .i64 kind_0), (4, .bool (kind_0 == 1))] (by kernel_rfl) ?_
  refine WL.nil ?_
  refine WQ.then_normal (hK4 _ _ _ ?_)
  refine WP.cond (kind_0 == 1) rfl rfl (fun hc5 => ?_) (fun hc5 => ?_)
  · have hm := iteT hm hc5
    refine WP.seq (fun K6 hK6 => ?_)
    refine WP.region ?_
    refine WL.runk 1 [2] [(2, .int .i64 200)] (by kernel_rfl) ?_
    refine WL.nil ?_
    refine WQ.then_normal (hK6 _ _ _ ?_)
    refine WP.ret ?_
    refine WQ.block_ret ?_
    refine WQ.then_ret ?_
    obtain rfl := Option.some.inj hm
    exact WQ.ret1 _ rfl rfl ⟨rfl, (Ext.refl w)⟩
  · have hm := iteF hm hc5
    refine WP.seq (fun K7 hK7 => ?_)
    refine WP.seq (fun K8 hK8 => ?_)
    refine WP.region ?_
    refine WL.runk 2 [3, 6] [(3, .int .i64 kind_0), (6, .bool (kind_0 == 2))] (by kernel_rfl) ?_
    refine WL.nil ?_
    refine WQ.then_normal (hK8 _ _ _ ?_)
    obtain ⟨x18, hx19, hm⟩ := bindE hm
    refine WP.cut (fun env' w' => env' = [(3, .int .i64 kind_0), (6, .bool x18)] ∧ Ext w w' ∧ w.heap.size ≤ w'.heap.size ∧ SH w' w.heap.size []) ?_ ?_
    · have hm := hx19; clear hx19
      refine WP.cond (kind_0 == 2) rfl rfl (fun hc9 => ?_) (fun hc9 => ?_)
      · have hm := iteT hm hc9
        refine WP.skip ?_
        obtain rfl := Option.some.inj hm
        exact WQ.post' ⟨rfl, (Ext.refl w), (Nat.le_refl _), (SH.nil _ _)⟩ ⟨rfl, rfl, trivial⟩
      · have hm := iteF hm hc9
        refine WP.seq (fun K20 hK20 => ?_)
        refine WP.region ?_
        refine WL.runk 2 [3, 6] [(3, .int .i64 kind_0), (6, .bool (kind_0 == 3))] (by kernel_rfl) ?_
        refine WL.nil ?_
        refine WQ.then_normal (hK20 _ _ _ ?_)
        obtain ⟨x22, hx23, hm⟩ := bindE hm
        refine WP.cut (fun env' w' => env' = [(3, .int .i64 kind_0), (6, .bool x22)] ∧ Ext w w' ∧ w.heap.size ≤ w'.heap.size ∧ SH w' w.heap.size []) ?_ ?_
        · have hm := hx23; clear hx23
          refine WP.cond (kind_0 == 3) rfl rfl (fun hc21 => ?_) (fun hc21 => ?_)
          · have hm := iteT hm hc21
            refine WP.skip ?_
            obtain rfl := Option.some.inj hm
            exact WQ.post' ⟨rfl, (Ext.refl w), (Nat.le_refl _), (SH.nil _ _)⟩ ⟨rfl, rfl, trivial⟩
          · have hm := iteF hm hc21
            refine WP.region ?_
            refine WL.runk 2 [3, 6] [(3, .int .i64 kind_0), (6, .bool (kind_0 == 4))] (by kernel_rfl) ?_
            refine WL.nil ?_
            obtain rfl := Option.some.inj hm
            exact WQ.post' ⟨rfl, (Ext.refl w), (Nat.le_refl _), (SH.nil _ _)⟩ ⟨rfl, rfl, trivial⟩
        · clear hx23
          rintro _ w24 ⟨rfl, hb25, hL26, hS27⟩
          obtain rfl := Option.some.inj hm
          exact WQ.post' ⟨rfl, hb25, hL26, hS27⟩ ⟨rfl, rfl, trivial⟩
    · clear hx19
      rintro _ w28 ⟨rfl, hb29, hL30, hS31⟩
      refine WQ.then_normal (hK7 _ _ _ ?_)
      refine WP.cond x18 rfl rfl (fun hc32 => ?_) (fun hc32 => ?_)
      · have hm := iteT hm hc32
        refine WP.seq (fun K33 hK33 => ?_)
        refine WP.region ?_
        refine WL.runk 1 [2] [(2, .int .i64 300)] (by kernel_rfl) ?_
        refine WL.nil ?_
        refine WQ.then_normal (hK33 _ _ _ ?_)
        refine WP.ret ?_
        refine WQ.block_ret ?_
        refine WQ.then_ret ?_
        obtain rfl := Option.some.inj hm
        exact WQ.ret1 _ rfl rfl ⟨rfl, hb29⟩
      · have hm := iteF hm hc32
        refine WP.seq (fun K34 hK34 => ?_)
        refine WP.region ?_
        refine WL.runk 2 [10] [(10, .bool (kind_0 == 5))] (by kernel_rfl) ?_
        refine WL.nil ?_
        refine WQ.then_normal (hK34 _ _ _ ?_)
        refine WP.cond (kind_0 == 5) rfl rfl (fun hc35 => ?_) (fun hc35 => ?_)
        · have hm := iteT hm hc35
          refine WP.seq (fun K36 hK36 => ?_)
          refine WP.region ?_
          refine WL.runk 1 [2] [(2, .int .i64 150)] (by kernel_rfl) ?_
          refine WL.nil ?_
          refine WQ.then_normal (hK36 _ _ _ ?_)
          refine WP.ret ?_
          refine WQ.block_ret ?_
          refine WQ.then_ret ?_
          obtain rfl := Option.some.inj hm
          exact WQ.ret1 _ rfl rfl ⟨rfl, hb29⟩
        · have hm := iteF hm hc35
          refine WP.skip ?_
          refine WQ.block_normal ?_
          refine WQ.then_normal (hK2 _ _ _ ?_)
          refine WP.seq (fun K37 hK37 => ?_)
          refine WP.region ?_
          refine WL.runk 1 [2] [(2, .int .i64 (-1))] (by kernel_rfl) ?_
          refine WL.nil ?_
          refine WQ.then_normal (hK37 _ _ _ ?_)
          refine WP.ret ?_
          obtain rfl := Option.some.inj hm
          exact WQ.ret1 _ rfl rfl ⟨rfl, hb29⟩

theorem c_14 (n : Nat) (kind_0 : Int) (w : World) {r : Int × Int} (hm : m_spec_MostChange n kind_0 = some r)  :
    CallV Try.prog 14 #[.int .i64 kind_0] w (fun v w' => v = .tuple #[.int .i64 r.1, .int .i64 r.2] ∧ Ext w w') := by
  unfold m_spec_MostChange at hm
  refine CallV.enter Try.func14 rfl (by kernel_rfl) Try.ntmps14 (env := [(0, .int .i64 kind_0)]) ⟨rfl, trivial⟩ ?_
  refine WP.seq (fun K1 hK1 => ?_)
  refine WP.region ?_
  refine WL.runk 2 [0] [(0, .int .i64 kind_0)] (by kernel_rfl) ?_
  refine WL.nil ?_
  refine WQ.then_normal (hK1 _ _ _ ?_)
  refine WP.seq (fun K2 hK2 => ?_)
  refine WP.region ?_
  refine WL.runk 1 [5] [(5, .int .i64 kind_0)] (by kernel_rfl) ?_
  obtain ⟨x3, hx4, hm⟩ := bindE hm
  refine WL.call 52 #[.int .i64 kind_0] rfl rfl (by kernel_rfl) (c_52 n kind_0 w hx4 ) ?_
  rintro _ w5 ⟨rfl, hE6⟩
  refine ⟨_, rfl, ?_⟩
  have hb8 : Ext w w5 := Ext.trans (Ext.refl w) hE6
  have hL9 : w.heap.size ≤ w5.heap.size := Nat.le_trans (Nat.le_refl _) hE6.size
  have hS10 : SH w5 w.heap.size [] := SH.ext (SH.nil _ _) hE6
  refine WL.runk 1 [4] [(4, .int .i64 x3)] (by kernel_rfl) ?_
  refine WL.nil ?_
  refine WQ.then_normal (hK2 _ _ _ ?_)
  refine WP.seq (fun K11 hK11 => ?_)
  refine WP.seq (fun K12 hK12 => ?_)
  refine WP.region ?_
  refine WL.runk 2 [4, 8] [(4, .int .i64 x3), (8, .bool (decide (x3 < 0)))] (by kernel_rfl) ?_
  refine WL.nil ?_
  refine WQ.then_normal (hK12 _ _ _ ?_)
  refine WP.cond (decide (x3 < 0)) rfl rfl (fun hc13 => ?_) (fun hc13 => ?_)
  · have hm := iteT hm hc13
    refine WP.seq (fun K14 hK14 => ?_)
    refine WP.region ?_
    refine WL.runk 2 [2, 3] [(2, .int .i64 0), (3, .int .i64 2)] (by kernel_rfl) ?_
    refine WL.nil ?_
    refine WQ.then_normal (hK14 _ _ _ ?_)
    refine WP.ret ?_
    refine WQ.then_ret ?_
    obtain rfl := Option.some.inj hm
    exact WQ.ret2 _ _ rfl rfl rfl ⟨rfl, hb8⟩
  · have hm := iteF hm hc13
    refine WP.skip ?_
    refine WQ.then_normal (hK11 _ _ _ ?_)
    refine WP.seq (fun K15 hK15 => ?_)
    refine WP.region ?_
    refine WL.runk 3 [2, 3] [(2, .int .i64 x3), (3, .int .i64 0)] (by kernel_rfl) ?_
    refine WL.nil ?_
    refine WQ.then_normal (hK15 _ _ _ ?_)
    refine WP.ret ?_
    obtain rfl := Option.some.inj hm
    exact WQ.ret2 _ _ rfl rfl rfl ⟨rfl, hb8⟩

theorem c_53 (n : Nat) (kind_0 : Int) (w : World) {r : Int} (hm : m_impl_mostChange n kind_0 = some r)  :
    CallV Try.prog 53 #[.int .i64 kind_0] w (fun v w' => v = .int .i64 r ∧ Ext w w') := by
  unfold m_impl_mostChange at hm
  refine CallV.enter Try.func53 rfl (by kernel_rfl) Try.ntmps53 (env := [(0, .int .i64 kind_0)]) ⟨rfl, trivial⟩ ?_
  refine WP.seq (fun K1 hK1 => ?_)
  refine WP.region ?_
  refine WL.runk 1 [0] [(0, .int .i64 kind_0)] (by kernel_rfl) ?_
  refine WL.nil ?_
  refine WQ.then_normal (hK1 _ _ _ ?_)
  refine WP.seq (fun K2 hK2 => ?_)
  refine WP.seq (fun K3 hK3 => ?_)
  refine WP.region ?_
  refine WL.runk 1 [3] [(3, .int .i64 kind_0)] (by kernel_rfl) ?_
  refine WL.nil ?_
  refine WQ.then_normal (hK3 _ _ _ ?_)
  refine WP.block ?_
  refine WP.seq (fun K4 hK4 => ?_)
  refine WP.region ?_
  refine WL.runk 2 [3, 4] [(3, .int .i64 kind_0), (4, .bool (kind_0 == 1))] (by kernel_rfl) ?_
  refine WL.nil ?_
  refine WQ.then_normal (hK4 _ _ _ ?_)
  refine WP.cond (kind_0 == 1) rfl rfl (fun hc5 => ?_) (fun hc5 => ?_)
  · have hm := iteT hm hc5
    refine WP.seq (fun K6 hK6 => ?_)
    refine WP.region ?_
    refine WL.runk 1 [2] [(2, .int .i64 200)] (by kernel_rfl) ?_
    refine WL.nil ?_
    refine WQ.then_normal (hK6 _ _ _ ?_)
    refine WP.ret ?_
    refine WQ.block_ret ?_
    refine WQ.then_ret ?_
    obtain rfl := Option.some.inj hm
    exact WQ.ret1 _ rfl rfl ⟨rfl, (Ext.refl w)⟩
  · have hm := iteF hm hc5
    refine WP.seq (fun K7 hK7 => ?_)
    refine WP.seq (fun K8 hK8 => ?_)
    refine WP.region ?_
    refine WL.runk 2 [3, 6] [(3, .int .i64 kind_0), (6, .bool (kind_0 == 2))] (by kernel_rfl) ?_
    refine WL.nil ?_
    refine WQ.then_normal (hK8 _ _ _ ?_)
    obtain ⟨x18, hx19, hm⟩ := bindE hm
    refine WP.cut (fun env' w' => env' = [(3, .int .i64 kind_0), (6, .bool x18)] ∧ Ext w w' ∧ w.heap.size ≤ w'.heap.size ∧ SH w' w.heap.size []) ?_ ?_
    · have hm := hx19; clear hx19
      refine WP.cond (kind_0 == 2) rfl rfl (fun hc9 => ?_) (fun hc9 => ?_)
      · have hm := iteT hm hc9
        refine WP.skip ?_
        obtain rfl := Option.some.inj hm
        exact WQ.post' ⟨rfl, (Ext.refl w), (Nat.le_refl _), (SH.nil _ _)⟩ ⟨rfl, rfl, trivial⟩
      · have hm := iteF hm hc9
        refine WP.seq (fun K20 hK20 => ?_)
        refine WP.region ?_
        refine WL.runk 2 [3, 6] [(3, .int .i64 kind_0), (6, .bool (kind_0 == 3))] (by kernel_rfl) ?_
        refine WL.nil ?_
        refine WQ.then_normal (hK20 _ _ _ ?_)
        obtain ⟨x22, hx23, hm⟩ := bindE hm
        refine WP.cut (fun env' w' => env' = [(3, .int .i64 kind_0), (6, .bool x22)] ∧ Ext w w' ∧ w.heap.size ≤ w'.heap.size ∧ SH w' w.heap.size []) ?_ ?_
        · have hm := hx23; clear hx23
          refine WP.cond (kind_0 == 3) rfl rfl (fun hc21 => ?_) (fun hc21 => ?_)
          · have hm := iteT hm hc21
            refine WP.skip ?_
            obtain rfl := Option.some.inj hm
            exact WQ.post' ⟨rfl, (Ext.refl w), (Nat.le_refl _), (SH.nil _ _)⟩ ⟨rfl, rfl, trivial⟩
          · have hm := iteF hm hc21
            refine WP.region ?_
            refine WL.runk 2 [3, 6] [(3, .int .i64 kind_0), (6, .bool (kind_0 == 4))] (by kernel_rfl) ?_
            refine WL.nil ?_
            obtain rfl := Option.some.inj hm
            exact WQ.post' ⟨rfl, (Ext.refl w), (Nat.le_refl _), (SH.nil _ _)⟩ ⟨rfl, rfl, trivial⟩
        · clear hx23
          rintro _ w24 ⟨rfl, hb25, hL26, hS27⟩
          obtain rfl := Option.some.inj hm
          exact WQ.post' ⟨rfl, hb25, hL26, hS27⟩ ⟨rfl, rfl, trivial⟩
    · clear hx19
      rintro _ w28 ⟨rfl, hb29, hL30, hS31⟩
      refine WQ.then_normal (hK7 _ _ _ ?_)
      refine WP.cond x18 rfl rfl (fun hc32 => ?_) (fun hc32 => ?_)
      · have hm := iteT hm hc32
        refine WP.seq (fun K33 hK33 => ?_)
        refine WP.region ?_
        refine WL.runk 1 [2] [(2, .int .i64 300)] (by kernel_rfl) ?_
        refine WL.nil ?_
        refine WQ.then_normal (hK33 _ _ _ ?_)
        refine WP.ret ?_
        refine WQ.block_ret ?_
        refine WQ.then_ret ?_
        obtain rfl := Option.some.inj hm
        exact WQ.ret1 _ rfl rfl ⟨rfl, hb29⟩
      · have hm := iteF hm hc32
        refine WP.seq (fun K34 hK34 => ?_)
        refine WP.region ?_
        refine WL.runk 2 [10] [(10, .bool (kind_0 == 5))] (by kernel_rfl) ?_
        refine WL.nil ?_
        refine WQ.then_normal (hK34 _ _ _ ?_)
        refine WP.cond (kind_0 == 5) rfl rfl (fun hc35 => ?_) (fun hc35 => ?_)
        · have hm := iteT hm hc35
          refine WP.seq (fun K36 hK36 => ?_)
          refine WP.region ?_
          refine WL.runk 1 [2] [(2, .int .i64 150)] (by kernel_rfl) ?_
          refine WL.nil ?_
          refine WQ.then_normal (hK36 _ _ _ ?_)
          refine WP.ret ?_
          refine WQ.block_ret ?_
          refine WQ.then_ret ?_
          obtain rfl := Option.some.inj hm
          exact WQ.ret1 _ rfl rfl ⟨rfl, hb29⟩
        · have hm := iteF hm hc35
          refine WP.skip ?_
          refine WQ.block_normal ?_
          refine WQ.then_normal (hK2 _ _ _ ?_)
          refine WP.seq (fun K37 hK37 => ?_)
          refine WP.region ?_
          refine WL.runk 1 [2] [(2, .int .i64 0)] (by kernel_rfl) ?_
          refine WL.nil ?_
          refine WQ.then_normal (hK37 _ _ _ ?_)
          refine WP.ret ?_
          obtain rfl := Option.some.inj hm
          exact WQ.ret1 _ rfl rfl ⟨rfl, hb29⟩

theorem c_15 (n : Nat) (kind_0 : Int) (w : World) {r : Int × Int} (hm : m_impl_MostChange n kind_0 = some r)  :
    CallV Try.prog 15 #[.int .i64 kind_0] w (fun v w' => v = .tuple #[.int .i64 r.1, .int .i64 r.2] ∧ Ext w w') := by
  unfold m_impl_MostChange at hm
  refine CallV.enter Try.func15 rfl (by kernel_rfl) Try.ntmps15 (env := [(0, .int .i64 kind_0)]) ⟨rfl, trivial⟩ ?_
  refine WP.seq (fun K1 hK1 => ?_)
  refine WP.region ?_
  refine WL.runk 2 [0] [(0, .int .i64 kind_0)] (by kernel_rfl) ?_
  refine WL.nil ?_
  refine WQ.then_normal (hK1 _ _ _ ?_)
  refine WP.seq (fun K2 hK2 => ?_)
  refine WP.region ?_
  refine WL.runk 1 [5] [(5, .int .i64 kind_0)] (by kernel_rfl) ?_
  obtain ⟨x3, hx4, hm⟩ := bindE hm
  refine WL.call 53 #[.int .i64 kind_0] rfl rfl (by kernel_rfl) (c_53 n kind_0 w hx4 ) ?_
  rintro _ w5 ⟨rfl, hE6⟩
  refine ⟨_, rfl, ?_⟩
  have hb8 : Ext w w5 := Ext.trans (Ext.refl w) hE6
  have hL9 : w.heap.size ≤ w5.heap.size := Nat.le_trans (Nat.le_refl _) hE6.size
  have hS10 : SH w5 w.heap.size [] := SH.ext (SH.nil _ _) hE6
  refine WL.runk 1 [4] [(4, .int .i64 x3)] (by kernel_rfl) ?_
  refine WL.nil ?_
  refine WQ.then_normal (hK2 _ _ _ ?_)
  refine WP.seq (fun K11 hK11 => ?_)
  refine WP.seq (fun K12 hK12 => ?_)
  refine WP.region ?_
  refine WL.runk 2 [4, 8] [(4, .int .i64 x3), (8, .bool (x3 == 0))] (by kernel_rfl) ?_
  refine WL.nil ?_
  refine WQ.then_normal (hK12 _ _ _ ?_)
  refine WP.cond (x3 == 0) rfl rfl (fun hc13 => ?_) (fun hc13 => ?_)
  · have hm := iteT hm hc13
    refine WP.seq (fun K14 hK14 => ?_)
    refine WP.region ?_
    refine WL.runk 2 [2, 3] [(2, .int .i64 0), (3, .int .i64 2)] (by kernel_rfl) ?_
    refine WL.nil ?_
    refine WQ.then_normal (hK14 _ _ _ ?_)
    refine WP.ret ?_
    refine WQ.then_ret ?_
    obtain rfl := Option.some.inj hm
    exact WQ.ret2 _ _ rfl rfl rfl ⟨rfl, hb8⟩
  · have hm := iteF hm hc13
    refine WP.skip ?_
    refine WQ.then_normal (hK11 _ _ _ ?_)
    refine WP.seq (fun K15 hK15 => ?_)
    refine WP.region ?_
    refine WL.runk 3 [2, 3] [(2, .int .i64 x3), (3, .int .i64 0)] (by kernel_rfl) ?_
    refine WL.nil ?_
    refine WQ.then_normal (hK15 _ _ _ ?_)
    refine WP.ret ?_
    obtain rfl := Option.some.inj hm
    exact WQ.ret2 _ _ rfl rfl rfl ⟨rfl, hb8⟩

theorem c_3 (n : Nat) (aKind_0 : Int) (w : World) {r : Bool} (hm : m_laws_FnExactMostChange n aKind_0 = some r)  :
    CallV Try.prog 3 #[.int .i64 aKind_0] w (fun v w' => v = .bool r ∧ Ext w w') := by
  unfold m_laws_FnExactMostChange at hm
  refine CallV.enter Try.func3 rfl (by kernel_rfl) Try.ntmps3 (env := [(0, .int .i64 aKind_0)]) ⟨rfl, trivial⟩ ?_
  refine WP.seq (fun K1 hK1 => ?_)
  refine WP.region ?_
  refine WL.runk 1 [0] [(0, .int .i64 aKind_0)] (by kernel_rfl) ?_
  refine WL.nil ?_
  refine WQ.then_normal (hK1 _ _ _ ?_)
  refine WP.seq (fun K2 hK2 => ?_)
  refine WP.region ?_
  refine WL.runk 1 [0, 8] [(0, .int .i64 aKind_0), (8, .int .i64 aKind_0)] (by kernel_rfl) ?_
  obtain ⟨x3, hx4, hm⟩ := bindE hm
  refine WL.call 14 #[.int .i64 aKind_0] rfl rfl (by kernel_rfl) (c_14 n aKind_0 w hx4 ) ?_
  rintro _ w5 ⟨rfl, hE6⟩
  refine ⟨_, rfl, ?_⟩
  have hb8 : Ext w w5 := Ext.trans (Ext.refl w) hE6
  have hL9 : w.heap.size ≤ w5.heap.size := Nat.le_trans (Nat.le_refl _) hE6.size
  have hS10 : SH w5 w.heap.size [] := SH.ext (SH.nil _ _) hE6
  refine WL.runk 5 [0, 3, 4] [(0, .int .i64 aKind_0), (3, .int .i64 x3.1), (4, .int .i64 x3.2)] (by kernel_rfl) ?_
  refine WL.nil ?_
  refine WQ.then_normal (hK2 _ _ _ ?_)
  refine WP.seq (fun K11 hK11 => ?_)
  refine WP.region ?_
  refine WL.runk 1 [3, 4, 13] [(3, .int .i64 x3.1), (4, .int .i64 x3.2), (13, .int .i64 aKind_0)] (by kernel_rfl) ?_
  obtain ⟨x12, hx13, hm⟩ := bindE hm
  refine WL.call 15 #[.int .i64 aKind_0] rfl rfl (by kernel_rfl) (c_15 n aKind_0 w5 hx13 ) ?_
  rintro _ w14 ⟨rfl, hE15⟩
  refine ⟨_, rfl, ?_⟩
  have hb17 : Ext w w14 := Ext.trans hb8 hE15
  have hL18 : w.heap.size ≤ w14.heap.size := Nat.le_trans hL9 hE15.size
  have hS19 : SH w14 w.heap.size [] := SH.ext hS10 hE15
  refine WL.runk 5 [3, 4, 5, 6] [(3, .int .i64 x3.1), (4, .int .i64 x3.2), (5, .int .i64 x12.1), (6, .int .i64 x12.2)] (by kernel_rfl) ?_
  refine WL.nil ?_
  refine WQ.then_normal (hK11 _ _ _ ?_)
  refine WP.seq (fun K20 hK20 => ?_)
  refine WP.seq (fun K21 hK21 => ?_)
  obtain ⟨x23, hx24, hm⟩ := bindE hm
  refine WP.cut (fun env' w' => env' = [(24, .bool x23)] ∧ Ext w w' ∧ w.heap.size ≤ w'.heap.size ∧ SH w' w.heap.size []) ?_ ?_
  · have hm := hx24; clear hx24
    refine WP.region ?_
    refine WL.runk 4 [4, 6, 20] [(4, .int .i64 x3.2), (6, .int .i64 x12.2), (20, .bool (x12.1 != x3.1))] (by kernel_rfl) ?_
    refine WL.case (x12.1 != x3.1) [20] ⟨rfl, trivial⟩ (fun hc25 => ?_) (fun hc25 => ?_)
    · have hm := iteT hm hc25
      refine WL.runk 4 [24] [(24, .bool true)] (by kernel_rfl) ?_
      refine WL.nil ?_
      obtain rfl := Option.some.inj hm
      exact WQ.post' ⟨rfl, hb17, hL18, hS19⟩ ⟨rfl, trivial⟩
    · have hm := iteF hm hc25
      refine WL.runk 4 [24] [(24, .bool (x12.2 != x3.2))] (by kernel_rfl) ?_
      refine WL.nil ?_
      obtain rfl := Option.some.inj hm
      exact WQ.post' ⟨rfl, hb17, hL18, hS19⟩ ⟨rfl, trivial⟩
  · clear hx24
    rintro _ w26 ⟨rfl, hb27, hL28, hS29⟩
    refine WQ.then_normal (hK21 _ _ _ ?_)
    refine WP.cond x23 rfl rfl (fun hc30 => ?_) (fun hc30 => ?_)
    · have hm := iteT hm hc30
      refine WP.seq (fun K31 hK31 => ?_)
      refine WP.region ?_
      refine WL.runk 1 [2] [(2, .bool false)] (by kernel_rfl) ?_
      refine WL.nil ?_
      refine WQ.then_normal (hK31 _ _ _ ?_)
      refine WP.ret ?_
      refine WQ.then_ret ?_
      obtain rfl := Option.some.inj hm
      exact WQ.ret1 _ rfl rfl ⟨rfl, hb27⟩
    · have hm := iteF hm hc30
      refine WP.skip ?_
      refine WQ.then_normal (hK20 _ _ _ ?_)
      refine WP.seq (fun K32 hK32 => ?_)
      refine WP.region ?_
      refine WL.runk 1 [2] [(2, .bool true)] (by kernel_rfl) ?_
      refine WL.nil ?_
      refine WQ.then_normal (hK32 _ _ _ ?_)
      refine WP.ret ?_
      obtain rfl := Option.some.inj hm
      exact WQ.ret1 _ rfl rfl ⟨rfl, hb27⟩

theorem c_16 (n : Nat) (a_0 : List SChange) (a0' : Option Addr) (c0' : Nat) (left_1 : Int) (w : World) {r : Int} (hm : m_laws_szChangeS n a_0 left_1 = some r) (h0 : Rd fChange.ty w a0' a_0) (hle0 : a_0.length ≤ c0') :
    CallV Try.prog 16 #[.slice a0' a_0.length c0', .int .i64 left_1] w (fun v w' => v = .int .i64 r ∧ Ext w w') := by
  unfold m_laws_szChangeS at hm
  refine CallV.enter Try.func16 rfl (by kernel_rfl) Try.ntmps16 (env := [(0, .slice a0' a_0.length c0'), (1, .int .i64 left_1)]) ⟨rfl, rfl, trivial⟩ ?_
  refine WP.seq (fun K1 hK1 => ?_)
  refine WP.region ?_
  refine WL.runk 1 [0, 1] [(0, .slice a0' a_0.length c0'), (1, .int .i64 left_1)] (by kernel_rfl) ?_
  refine WL.nil ?_
  refine WQ.then_normal (hK1 _ _ _ ?_)
  refine WP.seq (fun K2 hK2 => ?_)
  refine WP.region ?_
  refine WL.runk 5 [1] [(1, .int .i64 (wI64 (left_1 - (a_0.length : Int))))] (by kernel_rfl) ?_
  refine WL.nil ?_
  refine WQ.then_normal (hK2 _ _ _ ?_)
  refine WP.seq (fun K3 hK3 => ?_)
  refine WP.seq (fun K4 hK4 => ?_)
  refine WP.region ?_
  refine WL.runk 2 [1, 10] [(1, .int .i64 (wI64 (left_1 - (a_0.length : Int)))), (10, .bool (decide ((wI64 (left_1 - (a_0.length : Int))) < 0)))] (by kernel_rfl) ?_
  refine WL.nil ?_
  refine WQ.then_normal (hK4 _ _ _ ?_)
  refine WP.cond (decide ((wI64 (left_1 - (a_0.length : Int))) < 0)) rfl rfl (fun hc5 => ?_) (fun hc5 => ?_)
  · have hm := iteT hm hc5
    refine WP.seq (fun K6 hK6 => ?_)
    refine WP.region ?_
    refine WL.runk 1 [4] [(4, .int .i64 (-1))] (by kernel_rfl) ?_
    refine WL.nil ?_
    refine WQ.then_normal (hK6 _ _ _ ?_)
    refine WP.ret ?_
    refine WQ.then_ret ?_
    obtain rfl := Option.some.inj hm
    exact WQ.ret1 _ rfl rfl ⟨rfl, (Ext.refl w)⟩
  · have hm := iteF hm hc5
    refine WP.skip ?_
    refine WQ.then_normal (hK3 _ _ _ ?_)
    refine WP.seq (fun K7 hK7 => ?_)
    refine WP.region ?_
    refine WL.runk 2 [4] [(4, .int .i64 (wI64 (left_1 - (a_0.length : Int))))] (by kernel_rfl) ?_
    refine WL.nil ?_
    refine WQ.then_normal (hK7 _ _ _ ?_)
    refine WP.ret ?_
    obtain rfl := Option.some.inj hm
    exact WQ.ret1 _ rfl rfl ⟨rfl, (Ext.refl w)⟩

theorem c_17 (n : Nat) (a_0 : List SChange) (a0' : Option Addr) (c0' : Nat) (b_1 : List SChange) (a1' : Option Addr) (c1' : Nat) (w : World) {r : Bool} (hm : m_spec_SameChanges n a_0 b_1 = some r) (h0 : Rd fChange.ty w a0' a_0) (hle0 : a_0.length ≤ c0') (h1 : Rd fChange.ty w a1' b_1) (hle1 : b_1.length ≤ c1') :
    CallV Try.prog 17 #[.slice a0' a_0.length c0', .slice a1' b_1.length c1'] w (fun v w' => v = .bool r ∧ Ext w w') := by
  unfold m_spec_SameChanges at hm
  refine CallV.enter Try.func17 rfl (by kernel_rfl) Try.ntmps17 (env := [(0, .slice a0' a_0.length c0'), (1, .slice a1' b_1.length c1')]) ⟨rfl, rfl, trivial⟩ ?_
  refine WP.seq (fun K1 hK1 => ?_)
  refine WP.region ?_
  refine WL.runk 1 [0, 1] [(0, .slice a0' a_0.length c0'), (1, .slice a1' b_1.length c1')] (by kernel_rfl) ?_
  refine WL.nil ?_
  refine WQ.then_normal (hK1 _ _ _ ?_)
  refine WP.seq (fun K2 hK2 => ?_)
  refine WP.seq (fun K3 hK3 => ?_)
  refine WP.region ?_
  refine WL.runk 5 [0, 1, 10] [(0, .slice a0' a_0.length c0'), (1, .slice a1' b_1.length c1'), (10, .bool ((a_0.length : Int) != (b_1.length : Int)))] (by kernel_rfl) ?_
  refine WL.nil ?_
  refine WQ.then_normal (hK3 _ _ _ ?_)
  refine WP.cond ((a_0.length : Int) != (b_1.length : Int)) rfl rfl (fun hc4 => ?_) (fun hc4 => ?_)
  · have hm := iteT hm hc4
    refine WP.seq (fun K5 hK5 => ?_)
    refine WP.region ?_
    refine WL.runk 1 [4] [(4, .bool false)] (by kernel_rfl) ?_
    refine WL.nil ?_
    refine WQ.then_normal (hK5 _ _ _ ?_)
    refine WP.ret ?_
    refine WQ.then_ret ?_
    obtain rfl := Option.some.inj hm
    exact WQ.ret1 _ rfl rfl ⟨rfl, (Ext.refl w)⟩
  · have hm := iteF hm hc4
    refine WP.skip ?_
    refine WQ.then_normal (hK2 _ _ _ ?_)
    refine WP.seq (fun K6 hK6 => ?_)
    refine WP.seq (fun K7 hK7 => ?_)
    refine WP.region ?_
    refine WL.runk 1 [0, 1, 5] [(0, .slice a0' a_0.length c0'), (1, .slice a1' b_1.length c1'), (5, .int .i64 0)] (by kernel_rfl) ?_
    refine WL.nil ?_
    refine WQ.then_normal (hK7 _ _ _ ?_)
    refine WP.block ?_
    obtain ⟨t19, ht20, hm⟩ := bindE hm
    have hmo14 := hm; clear hm
    refine WP.sub [(0, .slice a0' a_0.length c0'), (1, .slice a1' b_1.length c1'), (5, .int .i64 0)] ⟨rfl, rfl, rfl, trivial⟩ ?_
    refine WP.loop (fun n' env' w' => ∃ (st8 : Int) , env' = [(0, .slice a0' a_0.length c0'), (1, .slice a1' b_1.length c1'), (5, .int .i64 st8)] ∧ Ext w w' ∧ w.heap.size ≤ w'.heap.size ∧ SH w' w.heap.size [] ∧ loopN (m_spec_SameChanges_l1 n a_0 b_1) n' st8 = some t19) n ⟨0, rfl, (Ext.refl w), (Nat.le_refl _), (SH.nil _ _), ht20⟩ ?_
    rintro n16 _ w9 ⟨st8, rfl, hb10, hL11, hS12, hl13⟩ K15 hK15
    obtain ⟨n17, s18, rfl, hm, hl13⟩ := loopN_some hl13
    unfold m_spec_SameChanges_l1 at hm
    refine WP.seq (fun K21 hK21 => ?_)
    refine WP.seq (fun K22 hK22 => ?_)
    refine WP.region ?_
    refine WL.runk 4 [0, 1, 5, 14] [(0, .slice a0' a_0.length c0'), (1, .slice a1' b_1.length c1'), (5, .int .i64 st8), (14, .bool (decide (st8 < (a_0.length : Int))))] (by kernel_rfl) ?_
    refine WL.nil ?_
    refine WQ.then_normal (hK22 _ _ _ ?_)
    refine WP.cond (decide (st8 < (a_0.length : Int))) rfl rfl (fun hc23 => ?_) (fun hc23 => ?_)
    · have hm := iteT hm hc23
      refine WP.skip ?_
      refine WQ.then_normal (hK21 _ _ _ ?_)
      refine WP.seq (fun K24 hK24 => ?_)
      refine WP.block ?_
      refine WP.seq (fun K25 hK25 => ?_)
      refine WP.quiet (by kernel_rfl) (by kernel_rfl) ?_
      refine QL.step1 rfl (env' := [(0, .slice a0' a_0.length c0'), (1, .slice a1' b_1.length c1'), (5, .int .i64 st8), (14, .bool (decide (st8 < (a_0.length : Int)))), (17, .slice a0' a_0.length c0')]) (fun _ => by kernel_rfl) ?_
      refine QL.sub [(0, .slice a0' a_0.length c0'), (1, .slice a1' b_1.length c1'), (5, .int .i64 st8), (17, .slice a0' a_0.length c0')] ⟨rfl, rfl, rfl, rfl, trivial⟩ ?_
      refine QL.step1 rfl (env' := [(0, .slice a0' a_0.length c0'), (1, .slice a1' b_1.length c1'), (5, .int .i64 st8), (17, .slice a0' a_0.length c0'), (18, .int .i64 st8)]) (fun _ => by kernel_rfl) ?_
      obtain ⟨x26, hx27, hm⟩ := bindE hm
      refine QL.st (.pointer (some (at_ a0' (Int.toNat st8 * 2)))) (ST.index (T := fChange.ty) (xs := a_0) (Rd.below h0 hb10) hx27 rfl rfl rfl Try.underlying28 (info42).1 (info42).2.1) rfl rfl rfl ?_
      refine QL.st (.agg #[.int .i64 x26.Kind, .int .i64 x26.Amount]) (ST.loadAgg (vs := fChange.leaf x26) (fun j v hv => Rd.flatA (F := fChange) (Rd.below h0 hb10) hx27 j hv) rfl rfl rfl Try.underlying42 rfl (info42).1 (info42).2.1) rfl rfl rfl ?_
      refine QL.step1 rfl (env' := [(0, .slice a0' a_0.length c0'), (1, .slice a1' b_1.length c1'), (5, .int .i64 st8), (17, .slice a0' a_0.length c0'), (18, .int .i64 st8), (19, .pointer (some (at_ a0' (Int.toNat st8 * 2)))), (20, .agg #[.int .i64 x26.Kind, .int .i64 x26.Amount]), (21, .slice a1' b_1.length c1')]) (fun _ => by kernel_rfl) ?_
      refine QL.sub [(0, .slice a0' a_0.length c0'), (1, .slice a1' b_1.length c1'), (5, .int .i64 st8), (20, .agg #[.int .i64 x26.Kind, .int .i64 x26.Amount]), (21, .slice a1' b_1.length c1')] ⟨rfl, rfl, rfl, rfl, rfl, trivial⟩ ?_
      refine QL.step1 rfl (env' := [(0, .slice a0' a_0.length c0'), (1, .slice a1' b_1.length c1'), (5, .int .i64 st8), (20, .agg #[.int .i64 x26.Kind, .int .i64 x26.Amount]), (21, .slice a1' b_1.length c1'), (22, .int .i64 st8)]) (fun _ => by kernel_rfl) ?_
      obtain ⟨x28, hx29, hm⟩ := bindE hm
      refine QL.st (.pointer (some (at_ a1' (Int.toNat st8 * 2)))) (ST.index (T := fChange.ty) (xs := b_1) (Rd.below h1 hb10) hx29 rfl rfl rfl Try.underlying28 (info42).1 (info42).2.1) rfl rfl rfl ?_
      refine QL.st (.agg #[.int .i64 x28.Kind, .int .i64 x28.Amount]) (ST.loadAgg (vs := fChange.leaf x28) (fun j v hv => Rd.flatA (F := fChange) (Rd.below h1 hb10) hx29 j hv) rfl rfl rfl Try.underlying42 rfl (info42).1 (info42).2.1) rfl rfl rfl ?_
      refine QL.st (.bool (!(decide (x26 = x28)))) (ST.aggne (F := fChange) (x := x26) (y := x28) (eqs_42 x26 x28) (by kernel_rfl) rfl rfl rfl) rfl rfl rfl ?_
      refine QL.sub [(0, .slice a0' a_0.length c0'), (1, .slice a1' b_1.length c1'), (5, .int .i64 st8), (25, .bool (!(decide (x26 = x28))))] ⟨rfl, rfl, rfl, rfl, trivial⟩ ?_
      refine QL.nil ?_
      intro w30 hE31
      have hb32 : Ext w w30 := Ext.trans hb10 hE31
      have hL33 : w.heap.size ≤ w30.heap.size := Nat.le_trans hL11 hE31.size
      have hS34 : SH w30 w.heap.size [] := SH.ext hS12 hE31
      refine WQ.then_normal (hK25 _ _ _ ?_)
      refine WP.cond (!(decide (x26 = x28))) rfl rfl (fun hc35 => ?_) (fun hc35 => ?_)
      · have hm := iteT hm hc35
        refine WP.seq (fun K36 hK36 => ?_)
        refine WP.region ?_
        refine WL.runk 1 [4] [(4, .bool false)] (by kernel_rfl) ?_
        refine WL.nil ?_
        refine WQ.then_normal (hK36 _ _ _ ?_)
        refine WP.ret ?_
        refine WQ.block_ret ?_
        refine WQ.then_ret ?_
        refine WQ.then_ret ?_
        refine WQ.block_ret ?_
        refine WQ.then_ret ?_
        obtain rfl := Option.some.inj hm
        obtain rfl := afterN_done hl13
        have hm := hmo14
        obtain rfl := Option.some.inj hm
        exact WQ.ret1 _ rfl rfl ⟨rfl, hb32⟩
      · have hm := iteF hm hc35
        refine WP.skip ?_
        refine WQ.block_normal ?_
        refine WQ.then_normal (hK24 _ _ _ ?_)
        refine WP.region ?_
        refine WL.runk 3 [0, 1, 5] [(0, .slice a0' a_0.length c0'), (1, .slice a1' b_1.length c1'), (5, .int .i64 (wI64 (st8 + 1)))] (by kernel_rfl) ?_
        refine WL.nil ?_
        obtain rfl := Option.some.inj hm
        exact WQ.round hK15 ⟨(wI64 (st8 + 1)), rfl, hb32, hL33, hS34, hl13⟩ (Nat.lt_succ_self _) ⟨rfl, rfl, rfl, trivial⟩
    · have hm := iteF hm hc23
      refine WP.exit ?_
      refine WQ.then_exit ?_
      refine WQ.then_exit ?_
      refine WQ.block_here ?_
      obtain rfl := Option.some.inj hm
      obtain rfl := afterN_done hl13
      have hm := hmo14
      refine WQ.then_normal (hK6 _ _ _ ?_)
      refine WP.seq (fun K37 hK37 => ?_)
      refine WP.region ?_
      refine WL.runk 1 [4] [(4, .bool true)] (by kernel_rfl) ?_
      refine WL.nil ?_
      refine WQ.then_normal (hK37 _ _ _ ?_)
      refine WP.ret ?_
      obtain rfl := Option.some.inj hm
      exact WQ.ret1 _ rfl rfl ⟨rfl, hb10⟩

theorem c_29 (n : Nat) (a_0 : SChange) (w : World) {r : SChange} (hm : m_laws_toChange n a_0 = some r)  :
    CallV Try.prog 29 #[.agg #[.int .i64 a_0.Kind, .int .i64 a_0.Amount]] w (fun v w' => v = .agg #[.int .i64 r.Kind, .int .i64 r.Amount] ∧ Ext w w') := by
  unfold m_laws_toChange at hm
  refine CallV.enter Try.func29 rfl (by kernel_rfl) Try.ntmps29 (env := [(0, .agg #[.int .i64 a_0.Kind, .int .i64 a_0.Amount])]) ⟨rfl, trivial⟩ ?_
  refine WP.seq (fun K1 hK1 => ?_)
  refine WP.region ?_
  refine WL.box 40 [.int .i64 a_0.Kind, .int .i64 a_0.Amount] 1 (by kernel_rfl) rfl rfl rfl rfl ?_
  intro b2 w3 hE4 hR5
  have hb7 : Ext w w3 := Ext.trans (Ext.refl w) hE4
  have hL8 : w.heap.size ≤ w3.heap.size := Nat.le_trans (Nat.le_refl _) hE4.size
  have hS9 : SH w3 w.heap.size [aBox 40 b2 [.int .i64 a_0.Kind, .int .i64 a_0.Amount]] := SH.add (SH.nil _ _) hE4 (Nat.le_refl _) hR5
  refine WL.box 42 [.int .i64 0, .int .i64 0] 2 (by kernel_rfl) rfl rfl rfl rfl ?_
  intro b10 w11 hE12 hR13
  have hb15 : Ext w w11 := Ext.trans hb7 hE12
  have hL16 : w.heap.size ≤ w11.heap.size := Nat.le_trans hL8 hE12.size
  have hS17 : SH w11 w.heap.size [aBox 42 b10 [.int .i64 0, .int .i64 0], aBox 40 b2 [.int .i64 a_0.Kind, .int .i64 a_0.Amount]] := SH.add hS9 hE12 hL8 hR13
  refine WL.sub [(1, .pointer (some ⟨b2, 0, none⟩)), (2, .pointer (some ⟨b10, 0, none⟩))] ⟨rfl, rfl, trivial⟩ ?_
  refine WL.nil ?_
  refine WQ.then_normal (hK1 _ _ _ ?_)
  refine WP.seq (fun K18 hK18 => ?_)
  refine WP.region ?_
  refine WL.box 42 [.int .i64 0, .int .i64 0] 3 (by kernel_rfl) rfl rfl rfl rfl ?_
  intro b19 w20 hE21 hR22
  have hb24 : Ext w w20 := Ext.trans hb15 hE21
  have hL25 : w.heap.size ≤ w20.heap.size := Nat.le_trans hL16 hE21.size
  have hS26 : SH w20 w.heap.size [aBox 42 b19 [.int .i64 0, .int .i64 0], aBox 42 b10 [.int .i64 0, .int .i64 0], aBox 40 b2 [.int .i64 a_0.Kind, .int .i64 a_0.Amount]] := SH.add hS17 hE21 hL16 hR22
  refine WL.sub [(1, .pointer (some ⟨b2, 0, none⟩)), (2, .pointer (some ⟨b10, 0, none⟩)), (3, .pointer (some ⟨b19, 0, none⟩))] ⟨rfl, rfl, rfl, trivial⟩ ?_
  refine WL.nil ?_
  refine WQ.then_normal (hK18 _ _ _ ?_)
  refine WP.seq (fun K27 hK27 => ?_)
  refine WP.region ?_
  refine WL.runk 1 [1, 2, 3, 4] [(1, .pointer (some ⟨b2, 0, none⟩)), (2, .pointer (some ⟨b10, 0, none⟩)), (3, .pointer (some ⟨b19, 0, none⟩)), (4, .pointer (some ⟨b2, 0, none⟩))] (by kernel_rfl) ?_
  refine WL.st (.int .i64 a_0.Kind) (ST.load (cell_ext (SH.boxAt (SH.front 2 hS26) 0 _ rfl)) rfl rfl Try.underlying2 rfl) rfl rfl rfl ?_
  refine WL.runk 1 [1, 2, 3, 5, 6] [(1, .pointer (some ⟨b2, 0, none⟩)), (2, .pointer (some ⟨b10, 0, none⟩)), (3, .pointer (some ⟨b19, 0, none⟩)), (5, .int .i64 a_0.Kind), (6, .pointer (some ⟨b19, 0, none⟩))] (by kernel_rfl) ?_
  refine WL.boxStore 0 [.int .i64 a_0.Kind] [.int .i64 a_0.Kind, .int .i64 0] (SH.front 0 hS26) hL25 rfl rfl rfl rfl rfl rfl rfl (info2).1 (info2).2.1 rfl rfl rfl ?_
  intro w28 hB29 hS30
  have hb31 : Ext w w28 := Below.trans hb24 hB29
  have hL32 : w.heap.size ≤ w28.heap.size := Nat.le_trans hL25 hB29.size
  refine WL.sub [(1, .pointer (some ⟨b2, 0, none⟩)), (2, .pointer (some ⟨b10, 0, none⟩)), (3, .pointer (some ⟨b19, 0, none⟩))] ⟨rfl, rfl, rfl, trivial⟩ ?_
  refine WL.nil ?_
  refine WQ.then_normal (hK27 _ _ _ ?_)
  refine WP.seq (fun K33 hK33 => ?_)
  refine WP.region ?_
  refine WL.runk 1 [2, 3, 7] [(2, .pointer (some ⟨b10, 0, none⟩)), (3, .pointer (some ⟨b19, 0, none⟩)), (7, .pointer (some ⟨b2, 1, none⟩))] (by kernel_rfl) ?_
  refine WL.st (.int .i64 a_0.Amount) (ST.load (cell_ext (SH.boxAt (SH.front 2 hS30) 1 _ rfl)) rfl rfl Try.underlying2 rfl) rfl rfl rfl ?_
  refine WL.runk 1 [2, 3, 8, 9] [(2, .pointer (some ⟨b10, 0, none⟩)), (3, .pointer (some ⟨b19, 0, none⟩)), (8, .int .i64 a_0.Amount), (9, .pointer (some ⟨b19, 1, none⟩))] (by kernel_rfl) ?_
  refine WL.boxStore 1 [.int .i64 a_0.Amount] [.int .i64 a_0.Kind, .int .i64 a_0.Amount] (SH.front 0 hS30) hL32 rfl rfl rfl rfl rfl rfl rfl (info2).1 (info2).2.1 rfl rfl rfl ?_
  intro w34 hB35 hS36
  have hb37 : Ext w w34 := Below.trans hb31 hB35
  have hL38 : w.heap.size ≤ w34.heap.size := Nat.le_trans hL32 hB35.size
  refine WL.sub [(2, .pointer (some ⟨b10, 0, none⟩)), (3, .pointer (some ⟨b19, 0, none⟩))] ⟨rfl, rfl, trivial⟩ ?_
  refine WL.nil ?_
  refine WQ.then_normal (hK33 _ _ _ ?_)
  refine WP.seq (fun K39 hK39 => ?_)
  refine WP.region ?_
  refine WL.st (.agg #[.int .i64 a_0.Kind, .int .i64 a_0.Amount]) (ST.loadAgg (vs := [.int .i64 a_0.Kind, .int .i64 a_0.Amount]) (fun j v hv => SH.boxPart (us := [.int .i64 a_0.Kind, .int .i64 a_0.Amount]) (SH.front 0 hS36) 0 rfl j v hv) rfl rfl rfl Try.underlying42 rfl (info42).1 (info42).2.1) rfl rfl rfl ?_
  refine WL.boxStore 0 [.int .i64 a_0.Kind, .int .i64 a_0.Amount] [.int .i64 a_0.Kind, .int .i64 a_0.Amount] (SH.front 1 hS36) hL38 rfl rfl rfl rfl rfl rfl rfl (info42).1 (info42).2.1 rfl rfl rfl ?_
  intro w40 hB41 hS42
  have hb43 : Ext w w40 := Below.trans hb37 hB41
  have hL44 : w.heap.size ≤ w40.heap.size := Nat.le_trans hL38 hB41.size
  refine WL.sub [(2, .pointer (some ⟨b10, 0, none⟩))] ⟨rfl, trivial⟩ ?_
  refine WL.nil ?_
  refine WQ.then_normal (hK39 _ _ _ ?_)
  refine WP.ret ?_
  obtain rfl := Option.some.inj hm
  exact WQ.retv1 _ rfl (RVal.box (SH.front 0 hS42) rfl Try.underlying42 rfl (info42).1 (info42).2.1) ⟨rfl, hb43⟩

end Go.Proofs.Ytlplbjeegkkilaa
