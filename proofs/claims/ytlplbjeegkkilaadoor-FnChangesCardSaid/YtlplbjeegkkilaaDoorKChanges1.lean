/- Each call does what its Lean function says. -/
import Derived.Test.YtlplbjeegkkilaaDoorTi
import Derived.Test.YtlplbjeegkkilaaDoorEq
import Derived.Test.YtlplbjeegkkilaaDoorMo
import Derived.Test.YtlplbjeegkkilaaDoorCh
set_option maxRecDepth 20000
set_option maxHeartbeats 40000000
namespace Go.Proofs.YtlplbjeegkkilaaDoor
open Go Go.Gv Go.RowKit

theorem c_45 (n : Nat) (kind_0 : Int) (w : World) {r : Int} (hm : m_impl_mostChange n kind_0 = some r)  :
    CallV Tryd.prog 45 #[.int .i64 kind_0] w (fun v w' => v = .int .i64 r ∧ Ext w w') := by
  unfold m_impl_mostChange at hm
  refine CallV.enter Tryd.func45 rfl (by kernel_rfl) Tryd.ntmps45 (env := [(0, .int .i64 kind_0)]) ⟨rfl, trivial⟩ ?_
  refine WP.seq (fun K1 hK1 => ?_)
  refine WP.region ?_
  refine WL.runk 1 [0] [(0, .int .i64 kind_0)] (by kernel_rfl) ?_
  refine WL.nil ?_
  refine WQ.then_normal (hK1 _ _ _ ?_)
  refine WP.seq (fun K2 hK2 => ?_)
  refine WP.seq (fun K3 hK3 => ?_)
  refine WP.region ?_
  refine WL.runk 1 [3] [(3, .int .i64 kind_0)] (by kernel_rfl) ?_
  refine WL.nil ?_
  refine WQ.then_normal (hK3 _ _ _ ?_)
  refine WP.block ?_
  refine WP.seq (fun K4 hK4 => ?_)
  refine WP.region ?_
  refine WL.runk 2 [3, 4] [(3, .int .i64 kind_0), (4, .bool (kind_0 == 1))] (by kernel_rfl) ?_
  refine WL.nil ?_
  refine WQ.then_normal (hK4 _ _ _ ?_)
  refine WP.cond (kind_0 == 1) rfl rfl (fun hc5 => ?_) (fun hc5 => ?_)
  · have hm := iteT hm hc5
    refine WP.seq (fun K6 hK6 => ?_)
    refine WP.region ?_
    refine WL.runk 1 [2] [(2, .int .i64 200)] (by kernel_rfl) ?_
    refine WL.nil ?_
    refine WQ.then_normal (hK6 _ _ _ ?_)
    refine WP.ret ?_
    refine WQ.block_ret ?_
    refine WQ.then_ret ?_
    obtain rfl := Option.some.inj hm
    exact WQ.ret1 _ rfl rfl ⟨rfl, (Ext.refl w)⟩
  have hm := iteF hm hc5
  refine WP.seq (fun K7 hK7 => ?_)
  refine WP.seq (fun K8 hK8 => ?_)
  refine WP.region ?_
  refine WL.runk 2 [3, 6] [(3, .int .i64 kind_0), (6, .bool (kind_0 == 2))] (by kernel_rfl) ?_
  refine WL.nil ?_
  refine WQ.then_normal (hK8 _ _ _ ?_)
  obtain ⟨x18, hx19, hm⟩ := bindE hm
  refine WP.cut (fun env' w' => env' = [(3, .int .i64 kind_0), (6, .bool x18)] ∧ Ext w w' ∧ w.heap.size ≤ w'.heap.size ∧ SH w' w.heap.size []) ?_ ?_
  · have hm := hx19; clear hx19
    refine WP.cond (kind_0 == 2) rfl rfl (fun hc9 => ?_) (fun hc9 => ?_)
    · have hm := iteT hm hc9
      refine WP.skip ?_
      obtain rfl := Option.some.inj hm
      exact WQ.post' ⟨rfl, (Ext.refl w), (Nat.le_refl _), (SH.nil _ _)⟩ ⟨rfl, rfl, trivial⟩
    have hm := iteF hm hc9
    refine WP.seq (fun K20 hK20 => ?_)
    refine WP.region ?_
    refine WL.runk 2 [3, 6] [(3, .int .i64 kind_0), (6, .bool (kind_0 == 3))] (by kernel_rfl) ?_
    refine WL.nil ?_
    refine WQ.then_normal (hK20 _ _ _ ?_)
    obtain ⟨x22, hx23, hm⟩ := bindE hm
    refine WP.cut (fun env' w' => env' = [(3, .int .i64 kind_0), (6, .bool x22)] ∧ Ext w w' ∧ w.heap.size ≤ w'.heap.size ∧ SH w' w.heap.size []) ?_ ?_
    rotate_left
    · clear hx23
      rintro _ w24 ⟨rfl, hb25, hL26, hS27⟩
      obtain rfl := Option.some.inj hm
      exact WQ.post' ⟨rfl, hb25, hL26, hS27⟩ ⟨rfl, rfl, trivial⟩
    have hm := hx23; clear hx23
    refine WP.cond (kind_0 == 3) rfl rfl (fun hc21 => ?_) (fun hc21 => ?_)
    · have hm := iteT hm hc21
      refine WP.skip ?_
      obtain rfl := Option.some.inj hm
      exact WQ.post' ⟨rfl, (Ext.refl w), (Nat.le_refl _), (SH.nil _ _)⟩ ⟨rfl, rfl, trivial⟩
    have hm := iteF hm hc21
    refine WP.region ?_
    refine WL.runk 2 [3, 6] [(3, .int .i64 kind_0), (6, .bool (kind_0 == 4))] (by kernel_rfl) ?_
    refine WL.nil ?_
    obtain rfl := Option.some.inj hm
    exact WQ.post' ⟨rfl, (Ext.refl w), (Nat.le_refl _), (SH.nil _ _)⟩ ⟨rfl, rfl, trivial⟩
  clear hx19
  rintro _ w28 ⟨rfl, hb29, hL30, hS31⟩
  refine WQ.then_normal (hK7 _ _ _ ?_)
  refine WP.cond x18 rfl rfl (fun hc32 => ?_) (fun hc32 => ?_)
  · have hm := iteT hm hc32
    refine WP.seq (fun K33 hK33 => ?_)
    refine WP.region ?_
    refine WL.runk 1 [2] [(2, .int .i64 300)] (by kernel_rfl) ?_
    refine WL.nil ?_
    refine WQ.then_normal (hK33 _ _ _ ?_)
    refine WP.ret ?_
    refine WQ.block_ret ?_
    refine WQ.then_ret ?_
    obtain rfl := Option.some.inj hm
    exact WQ.ret1 _ rfl rfl ⟨rfl, hb29⟩
  have hm := iteF hm hc32
  refine WP.seq (fun K34 hK34 => ?_)
  refine WP.region ?_
  refine WL.runk 2 [10] [(10, .bool (kind_0 == 5))] (by kernel_rfl) ?_
  refine WL.nil ?_
  refine WQ.then_normal (hK34 _ _ _ ?_)
  refine WP.cond (kind_0 == 5) rfl rfl (fun hc35 => ?_) (fun hc35 => ?_)
  · have hm := iteT hm hc35
    refine WP.seq (fun K36 hK36 => ?_)
    refine WP.region ?_
    refine WL.runk 1 [2] [(2, .int .i64 150)] (by kernel_rfl) ?_
    refine WL.nil ?_
    refine WQ.then_normal (hK36 _ _ _ ?_)
    refine WP.ret ?_
    refine WQ.block_ret ?_
    refine WQ.then_ret ?_
    obtain rfl := Option.some.inj hm
    exact WQ.ret1 _ rfl rfl ⟨rfl, hb29⟩
  have hm := iteF hm hc35
  refine WP.skip ?_
  refine WQ.block_normal ?_
  refine WQ.then_normal (hK2 _ _ _ ?_)
  refine WP.seq (fun K37 hK37 => ?_)
  refine WP.region ?_
  refine WL.runk 1 [2] [(2, .int .i64 0)] (by kernel_rfl) ?_
  refine WL.nil ?_
  refine WQ.then_normal (hK37 _ _ _ ?_)
  refine WP.ret ?_
  obtain rfl := Option.some.inj hm
  exact WQ.ret1 _ rfl rfl ⟨rfl, hb29⟩

theorem c_46 (n : Nat) (n_0 : Int) (low_1 : Int) (high_2 : Int) (w : World) {r : Bool} (hm : m_impl_within n n_0 low_1 high_2 = some r)  :
    CallV Tryd.prog 46 #[.int .i64 n_0, .int .i64 low_1, .int .i64 high_2] w (fun v w' => v = .bool r ∧ Ext w w') := by
  unfold m_impl_within at hm
  refine CallV.enter Tryd.func46 rfl (by kernel_rfl) Tryd.ntmps46 (env := [(0, .int .i64 n_0), (1, .int .i64 low_1), (2, .int .i64 high_2)]) ⟨rfl, rfl, rfl, trivial⟩ ?_
  refine WP.seq (fun K1 hK1 => ?_)
  refine WP.region ?_
  refine WL.runk 1 [0, 1, 2] [(0, .int .i64 n_0), (1, .int .i64 low_1), (2, .int .i64 high_2)] (by kernel_rfl) ?_
  refine WL.nil ?_
  refine WQ.then_normal (hK1 _ _ _ ?_)
  refine WP.seq (fun K2 hK2 => ?_)
  obtain ⟨x4, hx5, hm⟩ := bindE hm
  refine WP.cut (fun env' w' => env' = [(6, .bool x4)] ∧ Ext w w' ∧ w.heap.size ≤ w'.heap.size ∧ SH w' w.heap.size []) ?_ ?_
  rotate_left
  · clear hx5
    rintro _ w7 ⟨rfl, hb8, hL9, hS10⟩
    refine WQ.then_normal (hK2 _ _ _ ?_)
    refine WP.ret ?_
    obtain rfl := Option.some.inj hm
    exact WQ.ret1 _ rfl rfl ⟨rfl, hb8⟩
  have hm := hx5; clear hx5
  refine WP.region ?_
  refine WL.runk 4 [0, 2, 10] [(0, .int .i64 n_0), (2, .int .i64 high_2), (10, .bool (decide (n_0 ≥ low_1)))] (by kernel_rfl) ?_
  refine WL.case (decide (n_0 ≥ low_1)) [10] ⟨rfl, trivial⟩ (fun hc6 => ?_) (fun hc6 => ?_)
  · have hm := iteT hm hc6
    refine WL.runk 5 [6] [(6, .bool (decide (n_0 ≤ high_2)))] (by kernel_rfl) ?_
    refine WL.nil ?_
    obtain rfl := Option.some.inj hm
    exact WQ.post' ⟨rfl, (Ext.refl w), (Nat.le_refl _), (SH.nil _ _)⟩ ⟨rfl, trivial⟩
  have hm := iteF hm hc6
  refine WL.runk 5 [6] [(6, .bool false)] (by kernel_rfl) ?_
  refine WL.nil ?_
  obtain rfl := Option.some.inj hm
  exact WQ.post' ⟨rfl, (Ext.refl w), (Nat.le_refl _), (SH.nil _ _)⟩ ⟨rfl, trivial⟩

theorem c_22 (n : Nat) (c_0 : SChange) (w : World) {r : Bool} (hm : m_impl_validChange n c_0 = some r)  :
    CallV Tryd.prog 22 #[.agg #[.int .i64 c_0.Kind, .int .i64 c_0.Amount]] w (fun v w' => v = .bool r ∧ Ext w w') := by
  unfold m_impl_validChange at hm
  refine CallV.enter Tryd.func22 rfl (by kernel_rfl) Tryd.ntmps22 (env := [(0, .agg #[.int .i64 c_0.Kind, .int .i64 c_0.Amount])]) ⟨rfl, trivial⟩ ?_
  refine WP.seq (fun K1 hK1 => ?_)
  refine WP.region ?_
  refine WL.box 25 [.int .i64 c_0.Kind, .int .i64 c_0.Amount] 1 (by kernel_rfl) rfl rfl rfl rfl ?_
  intro b2 w3 hE4 hR5
  have hb7 : Ext w w3 := Ext.trans (Ext.refl w) hE4
  have hL8 : w.heap.size ≤ w3.heap.size := Nat.le_trans (Nat.le_refl _) hE4.size
  have hS9 : SH w3 w.heap.size [aBox 25 b2 [.int .i64 c_0.Kind, .int .i64 c_0.Amount]] := SH.add (SH.nil _ _) hE4 (Nat.le_refl _) hR5
  refine WL.runk 1 [1] [(1, .pointer (some ⟨b2, 0, none⟩))] (by kernel_rfl) ?_
  refine WL.nil ?_
  refine WQ.then_normal (hK1 _ _ _ ?_)
  refine WP.seq (fun K10 hK10 => ?_)
  refine WP.region ?_
  refine WL.runk 1 [1, 4] [(1, .pointer (some ⟨b2, 0, none⟩)), (4, .pointer (some ⟨b2, 0, none⟩))] (by kernel_rfl) ?_
  refine WL.st (.int .i64 c_0.Kind) (ST.load (cell_ext (SH.boxAt (SH.front 0 hS9) 0 _ rfl)) rfl rfl Tryd.underlying2 rfl) rfl rfl rfl ?_
  obtain ⟨x11, hx12, hm⟩ := bindE hm
  refine WL.call 45 #[.int .i64 c_0.Kind] rfl rfl (by kernel_rfl) (c_45 n c_0.Kind w3 hx12 ) ?_
  rintro _ w13 ⟨rfl, hE14⟩
  refine ⟨_, rfl, ?_⟩
  have hb16 : Ext w w13 := Ext.trans hb7 hE14
  have hL17 : w.heap.size ≤ w13.heap.size := Nat.le_trans hL8 hE14.size
  have hS18 : SH w13 w.heap.size [aBox 25 b2 [.int .i64 c_0.Kind, .int .i64 c_0.Amount]] := SH.ext hS9 hE14
  refine WL.runk 1 [1, 3] [(1, .pointer (some ⟨b2, 0, none⟩)), (3, .int .i64 x11)] (by kernel_rfl) ?_
  refine WL.nil ?_
  refine WQ.then_normal (hK10 _ _ _ ?_)
  refine WP.seq (fun K19 hK19 => ?_)
  obtain ⟨x30, hx31, hm⟩ := bindE hm
  refine WP.cut (fun env' w' => env' = [(2, .bool x30)] ∧ Ext w w' ∧ w.heap.size ≤ w'.heap.size ∧ SH w' w.heap.size [aBox 25 b2 [.int .i64 c_0.Kind, .int .i64 c_0.Amount]]) ?_ ?_
  rotate_left
  · clear hx31
    rintro _ w42 ⟨rfl, hb43, hL44, hS45⟩
    refine WQ.then_normal (hK19 _ _ _ ?_)
    refine WP.ret ?_
    obtain rfl := Option.some.inj hm
    exact WQ.ret1 _ rfl rfl ⟨rfl, hb43⟩
  have hm := hx31; clear hx31
  refine WP.region ?_
  refine WL.runk 3 [1, 3, 9] [(1, .pointer (some ⟨b2, 0, none⟩)), (3, .int .i64 x11), (9, .bool (decide (x11 > 0)))] (by kernel_rfl) ?_
  refine WL.case (decide (x11 > 0)) [9] ⟨rfl, trivial⟩ (fun hc32 => ?_) (fun hc32 => ?_)
  rotate_left
  · have hm := iteF hm hc32
    refine WL.runk 13 [2] [(2, .bool false)] (by kernel_rfl) ?_
    refine WL.nil ?_
    obtain rfl := Option.some.inj hm
    exact WQ.post' ⟨rfl, hb16, hL17, hS18⟩ ⟨rfl, trivial⟩
  have hm := iteT hm hc32
  refine WL.runk 1 [1, 3, 9, 10] [(1, .pointer (some ⟨b2, 0, none⟩)), (3, .int .i64 x11), (9, .bool true), (10, .pointer (some ⟨b2, 1, none⟩))] (by kernel_rfl) ?_
  refine WL.st (.int .i64 c_0.Amount) (ST.load (cell_ext (SH.boxAt (SH.front 0 hS18) 1 _ rfl)) rfl rfl Tryd.underlying2 rfl) rfl rfl rfl ?_
  refine WL.runk 3 [1, 3, 14] [(1, .pointer (some ⟨b2, 0, none⟩)), (3, .int .i64 x11), (14, .bool (c_0.Amount != 0))] (by kernel_rfl) ?_
  refine WL.case (c_0.Amount != 0) [14] ⟨rfl, trivial⟩ (fun hc33 => ?_) (fun hc33 => ?_)
  rotate_left
  · have hm := iteF hm hc33
    refine WL.runk 8 [2] [(2, .bool false)] (by kernel_rfl) ?_
    refine WL.nil ?_
    obtain rfl := Option.some.inj hm
    exact WQ.post' ⟨rfl, hb16, hL17, hS18⟩ ⟨rfl, trivial⟩
  have hm := iteT hm hc33
  refine WL.runk 1 [3, 14, 15] [(3, .int .i64 x11), (14, .bool true), (15, .pointer (some ⟨b2, 1, none⟩))] (by kernel_rfl) ?_
  refine WL.st (.int .i64 c_0.Amount) (ST.load (cell_ext (SH.boxAt (SH.front 0 hS18) 1 _ rfl)) rfl rfl Tryd.underlying2 rfl) rfl rfl rfl ?_
  refine WL.runk 3 [14, 16, 18, 19] [(14, .bool true), (16, .int .i64 c_0.Amount), (18, .int .i64 (wI64 (0 - x11))), (19, .int .i64 x11)] (by kernel_rfl) ?_
  obtain ⟨x34, hx35, hm⟩ := bindE hm
  refine WL.call 46 #[.int .i64 c_0.Amount, .int .i64 (wI64 (0 - x11)), .int .i64 x11] rfl rfl (by kernel_rfl) (c_46 n c_0.Amount (wI64 (0 - x11)) x11 w13 hx35 ) ?_
  rintro _ w36 ⟨rfl, hE37⟩
  refine ⟨_, rfl, ?_⟩
  have hb39 : Ext w w36 := Ext.trans hb16 hE37
  have hL40 : w.heap.size ≤ w36.heap.size := Nat.le_trans hL17 hE37.size
  have hS41 : SH w36 w.heap.size [aBox 25 b2 [.int .i64 c_0.Kind, .int .i64 c_0.Amount]] := SH.ext hS18 hE37
  refine WL.runk 2 [2] [(2, .bool x34)] (by kernel_rfl) ?_
  refine WL.nil ?_
  obtain rfl := Option.some.inj hm
  exact WQ.post' ⟨rfl, hb39, hL40, hS41⟩ ⟨rfl, trivial⟩

theorem c_23 (n : Nat) (n_0 : Int) (w : World) {r : List UInt8} (hm : m_impl_Decimal n n_0 = some r) (hG : GL 2 w) :
    CallV Tryd.prog 23 #[.int .i64 n_0] w (fun v w' => v = .string (bs r) ∧ Ext w w') := by
  unfold m_impl_Decimal at hm
  refine CallV.enter Tryd.func23 rfl (by kernel_rfl) Tryd.ntmps23 (env := [(0, .int .i64 n_0)]) ⟨rfl, trivial⟩ ?_
  refine WP.seq (fun K1 hK1 => ?_)
  refine WP.region ?_
  refine WL.runk 1 [0] [(0, .int .i64 n_0)] (by kernel_rfl) ?_
  refine WL.nil ?_
  refine WQ.then_normal (hK1 _ _ _ ?_)
  refine WP.seq (fun K2 hK2 => ?_)
  refine WP.region ?_
  refine WL.runk 1 [3] [(3, .int .i64 n_0)] (by kernel_rfl) ?_
  obtain ⟨x3, hx4, hm⟩ := bindE hm
  refine WL.call 47 #[.int .i64 n_0, .int .i64 10] rfl rfl (by kernel_rfl) (c_47 n n_0 10 w hx4 (GL.below hG (Ext.refl w))) ?_
  rintro _ w5 ⟨rfl, hE6⟩
  refine ⟨_, rfl, ?_⟩
  have hb8 : Ext w w5 := Ext.trans (Ext.refl w) hE6
  have hL9 : w.heap.size ≤ w5.heap.size := Nat.le_trans (Nat.le_refl _) hE6.size
  have hS10 : SH w5 w.heap.size [] := SH.ext (SH.nil _ _) hE6
  refine WL.runk 1 [2] [(2, .string (bs x3))] (by kernel_rfl) ?_
  refine WL.nil ?_
  refine WQ.then_normal (hK2 _ _ _ ?_)
  refine WP.ret ?_
  obtain rfl := Option.some.inj hm
  exact WQ.ret1 _ rfl rfl ⟨rfl, hb8⟩

theorem c_8 (n : Nat) (c_0 : SChange) (w : World) {r : List UInt8} (hm : m_impl_ChangeText n c_0 = some r) (hG : GL 3 w) :
    CallV Tryd.prog 8 #[.agg #[.int .i64 c_0.Kind, .int .i64 c_0.Amount]] w (fun v w' => v = .string (bs r) ∧ Ext w w') := by
  unfold m_impl_ChangeText at hm
  refine CallV.enter Tryd.func8 rfl (by kernel_rfl) Tryd.ntmps8 (env := [(0, .agg #[.int .i64 c_0.Kind, .int .i64 c_0.Amount])]) ⟨rfl, trivial⟩ ?_
  refine WP.seq (fun K1 hK1 => ?_)
  refine WP.region ?_
  refine WL.box 25 [.int .i64 c_0.Kind, .int .i64 c_0.Amount] 1 (by kernel_rfl) rfl rfl rfl rfl ?_
  intro b2 w3 hE4 hR5
  have hb7 : Ext w w3 := Ext.trans (Ext.refl w) hE4
  have hL8 : w.heap.size ≤ w3.heap.size := Nat.le_trans (Nat.le_refl _) hE4.size
  have hS9 : SH w3 w.heap.size [aBox 25 b2 [.int .i64 c_0.Kind, .int .i64 c_0.Amount]] := SH.add (SH.nil _ _) hE4 (Nat.le_refl _) hR5
  refine WL.runk 1 [1] [(1, .pointer (some ⟨b2, 0, none⟩))] (by kernel_rfl) ?_
  refine WL.nil ?_
  refine WQ.then_normal (hK1 _ _ _ ?_)
  refine WP.seq (fun K10 hK10 => ?_)
  refine WP.block ?_
  refine WP.seq (fun K11 hK11 => ?_)
  refine WP.region ?_
  refine WL.st (.agg #[.int .i64 c_0.Kind, .int .i64 c_0.Amount]) (ST.loadAgg (vs := [.int .i64 c_0.Kind, .int .i64 c_0.Amount]) (fun j v hv => SH.boxPart (us := [.int .i64 c_0.Kind, .int .i64 c_0.Amount]) (SH.front 0 hS9) 0 rfl j v hv) rfl rfl rfl Tryd.underlying25 rfl (info25).1 (info25).2.1) rfl rfl rfl ?_
  obtain ⟨x12, hx13, hm⟩ := bindE hm
  refine WL.call 22 #[.agg #[.int .i64 c_0.Kind, .int .i64 c_0.Amount]] rfl rfl (by kernel_rfl) (c_22 n c_0 w3 hx13 ) ?_
  rintro _ w14 ⟨rfl, hE15⟩
  refine ⟨_, rfl, ?_⟩
  have hb17 : Ext w w14 := Ext.trans hb7 hE15
  have hL18 : w.heap.size ≤ w14.heap.size := Nat.le_trans hL8 hE15.size
  have hS19 : SH w14 w.heap.size [aBox 25 b2 [.int .i64 c_0.Kind, .int .i64 c_0.Amount]] := SH.ext hS9 hE15
  refine WL.runk 2 [1, 3] [(1, .pointer (some ⟨b2, 0, none⟩)), (3, .bool (!x12))] (by kernel_rfl) ?_
  refine WL.nil ?_
  refine WQ.then_normal (hK11 _ _ _ ?_)
  refine WP.cond (!x12) rfl rfl (fun hc20 => ?_) (fun hc20 => ?_)
  · have hm := iteT hm hc20
    refine WP.seq (fun K21 hK21 => ?_)
    refine WP.region ?_
    refine WL.runk 1 [2] [(2, .string (bs []))] (by kernel_rfl) ?_
    refine WL.nil ?_
    refine WQ.then_normal (hK21 _ _ _ ?_)
    refine WP.ret ?_
    refine WQ.block_ret ?_
    refine WQ.then_ret ?_
    obtain rfl := Option.some.inj hm
    exact WQ.ret1 _ rfl rfl ⟨rfl, hb17⟩
  have hm := iteF hm hc20
  refine WP.seq (fun K22 hK22 => ?_)
  refine WP.region ?_
  refine WL.runk 1 [1, 8] [(1, .pointer (some ⟨b2, 0, none⟩)), (8, .pointer (some ⟨b2, 1, none⟩))] (by kernel_rfl) ?_
  refine WL.st (.int .i64 c_0.Amount) (ST.load (cell_ext (SH.boxAt (SH.front 0 hS19) 1 _ rfl)) rfl rfl Tryd.underlying2 rfl) rfl rfl rfl ?_
  refine WL.runk 2 [1, 7] [(1, .pointer (some ⟨b2, 0, none⟩)), (7, .bool (decide (c_0.Amount > 0)))] (by kernel_rfl) ?_
  refine WL.nil ?_
  refine WQ.then_normal (hK22 _ _ _ ?_)
  refine WP.cond (decide (c_0.Amount > 0)) rfl rfl (fun hc23 => ?_) (fun hc23 => ?_)
  · have hm := iteT hm hc23
    refine WP.seq (fun K24 hK24 => ?_)
    refine WP.quiet (by kernel_rfl) (by kernel_rfl) ?_
    refine QL.step1v 11 (.pointer (some ⟨b2, 0, none⟩)) rfl (fun _ => by kernel_rfl) ?_
    refine QL.subk [1, 11] [(1, .pointer (some ⟨b2, 0, none⟩)), (11, .pointer (some ⟨b2, 0, none⟩))] (by kernel_rfl) ?_
    refine QL.st (.int .i64 c_0.Kind) (ST.load (cell_ext (SH.boxAt (SH.front 0 hS19) 0 _ rfl)) rfl rfl Tryd.underlying2 rfl) rfl rfl rfl ?_
    obtain ⟨x25, hx26, hm⟩ := bindE hm
    refine QL.st (.pointer (some (at_ (some ⟨0, 0, none⟩) (Int.toNat c_0.Kind * 1)))) (ST.indexG (xs := v_changeNames) hx26 rfl rfl rfl Tryd.underlying46 rfl (info9).1 (info9).2.1) rfl rfl rfl ?_
    refine QL.st (.string (bs x25)) (ST.load (cell_ext (Rd.flat (F := fStr) (Rd.below (GL.v_changeNames hG rfl) hb17) hx26 0 rfl)) rfl rfl Tryd.underlying9 rfl) rfl rfl rfl ?_
    obtain ⟨x27, hx28, hm⟩ := bindE hm
    refine QL.st (.string (bs x27)) (ST.cat hx28 rfl rfl rfl) rfl rfl rfl ?_
    refine QL.step1v 16 (.pointer (some ⟨b2, 1, none⟩)) rfl (fun _ => by kernel_rfl) ?_
    refine QL.subk [15, 16] [(15, .string (bs x27)), (16, .pointer (some ⟨b2, 1, none⟩))] (by kernel_rfl) ?_
    refine QL.st (.int .i64 c_0.Amount) (ST.load (cell_ext (SH.boxAt (SH.front 0 hS19) 1 _ rfl)) rfl rfl Tryd.underlying2 rfl) rfl rfl rfl ?_
    obtain ⟨x29, hx30, hm⟩ := bindE hm
    refine QL.call 23 #[.int .i64 c_0.Amount] (.string (bs x29)) (fun _ => by kernel_rfl) (fun w31 hE32 => c_23 n c_0.Amount w31 hx30 (GL.below (GL.below (GL.low (j := 2) hG rfl) hb17) hE32)) rfl rfl rfl ?_
    obtain ⟨x33, hx34, hm⟩ := bindE hm
    refine QL.st (.string (bs x33)) (ST.cat hx34 rfl rfl rfl) rfl rfl rfl ?_
    refine QL.step1v 2 (.string (bs x33)) rfl (fun _ => by kernel_rfl) ?_
    refine QL.subk [2] [(2, .string (bs x33))] (by kernel_rfl) ?_
    refine QL.nil ?_
    intro w35 hE36
    have hb37 : Ext w w35 := Ext.trans hb17 hE36
    have hL38 : w.heap.size ≤ w35.heap.size := Nat.le_trans hL18 hE36.size
    have hS39 : SH w35 w.heap.size [aBox 25 b2 [.int .i64 c_0.Kind, .int .i64 c_0.Amount]] := SH.ext hS19 hE36
    refine WQ.then_normal (hK24 _ _ _ ?_)
    refine WP.ret ?_
    refine WQ.block_ret ?_
    refine WQ.then_ret ?_
    obtain rfl := Option.some.inj hm
    exact WQ.ret1 _ rfl rfl ⟨rfl, hb37⟩
  have hm := iteF hm hc23
  refine WP.skip ?_
  refine WQ.block_normal ?_
  refine WQ.then_normal (hK10 _ _ _ ?_)
  refine WP.seq (fun K40 hK40 => ?_)
  refine WP.quiet (by kernel_rfl) (by kernel_rfl) ?_
  refine QL.step1v 20 (.pointer (some ⟨b2, 0, none⟩)) rfl (fun _ => by kernel_rfl) ?_
  refine QL.subk [1, 20] [(1, .pointer (some ⟨b2, 0, none⟩)), (20, .pointer (some ⟨b2, 0, none⟩))] (by kernel_rfl) ?_
  refine QL.st (.int .i64 c_0.Kind) (ST.load (cell_ext (SH.boxAt (SH.front 0 hS19) 0 _ rfl)) rfl rfl Tryd.underlying2 rfl) rfl rfl rfl ?_
  obtain ⟨x41, hx42, hm⟩ := bindE hm
  refine QL.st (.pointer (some (at_ (some ⟨0, 0, none⟩) (Int.toNat c_0.Kind * 1)))) (ST.indexG (xs := v_changeNames) hx42 rfl rfl rfl Tryd.underlying46 rfl (info9).1 (info9).2.1) rfl rfl rfl ?_
  refine QL.st (.string (bs x41)) (ST.load (cell_ext (Rd.flat (F := fStr) (Rd.below (GL.v_changeNames hG rfl) hb17) hx42 0 rfl)) rfl rfl Tryd.underlying9 rfl) rfl rfl rfl ?_
  obtain ⟨x43, hx44, hm⟩ := bindE hm
  refine QL.st (.string (bs x43)) (ST.cat hx44 rfl rfl rfl) rfl rfl rfl ?_
  refine QL.step1v 25 (.pointer (some ⟨b2, 1, none⟩)) rfl (fun _ => by kernel_rfl) ?_
  refine QL.subk [24, 25] [(24, .string (bs x43)), (25, .pointer (some ⟨b2, 1, none⟩))] (by kernel_rfl) ?_
  refine QL.st (.int .i64 c_0.Amount) (ST.load (cell_ext (SH.boxAt (SH.front 0 hS19) 1 _ rfl)) rfl rfl Tryd.underlying2 rfl) rfl rfl rfl ?_
  obtain ⟨x45, hx46, hm⟩ := bindE hm
  refine QL.call 23 #[.int .i64 c_0.Amount] (.string (bs x45)) (fun _ => by kernel_rfl) (fun w47 hE48 => c_23 n c_0.Amount w47 hx46 (GL.below (GL.below (GL.low (j := 2) hG rfl) hb17) hE48)) rfl rfl rfl ?_
  obtain ⟨x49, hx50, hm⟩ := bindE hm
  refine QL.st (.string (bs x49)) (ST.cat hx50 rfl rfl rfl) rfl rfl rfl ?_
  refine QL.step1v 2 (.string (bs x49)) rfl (fun _ => by kernel_rfl) ?_
  refine QL.subk [2] [(2, .string (bs x49))] (by kernel_rfl) ?_
  refine QL.nil ?_
  intro w51 hE52
  have hb53 : Ext w w51 := Ext.trans hb17 hE52
  have hL54 : w.heap.size ≤ w51.heap.size := Nat.le_trans hL18 hE52.size
  have hS55 : SH w51 w.heap.size [aBox 25 b2 [.int .i64 c_0.Kind, .int .i64 c_0.Amount]] := SH.ext hS19 hE52
  refine WQ.then_normal (hK40 _ _ _ ?_)
  refine WP.ret ?_
  obtain rfl := Option.some.inj hm
  exact WQ.ret1 _ rfl rfl ⟨rfl, hb53⟩

theorem c_29 (n : Nat) (s_0 : List UInt8) (w : World) {r : Int × Bool} (hm : m_impl_ReadDecimal n s_0 = some r) (hG : GL 4 w) :
    CallV Tryd.prog 29 #[.string (bs s_0)] w (fun v w' => v = .tuple #[.int .i64 r.1, .bool r.2] ∧ Ext w w') := by
  unfold m_impl_ReadDecimal at hm
  refine CallV.enter Tryd.func29 rfl (by kernel_rfl) Tryd.ntmps29 (env := [(0, .string (bs s_0))]) ⟨rfl, trivial⟩ ?_
  refine WP.seq (fun K1 hK1 => ?_)
  refine WP.region ?_
  refine WL.runk 2 [0] [(0, .string (bs s_0))] (by kernel_rfl) ?_
  refine WL.nil ?_
  refine WQ.then_normal (hK1 _ _ _ ?_)
  refine WP.seq (fun K2 hK2 => ?_)
  refine WP.seq (fun K3 hK3 => ?_)
  obtain ⟨x13, hx14, hm⟩ := bindE hm
  refine WP.cut (fun env' w' => env' = [(0, .string (bs s_0)), (14, .bool x13)] ∧ Ext w w' ∧ w.heap.size ≤ w'.heap.size ∧ SH w' w.heap.size []) ?_ ?_
  · have hm := hx14; clear hx14
    refine WP.region ?_
    refine WL.runk 4 [0, 9] [(0, .string (bs s_0)), (9, .bool (decide ((s_0.length : Int) > 19)))] (by kernel_rfl) ?_
    refine WL.case (decide ((s_0.length : Int) > 19)) [9] ⟨rfl, trivial⟩ (fun hc15 => ?_) (fun hc15 => ?_)
    · have hm := iteT hm hc15
      refine WL.runk 5 [0, 14] [(0, .string (bs s_0)), (14, .bool true)] (by kernel_rfl) ?_
      refine WL.nil ?_
      obtain rfl := Option.some.inj hm
      exact WQ.post' ⟨rfl, (Ext.refl w), (Nat.le_refl _), (SH.nil _ _)⟩ ⟨rfl, rfl, trivial⟩
    have hm := iteF hm hc15
    refine WL.runk 1 [0, 9, 10] [(0, .string (bs s_0)), (9, .bool false), (10, .string (bs s_0))] (by kernel_rfl) ?_
    obtain ⟨x16, hx17, hm⟩ := bindE hm
    refine WL.call 30 #[.string (bs s_0), .string (bs [45])] rfl rfl (by kernel_rfl) (c_30 n s_0 [45] w hx17 ) ?_
    rintro _ w18 ⟨rfl, hE19⟩
    refine ⟨_, rfl, ?_⟩
    have hb21 : Ext w w18 := Ext.trans (Ext.refl w) hE19
    have hL22 : w.heap.size ≤ w18.heap.size := Nat.le_trans (Nat.le_refl _) hE19.size
    have hS23 : SH w18 w.heap.size [] := SH.ext (SH.nil _ _) hE19
    refine WL.runk 3 [0, 14] [(0, .string (bs s_0)), (14, .bool (decide ((x16.length : Int) > 18)))] (by kernel_rfl) ?_
    refine WL.nil ?_
    obtain rfl := Option.some.inj hm
    exact WQ.post' ⟨rfl, hb21, hL22, hS23⟩ ⟨rfl, rfl, trivial⟩
  clear hx14
  rintro _ w24 ⟨rfl, hb25, hL26, hS27⟩
  refine WQ.then_normal (hK3 _ _ _ ?_)
  refine WP.cond x13 rfl rfl (fun hc28 => ?_) (fun hc28 => ?_)
  · have hm := iteT hm hc28
    refine WP.seq (fun K29 hK29 => ?_)
    refine WP.region ?_
    refine WL.runk 2 [2, 3] [(2, .int .i64 0), (3, .bool false)] (by kernel_rfl) ?_
    refine WL.nil ?_
    refine WQ.then_normal (hK29 _ _ _ ?_)
    refine WP.ret ?_
    refine WQ.then_ret ?_
    obtain rfl := Option.some.inj hm
    exact WQ.ret2 _ _ rfl rfl rfl ⟨rfl, hb25⟩
  have hm := iteF hm hc28
  refine WP.skip ?_
  refine WQ.then_normal (hK2 _ _ _ ?_)
  refine WP.seq (fun K30 hK30 => ?_)
  refine WP.region ?_
  refine WL.runk 1 [0, 16] [(0, .string (bs s_0)), (16, .string (bs s_0))] (by kernel_rfl) ?_
  obtain ⟨x31, hx32, hm⟩ := bindE hm
  refine WL.call 50 #[.string (bs s_0), .int .i64 10, .int .i64 64] rfl rfl (by kernel_rfl) (c_50 n s_0 10 64 w24 hx32 (GL.below hG hb25)) ?_
  rintro _ w35 ⟨ev33, rfl, hev34, hE36⟩
  refine ⟨_, rfl, ?_⟩
  have hb38 : Ext w w35 := Ext.trans hb25 hE36
  have hL39 : w.heap.size ≤ w35.heap.size := Nat.le_trans hL26 hE36.size
  have hS40 : SH w35 w.heap.size [] := SH.ext hS27 hE36
  refine WL.runk 5 [0, 4, 5] [(0, .string (bs s_0)), (4, .int .i64 x31.1), (5, ev33)] (by kernel_rfl) ?_
  refine WL.nil ?_
  refine WQ.then_normal (hK30 _ _ _ ?_)
  refine WP.seq (fun K41 hK41 => ?_)
  refine WP.seq (fun K42 hK42 => ?_)
  obtain ⟨x52, hx53, hm⟩ := bindE hm
  refine WP.cut (fun env' w' => env' = [(4, .int .i64 x31.1), (27, .bool x52)] ∧ Ext w w' ∧ w.heap.size ≤ w'.heap.size ∧ SH w' w.heap.size []) ?_ ?_
  rotate_left
  · clear hx53
    rintro _ w63 ⟨rfl, hb64, hL65, hS66⟩
    refine WQ.then_normal (hK42 _ _ _ ?_)
    refine WP.cond x52 rfl rfl (fun hc67 => ?_) (fun hc67 => ?_)
    · have hm := iteT hm hc67
      refine WP.seq (fun K68 hK68 => ?_)
      refine WP.region ?_
      refine WL.runk 2 [2, 3] [(2, .int .i64 0), (3, .bool false)] (by kernel_rfl) ?_
      refine WL.nil ?_
      refine WQ.then_normal (hK68 _ _ _ ?_)
      refine WP.ret ?_
      refine WQ.then_ret ?_
      obtain rfl := Option.some.inj hm
      exact WQ.ret2 _ _ rfl rfl rfl ⟨rfl, hb64⟩
    have hm := iteF hm hc67
    refine WP.skip ?_
    refine WQ.then_normal (hK41 _ _ _ ?_)
    refine WP.seq (fun K69 hK69 => ?_)
    refine WP.region ?_
    refine WL.runk 3 [2, 3] [(2, .int .i64 x31.1), (3, .bool true)] (by kernel_rfl) ?_
    refine WL.nil ?_
    refine WQ.then_normal (hK69 _ _ _ ?_)
    refine WP.ret ?_
    obtain rfl := Option.some.inj hm
    exact WQ.ret2 _ _ rfl rfl rfl ⟨rfl, hb64⟩
  have hm := hx53; clear hx53
  refine WP.region ?_
  refine WL.runk 1 [0, 4, 20] [(0, .string (bs s_0)), (4, .int .i64 x31.1), (20, ev33)] (by kernel_rfl) ?_
  refine WL.st (.bool x31.2) (ST.errne (b := x31.2) hev34 (by kernel_rfl) rfl rfl) rfl rfl rfl ?_
  refine WL.runk 1 [0, 4, 22] [(0, .string (bs s_0)), (4, .int .i64 x31.1), (22, .bool x31.2)] (by kernel_rfl) ?_
  refine WL.case x31.2 [22] ⟨rfl, trivial⟩ (fun hc54 => ?_) (fun hc54 => ?_)
  · have hm := iteT hm hc54
    refine WL.runk 5 [4, 27] [(4, .int .i64 x31.1), (27, .bool true)] (by kernel_rfl) ?_
    refine WL.nil ?_
    obtain rfl := Option.some.inj hm
    exact WQ.post' ⟨rfl, hb38, hL39, hS40⟩ ⟨rfl, rfl, trivial⟩
  have hm := iteF hm hc54
  refine WL.runk 1 [0, 4, 22, 23] [(0, .string (bs s_0)), (4, .int .i64 x31.1), (22, .bool false), (23, .int .i64 x31.1)] (by kernel_rfl) ?_
  obtain ⟨x55, hx56, hm⟩ := bindE hm
  refine WL.call 23 #[.int .i64 x31.1] rfl rfl (by kernel_rfl) (c_23 n x31.1 w35 hx56 (GL.below (GL.low (j := 2) hG rfl) hb38)) ?_
  rintro _ w57 ⟨rfl, hE58⟩
  refine ⟨_, rfl, ?_⟩
  have hb60 : Ext w w57 := Ext.trans hb38 hE58
  have hL61 : w.heap.size ≤ w57.heap.size := Nat.le_trans hL39 hE58.size
  have hS62 : SH w57 w.heap.size [] := SH.ext hS40 hE58
  refine WL.runk 1 [4, 22, 24, 25] [(4, .int .i64 x31.1), (22, .bool false), (24, .string (bs x55)), (25, .string (bs s_0))] (by kernel_rfl) ?_
  refine WL.st (.bool (!(x55 == s_0))) (ST.strne (x := x55) (y := s_0) rfl rfl rfl) rfl rfl rfl ?_
  refine WL.runk 1 [4, 27] [(4, .int .i64 x31.1), (27, .bool (!(x55 == s_0)))] (by kernel_rfl) ?_
  refine WL.nil ?_
  obtain rfl := Option.some.inj hm
  exact WQ.post' ⟨rfl, hb60, hL61, hS62⟩ ⟨rfl, rfl, trivial⟩

theorem c_31 (n : Nat) (s_0 : List (List UInt8)) (a0' : Option Addr) (c0' : Nat) (v_1 : List UInt8) (w : World) {r : Int} (hm : m_slices_Index_string_string n s_0 v_1 = some r) (h0 : Rd fStr.ty w a0' s_0) (_hle0 : s_0.length ≤ c0') :
    CallV Tryd.prog 31 #[.slice a0' s_0.length c0', .string (bs v_1)] w (fun v w' => v = .int .i64 r ∧ Ext w w') := by
  unfold m_slices_Index_string_string at hm
  refine CallV.enter Tryd.func31 rfl (by kernel_rfl) Tryd.ntmps31 (env := [(0, .slice a0' s_0.length c0'), (1, .string (bs v_1))]) ⟨rfl, rfl, trivial⟩ ?_
  refine WP.seq (fun K1 hK1 => ?_)
  refine WP.region ?_
  refine WL.runk 1 [0, 1] [(0, .slice a0' s_0.length c0'), (1, .string (bs v_1))] (by kernel_rfl) ?_
  refine WL.nil ?_
  refine WQ.then_normal (hK1 _ _ _ ?_)
  refine WP.seq (fun K2 hK2 => ?_)
  refine WP.seq (fun K3 hK3 => ?_)
  refine WP.region ?_
  refine WL.runk 3 [0, 1, 7, 8] [(0, .slice a0' s_0.length c0'), (1, .string (bs v_1)), (7, .int .i64 (s_0.length : Int)), (8, .int .i64 0)] (by kernel_rfl) ?_
  refine WL.nil ?_
  refine WQ.then_normal (hK3 _ _ _ ?_)
  refine WP.block ?_
  obtain ⟨t15, ht16, hm⟩ := bindE hm
  have hmo10 := hm; clear hm
  refine WP.sub [(0, .slice a0' s_0.length c0'), (1, .string (bs v_1)), (7, .int .i64 (s_0.length : Int)), (8, .int .i64 0)] ⟨rfl, rfl, rfl, rfl, trivial⟩ ?_
  refine WP.loop (fun n' env' w' => ∃ (st4 : Int) , env' = [(0, .slice a0' s_0.length c0'), (1, .string (bs v_1)), (7, .int .i64 (s_0.length : Int)), (8, .int .i64 st4)] ∧ Ext w w' ∧ w.heap.size ≤ w'.heap.size ∧ SH w' w.heap.size [] ∧ loopN (m_slices_Index_string_string_l1 n s_0 v_1) n' st4 = some t15) n ⟨0, rfl, (Ext.refl w), (Nat.le_refl _), (SH.nil _ _), ht16⟩ ?_
  rintro n12 _ w5 ⟨st4, rfl, hb6, hL7, hS8, hl9⟩ K11 hK11
  obtain ⟨n13, s14, rfl, hm, hl9⟩ := loopN_some hl9
  unfold m_slices_Index_string_string_l1 at hm
  refine WP.seq (fun K17 hK17 => ?_)
  refine WP.region ?_
  refine WL.runk 1 [0, 1, 7, 8, 9] [(0, .slice a0' s_0.length c0'), (1, .string (bs v_1)), (7, .int .i64 (s_0.length : Int)), (8, .int .i64 st4), (9, .bool (decide (st4 < (s_0.length : Int))))] (by kernel_rfl) ?_
  refine WL.nil ?_
  refine WQ.then_normal (hK17 _ _ _ ?_)
  refine WP.seq (fun K18 hK18 => ?_)
  refine WP.cond (decide (st4 < (s_0.length : Int))) rfl rfl (fun hc19 => ?_) (fun hc19 => ?_)
  rotate_left
  · have hm := iteF hm hc19
    refine WP.exit ?_
    refine WQ.then_exit ?_
    refine WQ.then_exit ?_
    refine WQ.block_here ?_
    obtain rfl := Option.some.inj hm
    obtain rfl := afterN_done hl9
    have hm := hmo10
    refine WQ.then_normal (hK2 _ _ _ ?_)
    refine WP.seq (fun K27 hK27 => ?_)
    refine WP.region ?_
    refine WL.runk 1 [4] [(4, .int .i64 (-1))] (by kernel_rfl) ?_
    refine WL.nil ?_
    refine WQ.then_normal (hK27 _ _ _ ?_)
    refine WP.ret ?_
    obtain rfl := Option.some.inj hm
    exact WQ.ret1 _ rfl rfl ⟨rfl, hb6⟩
  have hm := iteT hm hc19
  refine WP.skip ?_
  refine WQ.then_normal (hK18 _ _ _ ?_)
  refine WP.seq (fun K20 hK20 => ?_)
  refine WP.block ?_
  refine WP.seq (fun K21 hK21 => ?_)
  refine WP.region ?_
  refine WL.runk 2 [0, 1, 5, 7, 8] [(0, .slice a0' s_0.length c0'), (1, .string (bs v_1)), (7, .int .i64 (s_0.length : Int)), (8, .int .i64 st4), (5, .int .i64 st4)] (by kernel_rfl) ?_
  refine WL.nil ?_
  refine WQ.then_normal (hK21 _ _ _ ?_)
  refine WP.seq (fun K22 hK22 => ?_)
  refine WP.region ?_
  refine WL.runk 3 [0, 1, 5, 7, 8, 11, 12, 13] [(0, .slice a0' s_0.length c0'), (1, .string (bs v_1)), (7, .int .i64 (s_0.length : Int)), (8, .int .i64 st4), (5, .int .i64 st4), (11, .string (bs v_1)), (12, .slice a0' s_0.length c0'), (13, .int .i64 st4)] (by kernel_rfl) ?_
  obtain ⟨x23, hx24, hm⟩ := bindE hm
  refine WL.st (.pointer (some (at_ a0' (Int.toNat st4 * 1)))) (ST.index (T := fStr.ty) (xs := s_0) (Rd.below h0 hb6) hx24 rfl rfl rfl Tryd.underlying48 (info9).1 (info9).2.1) rfl rfl rfl ?_
  refine WL.st (.string (bs x23)) (ST.load (cell_ext (Rd.flat (F := fStr) (Rd.below h0 hb6) hx24 0 rfl)) rfl rfl Tryd.underlying9 rfl) rfl rfl rfl ?_
  refine WL.st (.bool (v_1 == x23)) (ST.streq (x := v_1) (y := x23) rfl rfl rfl) rfl rfl rfl ?_
  refine WL.sub [(0, .slice a0' s_0.length c0'), (1, .string (bs v_1)), (7, .int .i64 (s_0.length : Int)), (8, .int .i64 st4), (5, .int .i64 st4), (16, .bool (v_1 == x23))] ⟨rfl, rfl, rfl, rfl, rfl, rfl, trivial⟩ ?_
  refine WL.nil ?_
  refine WQ.then_normal (hK22 _ _ _ ?_)
  refine WP.cond (v_1 == x23) rfl rfl (fun hc25 => ?_) (fun hc25 => ?_)
  rotate_left
  · have hm := iteF hm hc25
    refine WP.skip ?_
    refine WQ.block_normal ?_
    refine WQ.then_normal (hK20 _ _ _ ?_)
    refine WP.region ?_
    refine WL.runk 2 [0, 1, 7, 8] [(0, .slice a0' s_0.length c0'), (1, .string (bs v_1)), (7, .int .i64 (s_0.length : Int)), (8, .int .i64 (wI64 (st4 + 1)))] (by kernel_rfl) ?_
    refine WL.nil ?_
    obtain rfl := Option.some.inj hm
    exact WQ.round hK11 ⟨(wI64 (st4 + 1)), rfl, hb6, hL7, hS8, hl9⟩ (Nat.lt_succ_self _) ⟨rfl, rfl, rfl, rfl, trivial⟩
  have hm := iteT hm hc25
  refine WP.seq (fun K26 hK26 => ?_)
  refine WP.region ?_
  refine WL.runk 2 [4] [(4, .int .i64 st4)] (by kernel_rfl) ?_
  refine WL.nil ?_
  refine WQ.then_normal (hK26 _ _ _ ?_)
  refine WP.ret ?_
  refine WQ.block_ret ?_
  refine WQ.then_ret ?_
  refine WQ.then_ret ?_
  refine WQ.block_ret ?_
  refine WQ.then_ret ?_
  obtain rfl := Option.some.inj hm
  obtain rfl := afterN_done hl9
  have hm := hmo10
  obtain rfl := Option.some.inj hm
  exact WQ.ret1 _ rfl rfl ⟨rfl, hb6⟩

theorem c_10 (n : Nat) (s_0 : List UInt8) (w : World) {r : SChange × Bool} (hm : m_impl_ReadChange n s_0 = some r) (hG : GL 4 w) :
    CallV Tryd.prog 10 #[.string (bs s_0)] w (fun v w' => v = .tuple #[.agg #[.int .i64 r.1.Kind, .int .i64 r.1.Amount], .bool r.2] ∧ Ext w w') := by
  unfold m_impl_ReadChange at hm
  refine CallV.enter Tryd.func10 rfl (by kernel_rfl) Tryd.ntmps10 (env := [(0, .string (bs s_0))]) ⟨rfl, trivial⟩ ?_
  refine WP.seq (fun K1 hK1 => ?_)
  refine WP.region ?_
  refine WL.box 25 [.int .i64 0, .int .i64 0] 2 (by kernel_rfl) rfl rfl rfl rfl ?_
  intro b2 w3 hE4 hR5
  have hb7 : Ext w w3 := Ext.trans (Ext.refl w) hE4
  have hL8 : w.heap.size ≤ w3.heap.size := Nat.le_trans (Nat.le_refl _) hE4.size
  have hS9 : SH w3 w.heap.size [aBox 25 b2 [.int .i64 0, .int .i64 0]] := SH.add (SH.nil _ _) hE4 (Nat.le_refl _) hR5
  refine WL.runk 1 [0, 2] [(0, .string (bs s_0)), (2, .pointer (some ⟨b2, 0, none⟩))] (by kernel_rfl) ?_
  refine WL.nil ?_
  refine WQ.then_normal (hK1 _ _ _ ?_)
  refine WP.seq (fun K10 hK10 => ?_)
  refine WP.region ?_
  refine WL.runk 1 [0, 2, 11] [(0, .string (bs s_0)), (2, .pointer (some ⟨b2, 0, none⟩)), (11, .string (bs s_0))] (by kernel_rfl) ?_
  obtain ⟨x11, hx12, hm⟩ := bindE hm
  refine WL.call 28 #[.string (bs s_0), .string (bs [32])] rfl rfl (by kernel_rfl) (c_28 n s_0 [32] w3 hx12 (GL.below (GL.low (j := 1) hG rfl) hb7)) ?_
  rintro _ w13 ⟨rfl, hE14⟩
  refine ⟨_, rfl, ?_⟩
  have hb16 : Ext w w13 := Ext.trans hb7 hE14
  have hL17 : w.heap.size ≤ w13.heap.size := Nat.le_trans hL8 hE14.size
  have hS18 : SH w13 w.heap.size [aBox 25 b2 [.int .i64 0, .int .i64 0]] := SH.ext hS9 hE14
  refine WL.runk 7 [0, 2, 4, 5] [(0, .string (bs s_0)), (2, .pointer (some ⟨b2, 0, none⟩)), (4, .string (bs x11.1)), (5, .string (bs x11.2.1))] (by kernel_rfl) ?_
  refine WL.nil ?_
  refine WQ.then_normal (hK10 _ _ _ ?_)
  refine WP.seq (fun K19 hK19 => ?_)
  refine WP.region ?_
  refine WL.runk 1 [0, 2, 4, 17] [(0, .string (bs s_0)), (2, .pointer (some ⟨b2, 0, none⟩)), (4, .string (bs x11.1)), (17, .string (bs x11.2.1))] (by kernel_rfl) ?_
  obtain ⟨x20, hx21, hm⟩ := bindE hm
  refine WL.call 30 #[.string (bs x11.2.1), .string (bs [43])] rfl rfl (by kernel_rfl) (c_30 n x11.2.1 [43] w13 hx21 ) ?_
  rintro _ w22 ⟨rfl, hE23⟩
  refine ⟨_, rfl, ?_⟩
  have hb25 : Ext w w22 := Ext.trans hb16 hE23
  have hL26 : w.heap.size ≤ w22.heap.size := Nat.le_trans hL17 hE23.size
  have hS27 : SH w22 w.heap.size [aBox 25 b2 [.int .i64 0, .int .i64 0]] := SH.ext hS18 hE23
  obtain ⟨x28, hx29, hm⟩ := bindE hm
  refine WL.call 29 #[.string (bs x20)] rfl rfl (by kernel_rfl) (c_29 n x20 w22 hx29 (GL.below hG hb25)) ?_
  rintro _ w30 ⟨rfl, hE31⟩
  refine ⟨_, rfl, ?_⟩
  have hb33 : Ext w w30 := Ext.trans hb25 hE31
  have hL34 : w.heap.size ≤ w30.heap.size := Nat.le_trans hL26 hE31.size
  have hS35 : SH w30 w.heap.size [aBox 25 b2 [.int .i64 0, .int .i64 0]] := SH.ext hS27 hE31
  refine WL.runk 5 [0, 2, 4, 7, 8] [(0, .string (bs s_0)), (2, .pointer (some ⟨b2, 0, none⟩)), (4, .string (bs x11.1)), (7, .int .i64 x28.1), (8, .bool x28.2)] (by kernel_rfl) ?_
  refine WL.nil ?_
  refine WQ.then_normal (hK19 _ _ _ ?_)
  refine WP.seq (fun K36 hK36 => ?_)
  refine WP.region ?_
  refine WL.st (.slice (some ⟨0, 0, none⟩) v_changeNames.length 6) (ST.sliceG rfl rfl Tryd.underlying46 (info9).1) rfl rfl rfl ?_
  refine WL.runk 1 [0, 2, 7, 8, 22, 23] [(0, .string (bs s_0)), (2, .pointer (some ⟨b2, 0, none⟩)), (7, .int .i64 x28.1), (8, .bool x28.2), (22, .slice (some ⟨0, 0, none⟩) v_changeNames.length 6), (23, .string (bs x11.1))] (by kernel_rfl) ?_
  obtain ⟨x37, hx38, hm⟩ := bindE hm
  refine WL.call 31 #[.slice (some ⟨0, 0, none⟩) v_changeNames.length 6, .string (bs x11.1)] rfl rfl (by kernel_rfl) (c_31 n v_changeNames (some ⟨0, 0, none⟩) 6 x11.1 w30 hx38 (Rd.below (GL.v_changeNames hG rfl) hb33) (by decide)) ?_
  rintro _ w39 ⟨rfl, hE40⟩
  refine ⟨_, rfl, ?_⟩
  have hb42 : Ext w w39 := Ext.trans hb33 hE40
  have hL43 : w.heap.size ≤ w39.heap.size := Nat.le_trans hL34 hE40.size
  have hS44 : SH w39 w.heap.size [aBox 25 b2 [.int .i64 0, .int .i64 0]] := SH.ext hS35 hE40
  refine WL.runk 2 [0, 2, 8, 26] [(0, .string (bs s_0)), (2, .pointer (some ⟨b2, 0, none⟩)), (8, .bool x28.2), (26, .agg #[.int .i64 x37, .int .i64 x28.1])] (by kernel_rfl) ?_
  refine WL.box 25 [.int .i64 0, .int .i64 0] 9 (by kernel_rfl) rfl rfl rfl rfl ?_
  intro b45 w46 hE47 hR48
  have hb50 : Ext w w46 := Ext.trans hb42 hE47
  have hL51 : w.heap.size ≤ w46.heap.size := Nat.le_trans hL43 hE47.size
  have hS52 : SH w46 w.heap.size [aBox 25 b45 [.int .i64 0, .int .i64 0], aBox 25 b2 [.int .i64 0, .int .i64 0]] := SH.add hS44 hE47 hL43 hR48
  refine WL.boxStore 0 [.int .i64 x37, .int .i64 x28.1] [.int .i64 x37, .int .i64 x28.1] (SH.front 0 hS52) hL51 rfl rfl rfl rfl rfl rfl rfl (info25).1 (info25).2.1 rfl rfl rfl ?_
  intro w53 hB54 hS55
  have hb56 : Ext w w53 := Below.trans hb50 hB54
  have hL57 : w.heap.size ≤ w53.heap.size := Nat.le_trans hL51 hB54.size
  refine WL.sub [(0, .string (bs s_0)), (2, .pointer (some ⟨b2, 0, none⟩)), (8, .bool x28.2), (9, .pointer (some ⟨b45, 0, none⟩))] ⟨rfl, rfl, rfl, rfl, trivial⟩ ?_
  refine WL.nil ?_
  refine WQ.then_normal (hK36 _ _ _ ?_)
  refine WP.seq (fun K58 hK58 => ?_)
  refine WP.seq (fun K59 hK59 => ?_)
  obtain ⟨x69, hx70, hm⟩ := bindE hm
  refine WP.cut (fun env' w' => env' = [(2, .pointer (some ⟨b2, 0, none⟩)), (9, .pointer (some ⟨b45, 0, none⟩)), (34, .bool x69)] ∧ Ext w w' ∧ w.heap.size ≤ w'.heap.size ∧ SH w' w.heap.size [aBox 25 b45 [.int .i64 x37, .int .i64 x28.1], aBox 25 b2 [.int .i64 0, .int .i64 0]]) ?_ ?_
  · have hm := hx70; clear hx70
    refine WP.region ?_
    refine WL.runk 3 [0, 2, 9, 29] [(0, .string (bs s_0)), (2, .pointer (some ⟨b2, 0, none⟩)), (9, .pointer (some ⟨b45, 0, none⟩)), (29, .bool (!x28.2))] (by kernel_rfl) ?_
    refine WL.case (!x28.2) [29] ⟨rfl, trivial⟩ (fun hc71 => ?_) (fun hc71 => ?_)
    · have hm := iteT hm hc71
      refine WL.runk 5 [2, 9, 34] [(2, .pointer (some ⟨b2, 0, none⟩)), (9, .pointer (some ⟨b45, 0, none⟩)), (34, .bool true)] (by kernel_rfl) ?_
      refine WL.nil ?_
      obtain rfl := Option.some.inj hm
      exact WQ.post' ⟨rfl, hb56, hL57, hS55⟩ ⟨rfl, rfl, rfl, trivial⟩
    have hm := iteF hm hc71
    refine WL.st (.agg #[.int .i64 x37, .int .i64 x28.1]) (ST.loadAgg (vs := [.int .i64 x37, .int .i64 x28.1]) (fun j v hv => SH.boxPart (us := [.int .i64 x37, .int .i64 x28.1]) (SH.front 0 hS55) 0 rfl j v hv) rfl rfl rfl Tryd.underlying25 rfl (info25).1 (info25).2.1) rfl rfl rfl ?_
    obtain ⟨x72, hx73, hm⟩ := bindE hm
    refine WL.call 8 #[.agg #[.int .i64 x37, .int .i64 x28.1]] rfl rfl (by kernel_rfl) (c_8 n (SChange.mk x37 x28.1) w53 hx73 (GL.below (GL.low (j := 3) hG rfl) hb56)) ?_
    rintro _ w74 ⟨rfl, hE75⟩
    refine ⟨_, rfl, ?_⟩
    have hb77 : Ext w w74 := Ext.trans hb56 hE75
    have hL78 : w.heap.size ≤ w74.heap.size := Nat.le_trans hL57 hE75.size
    have hS79 : SH w74 w.heap.size [aBox 25 b45 [.int .i64 x37, .int .i64 x28.1], aBox 25 b2 [.int .i64 0, .int .i64 0]] := SH.ext hS55 hE75
    refine WL.runk 1 [2, 9, 29, 31, 32] [(2, .pointer (some ⟨b2, 0, none⟩)), (9, .pointer (some ⟨b45, 0, none⟩)), (29, .bool false), (31, .string (bs x72)), (32, .string (bs s_0))] (by kernel_rfl) ?_
    refine WL.st (.bool (!(x72 == s_0))) (ST.strne (x := x72) (y := s_0) rfl rfl rfl) rfl rfl rfl ?_
    refine WL.runk 1 [2, 9, 34] [(2, .pointer (some ⟨b2, 0, none⟩)), (9, .pointer (some ⟨b45, 0, none⟩)), (34, .bool (!(x72 == s_0)))] (by kernel_rfl) ?_
    refine WL.nil ?_
    obtain rfl := Option.some.inj hm
    exact WQ.post' ⟨rfl, hb77, hL78, hS79⟩ ⟨rfl, rfl, rfl, trivial⟩
  clear hx70
  rintro _ w80 ⟨rfl, hb81, hL82, hS83⟩
  refine WQ.then_normal (hK59 _ _ _ ?_)
  refine WP.cond x69 rfl rfl (fun hc84 => ?_) (fun hc84 => ?_)
  · have hm := iteT hm hc84
    refine WP.seq (fun K85 hK85 => ?_)
    refine WP.region ?_
    refine WL.runk 1 [2, 35] [(2, .pointer (some ⟨b2, 0, none⟩)), (35, .agg #[.int .i64 0, .int .i64 0])] (by kernel_rfl) ?_
    refine WL.boxStore 0 [.int .i64 0, .int .i64 0] [.int .i64 0, .int .i64 0] (SH.front 1 hS83) hL82 rfl rfl rfl rfl rfl rfl rfl (info25).1 (info25).2.1 rfl rfl rfl ?_
    intro w86 hB87 hS88
    have hb89 : Ext w w86 := Below.trans hb81 hB87
    have hL90 : w.heap.size ≤ w86.heap.size := Nat.le_trans hL82 hB87.size
    refine WL.runk 1 [2, 3] [(2, .pointer (some ⟨b2, 0, none⟩)), (3, .bool false)] (by kernel_rfl) ?_
    refine WL.nil ?_
    refine WQ.then_normal (hK85 _ _ _ ?_)
    refine WP.ret ?_
    refine WQ.then_ret ?_
    obtain rfl := Option.some.inj hm
    exact WQ.retv2 _ _ rfl (RVal.box (SH.front 0 hS88) rfl Tryd.underlying25 rfl (info25).1 (info25).2.1) (RVal.tmp rfl) ⟨rfl, hb89⟩
  have hm := iteF hm hc84
  refine WP.skip ?_
  refine WQ.then_normal (hK58 _ _ _ ?_)
  refine WP.seq (fun K91 hK91 => ?_)
  refine WP.region ?_
  refine WL.st (.agg #[.int .i64 x37, .int .i64 x28.1]) (ST.loadAgg (vs := [.int .i64 x37, .int .i64 x28.1]) (fun j v hv => SH.boxPart (us := [.int .i64 x37, .int .i64 x28.1]) (SH.front 0 hS83) 0 rfl j v hv) rfl rfl rfl Tryd.underlying25 rfl (info25).1 (info25).2.1) rfl rfl rfl ?_
  refine WL.boxStore 0 [.int .i64 x37, .int .i64 x28.1] [.int .i64 x37, .int .i64 x28.1] (SH.front 1 hS83) hL82 rfl rfl rfl rfl rfl rfl rfl (info25).1 (info25).2.1 rfl rfl rfl ?_
  intro w92 hB93 hS94
  have hb95 : Ext w w92 := Below.trans hb81 hB93
  have hL96 : w.heap.size ≤ w92.heap.size := Nat.le_trans hL82 hB93.size
  refine WL.runk 1 [2, 3] [(2, .pointer (some ⟨b2, 0, none⟩)), (3, .bool true)] (by kernel_rfl) ?_
  refine WL.nil ?_
  refine WQ.then_normal (hK91 _ _ _ ?_)
  refine WP.ret ?_
  obtain rfl := Option.some.inj hm
  exact WQ.retv2 _ _ rfl (RVal.box (SH.front 0 hS94) rfl Tryd.underlying25 rfl (info25).1 (info25).2.1) (RVal.tmp rfl) ⟨rfl, hb95⟩

theorem c_12 (n : Nat) (code_0 : List Int) (a0' : Option Addr) (c0' : Nat) (more_1 : List Int) (a1' : Option Addr) (c1' : Nat) (w : World) {r : Bool} (hm : m_laws_a2Long n code_0 more_1 = some r) (_h0 : Rd fU8.ty w a0' code_0) (_hle0 : code_0.length ≤ c0') (_h1 : Rd fU8.ty w a1' more_1) (_hle1 : more_1.length ≤ c1') :
    CallV Tryd.prog 12 #[.slice a0' code_0.length c0', .slice a1' more_1.length c1'] w (fun v w' => v = .bool r ∧ Ext w w') := by
  unfold m_laws_a2Long at hm
  refine CallV.enter Tryd.func12 rfl (by kernel_rfl) Tryd.ntmps12 (env := [(0, .slice a0' code_0.length c0'), (1, .slice a1' more_1.length c1')]) ⟨rfl, rfl, trivial⟩ ?_
  refine WP.seq (fun K1 hK1 => ?_)
  refine WP.region ?_
  refine WL.runk 1 [0, 1] [(0, .slice a0' code_0.length c0'), (1, .slice a1' more_1.length c1')] (by kernel_rfl) ?_
  refine WL.nil ?_
  refine WQ.then_normal (hK1 _ _ _ ?_)
  refine WP.seq (fun K2 hK2 => ?_)
  obtain ⟨x4, hx5, hm⟩ := bindE hm
  refine WP.cut (fun env' w' => env' = [(4, .bool x4)] ∧ Ext w w' ∧ w.heap.size ≤ w'.heap.size ∧ SH w' w.heap.size []) ?_ ?_
  rotate_left
  · clear hx5
    rintro _ w7 ⟨rfl, hb8, hL9, hS10⟩
    refine WQ.then_normal (hK2 _ _ _ ?_)
    refine WP.ret ?_
    obtain rfl := Option.some.inj hm
    exact WQ.ret1 _ rfl rfl ⟨rfl, hb8⟩
  have hm := hx5; clear hx5
  refine WP.region ?_
  refine WL.runk 4 [1, 8] [(1, .slice a1' more_1.length c1'), (8, .bool (decide ((code_0.length : Int) > 3000)))] (by kernel_rfl) ?_
  refine WL.case (decide ((code_0.length : Int) > 3000)) [8] ⟨rfl, trivial⟩ (fun hc6 => ?_) (fun hc6 => ?_)
  · have hm := iteT hm hc6
    refine WL.runk 5 [4] [(4, .bool true)] (by kernel_rfl) ?_
    refine WL.nil ?_
    obtain rfl := Option.some.inj hm
    exact WQ.post' ⟨rfl, (Ext.refl w), (Nat.le_refl _), (SH.nil _ _)⟩ ⟨rfl, trivial⟩
  have hm := iteF hm hc6
  refine WL.runk 5 [4] [(4, .bool (decide ((more_1.length : Int) > 3000)))] (by kernel_rfl) ?_
  refine WL.nil ?_
  obtain rfl := Option.some.inj hm
  exact WQ.post' ⟨rfl, (Ext.refl w), (Nat.le_refl _), (SH.nil _ _)⟩ ⟨rfl, trivial⟩

theorem c_32 (n : Nat) (code_0 : List Int) (a0' : Option Addr) (c0' : Nat) (w : World) {r : (Int × Int)} (hm : m_spec_l00From n code_0 = some r) (_h0 : Rd fU8.ty w a0' code_0) (_hle0 : code_0.length ≤ c0') :
    CallV Tryd.prog 32 #[.slice a0' code_0.length c0'] w (fun v w' => ∃ (rb0 : Nat), v = .pointer (some ⟨rb0, 0, none⟩) ∧ Ext w w' ∧ SH w' w.heap.size [aBox 83 rb0 [.slice a0' code_0.length c0', .int .i64 r.1, .int .u64 r.2]]) := by
  unfold m_spec_l00From at hm
  refine CallV.enter Tryd.func32 rfl (by kernel_rfl) Tryd.ntmps32 (env := [(0, .slice a0' code_0.length c0')]) ⟨rfl, trivial⟩ ?_
  refine WP.seq (fun K1 hK1 => ?_)
  refine WP.region ?_
  refine WL.runk 1 [0] [(0, .slice a0' code_0.length c0')] (by kernel_rfl) ?_
  refine WL.nil ?_
  refine WQ.then_normal (hK1 _ _ _ ?_)
  refine WP.seq (fun K2 hK2 => ?_)
  refine WP.region ?_
  refine WL.runk 2 [4] [(4, .agg #[.slice a0' code_0.length c0', .int .i64 0, .int .u64 0])] (by kernel_rfl) ?_
  refine WL.box 83 [.slice a0' code_0.length c0', .int .i64 0, .int .u64 0] 5 (by kernel_rfl) rfl rfl rfl rfl ?_
  intro b3 w4 hE5 hR6
  have hb8 : Ext w w4 := Ext.trans (Ext.refl w) hE5
  have hL9 : w.heap.size ≤ w4.heap.size := Nat.le_trans (Nat.le_refl _) hE5.size
  have hS10 : SH w4 w.heap.size [aBox 83 b3 [.slice a0' code_0.length c0', .int .i64 0, .int .u64 0]] := SH.add (SH.nil _ _) hE5 (Nat.le_refl _) hR6
  refine WL.runk 1 [2] [(2, .pointer (some ⟨b3, 0, none⟩))] (by kernel_rfl) ?_
  refine WL.nil ?_
  refine WQ.then_normal (hK2 _ _ _ ?_)
  refine WP.ret ?_
  obtain rfl := Option.some.inj hm
  exact WQ.ret1 _ rfl rfl ⟨_, rfl, hb8, hS10⟩

theorem c_52 (n : Nat) (a_0 : Int) (b_1 : Int) (w : World) {r : Int} (hm : m_spec_l00Min n a_0 b_1 = some r)  :
    CallV Tryd.prog 52 #[.int .i64 a_0, .int .i64 b_1] w (fun v w' => v = .int .i64 r ∧ Ext w w') := by
  unfold m_spec_l00Min at hm
  refine CallV.enter Tryd.func52 rfl (by kernel_rfl) Tryd.ntmps52 (env := [(0, .int .i64 a_0), (1, .int .i64 b_1)]) ⟨rfl, rfl, trivial⟩ ?_
  refine WP.seq (fun K1 hK1 => ?_)
  refine WP.region ?_
  refine WL.runk 1 [0, 1] [(0, .int .i64 a_0), (1, .int .i64 b_1)] (by kernel_rfl) ?_
  refine WL.nil ?_
  refine WQ.then_normal (hK1 _ _ _ ?_)
  refine WP.seq (fun K2 hK2 => ?_)
  refine WP.seq (fun K3 hK3 => ?_)
  refine WP.region ?_
  refine WL.runk 3 [0, 1, 7] [(0, .int .i64 a_0), (1, .int .i64 b_1), (7, .bool (decide (a_0 < b_1)))] (by kernel_rfl) ?_
  refine WL.nil ?_
  refine WQ.then_normal (hK3 _ _ _ ?_)
  refine WP.cond (decide (a_0 < b_1)) rfl rfl (fun hc4 => ?_) (fun hc4 => ?_)
  · have hm := iteT hm hc4
    refine WP.seq (fun K5 hK5 => ?_)
    refine WP.region ?_
    refine WL.runk 2 [4] [(4, .int .i64 a_0)] (by kernel_rfl) ?_
    refine WL.nil ?_
    refine WQ.then_normal (hK5 _ _ _ ?_)
    refine WP.ret ?_
    refine WQ.then_ret ?_
    obtain rfl := Option.some.inj hm
    exact WQ.ret1 _ rfl rfl ⟨rfl, (Ext.refl w)⟩
  have hm := iteF hm hc4
  refine WP.skip ?_
  refine WQ.then_normal (hK2 _ _ _ ?_)
  refine WP.seq (fun K6 hK6 => ?_)
  refine WP.region ?_
  refine WL.runk 2 [4] [(4, .int .i64 b_1)] (by kernel_rfl) ?_
  refine WL.nil ?_
  refine WQ.then_normal (hK6 _ _ _ ?_)
  refine WP.ret ?_
  obtain rfl := Option.some.inj hm
  exact WQ.ret1 _ rfl rfl ⟨rfl, (Ext.refl w)⟩

theorem c_67 (n : Nat) (s_0_code : List Int) (a0_code' : Option Addr) (c0_code' : Nat) (s_0_at_ : Int) (s_0_seed : Int) (b0' : Nat) (w : World) (w0 : World) (B : Nat) (L : List Asrt) {r : Int × Int × Int} (hm : m_spec_l00Src_next n s_0_code s_0_at_ s_0_seed = some r) (hE0 : Ext w0 w) (hW : w0.heap.size ≤ B) (hL : B ≤ w.heap.size) (h0_code : Rd fU8.ty w0 a0_code' s_0_code) (_hle0_code : s_0_code.length ≤ c0_code') (hS : SH w B (aBox 83 b0' [.slice a0_code' s_0_code.length c0_code', .int .i64 s_0_at_, .int .u64 s_0_seed] :: L)) :
    CallV Tryd.prog 67 #[.pointer (some ⟨b0', 0, none⟩)] w (fun v w' => v = .int .i64 r.1 ∧ Below B w w' ∧ SH w' B (aBox 83 b0' [.slice a0_code' s_0_code.length c0_code', .int .i64 r.2.1, .int .u64 r.2.2] :: L)) := by
  unfold m_spec_l00Src_next at hm
  refine CallV.enter Tryd.func67 rfl (by kernel_rfl) Tryd.ntmps67 (env := [(0, .pointer (some ⟨b0', 0, none⟩))]) ⟨rfl, trivial⟩ ?_
  refine WP.seq (fun K1 hK1 => ?_)
  refine WP.region ?_
  refine WL.runk 1 [0] [(0, .pointer (some ⟨b0', 0, none⟩))] (by kernel_rfl) ?_
  refine WL.nil ?_
  refine WQ.then_normal (hK1 _ _ _ ?_)
  refine WP.seq (fun K2 hK2 => ?_)
  refine WP.region ?_
  refine WL.runk 1 [0, 3] [(0, .pointer (some ⟨b0', 0, none⟩)), (3, .int .i64 0)] (by kernel_rfl) ?_
  refine WL.nil ?_
  refine WQ.then_normal (hK2 _ _ _ ?_)
  refine WP.seq (fun K3 hK3 => ?_)
  refine WP.seq (fun K4 hK4 => ?_)
  refine WP.quiet (by kernel_rfl) (by kernel_rfl) ?_
  refine QL.step1v 4 (.pointer (some ⟨b0', 0, none⟩)) rfl (fun _ => by kernel_rfl) ?_
  refine QL.step1v 5 (.pointer (some ⟨b0', 0, none⟩)) rfl (fun _ => by kernel_rfl) ?_
  refine QL.step1v 6 (.pointer (some ⟨b0', 1, none⟩)) rfl (fun _ => by kernel_rfl) ?_
  refine QL.subk [0, 3, 6] [(0, .pointer (some ⟨b0', 0, none⟩)), (3, .int .i64 0), (6, .pointer (some ⟨b0', 1, none⟩))] (by kernel_rfl) ?_
  refine QL.st (.int .i64 s_0_at_) (ST.load (cell_ext (SH.boxAt (SH.front 0 hS) 1 _ rfl)) rfl rfl Tryd.underlying3 rfl) rfl rfl rfl ?_
  refine QL.step1v 8 (.pointer (some ⟨b0', 0, none⟩)) rfl (fun _ => by kernel_rfl) ?_
  refine QL.step1v 9 (.pointer (some ⟨b0', 0, none⟩)) rfl (fun _ => by kernel_rfl) ?_
  refine QL.step1v 10 (.pointer (some ⟨b0', 0, none⟩)) rfl (fun _ => by kernel_rfl) ?_
  refine QL.subk [0, 3, 7, 10] [(0, .pointer (some ⟨b0', 0, none⟩)), (3, .int .i64 0), (7, .int .i64 s_0_at_), (10, .pointer (some ⟨b0', 0, none⟩))] (by kernel_rfl) ?_
  refine QL.st (.slice a0_code' s_0_code.length c0_code') (ST.load (cell_ext (SH.boxAt (SH.front 0 hS) 0 _ rfl)) rfl rfl Tryd.underlying32 rfl) rfl rfl rfl ?_
  refine QL.step1v 12 (.int .i64 (s_0_code.length : Int)) rfl (fun _ => by kernel_rfl) ?_
  refine QL.step1v 13 (.bool (decide (s_0_at_ < (s_0_code.length : Int)))) rfl (fun _ => by kernel_rfl) ?_
  refine QL.subk [0, 3, 13] [(0, .pointer (some ⟨b0', 0, none⟩)), (3, .int .i64 0), (13, .bool (decide (s_0_at_ < (s_0_code.length : Int))))] (by kernel_rfl) ?_
  refine QL.nil ?_
  intro w5 hE6
  have hb7 : Below B w w5 := Below.trans (Below.refl _ _) (Below.mono hE6 hL)
  have hL8 : B ≤ w5.heap.size := Nat.le_trans hL hE6.size
  have hS9 : SH w5 B (aBox 83 b0' [.slice a0_code' s_0_code.length c0_code', .int .i64 s_0_at_, .int .u64 s_0_seed] :: L) := SH.ext hS hE6
  refine WQ.then_normal (hK4 _ _ _ ?_)
  obtain ⟨x18, hx19, hm⟩ := bindE hm
  refine WP.cut (fun env' w' => env' = [(0, .pointer (some ⟨b0', 0, none⟩)), (3, .int .i64 x18)] ∧ Below B w w' ∧ B ≤ w'.heap.size ∧ SH w' B (aBox 83 b0' [.slice a0_code' s_0_code.length c0_code', .int .i64 s_0_at_, .int .u64 s_0_seed] :: L)) ?_ ?_
  · have hm := hx19; clear hx19
    refine WP.cond (decide (s_0_at_ < (s_0_code.length : Int))) rfl rfl (fun hc10 => ?_) (fun hc10 => ?_)
    rotate_left
    · have hm := iteF hm hc10
      refine WP.skip ?_
      obtain rfl := Option.some.inj hm
      exact WQ.post' ⟨rfl, hb7, hL8, hS9⟩ ⟨rfl, rfl, trivial⟩
    have hm := iteT hm hc10
    refine WP.quiet (by kernel_rfl) (by kernel_rfl) ?_
    refine QL.step1v 14 (.pointer (some ⟨b0', 0, none⟩)) rfl (fun _ => by kernel_rfl) ?_
    refine QL.step1v 15 (.pointer (some ⟨b0', 0, none⟩)) rfl (fun _ => by kernel_rfl) ?_
    refine QL.step1v 16 (.pointer (some ⟨b0', 0, none⟩)) rfl (fun _ => by kernel_rfl) ?_
    refine QL.subk [0, 16] [(0, .pointer (some ⟨b0', 0, none⟩)), (16, .pointer (some ⟨b0', 0, none⟩))] (by kernel_rfl) ?_
    refine QL.st (.slice a0_code' s_0_code.length c0_code') (ST.load (cell_ext (SH.boxAt (SH.front 0 hS9) 0 _ rfl)) rfl rfl Tryd.underlying32 rfl) rfl rfl rfl ?_
    refine QL.step1v 18 (.pointer (some ⟨b0', 0, none⟩)) rfl (fun _ => by kernel_rfl) ?_
    refine QL.step1v 19 (.pointer (some ⟨b0', 0, none⟩)) rfl (fun _ => by kernel_rfl) ?_
    refine QL.step1v 20 (.pointer (some ⟨b0', 1, none⟩)) rfl (fun _ => by kernel_rfl) ?_
    refine QL.subk [0, 17, 20] [(0, .pointer (some ⟨b0', 0, none⟩)), (17, .slice a0_code' s_0_code.length c0_code'), (20, .pointer (some ⟨b0', 1, none⟩))] (by kernel_rfl) ?_
    refine QL.st (.int .i64 s_0_at_) (ST.load (cell_ext (SH.boxAt (SH.front 0 hS9) 1 _ rfl)) rfl rfl Tryd.underlying3 rfl) rfl rfl rfl ?_
    obtain ⟨x20, hx21, hm⟩ := bindE hm
    refine QL.st (.pointer (some (at_ a0_code' (Int.toNat s_0_at_ * 1)))) (ST.index (T := fU8.ty) (xs := s_0_code) (Rd.below h0_code (Below.trans hE0 (Below.mono hb7 hW))) hx21 rfl rfl rfl Tryd.underlying32 (info5).1 (info5).2.1) rfl rfl rfl ?_
    refine QL.st (.int .u8 x20) (ST.load (cell_ext (Rd.flat (F := fU8) (Rd.below h0_code (Below.trans hE0 (Below.mono hb7 hW))) hx21 0 rfl)) rfl rfl Tryd.underlying5 rfl) rfl rfl rfl ?_
    refine QL.step1v 24 (.int .i64 (wI64 x20)) rfl (fun _ => by kernel_rfl) ?_
    refine QL.step1v 3 (.int .i64 (wI64 x20)) rfl (fun _ => by kernel_rfl) ?_
    refine QL.subk [0, 3] [(0, .pointer (some ⟨b0', 0, none⟩)), (3, .int .i64 (wI64 x20))] (by kernel_rfl) ?_
    refine QL.nil ?_
    intro w22 hE23
    have hb24 : Below B w w22 := Below.trans hb7 (Below.mono hE23 hL8)
    have hL25 : B ≤ w22.heap.size := Nat.le_trans hL8 hE23.size
    have hS26 : SH w22 B (aBox 83 b0' [.slice a0_code' s_0_code.length c0_code', .int .i64 s_0_at_, .int .u64 s_0_seed] :: L) := SH.ext hS9 hE23
    obtain rfl := Option.some.inj hm
    exact WQ.post' ⟨rfl, hb24, hL25, hS26⟩ ⟨rfl, rfl, trivial⟩
  clear hx19
  rintro _ w27 ⟨rfl, hb28, hL29, hS30⟩
  refine WQ.then_normal (hK3 _ _ _ ?_)
  refine WP.seq (fun K31 hK31 => ?_)
  refine WP.region ?_
  refine WL.runk 3 [0, 3, 25, 27] [(0, .pointer (some ⟨b0', 0, none⟩)), (3, .int .i64 x18), (25, .pointer (some ⟨b0', 0, none⟩)), (27, .pointer (some ⟨b0', 1, none⟩))] (by kernel_rfl) ?_
  refine WL.st (.int .i64 s_0_at_) (ST.load (cell_ext (SH.boxAt (SH.front 0 hS30) 1 _ rfl)) rfl rfl Tryd.underlying3 rfl) rfl rfl rfl ?_
  refine WL.runk 3 [0, 3, 29, 31] [(0, .pointer (some ⟨b0', 0, none⟩)), (3, .int .i64 x18), (29, .int .i64 (wI64 (s_0_at_ + 1))), (31, .pointer (some ⟨b0', 1, none⟩))] (by kernel_rfl) ?_
  refine WL.boxStore 1 [.int .i64 (wI64 (s_0_at_ + 1))] [.slice a0_code' s_0_code.length c0_code', .int .i64 (wI64 (s_0_at_ + 1)), .int .u64 s_0_seed] (SH.front 0 hS30) hL29 rfl rfl rfl rfl rfl rfl rfl (info3).1 (info3).2.1 rfl rfl rfl ?_
  intro w32 hB33 hS34
  have hb35 : Below B w w32 := Below.trans hb28 hB33
  have hL36 : B ≤ w32.heap.size := Nat.le_trans hL29 hB33.size
  refine WL.sub [(0, .pointer (some ⟨b0', 0, none⟩)), (3, .int .i64 x18)] ⟨rfl, rfl, trivial⟩ ?_
  refine WL.nil ?_
  refine WQ.then_normal (hK31 _ _ _ ?_)
  refine WP.seq (fun K37 hK37 => ?_)
  refine WP.region ?_
  refine WL.runk 4 [0, 3, 32, 35] [(0, .pointer (some ⟨b0', 0, none⟩)), (3, .int .i64 x18), (32, .pointer (some ⟨b0', 0, none⟩)), (35, .pointer (some ⟨b0', 2, none⟩))] (by kernel_rfl) ?_
  refine WL.st (.int .u64 s_0_seed) (ST.load (cell_ext (SH.boxAt (SH.front 0 hS34) 2 _ rfl)) rfl rfl Tryd.underlying81 rfl) rfl rfl rfl ?_
  refine WL.runk 7 [0, 3, 41, 43] [(0, .pointer (some ⟨b0', 0, none⟩)), (3, .int .i64 x18), (41, .int .u64 (IntKind.u64.wrap ((IntKind.u64.wrap ((IntKind.u64.wrap (s_0_seed * 6364136223846793005)) + (IntKind.u64.wrap x18))) + 1442695040888963407))), (43, .pointer (some ⟨b0', 2, none⟩))] (by kernel_rfl) ?_
  refine WL.boxStore 2 [.int .u64 (IntKind.u64.wrap ((IntKind.u64.wrap ((IntKind.u64.wrap (s_0_seed * 6364136223846793005)) + (IntKind.u64.wrap x18))) + 1442695040888963407))] [.slice a0_code' s_0_code.length c0_code', .int .i64 (wI64 (s_0_at_ + 1)), .int .u64 (IntKind.u64.wrap ((IntKind.u64.wrap ((IntKind.u64.wrap (s_0_seed * 6364136223846793005)) + (IntKind.u64.wrap x18))) + 1442695040888963407))] (SH.front 0 hS34) hL36 rfl rfl rfl rfl rfl rfl rfl (info81).1 (info81).2.1 rfl rfl rfl ?_
  intro w38 hB39 hS40
  have hb41 : Below B w w38 := Below.trans hb35 hB39
  have hL42 : B ≤ w38.heap.size := Nat.le_trans hL36 hB39.size
  refine WL.sub [(0, .pointer (some ⟨b0', 0, none⟩)), (3, .int .i64 x18)] ⟨rfl, rfl, trivial⟩ ?_
  refine WL.nil ?_
  refine WQ.then_normal (hK37 _ _ _ ?_)
  refine WP.seq (fun K43 hK43 => ?_)
  refine WP.seq (fun K44 hK44 => ?_)
  refine WP.quiet (by kernel_rfl) (by kernel_rfl) ?_
  refine QL.step1v 44 (.pointer (some ⟨b0', 0, none⟩)) rfl (fun _ => by kernel_rfl) ?_
  refine QL.step1v 45 (.pointer (some ⟨b0', 0, none⟩)) rfl (fun _ => by kernel_rfl) ?_
  refine QL.step1v 46 (.pointer (some ⟨b0', 1, none⟩)) rfl (fun _ => by kernel_rfl) ?_
  refine QL.subk [0, 3, 46] [(0, .pointer (some ⟨b0', 0, none⟩)), (3, .int .i64 x18), (46, .pointer (some ⟨b0', 1, none⟩))] (by kernel_rfl) ?_
  refine QL.st (.int .i64 (wI64 (s_0_at_ + 1))) (ST.load (cell_ext (SH.boxAt (SH.front 0 hS40) 1 _ rfl)) rfl rfl Tryd.underlying3 rfl) rfl rfl rfl ?_
  refine QL.step1v 48 (.pointer (some ⟨b0', 0, none⟩)) rfl (fun _ => by kernel_rfl) ?_
  refine QL.step1v 49 (.pointer (some ⟨b0', 0, none⟩)) rfl (fun _ => by kernel_rfl) ?_
  refine QL.step1v 50 (.pointer (some ⟨b0', 0, none⟩)) rfl (fun _ => by kernel_rfl) ?_
  refine QL.subk [0, 3, 47, 50] [(0, .pointer (some ⟨b0', 0, none⟩)), (3, .int .i64 x18), (47, .int .i64 (wI64 (s_0_at_ + 1))), (50, .pointer (some ⟨b0', 0, none⟩))] (by kernel_rfl) ?_
  refine QL.st (.slice a0_code' s_0_code.length c0_code') (ST.load (cell_ext (SH.boxAt (SH.front 0 hS40) 0 _ rfl)) rfl rfl Tryd.underlying32 rfl) rfl rfl rfl ?_
  refine QL.step1v 52 (.int .i64 (s_0_code.length : Int)) rfl (fun _ => by kernel_rfl) ?_
  refine QL.step1v 53 (.bool (decide ((wI64 (s_0_at_ + 1)) ≤ (s_0_code.length : Int)))) rfl (fun _ => by kernel_rfl) ?_
  refine QL.subk [0, 3, 53] [(0, .pointer (some ⟨b0', 0, none⟩)), (3, .int .i64 x18), (53, .bool (decide ((wI64 (s_0_at_ + 1)) ≤ (s_0_code.length : Int))))] (by kernel_rfl) ?_
  refine QL.nil ?_
  intro w45 hE46
  have hb47 : Below B w w45 := Below.trans hb41 (Below.mono hE46 hL42)
  have hL48 : B ≤ w45.heap.size := Nat.le_trans hL42 hE46.size
  have hS49 : SH w45 B (aBox 83 b0' [.slice a0_code' s_0_code.length c0_code', .int .i64 (wI64 (s_0_at_ + 1)), .int .u64 (IntKind.u64.wrap ((IntKind.u64.wrap ((IntKind.u64.wrap (s_0_seed * 6364136223846793005)) + (IntKind.u64.wrap x18))) + 1442695040888963407))] :: L) := SH.ext hS40 hE46
  refine WQ.then_normal (hK44 _ _ _ ?_)
  refine WP.cond (decide ((wI64 (s_0_at_ + 1)) ≤ (s_0_code.length : Int))) rfl rfl (fun hc50 => ?_) (fun hc50 => ?_)
  · have hm := iteT hm hc50
    refine WP.seq (fun K51 hK51 => ?_)
    refine WP.region ?_
    refine WL.runk 2 [2] [(2, .int .i64 x18)] (by kernel_rfl) ?_
    refine WL.nil ?_
    refine WQ.then_normal (hK51 _ _ _ ?_)
    refine WP.ret ?_
    refine WQ.then_ret ?_
    obtain rfl := Option.some.inj hm
    exact WQ.ret1 _ rfl rfl ⟨rfl, hb47, hS49⟩
  have hm := iteF hm hc50
  refine WP.skip ?_
  refine WQ.then_normal (hK43 _ _ _ ?_)
  refine WP.seq (fun K52 hK52 => ?_)
  refine WP.region ?_
  refine WL.runk 3 [57] [(57, .pointer (some ⟨b0', 2, none⟩))] (by kernel_rfl) ?_
  refine WL.st (.int .u64 (IntKind.u64.wrap ((IntKind.u64.wrap ((IntKind.u64.wrap (s_0_seed * 6364136223846793005)) + (IntKind.u64.wrap x18))) + 1442695040888963407))) (ST.load (cell_ext (SH.boxAt (SH.front 0 hS49) 2 _ rfl)) rfl rfl Tryd.underlying81 rfl) rfl rfl rfl ?_
  obtain ⟨x53, hx54, hm⟩ := bindE hm
  refine WL.st (.int .u64 x53) (ST.shr (k := .u64) hx54 rfl rfl rfl) rfl rfl rfl ?_
  refine WL.runk 3 [2] [(2, .int .i64 (wI64 (iand .u64 x53 255)))] (by kernel_rfl) ?_
  refine WL.nil ?_
  refine WQ.then_normal (hK52 _ _ _ ?_)
  refine WP.ret ?_
  obtain rfl := Option.some.inj hm
  exact WQ.ret1 _ rfl rfl ⟨rfl, hb47, hS49⟩

theorem c_53 (n : Nat) (s_0_code : List Int) (a0_code' : Option Addr) (c0_code' : Nat) (s_0_at_ : Int) (s_0_seed : Int) (b0' : Nat) (n_1 : Int) (w : World) (w0 : World) (B : Nat) (L : List Asrt) {r : Int × Int × Int} (hm : m_spec_l00Src_pick n s_0_code s_0_at_ s_0_seed n_1 = some r) (hE0 : Ext w0 w) (hW : w0.heap.size ≤ B) (hL : B ≤ w.heap.size) (h0_code : Rd fU8.ty w0 a0_code' s_0_code) (hle0_code : s_0_code.length ≤ c0_code') (hS : SH w B (aBox 83 b0' [.slice a0_code' s_0_code.length c0_code', .int .i64 s_0_at_, .int .u64 s_0_seed] :: L)) :
    CallV Tryd.prog 53 #[.pointer (some ⟨b0', 0, none⟩), .int .i64 n_1] w (fun v w' => v = .int .i64 r.1 ∧ Below B w w' ∧ SH w' B (aBox 83 b0' [.slice a0_code' s_0_code.length c0_code', .int .i64 r.2.1, .int .u64 r.2.2] :: L)) := by
  unfold m_spec_l00Src_pick at hm
  refine CallV.enter Tryd.func53 rfl (by kernel_rfl) Tryd.ntmps53 (env := [(0, .pointer (some ⟨b0', 0, none⟩)), (1, .int .i64 n_1)]) ⟨rfl, rfl, trivial⟩ ?_
  refine WP.seq (fun K1 hK1 => ?_)
  refine WP.region ?_
  refine WL.runk 1 [0, 1] [(0, .pointer (some ⟨b0', 0, none⟩)), (1, .int .i64 n_1)] (by kernel_rfl) ?_
  refine WL.nil ?_
  refine WQ.then_normal (hK1 _ _ _ ?_)
  refine WP.seq (fun K2 hK2 => ?_)
  refine WP.seq (fun K3 hK3 => ?_)
  refine WP.region ?_
  refine WL.runk 2 [0, 1, 7] [(0, .pointer (some ⟨b0', 0, none⟩)), (1, .int .i64 n_1), (7, .bool (decide (n_1 ≤ 1)))] (by kernel_rfl) ?_
  refine WL.nil ?_
  refine WQ.then_normal (hK3 _ _ _ ?_)
  refine WP.cond (decide (n_1 ≤ 1)) rfl rfl (fun hc4 => ?_) (fun hc4 => ?_)
  · have hm := iteT hm hc4
    refine WP.seq (fun K5 hK5 => ?_)
    refine WP.region ?_
    refine WL.runk 1 [4] [(4, .int .i64 0)] (by kernel_rfl) ?_
    refine WL.nil ?_
    refine WQ.then_normal (hK5 _ _ _ ?_)
    refine WP.ret ?_
    refine WQ.then_ret ?_
    obtain rfl := Option.some.inj hm
    exact WQ.ret1 _ rfl rfl ⟨rfl, (Below.refl _ _), hS⟩
  have hm := iteF hm hc4
  refine WP.skip ?_
  refine WQ.then_normal (hK2 _ _ _ ?_)
  refine WP.seq (fun K6 hK6 => ?_)
  refine WP.region ?_
  refine WL.runk 1 [0, 1, 8] [(0, .pointer (some ⟨b0', 0, none⟩)), (1, .int .i64 n_1), (8, .pointer (some ⟨b0', 0, none⟩))] (by kernel_rfl) ?_
  obtain ⟨x7, hx8, hm⟩ := bindE hm
  refine WL.call 67 #[.pointer (some ⟨b0', 0, none⟩)] rfl rfl (by kernel_rfl) (c_67 n s_0_code a0_code' c0_code' s_0_at_ s_0_seed b0' w w0 B (L) hx8 (Below.trans hE0 (Below.mono (Below.refl _ _) hW)) hW hL h0_code hle0_code hS) ?_
  rintro _ w9 ⟨rfl, hB13, hS12⟩
  refine ⟨_, rfl, ?_⟩
  have hb14 : Below B w w9 := Below.trans (Below.refl _ _) hB13
  have hL15 : B ≤ w9.heap.size := Nat.le_trans hL hB13.size
  refine WL.runk 1 [0, 1, 5] [(0, .pointer (some ⟨b0', 0, none⟩)), (1, .int .i64 n_1), (5, .int .i64 x7.1)] (by kernel_rfl) ?_
  refine WL.nil ?_
  refine WQ.then_normal (hK6 _ _ _ ?_)
  refine WP.seq (fun K16 hK16 => ?_)
  refine WP.seq (fun K17 hK17 => ?_)
  refine WP.region ?_
  refine WL.runk 2 [0, 1, 5, 11] [(0, .pointer (some ⟨b0', 0, none⟩)), (1, .int .i64 n_1), (5, .int .i64 x7.1), (11, .bool (decide (n_1 > 200)))] (by kernel_rfl) ?_
  refine WL.nil ?_
  refine WQ.then_normal (hK17 _ _ _ ?_)
  obtain ⟨x48, hx49, hm⟩ := bindE hm
  refine WP.cut (fun env' w' => env' = [(1, .int .i64 n_1), (5, .int .i64 x48.1)] ∧ Below B w w' ∧ B ≤ w'.heap.size ∧ SH w' B (aBox 83 b0' [.slice a0_code' s_0_code.length c0_code', .int .i64 x48.2.1, .int .u64 x48.2.2] :: L)) ?_ ?_
  rotate_left
  · clear hx49
    rintro _ w59 ⟨rfl, hb60, hL61, hS62⟩
    refine WQ.then_normal (hK16 _ _ _ ?_)
    refine WP.seq (fun K63 hK63 => ?_)
    refine WP.region ?_
    refine WL.runk 2 [17, 18] [(17, .int .i64 x48.1), (18, .int .i64 n_1)] (by kernel_rfl) ?_
    obtain ⟨x64, hx65, hm⟩ := bindE hm
    refine WL.st (.int .i64 x64) (ST.rem (k := .i64) hx65 rfl rfl rfl) rfl rfl rfl ?_
    refine WL.runk 1 [4] [(4, .int .i64 x64)] (by kernel_rfl) ?_
    refine WL.nil ?_
    refine WQ.then_normal (hK63 _ _ _ ?_)
    refine WP.ret ?_
    obtain rfl := Option.some.inj hm
    exact WQ.ret1 _ rfl rfl ⟨rfl, hb60, hS62⟩
  have hm := hx49; clear hx49
  refine WP.cond (decide (n_1 > 200)) rfl rfl (fun hc18 => ?_) (fun hc18 => ?_)
  rotate_left
  · have hm := iteF hm hc18
    refine WP.skip ?_
    obtain rfl := Option.some.inj hm
    exact WQ.post' ⟨rfl, hb14, hL15, hS12⟩ ⟨rfl, rfl, trivial⟩
  have hm := iteT hm hc18
  refine WP.region ?_
  refine WL.runk 3 [1, 13, 14] [(1, .int .i64 n_1), (13, .int .i64 (wI64 (x7.1 * 256))), (14, .pointer (some ⟨b0', 0, none⟩))] (by kernel_rfl) ?_
  obtain ⟨x50, hx51, hm⟩ := bindE hm
  refine WL.call 67 #[.pointer (some ⟨b0', 0, none⟩)] rfl rfl (by kernel_rfl) (c_67 n s_0_code a0_code' c0_code' x7.2.1 x7.2.2 b0' w9 w0 B (L) hx51 (Below.trans hE0 (Below.mono hb14 hW)) hW hL15 h0_code hle0_code hS12) ?_
  rintro _ w52 ⟨rfl, hB56, hS55⟩
  refine ⟨_, rfl, ?_⟩
  have hb57 : Below B w w52 := Below.trans hb14 hB56
  have hL58 : B ≤ w52.heap.size := Nat.le_trans hL15 hB56.size
  refine WL.runk 2 [1, 5] [(1, .int .i64 n_1), (5, .int .i64 (wI64 ((wI64 (x7.1 * 256)) + x50.1)))] (by kernel_rfl) ?_
  refine WL.nil ?_
  obtain rfl := Option.some.inj hm
  exact WQ.post' ⟨rfl, hb57, hL58, hS55⟩ ⟨rfl, rfl, trivial⟩

theorem c_54 (n : Nat) (a_0 : Int) (b_1 : Int) (w : World) {r : Int} (hm : m_spec_l00Max n a_0 b_1 = some r)  :
    CallV Tryd.prog 54 #[.int .i64 a_0, .int .i64 b_1] w (fun v w' => v = .int .i64 r ∧ Ext w w') := by
  unfold m_spec_l00Max at hm
  refine CallV.enter Tryd.func54 rfl (by kernel_rfl) Tryd.ntmps54 (env := [(0, .int .i64 a_0), (1, .int .i64 b_1)]) ⟨rfl, rfl, trivial⟩ ?_
  refine WP.seq (fun K1 hK1 => ?_)
  refine WP.region ?_
  refine WL.runk 1 [0, 1] [(0, .int .i64 a_0), (1, .int .i64 b_1)] (by kernel_rfl) ?_
  refine WL.nil ?_
  refine WQ.then_normal (hK1 _ _ _ ?_)
  refine WP.seq (fun K2 hK2 => ?_)
  refine WP.seq (fun K3 hK3 => ?_)
  refine WP.region ?_
  refine WL.runk 3 [0, 1, 7] [(0, .int .i64 a_0), (1, .int .i64 b_1), (7, .bool (decide (a_0 > b_1)))] (by kernel_rfl) ?_
  refine WL.nil ?_
  refine WQ.then_normal (hK3 _ _ _ ?_)
  refine WP.cond (decide (a_0 > b_1)) rfl rfl (fun hc4 => ?_) (fun hc4 => ?_)
  · have hm := iteT hm hc4
    refine WP.seq (fun K5 hK5 => ?_)
    refine WP.region ?_
    refine WL.runk 2 [4] [(4, .int .i64 a_0)] (by kernel_rfl) ?_
    refine WL.nil ?_
    refine WQ.then_normal (hK5 _ _ _ ?_)
    refine WP.ret ?_
    refine WQ.then_ret ?_
    obtain rfl := Option.some.inj hm
    exact WQ.ret1 _ rfl rfl ⟨rfl, (Ext.refl w)⟩
  have hm := iteF hm hc4
  refine WP.skip ?_
  refine WQ.then_normal (hK2 _ _ _ ?_)
  refine WP.seq (fun K6 hK6 => ?_)
  refine WP.region ?_
  refine WL.runk 2 [4] [(4, .int .i64 b_1)] (by kernel_rfl) ?_
  refine WL.nil ?_
  refine WQ.then_normal (hK6 _ _ _ ?_)
  refine WP.ret ?_
  obtain rfl := Option.some.inj hm
  exact WQ.ret1 _ rfl rfl ⟨rfl, (Ext.refl w)⟩

theorem c_33 (n : Nat) (s_0_code : List Int) (a0_code' : Option Addr) (c0_code' : Nat) (s_0_at_ : Int) (s_0_seed : Int) (b0' : Nat) (name_1 : List UInt8) (f_2 : SFoot) (w : World) (w0 : World) (B : Nat) (L : List Asrt) {r : SLast × Int × Int} (hm : m_spec_l04New n s_0_code s_0_at_ s_0_seed name_1 f_2 = some r) (hE0 : Ext w0 w) (hW : w0.heap.size ≤ B) (hL : B ≤ w.heap.size) (h0_code : Rd fU8.ty w0 a0_code' s_0_code) (hle0_code : s_0_code.length ≤ c0_code') (hS : SH w B (aBox 83 b0' [.slice a0_code' s_0_code.length c0_code', .int .i64 s_0_at_, .int .u64 s_0_seed] :: L)) :
    CallV Tryd.prog 33 #[.pointer (some ⟨b0', 0, none⟩), .string (bs name_1), .agg #[.int .i64 f_2.Length, .int .i64 f_2.Ball, .int .i64 f_2.Instep, .int .i64 f_2.Heel]] w (fun v w' => v = .agg #[.string (bs r.1.Name), .int .i64 r.1.Length, .int .i64 r.1.Ball, .int .i64 r.1.Instep, .int .i64 r.1.Heel, .int .i64 r.1.Pitch] ∧ Below B w w' ∧ SH w' B (aBox 83 b0' [.slice a0_code' s_0_code.length c0_code', .int .i64 r.2.1, .int .u64 r.2.2] :: L)) := by
  unfold m_spec_l04New at hm
  refine CallV.enter Tryd.func33 rfl (by kernel_rfl) Tryd.ntmps33 (env := [(0, .pointer (some ⟨b0', 0, none⟩)), (1, .string (bs name_1)), (2, .agg #[.int .i64 f_2.Length, .int .i64 f_2.Ball, .int .i64 f_2.Instep, .int .i64 f_2.Heel])]) ⟨rfl, rfl, rfl, trivial⟩ ?_
  refine WP.seq (fun K1 hK1 => ?_)
  refine WP.region ?_
  refine WL.box 62 [.int .i64 f_2.Length, .int .i64 f_2.Ball, .int .i64 f_2.Instep, .int .i64 f_2.Heel] 5 (by kernel_rfl) rfl rfl rfl rfl ?_
  intro b2 w3 hE4 hR5
  have hb7 : Below B w w3 := Below.trans (Below.refl _ _) (Below.mono hE4 hL)
  have hL8 : B ≤ w3.heap.size := Nat.le_trans hL hE4.size
  have hS9 : SH w3 B (aBox 62 b2 [.int .i64 f_2.Length, .int .i64 f_2.Ball, .int .i64 f_2.Instep, .int .i64 f_2.Heel] :: aBox 83 b0' [.slice a0_code' s_0_code.length c0_code', .int .i64 s_0_at_, .int .u64 s_0_seed] :: L) := SH.add hS hE4 hL hR5
  refine WL.box 35 [.string (bs []), .int .i64 0, .int .i64 0, .int .i64 0, .int .i64 0, .int .i64 0] 6 (by kernel_rfl) rfl rfl rfl rfl ?_
  intro b10 w11 hE12 hR13
  have hb15 : Below B w w11 := Below.trans hb7 (Below.mono hE12 hL8)
  have hL16 : B ≤ w11.heap.size := Nat.le_trans hL8 hE12.size
  have hS17 : SH w11 B (aBox 35 b10 [.string (bs []), .int .i64 0, .int .i64 0, .int .i64 0, .int .i64 0, .int .i64 0] :: aBox 62 b2 [.int .i64 f_2.Length, .int .i64 f_2.Ball, .int .i64 f_2.Instep, .int .i64 f_2.Heel] :: aBox 83 b0' [.slice a0_code' s_0_code.length c0_code', .int .i64 s_0_at_, .int .u64 s_0_seed] :: L) := SH.add hS9 hE12 hL8 hR13
  refine WL.sub [(0, .pointer (some ⟨b0', 0, none⟩)), (1, .string (bs name_1)), (5, .pointer (some ⟨b2, 0, none⟩)), (6, .pointer (some ⟨b10, 0, none⟩))] ⟨rfl, rfl, rfl, rfl, trivial⟩ ?_
  refine WL.nil ?_
  refine WQ.then_normal (hK1 _ _ _ ?_)
  refine WP.seq (fun K18 hK18 => ?_)
  refine WP.open (n := 11) (by kernel_rfl) rfl (fun w19 hE20 => ?_)
  have hb21 : Below B w w19 := Below.trans hb15 (Below.mono hE20 hL16)
  have hL22 : B ≤ w19.heap.size := Nat.le_trans hL16 hE20.size
  have hS23 : SH w19 B (aBox 35 b10 [.string (bs []), .int .i64 0, .int .i64 0, .int .i64 0, .int .i64 0, .int .i64 0] :: aBox 62 b2 [.int .i64 f_2.Length, .int .i64 f_2.Ball, .int .i64 f_2.Instep, .int .i64 f_2.Heel] :: aBox 83 b0' [.slice a0_code' s_0_code.length c0_code', .int .i64 s_0_at_, .int .u64 s_0_seed] :: L) := SH.ext hS17 hE20
  obtain ⟨x56, hx57, hm⟩ := bindE hm
  obtain ⟨x83, hx84, hm⟩ := bindE hm
  refine WA.par (R := L) (f' := 1) (D' := [0, 1, 2, 3, 4, 5, 6, 7, 8, 9]) [⟨0, [], fun _ => .string (bs name_1)⟩, ⟨1, [], fun _ => .pointer (some ⟨b2, 0, none⟩)⟩, ⟨2, [], fun _ => .int .i64 f_2.Length⟩, ⟨3, [], fun _ => .pointer (some ⟨b0', 0, none⟩)⟩, ⟨4, [], fun _ => .int .i64 x56.1⟩, ⟨5, [], fun _ => .int .i64 (wI64 (5 * x56.1))⟩, ⟨6, [], fun _ => .int .i64 (wI64 (f_2.Length + (wI64 (5 * x56.1))))⟩, ⟨7, [], fun _ => .int .i64 x83⟩, ⟨8, [], fun _ => .agg #[.string (bs name_1), .int .i64 x83, .int .i64 0, .int .i64 0, .int .i64 0, .int .i64 0]⟩, ⟨9, [9], fun g24 => .pointer (some ⟨(g24 9 0).2, 0, none⟩)⟩] [⟨[aBox 35 b10 [.string (bs []), .int .i64 0, .int .i64 0, .int .i64 0, .int .i64 0, .int .i64 0]], []⟩, ⟨[aBox 62 b2 [.int .i64 f_2.Length, .int .i64 f_2.Ball, .int .i64 f_2.Instep, .int .i64 f_2.Heel]], []⟩, ⟨[aBox 83 b0' [.slice a0_code' s_0_code.length c0_code', .int .i64 s_0_at_, .int .u64 s_0_seed]], [⟨4, [], fun _ => [aBox 83 b0' [.slice a0_code' s_0_code.length c0_code', .int .i64 x56.2.1, .int .u64 x56.2.2]]⟩]⟩, ⟨[], [⟨9, [9], fun g24 => [aBox 35 (g24 9 0).2 [.string (bs []), .int .i64 0, .int .i64 0, .int .i64 0, .int .i64 0, .int .i64 0]]⟩]⟩] rfl rfl hS23 (by kernel_rfl) (by kernel_rfl) ⟨?_, ?_, ?_, ?_, ?_, ?_, ?_, ?_, ?_, ?_, trivial⟩ ?_
  · intro g24 w26 R25 hB27 hS28
    have hS29 : SH w26 B (aBox 35 b10 [.string (bs []), .int .i64 0, .int .i64 0, .int .i64 0, .int .i64 0, .int .i64 0] :: aBox 62 b2 [.int .i64 f_2.Length, .int .i64 f_2.Ball, .int .i64 f_2.Instep, .int .i64 f_2.Heel] :: R25) := memEq hS28 (by kernel_rfl)
    have hb30 : Below B w w26 := Below.trans hb21 hB27
    have hL31 : B ≤ w26.heap.size := Nat.le_trans hL22 hB27.size
    refine WL.subk [1] [(1, .string (bs name_1))] (by kernel_rfl) ?_
    refine WL.runk 1 [8] [(8, .string (bs name_1))] (by kernel_rfl) ?_
    refine WL.nil ?_
    exact QP.intro (fun k => ([] : List (Option Addr × Nat)).getD k (none, 0)) (d := 8) (by kernel_rfl) (by kernel_rfl) (Below.refl _ _) hS29 (by kernel_rfl)
  · intro g24 w32 R25 hB33 hS34
    have hS35 : SH w32 B (aBox 35 b10 [.string (bs []), .int .i64 0, .int .i64 0, .int .i64 0, .int .i64 0, .int .i64 0] :: aBox 62 b2 [.int .i64 f_2.Length, .int .i64 f_2.Ball, .int .i64 f_2.Instep, .int .i64 f_2.Heel] :: R25) := memEq hS34 (by kernel_rfl)
    have hb36 : Below B w w32 := Below.trans hb21 hB33
    have hL37 : B ≤ w32.heap.size := Nat.le_trans hL22 hB33.size
    refine WL.subk [5] [(5, .pointer (some ⟨b2, 0, none⟩))] (by kernel_rfl) ?_
    refine WL.runk 1 [9] [(9, .pointer (some ⟨b2, 0, none⟩))] (by kernel_rfl) ?_
    refine WL.nil ?_
    exact QP.intro (fun k => ([] : List (Option Addr × Nat)).getD k (none, 0)) (d := 9) (by kernel_rfl) (by kernel_rfl) (Below.refl _ _) hS35 (by kernel_rfl)
  · intro g24 w38 R25 hB39 hS40
    have hS41 : SH w38 B (aBox 35 b10 [.string (bs []), .int .i64 0, .int .i64 0, .int .i64 0, .int .i64 0, .int .i64 0] :: aBox 62 b2 [.int .i64 f_2.Length, .int .i64 f_2.Ball, .int .i64 f_2.Instep, .int .i64 f_2.Heel] :: R25) := memEq hS40 (by kernel_rfl)
    have hb42 : Below B w w38 := Below.trans hb21 hB39
    have hL43 : B ≤ w38.heap.size := Nat.le_trans hL22 hB39.size
    refine WL.subk [9] [(9, .pointer (some ⟨b2, 0, none⟩))] (by kernel_rfl) ?_
    refine WL.st (.int .i64 f_2.Length) (ST.load (cell_ext (SH.boxAt (SH.front 1 hS41) 0 _ rfl)) rfl rfl Tryd.underlying2 rfl) rfl rfl rfl ?_
    refine WL.nil ?_
    exact QP.intro (fun k => ([] : List (Option Addr × Nat)).getD k (none, 0)) (d := 10) (by kernel_rfl) (by kernel_rfl) (Below.refl _ _) hS41 (by kernel_rfl)
  · intro g24 w44 R25 hB45 hS46
    have hS47 : SH w44 B (aBox 35 b10 [.string (bs []), .int .i64 0, .int .i64 0, .int .i64 0, .int .i64 0, .int .i64 0] :: aBox 62 b2 [.int .i64 f_2.Length, .int .i64 f_2.Ball, .int .i64 f_2.Instep, .int .i64 f_2.Heel] :: aBox 83 b0' [.slice a0_code' s_0_code.length c0_code', .int .i64 s_0_at_, .int .u64 s_0_seed] :: R25) := memEq hS46 (by kernel_rfl)
    have hb48 : Below B w w44 := Below.trans hb21 hB45
    have hL49 : B ≤ w44.heap.size := Nat.le_trans hL22 hB45.size
    refine WL.subk [0] [(0, .pointer (some ⟨b0', 0, none⟩))] (by kernel_rfl) ?_
    refine WL.runk 1 [11] [(11, .pointer (some ⟨b0', 0, none⟩))] (by kernel_rfl) ?_
    refine WL.nil ?_
    exact QP.intro (fun k => ([] : List (Option Addr × Nat)).getD k (none, 0)) (d := 11) (by kernel_rfl) (by kernel_rfl) (Below.refl _ _) hS47 (by kernel_rfl)
  · intro g24 w50 R25 hB51 hS52
    have hS53 : SH w50 B (aBox 35 b10 [.string (bs []), .int .i64 0, .int .i64 0, .int .i64 0, .int .i64 0, .int .i64 0] :: aBox 62 b2 [.int .i64 f_2.Length, .int .i64 f_2.Ball, .int .i64 f_2.Instep, .int .i64 f_2.Heel] :: aBox 83 b0' [.slice a0_code' s_0_code.length c0_code', .int .i64 s_0_at_, .int .u64 s_0_seed] :: R25) := memEq hS52 (by kernel_rfl)
    have hb54 : Below B w w50 := Below.trans hb21 hB51
    have hL55 : B ≤ w50.heap.size := Nat.le_trans hL22 hB51.size
    refine WL.subk [11] [(11, .pointer (some ⟨b0', 0, none⟩))] (by kernel_rfl) ?_
    refine WL.call 53 #[.pointer (some ⟨b0', 0, none⟩), .int .i64 40] rfl rfl (by kernel_rfl) (c_53 n s_0_code a0_code' c0_code' s_0_at_ s_0_seed b0' 40 w50 w0 B (aBox 35 b10 [.string (bs []), .int .i64 0, .int .i64 0, .int .i64 0, .int .i64 0, .int .i64 0] :: aBox 62 b2 [.int .i64 f_2.Length, .int .i64 f_2.Ball, .int .i64 f_2.Instep, .int .i64 f_2.Heel] :: R25) hx57 (Below.trans hE0 (Below.mono hb54 hW)) hW hL55 h0_code hle0_code (SH.front 2 (SH.front 1 (SH.front 1 hS53)))) ?_
    rintro _ w58 ⟨rfl, hB62, hS61⟩
    refine ⟨_, rfl, ?_⟩
    have hb63 : Below B w w58 := Below.trans hb54 hB62
    have hL64 : B ≤ w58.heap.size := Nat.le_trans hL55 hB62.size
    refine WL.nil ?_
    exact QP.intro (fun k => ([] : List (Option Addr × Nat)).getD k (none, 0)) (d := 12) (by kernel_rfl) (by kernel_rfl) hB62 (SH.front 2 (SH.front 2 hS61)) (by kernel_rfl)
  · intro g24 w65 R25 hB66 hS67
    have hS68 : SH w65 B (aBox 35 b10 [.string (bs []), .int .i64 0, .int .i64 0, .int .i64 0, .int .i64 0, .int .i64 0] :: aBox 62 b2 [.int .i64 f_2.Length, .int .i64 f_2.Ball, .int .i64 f_2.Instep, .int .i64 f_2.Heel] :: aBox 83 b0' [.slice a0_code' s_0_code.length c0_code', .int .i64 x56.2.1, .int .u64 x56.2.2] :: R25) := memEq hS67 (by kernel_rfl)
    have hb69 : Below B w w65 := Below.trans hb21 hB66
    have hL70 : B ≤ w65.heap.size := Nat.le_trans hL22 hB66.size
    refine WL.subk [12] [(12, .int .i64 x56.1)] (by kernel_rfl) ?_
    refine WL.runk 1 [13] [(13, .int .i64 (wI64 (5 * x56.1)))] (by kernel_rfl) ?_
    refine WL.nil ?_
    exact QP.intro (fun k => ([] : List (Option Addr × Nat)).getD k (none, 0)) (d := 13) (by kernel_rfl) (by kernel_rfl) (Below.refl _ _) hS68 (by kernel_rfl)
  · intro g24 w71 R25 hB72 hS73
    have hS74 : SH w71 B (aBox 35 b10 [.string (bs []), .int .i64 0, .int .i64 0, .int .i64 0, .int .i64 0, .int .i64 0] :: aBox 62 b2 [.int .i64 f_2.Length, .int .i64 f_2.Ball, .int .i64 f_2.Instep, .int .i64 f_2.Heel] :: aBox 83 b0' [.slice a0_code' s_0_code.length c0_code', .int .i64 x56.2.1, .int .u64 x56.2.2] :: R25) := memEq hS73 (by kernel_rfl)
    have hb75 : Below B w w71 := Below.trans hb21 hB72
    have hL76 : B ≤ w71.heap.size := Nat.le_trans hL22 hB72.size
    refine WL.subk [10, 13] [(10, .int .i64 f_2.Length), (13, .int .i64 (wI64 (5 * x56.1)))] (by kernel_rfl) ?_
    refine WL.runk 1 [14] [(14, .int .i64 (wI64 (f_2.Length + (wI64 (5 * x56.1)))))] (by kernel_rfl) ?_
    refine WL.nil ?_
    exact QP.intro (fun k => ([] : List (Option Addr × Nat)).getD k (none, 0)) (d := 14) (by kernel_rfl) (by kernel_rfl) (Below.refl _ _) hS74 (by kernel_rfl)
  · intro g24 w77 R25 hB78 hS79
    have hS80 : SH w77 B (aBox 35 b10 [.string (bs []), .int .i64 0, .int .i64 0, .int .i64 0, .int .i64 0, .int .i64 0] :: aBox 62 b2 [.int .i64 f_2.Length, .int .i64 f_2.Ball, .int .i64 f_2.Instep, .int .i64 f_2.Heel] :: aBox 83 b0' [.slice a0_code' s_0_code.length c0_code', .int .i64 x56.2.1, .int .u64 x56.2.2] :: R25) := memEq hS79 (by kernel_rfl)
    have hb81 : Below B w w77 := Below.trans hb21 hB78
    have hL82 : B ≤ w77.heap.size := Nat.le_trans hL22 hB78.size
    refine WL.subk [14] [(14, .int .i64 (wI64 (f_2.Length + (wI64 (5 * x56.1)))))] (by kernel_rfl) ?_
    refine WL.call 52 #[.int .i64 5000, .int .i64 (wI64 (f_2.Length + (wI64 (5 * x56.1))))] rfl rfl (by kernel_rfl) (c_52 n 5000 (wI64 (f_2.Length + (wI64 (5 * x56.1)))) w77 hx84 ) ?_
    rintro _ w85 ⟨rfl, hE86⟩
    refine ⟨_, rfl, ?_⟩
    have hb88 : Below B w w85 := Below.trans hb81 (Below.mono hE86 hL82)
    have hL89 : B ≤ w85.heap.size := Nat.le_trans hL82 hE86.size
    have hS90 : SH w85 B (aBox 35 b10 [.string (bs []), .int .i64 0, .int .i64 0, .int .i64 0, .int .i64 0, .int .i64 0] :: aBox 62 b2 [.int .i64 f_2.Length, .int .i64 f_2.Ball, .int .i64 f_2.Instep, .int .i64 f_2.Heel] :: aBox 83 b0' [.slice a0_code' s_0_code.length c0_code', .int .i64 x56.2.1, .int .u64 x56.2.2] :: R25) := SH.ext hS80 hE86
    refine WL.nil ?_
    exact QP.intro (fun k => ([] : List (Option Addr × Nat)).getD k (none, 0)) (d := 15) (by kernel_rfl) (by kernel_rfl) (Below.mono hE86 hL82) hS90 (by kernel_rfl)
  · intro g24 w91 R25 hB92 hS93
    have hS94 : SH w91 B (aBox 35 b10 [.string (bs []), .int .i64 0, .int .i64 0, .int .i64 0, .int .i64 0, .int .i64 0] :: aBox 62 b2 [.int .i64 f_2.Length, .int .i64 f_2.Ball, .int .i64 f_2.Instep, .int .i64 f_2.Heel] :: aBox 83 b0' [.slice a0_code' s_0_code.length c0_code', .int .i64 x56.2.1, .int .u64 x56.2.2] :: R25) := memEq hS93 (by kernel_rfl)
    have hb95 : Below B w w91 := Below.trans hb21 hB92
    have hL96 : B ≤ w91.heap.size := Nat.le_trans hL22 hB92.size
    refine WL.subk [8, 15] [(8, .string (bs name_1)), (15, .int .i64 x83)] (by kernel_rfl) ?_
    refine WL.runk 1 [16] [(16, .agg #[.string (bs name_1), .int .i64 x83, .int .i64 0, .int .i64 0, .int .i64 0, .int .i64 0])] (by kernel_rfl) ?_
    refine WL.nil ?_
    exact QP.intro (fun k => ([] : List (Option Addr × Nat)).getD k (none, 0)) (d := 16) (by kernel_rfl) (by kernel_rfl) (Below.refl _ _) hS94 (by kernel_rfl)
  · intro g24 w97 R25 hB98 hS99
    have hS100 : SH w97 B (aBox 35 b10 [.string (bs []), .int .i64 0, .int .i64 0, .int .i64 0, .int .i64 0, .int .i64 0] :: aBox 62 b2 [.int .i64 f_2.Length, .int .i64 f_2.Ball, .int .i64 f_2.Instep, .int .i64 f_2.Heel] :: R25) := memEq hS99 (by kernel_rfl)
    have hb101 : Below B w w97 := Below.trans hb21 hB98
    have hL102 : B ≤ w97.heap.size := Nat.le_trans hL22 hB98.size
    refine WL.subk [] [] (by kernel_rfl) ?_
    refine WL.box 35 [.string (bs []), .int .i64 0, .int .i64 0, .int .i64 0, .int .i64 0, .int .i64 0] 7 (by kernel_rfl) rfl rfl rfl rfl ?_
    intro b103 w104 hE105 hR106
    have hb108 : Below B w w104 := Below.trans hb101 (Below.mono hE105 hL102)
    have hL109 : B ≤ w104.heap.size := Nat.le_trans hL102 hE105.size
    have hS110 : SH w104 B (aBox 35 b103 [.string (bs []), .int .i64 0, .int .i64 0, .int .i64 0, .int .i64 0, .int .i64 0] :: aBox 35 b10 [.string (bs []), .int .i64 0, .int .i64 0, .int .i64 0, .int .i64 0, .int .i64 0] :: aBox 62 b2 [.int .i64 f_2.Length, .int .i64 f_2.Ball, .int .i64 f_2.Instep, .int .i64 f_2.Heel] :: R25) := SH.add hS100 hE105 hL102 hR106
    refine WL.nil ?_
    exact QP.intro (fun k => ([(none, b103)] : List (Option Addr × Nat)).getD k (none, 0)) (d := 7) (by kernel_rfl) (by kernel_rfl) (Below.mono hE105 hL102) (SH.front 2 (SH.front 2 hS110)) (by kernel_rfl)
  intro g24 w111 hB112 hS113
  have hS114 : SH w111 B (aBox 35 b10 [.string (bs []), .int .i64 0, .int .i64 0, .int .i64 0, .int .i64 0, .int .i64 0] :: aBox 62 b2 [.int .i64 f_2.Length, .int .i64 f_2.Ball, .int .i64 f_2.Instep, .int .i64 f_2.Heel] :: aBox 83 b0' [.slice a0_code' s_0_code.length c0_code', .int .i64 x56.2.1, .int .u64 x56.2.2] :: aBox 35 (g24 9 0).2 [.string (bs []), .int .i64 0, .int .i64 0, .int .i64 0, .int .i64 0, .int .i64 0] :: L) := memEq hS113 (by kernel_rfl)
  have hb115 : Below B w w111 := Below.trans hb21 hB112
  have hL116 : B ≤ w111.heap.size := Nat.le_trans hL22 hB112.size
  refine WQ.subk [0, 5, 6, 16, 7] [(0, .pointer (some ⟨b0', 0, none⟩)), (5, .pointer (some ⟨b2, 0, none⟩)), (6, .pointer (some ⟨b10, 0, none⟩)), (16, .agg #[.string (bs name_1), .int .i64 x83, .int .i64 0, .int .i64 0, .int .i64 0, .int .i64 0]), (7, .pointer (some ⟨(g24 9 0).2, 0, none⟩))] (by kernel_rfl) ?_
  refine WA.one (i := 10) (D' := [0, 1, 2, 3, 4, 5, 6, 7, 8, 9, 10]) rfl rfl (by kernel_rfl) ?_
  refine WL.boxStore 0 [.string (bs name_1), .int .i64 x83, .int .i64 0, .int .i64 0, .int .i64 0, .int .i64 0] [.string (bs name_1), .int .i64 x83, .int .i64 0, .int .i64 0, .int .i64 0, .int .i64 0] (SH.front 3 hS114) hL116 rfl rfl rfl rfl rfl rfl rfl (info35).1 (info35).2.1 rfl rfl rfl ?_
  intro w117 hB118 hS119
  have hb120 : Below B w w117 := Below.trans hb115 hB118
  have hL121 : B ≤ w117.heap.size := Nat.le_trans hL116 hB118.size
  refine WL.sub [(0, .pointer (some ⟨b0', 0, none⟩)), (5, .pointer (some ⟨b2, 0, none⟩)), (6, .pointer (some ⟨b10, 0, none⟩)), (7, .pointer (some ⟨(g24 9 0).2, 0, none⟩))] ⟨rfl, rfl, rfl, rfl, trivial⟩ ?_
  refine WL.nil ?_
  refine WA.done (by kernel_rfl) ?_
  refine WQ.then_normal (hK18 _ _ _ ?_)
  refine WP.seq (fun K122 hK122 => ?_)
  refine WP.open (n := 11) (by kernel_rfl) rfl (fun w123 hE124 => ?_)
  have hb125 : Below B w w123 := Below.trans hb120 (Below.mono hE124 hL121)
  have hL126 : B ≤ w123.heap.size := Nat.le_trans hL121 hE124.size
  have hS127 : SH w123 B (aBox 35 (g24 9 0).2 [.string (bs name_1), .int .i64 x83, .int .i64 0, .int .i64 0, .int .i64 0, .int .i64 0] :: aBox 35 b10 [.string (bs []), .int .i64 0, .int .i64 0, .int .i64 0, .int .i64 0, .int .i64 0] :: aBox 62 b2 [.int .i64 f_2.Length, .int .i64 f_2.Ball, .int .i64 f_2.Instep, .int .i64 f_2.Heel] :: aBox 83 b0' [.slice a0_code' s_0_code.length c0_code', .int .i64 x56.2.1, .int .u64 x56.2.2] :: L) := SH.ext hS119 hE124
  obtain ⟨x154, hx155, hm⟩ := bindE hm
  refine WA.par (R := L) (f' := 6) (D' := [0, 1, 2, 3, 4]) [⟨0, [], fun _ => .pointer (some ⟨b2, 1, none⟩)⟩, ⟨1, [], fun _ => .int .i64 f_2.Ball⟩, ⟨2, [], fun _ => .pointer (some ⟨b0', 0, none⟩)⟩, ⟨3, [], fun _ => .int .i64 x154.1⟩, ⟨4, [], fun _ => .int .i64 (wI64 (5 * x154.1))⟩] [⟨[aBox 35 (g24 9 0).2 [.string (bs name_1), .int .i64 x83, .int .i64 0, .int .i64 0, .int .i64 0, .int .i64 0]], []⟩, ⟨[aBox 35 b10 [.string (bs []), .int .i64 0, .int .i64 0, .int .i64 0, .int .i64 0, .int .i64 0]], []⟩, ⟨[aBox 62 b2 [.int .i64 f_2.Length, .int .i64 f_2.Ball, .int .i64 f_2.Instep, .int .i64 f_2.Heel]], []⟩, ⟨[aBox 83 b0' [.slice a0_code' s_0_code.length c0_code', .int .i64 x56.2.1, .int .u64 x56.2.2]], [⟨3, [], fun _ => [aBox 83 b0' [.slice a0_code' s_0_code.length c0_code', .int .i64 x154.2.1, .int .u64 x154.2.2]]⟩]⟩] rfl rfl hS127 (by kernel_rfl) (by kernel_rfl) ⟨?_, ?_, ?_, ?_, ?_, trivial⟩ ?_
  · intro g128 w130 R129 hB131 hS132
    have hS133 : SH w130 B (aBox 35 (g24 9 0).2 [.string (bs name_1), .int .i64 x83, .int .i64 0, .int .i64 0, .int .i64 0, .int .i64 0] :: aBox 35 b10 [.string (bs []), .int .i64 0, .int .i64 0, .int .i64 0, .int .i64 0, .int .i64 0] :: aBox 62 b2 [.int .i64 f_2.Length, .int .i64 f_2.Ball, .int .i64 f_2.Instep, .int .i64 f_2.Heel] :: R129) := memEq hS132 (by kernel_rfl)
    have hb134 : Below B w w130 := Below.trans hb125 hB131
    have hL135 : B ≤ w130.heap.size := Nat.le_trans hL126 hB131.size
    refine WL.subk [5] [(5, .pointer (some ⟨b2, 0, none⟩))] (by kernel_rfl) ?_
    refine WL.runk 1 [17] [(17, .pointer (some ⟨b2, 1, none⟩))] (by kernel_rfl) ?_
    refine WL.nil ?_
    exact QP.intro (fun k => ([] : List (Option Addr × Nat)).getD k (none, 0)) (d := 17) (by kernel_rfl) (by kernel_rfl) (Below.refl _ _) hS133 (by kernel_rfl)
  · intro g128 w136 R129 hB137 hS138
    have hS139 : SH w136 B (aBox 35 (g24 9 0).2 [.string (bs name_1), .int .i64 x83, .int .i64 0, .int .i64 0, .int .i64 0, .int .i64 0] :: aBox 35 b10 [.string (bs []), .int .i64 0, .int .i64 0, .int .i64 0, .int .i64 0, .int .i64 0] :: aBox 62 b2 [.int .i64 f_2.Length, .int .i64 f_2.Ball, .int .i64 f_2.Instep, .int .i64 f_2.Heel] :: R129) := memEq hS138 (by kernel_rfl)
    have hb140 : Below B w w136 := Below.trans hb125 hB137
    have hL141 : B ≤ w136.heap.size := Nat.le_trans hL126 hB137.size
    refine WL.subk [17] [(17, .pointer (some ⟨b2, 1, none⟩))] (by kernel_rfl) ?_
    refine WL.st (.int .i64 f_2.Ball) (ST.load (cell_ext (SH.boxAt (SH.front 2 hS139) 1 _ rfl)) rfl rfl Tryd.underlying2 rfl) rfl rfl rfl ?_
    refine WL.nil ?_
    exact QP.intro (fun k => ([] : List (Option Addr × Nat)).getD k (none, 0)) (d := 18) (by kernel_rfl) (by kernel_rfl) (Below.refl _ _) hS139 (by kernel_rfl)
  · intro g128 w142 R129 hB143 hS144
    have hS145 : SH w142 B (aBox 35 (g24 9 0).2 [.string (bs name_1), .int .i64 x83, .int .i64 0, .int .i64 0, .int .i64 0, .int .i64 0] :: aBox 35 b10 [.string (bs []), .int .i64 0, .int .i64 0, .int .i64 0, .int .i64 0, .int .i64 0] :: aBox 62 b2 [.int .i64 f_2.Length, .int .i64 f_2.Ball, .int .i64 f_2.Instep, .int .i64 f_2.Heel] :: aBox 83 b0' [.slice a0_code' s_0_code.length c0_code', .int .i64 x56.2.1, .int .u64 x56.2.2] :: R129) := memEq hS144 (by kernel_rfl)
    have hb146 : Below B w w142 := Below.trans hb125 hB143
    have hL147 : B ≤ w142.heap.size := Nat.le_trans hL126 hB143.size
    refine WL.subk [0] [(0, .pointer (some ⟨b0', 0, none⟩))] (by kernel_rfl) ?_
    refine WL.runk 1 [19] [(19, .pointer (some ⟨b0', 0, none⟩))] (by kernel_rfl) ?_
    refine WL.nil ?_
    exact QP.intro (fun k => ([] : List (Option Addr × Nat)).getD k (none, 0)) (d := 19) (by kernel_rfl) (by kernel_rfl) (Below.refl _ _) hS145 (by kernel_rfl)
  · intro g128 w148 R129 hB149 hS150
    have hS151 : SH w148 B (aBox 35 (g24 9 0).2 [.string (bs name_1), .int .i64 x83, .int .i64 0, .int .i64 0, .int .i64 0, .int .i64 0] :: aBox 35 b10 [.string (bs []), .int .i64 0, .int .i64 0, .int .i64 0, .int .i64 0, .int .i64 0] :: aBox 62 b2 [.int .i64 f_2.Length, .int .i64 f_2.Ball, .int .i64 f_2.Instep, .int .i64 f_2.Heel] :: aBox 83 b0' [.slice a0_code' s_0_code.length c0_code', .int .i64 x56.2.1, .int .u64 x56.2.2] :: R129) := memEq hS150 (by kernel_rfl)
    have hb152 : Below B w w148 := Below.trans hb125 hB149
    have hL153 : B ≤ w148.heap.size := Nat.le_trans hL126 hB149.size
    refine WL.subk [19] [(19, .pointer (some ⟨b0', 0, none⟩))] (by kernel_rfl) ?_
    refine WL.call 53 #[.pointer (some ⟨b0', 0, none⟩), .int .i64 40] rfl rfl (by kernel_rfl) (c_53 n s_0_code a0_code' c0_code' x56.2.1 x56.2.2 b0' 40 w148 w0 B (aBox 35 (g24 9 0).2 [.string (bs name_1), .int .i64 x83, .int .i64 0, .int .i64 0, .int .i64 0, .int .i64 0] :: aBox 35 b10 [.string (bs []), .int .i64 0, .int .i64 0, .int .i64 0, .int .i64 0, .int .i64 0] :: aBox 62 b2 [.int .i64 f_2.Length, .int .i64 f_2.Ball, .int .i64 f_2.Instep, .int .i64 f_2.Heel] :: R129) hx155 (Below.trans hE0 (Below.mono hb152 hW)) hW hL153 h0_code hle0_code (SH.front 3 (SH.front 2 (SH.front 2 (SH.front 2 hS151))))) ?_
    rintro _ w156 ⟨rfl, hB160, hS159⟩
    refine ⟨_, rfl, ?_⟩
    have hb161 : Below B w w156 := Below.trans hb152 hB160
    have hL162 : B ≤ w156.heap.size := Nat.le_trans hL153 hB160.size
    refine WL.nil ?_
    exact QP.intro (fun k => ([] : List (Option Addr × Nat)).getD k (none, 0)) (d := 20) (by kernel_rfl) (by kernel_rfl) hB160 (SH.front 3 (SH.front 3 (SH.front 3 hS159))) (by kernel_rfl)
  · intro g128 w163 R129 hB164 hS165
    have hS166 : SH w163 B (aBox 35 (g24 9 0).2 [.string (bs name_1), .int .i64 x83, .int .i64 0, .int .i64 0, .int .i64 0, .int .i64 0] :: aBox 35 b10 [.string (bs []), .int .i64 0, .int .i64 0, .int .i64 0, .int .i64 0, .int .i64 0] :: aBox 62 b2 [.int .i64 f_2.Length, .int .i64 f_2.Ball, .int .i64 f_2.Instep, .int .i64 f_2.Heel] :: aBox 83 b0' [.slice a0_code' s_0_code.length c0_code', .int .i64 x154.2.1, .int .u64 x154.2.2] :: R129) := memEq hS165 (by kernel_rfl)
    have hb167 : Below B w w163 := Below.trans hb125 hB164
    have hL168 : B ≤ w163.heap.size := Nat.le_trans hL126 hB164.size
    refine WL.subk [20] [(20, .int .i64 x154.1)] (by kernel_rfl) ?_
    refine WL.runk 1 [21] [(21, .int .i64 (wI64 (5 * x154.1)))] (by kernel_rfl) ?_
    refine WL.nil ?_
    exact QP.intro (fun k => ([] : List (Option Addr × Nat)).getD k (none, 0)) (d := 21) (by kernel_rfl) (by kernel_rfl) (Below.refl _ _) hS166 (by kernel_rfl)
  intro g128 w169 hB170 hS171
  have hS172 : SH w169 B (aBox 35 (g24 9 0).2 [.string (bs name_1), .int .i64 x83, .int .i64 0, .int .i64 0, .int .i64 0, .int .i64 0] :: aBox 35 b10 [.string (bs []), .int .i64 0, .int .i64 0, .int .i64 0, .int .i64 0, .int .i64 0] :: aBox 62 b2 [.int .i64 f_2.Length, .int .i64 f_2.Ball, .int .i64 f_2.Instep, .int .i64 f_2.Heel] :: aBox 83 b0' [.slice a0_code' s_0_code.length c0_code', .int .i64 x154.2.1, .int .u64 x154.2.2] :: L) := memEq hS171 (by kernel_rfl)
  have hb173 : Below B w w169 := Below.trans hb125 hB170
  have hL174 : B ≤ w169.heap.size := Nat.le_trans hL126 hB170.size
  refine WQ.subk [0, 5, 6, 7, 18, 21] [(0, .pointer (some ⟨b0', 0, none⟩)), (5, .pointer (some ⟨b2, 0, none⟩)), (6, .pointer (some ⟨b10, 0, none⟩)), (7, .pointer (some ⟨(g24 9 0).2, 0, none⟩)), (18, .int .i64 f_2.Ball), (21, .int .i64 (wI64 (5 * x154.1)))] (by kernel_rfl) ?_
  refine WA.one (i := 5) (D' := [0, 1, 2, 3, 4, 5]) rfl rfl (by kernel_rfl) ?_
  refine WL.runk 1 [0, 5, 6, 7, 22, 23, 24, 25, 26] [(0, .pointer (some ⟨b0', 0, none⟩)), (5, .pointer (some ⟨b2, 0, none⟩)), (6, .pointer (some ⟨b10, 0, none⟩)), (7, .pointer (some ⟨(g24 9 0).2, 0, none⟩)), (22, .int .i64 (wI64 (f_2.Ball + (wI64 (5 * x154.1)))))] (by kernel_rfl) ?_
  refine WL.nil ?_
  refine WA.one (i := 6) (D' := [0, 1, 2, 3, 4, 5, 6]) rfl rfl (by kernel_rfl) ?_
  refine WL.runk 1 [0, 5, 6, 7, 23, 24, 25, 26] [(0, .pointer (some ⟨b0', 0, none⟩)), (5, .pointer (some ⟨b2, 0, none⟩)), (6, .pointer (some ⟨b10, 0, none⟩)), (7, .pointer (some ⟨(g24 9 0).2, 0, none⟩)), (23, .int .i64 (wI64 ((wI64 (f_2.Ball + (wI64 (5 * x154.1)))) - 100)))] (by kernel_rfl) ?_
  refine WL.nil ?_
  refine WA.one (i := 7) (D' := [0, 1, 2, 3, 4, 5, 6, 7]) rfl rfl (by kernel_rfl) ?_
  obtain ⟨x175, hx176, hm⟩ := bindE hm
  refine WL.call 54 #[.int .i64 500, .int .i64 (wI64 ((wI64 (f_2.Ball + (wI64 (5 * x154.1)))) - 100))] rfl rfl (by kernel_rfl) (c_54 n 500 (wI64 ((wI64 (f_2.Ball + (wI64 (5 * x154.1)))) - 100)) w169 hx176 ) ?_
  rintro _ w177 ⟨rfl, hE178⟩
  refine ⟨_, rfl, ?_⟩
  have hb180 : Below B w w177 := Below.trans hb173 (Below.mono hE178 hL174)
  have hL181 : B ≤ w177.heap.size := Nat.le_trans hL174 hE178.size
  have hS182 : SH w177 B (aBox 35 (g24 9 0).2 [.string (bs name_1), .int .i64 x83, .int .i64 0, .int .i64 0, .int .i64 0, .int .i64 0] :: aBox 35 b10 [.string (bs []), .int .i64 0, .int .i64 0, .int .i64 0, .int .i64 0, .int .i64 0] :: aBox 62 b2 [.int .i64 f_2.Length, .int .i64 f_2.Ball, .int .i64 f_2.Instep, .int .i64 f_2.Heel] :: aBox 83 b0' [.slice a0_code' s_0_code.length c0_code', .int .i64 x154.2.1, .int .u64 x154.2.2] :: L) := SH.ext hS172 hE178
  refine WL.sub [(0, .pointer (some ⟨b0', 0, none⟩)), (5, .pointer (some ⟨b2, 0, none⟩)), (6, .pointer (some ⟨b10, 0, none⟩)), (7, .pointer (some ⟨(g24 9 0).2, 0, none⟩)), (24, .int .i64 x175)] ⟨rfl, rfl, rfl, rfl, rfl, trivial⟩ ?_
  refine WL.nil ?_
  refine WA.one (i := 8) (D' := [0, 1, 2, 3, 4, 5, 6, 7, 8]) rfl rfl (by kernel_rfl) ?_
  obtain ⟨x183, hx184, hm⟩ := bindE hm
  refine WL.call 52 #[.int .i64 5000, .int .i64 x175] rfl rfl (by kernel_rfl) (c_52 n 5000 x175 w177 hx184 ) ?_
  rintro _ w185 ⟨rfl, hE186⟩
  refine ⟨_, rfl, ?_⟩
  have hb188 : Below B w w185 := Below.trans hb180 (Below.mono hE186 hL181)
  have hL189 : B ≤ w185.heap.size := Nat.le_trans hL181 hE186.size
  have hS190 : SH w185 B (aBox 35 (g24 9 0).2 [.string (bs name_1), .int .i64 x83, .int .i64 0, .int .i64 0, .int .i64 0, .int .i64 0] :: aBox 35 b10 [.string (bs []), .int .i64 0, .int .i64 0, .int .i64 0, .int .i64 0, .int .i64 0] :: aBox 62 b2 [.int .i64 f_2.Length, .int .i64 f_2.Ball, .int .i64 f_2.Instep, .int .i64 f_2.Heel] :: aBox 83 b0' [.slice a0_code' s_0_code.length c0_code', .int .i64 x154.2.1, .int .u64 x154.2.2] :: L) := SH.ext hS182 hE186
  refine WL.sub [(0, .pointer (some ⟨b0', 0, none⟩)), (5, .pointer (some ⟨b2, 0, none⟩)), (6, .pointer (some ⟨b10, 0, none⟩)), (7, .pointer (some ⟨(g24 9 0).2, 0, none⟩)), (25, .int .i64 x183)] ⟨rfl, rfl, rfl, rfl, rfl, trivial⟩ ?_
  refine WL.nil ?_
  refine WA.one (i := 9) (D' := [0, 1, 2, 3, 4, 5, 6, 7, 8, 9]) rfl rfl (by kernel_rfl) ?_
  refine WL.runk 1 [0, 5, 6, 7, 25, 26] [(0, .pointer (some ⟨b0', 0, none⟩)), (5, .pointer (some ⟨b2, 0, none⟩)), (6, .pointer (some ⟨b10, 0, none⟩)), (7, .pointer (some ⟨(g24 9 0).2, 0, none⟩)), (25, .int .i64 x183), (26, .pointer (some ⟨(g24 9 0).2, 2, none⟩))] (by kernel_rfl) ?_
  refine WL.nil ?_
  refine WA.one (i := 10) (D' := [0, 1, 2, 3, 4, 5, 6, 7, 8, 9, 10]) rfl rfl (by kernel_rfl) ?_
  refine WL.boxStore 2 [.int .i64 x183] [.string (bs name_1), .int .i64 x83, .int .i64 x183, .int .i64 0, .int .i64 0, .int .i64 0] (SH.front 0 hS190) hL189 rfl rfl rfl rfl rfl rfl rfl (info2).1 (info2).2.1 rfl rfl rfl ?_
  intro w191 hB192 hS193
  have hb194 : Below B w w191 := Below.trans hb188 hB192
  have hL195 : B ≤ w191.heap.size := Nat.le_trans hL189 hB192.size
  refine WL.sub [(0, .pointer (some ⟨b0', 0, none⟩)), (5, .pointer (some ⟨b2, 0, none⟩)), (6, .pointer (some ⟨b10, 0, none⟩)), (7, .pointer (some ⟨(g24 9 0).2, 0, none⟩))] ⟨rfl, rfl, rfl, rfl, trivial⟩ ?_
  refine WL.nil ?_
  refine WA.done (by kernel_rfl) ?_
  refine WQ.then_normal (hK122 _ _ _ ?_)
  refine WP.seq (fun K196 hK196 => ?_)
  refine WP.open (n := 11) (by kernel_rfl) rfl (fun w197 hE198 => ?_)
  have hb199 : Below B w w197 := Below.trans hb194 (Below.mono hE198 hL195)
  have hL200 : B ≤ w197.heap.size := Nat.le_trans hL195 hE198.size
  have hS201 : SH w197 B (aBox 35 (g24 9 0).2 [.string (bs name_1), .int .i64 x83, .int .i64 x183, .int .i64 0, .int .i64 0, .int .i64 0] :: aBox 35 b10 [.string (bs []), .int .i64 0, .int .i64 0, .int .i64 0, .int .i64 0, .int .i64 0] :: aBox 62 b2 [.int .i64 f_2.Length, .int .i64 f_2.Ball, .int .i64 f_2.Instep, .int .i64 f_2.Heel] :: aBox 83 b0' [.slice a0_code' s_0_code.length c0_code', .int .i64 x154.2.1, .int .u64 x154.2.2] :: L) := SH.ext hS193 hE198
  obtain ⟨x228, hx229, hm⟩ := bindE hm
  refine WA.par (R := L) (f' := 6) (D' := [0, 1, 2, 3, 4]) [⟨0, [], fun _ => .pointer (some ⟨b2, 2, none⟩)⟩, ⟨1, [], fun _ => .int .i64 f_2.Instep⟩, ⟨2, [], fun _ => .pointer (some ⟨b0', 0, none⟩)⟩, ⟨3, [], fun _ => .int .i64 x228.1⟩, ⟨4, [], fun _ => .int .i64 (wI64 (5 * x228.1))⟩] [⟨[aBox 35 (g24 9 0).2 [.string (bs name_1), .int .i64 x83, .int .i64 x183, .int .i64 0, .int .i64 0, .int .i64 0]], []⟩, ⟨[aBox 35 b10 [.string (bs []), .int .i64 0, .int .i64 0, .int .i64 0, .int .i64 0, .int .i64 0]], []⟩, ⟨[aBox 62 b2 [.int .i64 f_2.Length, .int .i64 f_2.Ball, .int .i64 f_2.Instep, .int .i64 f_2.Heel]], []⟩, ⟨[aBox 83 b0' [.slice a0_code' s_0_code.length c0_code', .int .i64 x154.2.1, .int .u64 x154.2.2]], [⟨3, [], fun _ => [aBox 83 b0' [.slice a0_code' s_0_code.length c0_code', .int .i64 x228.2.1, .int .u64 x228.2.2]]⟩]⟩] rfl rfl hS201 (by kernel_rfl) (by kernel_rfl) ⟨?_, ?_, ?_, ?_, ?_, trivial⟩ ?_
  · intro g202 w204 R203 hB205 hS206
    have hS207 : SH w204 B (aBox 35 (g24 9 0).2 [.string (bs name_1), .int .i64 x83, .int .i64 x183, .int .i64 0, .int .i64 0, .int .i64 0] :: aBox 35 b10 [.string (bs []), .int .i64 0, .int .i64 0, .int .i64 0, .int .i64 0, .int .i64 0] :: aBox 62 b2 [.int .i64 f_2.Length, .int .i64 f_2.Ball, .int .i64 f_2.Instep, .int .i64 f_2.Heel] :: R203) := memEq hS206 (by kernel_rfl)
    have hb208 : Below B w w204 := Below.trans hb199 hB205
    have hL209 : B ≤ w204.heap.size := Nat.le_trans hL200 hB205.size
    refine WL.subk [5] [(5, .pointer (some ⟨b2, 0, none⟩))] (by kernel_rfl) ?_
    refine WL.runk 1 [27] [(27, .pointer (some ⟨b2, 2, none⟩))] (by kernel_rfl) ?_
    refine WL.nil ?_
    exact QP.intro (fun k => ([] : List (Option Addr × Nat)).getD k (none, 0)) (d := 27) (by kernel_rfl) (by kernel_rfl) (Below.refl _ _) hS207 (by kernel_rfl)
  · intro g202 w210 R203 hB211 hS212
    have hS213 : SH w210 B (aBox 35 (g24 9 0).2 [.string (bs name_1), .int .i64 x83, .int .i64 x183, .int .i64 0, .int .i64 0, .int .i64 0] :: aBox 35 b10 [.string (bs []), .int .i64 0, .int .i64 0, .int .i64 0, .int .i64 0, .int .i64 0] :: aBox 62 b2 [.int .i64 f_2.Length, .int .i64 f_2.Ball, .int .i64 f_2.Instep, .int .i64 f_2.Heel] :: R203) := memEq hS212 (by kernel_rfl)
    have hb214 : Below B w w210 := Below.trans hb199 hB211
    have hL215 : B ≤ w210.heap.size := Nat.le_trans hL200 hB211.size
    refine WL.subk [27] [(27, .pointer (some ⟨b2, 2, none⟩))] (by kernel_rfl) ?_
    refine WL.st (.int .i64 f_2.Instep) (ST.load (cell_ext (SH.boxAt (SH.front 2 hS213) 2 _ rfl)) rfl rfl Tryd.underlying2 rfl) rfl rfl rfl ?_
    refine WL.nil ?_
    exact QP.intro (fun k => ([] : List (Option Addr × Nat)).getD k (none, 0)) (d := 28) (by kernel_rfl) (by kernel_rfl) (Below.refl _ _) hS213 (by kernel_rfl)
  · intro g202 w216 R203 hB217 hS218
    have hS219 : SH w216 B (aBox 35 (g24 9 0).2 [.string (bs name_1), .int .i64 x83, .int .i64 x183, .int .i64 0, .int .i64 0, .int .i64 0] :: aBox 35 b10 [.string (bs []), .int .i64 0, .int .i64 0, .int .i64 0, .int .i64 0, .int .i64 0] :: aBox 62 b2 [.int .i64 f_2.Length, .int .i64 f_2.Ball, .int .i64 f_2.Instep, .int .i64 f_2.Heel] :: aBox 83 b0' [.slice a0_code' s_0_code.length c0_code', .int .i64 x154.2.1, .int .u64 x154.2.2] :: R203) := memEq hS218 (by kernel_rfl)
    have hb220 : Below B w w216 := Below.trans hb199 hB217
    have hL221 : B ≤ w216.heap.size := Nat.le_trans hL200 hB217.size
    refine WL.subk [0] [(0, .pointer (some ⟨b0', 0, none⟩))] (by kernel_rfl) ?_
    refine WL.runk 1 [29] [(29, .pointer (some ⟨b0', 0, none⟩))] (by kernel_rfl) ?_
    refine WL.nil ?_
    exact QP.intro (fun k => ([] : List (Option Addr × Nat)).getD k (none, 0)) (d := 29) (by kernel_rfl) (by kernel_rfl) (Below.refl _ _) hS219 (by kernel_rfl)
  · intro g202 w222 R203 hB223 hS224
    have hS225 : SH w222 B (aBox 35 (g24 9 0).2 [.string (bs name_1), .int .i64 x83, .int .i64 x183, .int .i64 0, .int .i64 0, .int .i64 0] :: aBox 35 b10 [.string (bs []), .int .i64 0, .int .i64 0, .int .i64 0, .int .i64 0, .int .i64 0] :: aBox 62 b2 [.int .i64 f_2.Length, .int .i64 f_2.Ball, .int .i64 f_2.Instep, .int .i64 f_2.Heel] :: aBox 83 b0' [.slice a0_code' s_0_code.length c0_code', .int .i64 x154.2.1, .int .u64 x154.2.2] :: R203) := memEq hS224 (by kernel_rfl)
    have hb226 : Below B w w222 := Below.trans hb199 hB223
    have hL227 : B ≤ w222.heap.size := Nat.le_trans hL200 hB223.size
    refine WL.subk [29] [(29, .pointer (some ⟨b0', 0, none⟩))] (by kernel_rfl) ?_
    refine WL.call 53 #[.pointer (some ⟨b0', 0, none⟩), .int .i64 40] rfl rfl (by kernel_rfl) (c_53 n s_0_code a0_code' c0_code' x154.2.1 x154.2.2 b0' 40 w222 w0 B (aBox 35 (g24 9 0).2 [.string (bs name_1), .int .i64 x83, .int .i64 x183, .int .i64 0, .int .i64 0, .int .i64 0] :: aBox 35 b10 [.string (bs []), .int .i64 0, .int .i64 0, .int .i64 0, .int .i64 0, .int .i64 0] :: aBox 62 b2 [.int .i64 f_2.Length, .int .i64 f_2.Ball, .int .i64 f_2.Instep, .int .i64 f_2.Heel] :: R203) hx229 (Below.trans hE0 (Below.mono hb226 hW)) hW hL227 h0_code hle0_code (SH.front 3 (SH.front 2 (SH.front 2 (SH.front 2 hS225))))) ?_
    rintro _ w230 ⟨rfl, hB234, hS233⟩
    refine ⟨_, rfl, ?_⟩
    have hb235 : Below B w w230 := Below.trans hb226 hB234
    have hL236 : B ≤ w230.heap.size := Nat.le_trans hL227 hB234.size
    refine WL.nil ?_
    exact QP.intro (fun k => ([] : List (Option Addr × Nat)).getD k (none, 0)) (d := 30) (by kernel_rfl) (by kernel_rfl) hB234 (SH.front 3 (SH.front 3 (SH.front 3 hS233))) (by kernel_rfl)
  · intro g202 w237 R203 hB238 hS239
    have hS240 : SH w237 B (aBox 35 (g24 9 0).2 [.string (bs name_1), .int .i64 x83, .int .i64 x183, .int .i64 0, .int .i64 0, .int .i64 0] :: aBox 35 b10 [.string (bs []), .int .i64 0, .int .i64 0, .int .i64 0, .int .i64 0, .int .i64 0] :: aBox 62 b2 [.int .i64 f_2.Length, .int .i64 f_2.Ball, .int .i64 f_2.Instep, .int .i64 f_2.Heel] :: aBox 83 b0' [.slice a0_code' s_0_code.length c0_code', .int .i64 x228.2.1, .int .u64 x228.2.2] :: R203) := memEq hS239 (by kernel_rfl)
    have hb241 : Below B w w237 := Below.trans hb199 hB238
    have hL242 : B ≤ w237.heap.size := Nat.le_trans hL200 hB238.size
    refine WL.subk [30] [(30, .int .i64 x228.1)] (by kernel_rfl) ?_
    refine WL.runk 1 [31] [(31, .int .i64 (wI64 (5 * x228.1)))] (by kernel_rfl) ?_
    refine WL.nil ?_
    exact QP.intro (fun k => ([] : List (Option Addr × Nat)).getD k (none, 0)) (d := 31) (by kernel_rfl) (by kernel_rfl) (Below.refl _ _) hS240 (by kernel_rfl)
  intro g202 w243 hB244 hS245
  have hS246 : SH w243 B (aBox 35 (g24 9 0).2 [.string (bs name_1), .int .i64 x83, .int .i64 x183, .int .i64 0, .int .i64 0, .int .i64 0] :: aBox 35 b10 [.string (bs []), .int .i64 0, .int .i64 0, .int .i64 0, .int .i64 0, .int .i64 0] :: aBox 62 b2 [.int .i64 f_2.Length, .int .i64 f_2.Ball, .int .i64 f_2.Instep, .int .i64 f_2.Heel] :: aBox 83 b0' [.slice a0_code' s_0_code.length c0_code', .int .i64 x228.2.1, .int .u64 x228.2.2] :: L) := memEq hS245 (by kernel_rfl)
  have hb247 : Below B w w243 := Below.trans hb199 hB244
  have hL248 : B ≤ w243.heap.size := Nat.le_trans hL200 hB244.size
  refine WQ.subk [0, 5, 6, 7, 28, 31] [(0, .pointer (some ⟨b0', 0, none⟩)), (5, .pointer (some ⟨b2, 0, none⟩)), (6, .pointer (some ⟨b10, 0, none⟩)), (7, .pointer (some ⟨(g24 9 0).2, 0, none⟩)), (28, .int .i64 f_2.Instep), (31, .int .i64 (wI64 (5 * x228.1)))] (by kernel_rfl) ?_
  refine WA.one (i := 5) (D' := [0, 1, 2, 3, 4, 5]) rfl rfl (by kernel_rfl) ?_
  refine WL.runk 1 [0, 5, 6, 7, 32, 33, 34, 35, 36] [(0, .pointer (some ⟨b0', 0, none⟩)), (5, .pointer (some ⟨b2, 0, none⟩)), (6, .pointer (some ⟨b10, 0, none⟩)), (7, .pointer (some ⟨(g24 9 0).2, 0, none⟩)), (32, .int .i64 (wI64 (f_2.Instep + (wI64 (5 * x228.1)))))] (by kernel_rfl) ?_
  refine WL.nil ?_
  refine WA.one (i := 6) (D' := [0, 1, 2, 3, 4, 5, 6]) rfl rfl (by kernel_rfl) ?_
  refine WL.runk 1 [0, 5, 6, 7, 33, 34, 35, 36] [(0, .pointer (some ⟨b0', 0, none⟩)), (5, .pointer (some ⟨b2, 0, none⟩)), (6, .pointer (some ⟨b10, 0, none⟩)), (7, .pointer (some ⟨(g24 9 0).2, 0, none⟩)), (33, .int .i64 (wI64 ((wI64 (f_2.Instep + (wI64 (5 * x228.1)))) - 100)))] (by kernel_rfl) ?_
  refine WL.nil ?_
  refine WA.one (i := 7) (D' := [0, 1, 2, 3, 4, 5, 6, 7]) rfl rfl (by kernel_rfl) ?_
  obtain ⟨x249, hx250, hm⟩ := bindE hm
  refine WL.call 54 #[.int .i64 500, .int .i64 (wI64 ((wI64 (f_2.Instep + (wI64 (5 * x228.1)))) - 100))] rfl rfl (by kernel_rfl) (c_54 n 500 (wI64 ((wI64 (f_2.Instep + (wI64 (5 * x228.1)))) - 100)) w243 hx250 ) ?_
  rintro _ w251 ⟨rfl, hE252⟩
  refine ⟨_, rfl, ?_⟩
  have hb254 : Below B w w251 := Below.trans hb247 (Below.mono hE252 hL248)
  have hL255 : B ≤ w251.heap.size := Nat.le_trans hL248 hE252.size
  have hS256 : SH w251 B (aBox 35 (g24 9 0).2 [.string (bs name_1), .int .i64 x83, .int .i64 x183, .int .i64 0, .int .i64 0, .int .i64 0] :: aBox 35 b10 [.string (bs []), .int .i64 0, .int .i64 0, .int .i64 0, .int .i64 0, .int .i64 0] :: aBox 62 b2 [.int .i64 f_2.Length, .int .i64 f_2.Ball, .int .i64 f_2.Instep, .int .i64 f_2.Heel] :: aBox 83 b0' [.slice a0_code' s_0_code.length c0_code', .int .i64 x228.2.1, .int .u64 x228.2.2] :: L) := SH.ext hS246 hE252
  refine WL.sub [(0, .pointer (some ⟨b0', 0, none⟩)), (5, .pointer (some ⟨b2, 0, none⟩)), (6, .pointer (some ⟨b10, 0, none⟩)), (7, .pointer (some ⟨(g24 9 0).2, 0, none⟩)), (34, .int .i64 x249)] ⟨rfl, rfl, rfl, rfl, rfl, trivial⟩ ?_
  refine WL.nil ?_
  refine WA.one (i := 8) (D' := [0, 1, 2, 3, 4, 5, 6, 7, 8]) rfl rfl (by kernel_rfl) ?_
  obtain ⟨x257, hx258, hm⟩ := bindE hm
  refine WL.call 52 #[.int .i64 5000, .int .i64 x249] rfl rfl (by kernel_rfl) (c_52 n 5000 x249 w251 hx258 ) ?_
  rintro _ w259 ⟨rfl, hE260⟩
  refine ⟨_, rfl, ?_⟩
  have hb262 : Below B w w259 := Below.trans hb254 (Below.mono hE260 hL255)
  have hL263 : B ≤ w259.heap.size := Nat.le_trans hL255 hE260.size
  have hS264 : SH w259 B (aBox 35 (g24 9 0).2 [.string (bs name_1), .int .i64 x83, .int .i64 x183, .int .i64 0, .int .i64 0, .int .i64 0] :: aBox 35 b10 [.string (bs []), .int .i64 0, .int .i64 0, .int .i64 0, .int .i64 0, .int .i64 0] :: aBox 62 b2 [.int .i64 f_2.Length, .int .i64 f_2.Ball, .int .i64 f_2.Instep, .int .i64 f_2.Heel] :: aBox 83 b0' [.slice a0_code' s_0_code.length c0_code', .int .i64 x228.2.1, .int .u64 x228.2.2] :: L) := SH.ext hS256 hE260
  refine WL.sub [(0, .pointer (some ⟨b0', 0, none⟩)), (5, .pointer (some ⟨b2, 0, none⟩)), (6, .pointer (some ⟨b10, 0, none⟩)), (7, .pointer (some ⟨(g24 9 0).2, 0, none⟩)), (35, .int .i64 x257)] ⟨rfl, rfl, rfl, rfl, rfl, trivial⟩ ?_
  refine WL.nil ?_
  refine WA.one (i := 9) (D' := [0, 1, 2, 3, 4, 5, 6, 7, 8, 9]) rfl rfl (by kernel_rfl) ?_
  refine WL.runk 1 [0, 5, 6, 7, 35, 36] [(0, .pointer (some ⟨b0', 0, none⟩)), (5, .pointer (some ⟨b2, 0, none⟩)), (6, .pointer (some ⟨b10, 0, none⟩)), (7, .pointer (some ⟨(g24 9 0).2, 0, none⟩)), (35, .int .i64 x257), (36, .pointer (some ⟨(g24 9 0).2, 3, none⟩))] (by kernel_rfl) ?_
  refine WL.nil ?_
  refine WA.one (i := 10) (D' := [0, 1, 2, 3, 4, 5, 6, 7, 8, 9, 10]) rfl rfl (by kernel_rfl) ?_
  refine WL.boxStore 3 [.int .i64 x257] [.string (bs name_1), .int .i64 x83, .int .i64 x183, .int .i64 x257, .int .i64 0, .int .i64 0] (SH.front 0 hS264) hL263 rfl rfl rfl rfl rfl rfl rfl (info2).1 (info2).2.1 rfl rfl rfl ?_
  intro w265 hB266 hS267
  have hb268 : Below B w w265 := Below.trans hb262 hB266
  have hL269 : B ≤ w265.heap.size := Nat.le_trans hL263 hB266.size
  refine WL.sub [(0, .pointer (some ⟨b0', 0, none⟩)), (5, .pointer (some ⟨b2, 0, none⟩)), (6, .pointer (some ⟨b10, 0, none⟩)), (7, .pointer (some ⟨(g24 9 0).2, 0, none⟩))] ⟨rfl, rfl, rfl, rfl, trivial⟩ ?_
  refine WL.nil ?_
  refine WA.done (by kernel_rfl) ?_
  refine WQ.then_normal (hK196 _ _ _ ?_)
  refine WP.seq (fun K270 hK270 => ?_)
  refine WP.open (n := 11) (by kernel_rfl) rfl (fun w271 hE272 => ?_)
  have hb273 : Below B w w271 := Below.trans hb268 (Below.mono hE272 hL269)
  have hL274 : B ≤ w271.heap.size := Nat.le_trans hL269 hE272.size
  have hS275 : SH w271 B (aBox 35 (g24 9 0).2 [.string (bs name_1), .int .i64 x83, .int .i64 x183, .int .i64 x257, .int .i64 0, .int .i64 0] :: aBox 35 b10 [.string (bs []), .int .i64 0, .int .i64 0, .int .i64 0, .int .i64 0, .int .i64 0] :: aBox 62 b2 [.int .i64 f_2.Length, .int .i64 f_2.Ball, .int .i64 f_2.Instep, .int .i64 f_2.Heel] :: aBox 83 b0' [.slice a0_code' s_0_code.length c0_code', .int .i64 x228.2.1, .int .u64 x228.2.2] :: L) := SH.ext hS267 hE272
  obtain ⟨x302, hx303, hm⟩ := bindE hm
  refine WA.par (R := L) (f' := 6) (D' := [0, 1, 2, 3, 4]) [⟨0, [], fun _ => .pointer (some ⟨b2, 3, none⟩)⟩, ⟨1, [], fun _ => .int .i64 f_2.Heel⟩, ⟨2, [], fun _ => .pointer (some ⟨b0', 0, none⟩)⟩, ⟨3, [], fun _ => .int .i64 x302.1⟩, ⟨4, [], fun _ => .int .i64 (wI64 (5 * x302.1))⟩] [⟨[aBox 35 (g24 9 0).2 [.string (bs name_1), .int .i64 x83, .int .i64 x183, .int .i64 x257, .int .i64 0, .int .i64 0]], []⟩, ⟨[aBox 35 b10 [.string (bs []), .int .i64 0, .int .i64 0, .int .i64 0, .int .i64 0, .int .i64 0]], []⟩, ⟨[aBox 62 b2 [.int .i64 f_2.Length, .int .i64 f_2.Ball, .int .i64 f_2.Instep, .int .i64 f_2.Heel]], []⟩, ⟨[aBox 83 b0' [.slice a0_code' s_0_code.length c0_code', .int .i64 x228.2.1, .int .u64 x228.2.2]], [⟨3, [], fun _ => [aBox 83 b0' [.slice a0_code' s_0_code.length c0_code', .int .i64 x302.2.1, .int .u64 x302.2.2]]⟩]⟩] rfl rfl hS275 (by kernel_rfl) (by kernel_rfl) ⟨?_, ?_, ?_, ?_, ?_, trivial⟩ ?_
  · intro g276 w278 R277 hB279 hS280
    have hS281 : SH w278 B (aBox 35 (g24 9 0).2 [.string (bs name_1), .int .i64 x83, .int .i64 x183, .int .i64 x257, .int .i64 0, .int .i64 0] :: aBox 35 b10 [.string (bs []), .int .i64 0, .int .i64 0, .int .i64 0, .int .i64 0, .int .i64 0] :: aBox 62 b2 [.int .i64 f_2.Length, .int .i64 f_2.Ball, .int .i64 f_2.Instep, .int .i64 f_2.Heel] :: R277) := memEq hS280 (by kernel_rfl)
    have hb282 : Below B w w278 := Below.trans hb273 hB279
    have hL283 : B ≤ w278.heap.size := Nat.le_trans hL274 hB279.size
    refine WL.subk [5] [(5, .pointer (some ⟨b2, 0, none⟩))] (by kernel_rfl) ?_
    refine WL.runk 1 [37] [(37, .pointer (some ⟨b2, 3, none⟩))] (by kernel_rfl) ?_
    refine WL.nil ?_
    exact QP.intro (fun k => ([] : List (Option Addr × Nat)).getD k (none, 0)) (d := 37) (by kernel_rfl) (by kernel_rfl) (Below.refl _ _) hS281 (by kernel_rfl)
  · intro g276 w284 R277 hB285 hS286
    have hS287 : SH w284 B (aBox 35 (g24 9 0).2 [.string (bs name_1), .int .i64 x83, .int .i64 x183, .int .i64 x257, .int .i64 0, .int .i64 0] :: aBox 35 b10 [.string (bs []), .int .i64 0, .int .i64 0, .int .i64 0, .int .i64 0, .int .i64 0] :: aBox 62 b2 [.int .i64 f_2.Length, .int .i64 f_2.Ball, .int .i64 f_2.Instep, .int .i64 f_2.Heel] :: R277) := memEq hS286 (by kernel_rfl)
    have hb288 : Below B w w284 := Below.trans hb273 hB285
    have hL289 : B ≤ w284.heap.size := Nat.le_trans hL274 hB285.size
    refine WL.subk [37] [(37, .pointer (some ⟨b2, 3, none⟩))] (by kernel_rfl) ?_
    refine WL.st (.int .i64 f_2.Heel) (ST.load (cell_ext (SH.boxAt (SH.front 2 hS287) 3 _ rfl)) rfl rfl Tryd.underlying2 rfl) rfl rfl rfl ?_
    refine WL.nil ?_
    exact QP.intro (fun k => ([] : List (Option Addr × Nat)).getD k (none, 0)) (d := 38) (by kernel_rfl) (by kernel_rfl) (Below.refl _ _) hS287 (by kernel_rfl)
  · intro g276 w290 R277 hB291 hS292
    have hS293 : SH w290 B (aBox 35 (g24 9 0).2 [.string (bs name_1), .int .i64 x83, .int .i64 x183, .int .i64 x257, .int .i64 0, .int .i64 0] :: aBox 35 b10 [.string (bs []), .int .i64 0, .int .i64 0, .int .i64 0, .int .i64 0, .int .i64 0] :: aBox 62 b2 [.int .i64 f_2.Length, .int .i64 f_2.Ball, .int .i64 f_2.Instep, .int .i64 f_2.Heel] :: aBox 83 b0' [.slice a0_code' s_0_code.length c0_code', .int .i64 x228.2.1, .int .u64 x228.2.2] :: R277) := memEq hS292 (by kernel_rfl)
    have hb294 : Below B w w290 := Below.trans hb273 hB291
    have hL295 : B ≤ w290.heap.size := Nat.le_trans hL274 hB291.size
    refine WL.subk [0] [(0, .pointer (some ⟨b0', 0, none⟩))] (by kernel_rfl) ?_
    refine WL.runk 1 [39] [(39, .pointer (some ⟨b0', 0, none⟩))] (by kernel_rfl) ?_
    refine WL.nil ?_
    exact QP.intro (fun k => ([] : List (Option Addr × Nat)).getD k (none, 0)) (d := 39) (by kernel_rfl) (by kernel_rfl) (Below.refl _ _) hS293 (by kernel_rfl)
  · intro g276 w296 R277 hB297 hS298
    have hS299 : SH w296 B (aBox 35 (g24 9 0).2 [.string (bs name_1), .int .i64 x83, .int .i64 x183, .int .i64 x257, .int .i64 0, .int .i64 0] :: aBox 35 b10 [.string (bs []), .int .i64 0, .int .i64 0, .int .i64 0, .int .i64 0, .int .i64 0] :: aBox 62 b2 [.int .i64 f_2.Length, .int .i64 f_2.Ball, .int .i64 f_2.Instep, .int .i64 f_2.Heel] :: aBox 83 b0' [.slice a0_code' s_0_code.length c0_code', .int .i64 x228.2.1, .int .u64 x228.2.2] :: R277) := memEq hS298 (by kernel_rfl)
    have hb300 : Below B w w296 := Below.trans hb273 hB297
    have hL301 : B ≤ w296.heap.size := Nat.le_trans hL274 hB297.size
    refine WL.subk [39] [(39, .pointer (some ⟨b0', 0, none⟩))] (by kernel_rfl) ?_
    refine WL.call 53 #[.pointer (some ⟨b0', 0, none⟩), .int .i64 40] rfl rfl (by kernel_rfl) (c_53 n s_0_code a0_code' c0_code' x228.2.1 x228.2.2 b0' 40 w296 w0 B (aBox 35 (g24 9 0).2 [.string (bs name_1), .int .i64 x83, .int .i64 x183, .int .i64 x257, .int .i64 0, .int .i64 0] :: aBox 35 b10 [.string (bs []), .int .i64 0, .int .i64 0, .int .i64 0, .int .i64 0, .int .i64 0] :: aBox 62 b2 [.int .i64 f_2.Length, .int .i64 f_2.Ball, .int .i64 f_2.Instep, .int .i64 f_2.Heel] :: R277) hx303 (Below.trans hE0 (Below.mono hb300 hW)) hW hL301 h0_code hle0_code (SH.front 3 (SH.front 2 (SH.front 2 (SH.front 2 hS299))))) ?_
    rintro _ w304 ⟨rfl, hB308, hS307⟩
    refine ⟨_, rfl, ?_⟩
    have hb309 : Below B w w304 := Below.trans hb300 hB308
    have hL310 : B ≤ w304.heap.size := Nat.le_trans hL301 hB308.size
    refine WL.nil ?_
    exact QP.intro (fun k => ([] : List (Option Addr × Nat)).getD k (none, 0)) (d := 40) (by kernel_rfl) (by kernel_rfl) hB308 (SH.front 3 (SH.front 3 (SH.front 3 hS307))) (by kernel_rfl)
  · intro g276 w311 R277 hB312 hS313
    have hS314 : SH w311 B (aBox 35 (g24 9 0).2 [.string (bs name_1), .int .i64 x83, .int .i64 x183, .int .i64 x257, .int .i64 0, .int .i64 0] :: aBox 35 b10 [.string (bs []), .int .i64 0, .int .i64 0, .int .i64 0, .int .i64 0, .int .i64 0] :: aBox 62 b2 [.int .i64 f_2.Length, .int .i64 f_2.Ball, .int .i64 f_2.Instep, .int .i64 f_2.Heel] :: aBox 83 b0' [.slice a0_code' s_0_code.length c0_code', .int .i64 x302.2.1, .int .u64 x302.2.2] :: R277) := memEq hS313 (by kernel_rfl)
    have hb315 : Below B w w311 := Below.trans hb273 hB312
    have hL316 : B ≤ w311.heap.size := Nat.le_trans hL274 hB312.size
    refine WL.subk [40] [(40, .int .i64 x302.1)] (by kernel_rfl) ?_
    refine WL.runk 1 [41] [(41, .int .i64 (wI64 (5 * x302.1)))] (by kernel_rfl) ?_
    refine WL.nil ?_
    exact QP.intro (fun k => ([] : List (Option Addr × Nat)).getD k (none, 0)) (d := 41) (by kernel_rfl) (by kernel_rfl) (Below.refl _ _) hS314 (by kernel_rfl)
  intro g276 w317 hB318 hS319
  have hS320 : SH w317 B (aBox 35 (g24 9 0).2 [.string (bs name_1), .int .i64 x83, .int .i64 x183, .int .i64 x257, .int .i64 0, .int .i64 0] :: aBox 35 b10 [.string (bs []), .int .i64 0, .int .i64 0, .int .i64 0, .int .i64 0, .int .i64 0] :: aBox 62 b2 [.int .i64 f_2.Length, .int .i64 f_2.Ball, .int .i64 f_2.Instep, .int .i64 f_2.Heel] :: aBox 83 b0' [.slice a0_code' s_0_code.length c0_code', .int .i64 x302.2.1, .int .u64 x302.2.2] :: L) := memEq hS319 (by kernel_rfl)
  have hb321 : Below B w w317 := Below.trans hb273 hB318
  have hL322 : B ≤ w317.heap.size := Nat.le_trans hL274 hB318.size
  refine WQ.subk [0, 6, 7, 38, 41] [(0, .pointer (some ⟨b0', 0, none⟩)), (6, .pointer (some ⟨b10, 0, none⟩)), (7, .pointer (some ⟨(g24 9 0).2, 0, none⟩)), (38, .int .i64 f_2.Heel), (41, .int .i64 (wI64 (5 * x302.1)))] (by kernel_rfl) ?_
  refine WA.one (i := 5) (D' := [0, 1, 2, 3, 4, 5]) rfl rfl (by kernel_rfl) ?_
  refine WL.runk 1 [0, 6, 7, 42, 43, 44, 45, 46] [(0, .pointer (some ⟨b0', 0, none⟩)), (6, .pointer (some ⟨b10, 0, none⟩)), (7, .pointer (some ⟨(g24 9 0).2, 0, none⟩)), (42, .int .i64 (wI64 (f_2.Heel + (wI64 (5 * x302.1)))))] (by kernel_rfl) ?_
  refine WL.nil ?_
  refine WA.one (i := 6) (D' := [0, 1, 2, 3, 4, 5, 6]) rfl rfl (by kernel_rfl) ?_
  refine WL.runk 1 [0, 6, 7, 43, 44, 45, 46] [(0, .pointer (some ⟨b0', 0, none⟩)), (6, .pointer (some ⟨b10, 0, none⟩)), (7, .pointer (some ⟨(g24 9 0).2, 0, none⟩)), (43, .int .i64 (wI64 ((wI64 (f_2.Heel + (wI64 (5 * x302.1)))) - 100)))] (by kernel_rfl) ?_
  refine WL.nil ?_
  refine WA.one (i := 7) (D' := [0, 1, 2, 3, 4, 5, 6, 7]) rfl rfl (by kernel_rfl) ?_
  obtain ⟨x323, hx324, hm⟩ := bindE hm
  refine WL.call 54 #[.int .i64 500, .int .i64 (wI64 ((wI64 (f_2.Heel + (wI64 (5 * x302.1)))) - 100))] rfl rfl (by kernel_rfl) (c_54 n 500 (wI64 ((wI64 (f_2.Heel + (wI64 (5 * x302.1)))) - 100)) w317 hx324 ) ?_
  rintro _ w325 ⟨rfl, hE326⟩
  refine ⟨_, rfl, ?_⟩
  have hb328 : Below B w w325 := Below.trans hb321 (Below.mono hE326 hL322)
  have hL329 : B ≤ w325.heap.size := Nat.le_trans hL322 hE326.size
  have hS330 : SH w325 B (aBox 35 (g24 9 0).2 [.string (bs name_1), .int .i64 x83, .int .i64 x183, .int .i64 x257, .int .i64 0, .int .i64 0] :: aBox 35 b10 [.string (bs []), .int .i64 0, .int .i64 0, .int .i64 0, .int .i64 0, .int .i64 0] :: aBox 62 b2 [.int .i64 f_2.Length, .int .i64 f_2.Ball, .int .i64 f_2.Instep, .int .i64 f_2.Heel] :: aBox 83 b0' [.slice a0_code' s_0_code.length c0_code', .int .i64 x302.2.1, .int .u64 x302.2.2] :: L) := SH.ext hS320 hE326
  refine WL.sub [(0, .pointer (some ⟨b0', 0, none⟩)), (6, .pointer (some ⟨b10, 0, none⟩)), (7, .pointer (some ⟨(g24 9 0).2, 0, none⟩)), (44, .int .i64 x323)] ⟨rfl, rfl, rfl, rfl, trivial⟩ ?_
  refine WL.nil ?_
  refine WA.one (i := 8) (D' := [0, 1, 2, 3, 4, 5, 6, 7, 8]) rfl rfl (by kernel_rfl) ?_
  obtain ⟨x331, hx332, hm⟩ := bindE hm
  refine WL.call 52 #[.int .i64 5000, .int .i64 x323] rfl rfl (by kernel_rfl) (c_52 n 5000 x323 w325 hx332 ) ?_
  rintro _ w333 ⟨rfl, hE334⟩
  refine ⟨_, rfl, ?_⟩
  have hb336 : Below B w w333 := Below.trans hb328 (Below.mono hE334 hL329)
  have hL337 : B ≤ w333.heap.size := Nat.le_trans hL329 hE334.size
  have hS338 : SH w333 B (aBox 35 (g24 9 0).2 [.string (bs name_1), .int .i64 x83, .int .i64 x183, .int .i64 x257, .int .i64 0, .int .i64 0] :: aBox 35 b10 [.string (bs []), .int .i64 0, .int .i64 0, .int .i64 0, .int .i64 0, .int .i64 0] :: aBox 62 b2 [.int .i64 f_2.Length, .int .i64 f_2.Ball, .int .i64 f_2.Instep, .int .i64 f_2.Heel] :: aBox 83 b0' [.slice a0_code' s_0_code.length c0_code', .int .i64 x302.2.1, .int .u64 x302.2.2] :: L) := SH.ext hS330 hE334
  refine WL.sub [(0, .pointer (some ⟨b0', 0, none⟩)), (6, .pointer (some ⟨b10, 0, none⟩)), (7, .pointer (some ⟨(g24 9 0).2, 0, none⟩)), (45, .int .i64 x331)] ⟨rfl, rfl, rfl, rfl, trivial⟩ ?_
  refine WL.nil ?_
  refine WA.one (i := 9) (D' := [0, 1, 2, 3, 4, 5, 6, 7, 8, 9]) rfl rfl (by kernel_rfl) ?_
  refine WL.runk 1 [0, 6, 7, 45, 46] [(0, .pointer (some ⟨b0', 0, none⟩)), (6, .pointer (some ⟨b10, 0, none⟩)), (7, .pointer (some ⟨(g24 9 0).2, 0, none⟩)), (45, .int .i64 x331), (46, .pointer (some ⟨(g24 9 0).2, 4, none⟩))] (by kernel_rfl) ?_
  refine WL.nil ?_
  refine WA.one (i := 10) (D' := [0, 1, 2, 3, 4, 5, 6, 7, 8, 9, 10]) rfl rfl (by kernel_rfl) ?_
  refine WL.boxStore 4 [.int .i64 x331] [.string (bs name_1), .int .i64 x83, .int .i64 x183, .int .i64 x257, .int .i64 x331, .int .i64 0] (SH.front 0 hS338) hL337 rfl rfl rfl rfl rfl rfl rfl (info2).1 (info2).2.1 rfl rfl rfl ?_
  intro w339 hB340 hS341
  have hb342 : Below B w w339 := Below.trans hb336 hB340
  have hL343 : B ≤ w339.heap.size := Nat.le_trans hL337 hB340.size
  refine WL.sub [(0, .pointer (some ⟨b0', 0, none⟩)), (6, .pointer (some ⟨b10, 0, none⟩)), (7, .pointer (some ⟨(g24 9 0).2, 0, none⟩))] ⟨rfl, rfl, rfl, trivial⟩ ?_
  refine WL.nil ?_
  refine WA.done (by kernel_rfl) ?_
  refine WQ.then_normal (hK270 _ _ _ ?_)
  refine WP.seq (fun K344 hK344 => ?_)
  refine WP.region ?_
  refine WL.runk 1 [6, 7, 47] [(6, .pointer (some ⟨b10, 0, none⟩)), (7, .pointer (some ⟨(g24 9 0).2, 0, none⟩)), (47, .pointer (some ⟨b0', 0, none⟩))] (by kernel_rfl) ?_
  obtain ⟨x345, hx346, hm⟩ := bindE hm
  refine WL.call 53 #[.pointer (some ⟨b0', 0, none⟩), .int .i64 60] rfl rfl (by kernel_rfl) (c_53 n s_0_code a0_code' c0_code' x302.2.1 x302.2.2 b0' 60 w339 w0 B (aBox 35 (g24 9 0).2 [.string (bs name_1), .int .i64 x83, .int .i64 x183, .int .i64 x257, .int .i64 x331, .int .i64 0] :: aBox 35 b10 [.string (bs []), .int .i64 0, .int .i64 0, .int .i64 0, .int .i64 0, .int .i64 0] :: aBox 62 b2 [.int .i64 f_2.Length, .int .i64 f_2.Ball, .int .i64 f_2.Instep, .int .i64 f_2.Heel] :: L) hx346 (Below.trans hE0 (Below.mono hb342 hW)) hW hL343 h0_code hle0_code (SH.front 3 (SH.front 2 (SH.front 2 (SH.front 2 hS341))))) ?_
  rintro _ w347 ⟨rfl, hB351, hS350⟩
  refine ⟨_, rfl, ?_⟩
  have hb352 : Below B w w347 := Below.trans hb342 hB351
  have hL353 : B ≤ w347.heap.size := Nat.le_trans hL343 hB351.size
  refine WL.runk 2 [6, 7, 49, 50] [(6, .pointer (some ⟨b10, 0, none⟩)), (7, .pointer (some ⟨(g24 9 0).2, 0, none⟩)), (49, .int .i64 (wI64 (10 * x345.1))), (50, .pointer (some ⟨(g24 9 0).2, 5, none⟩))] (by kernel_rfl) ?_
  refine WL.boxStore 5 [.int .i64 (wI64 (10 * x345.1))] [.string (bs name_1), .int .i64 x83, .int .i64 x183, .int .i64 x257, .int .i64 x331, .int .i64 (wI64 (10 * x345.1))] (SH.front 1 hS350) hL353 rfl rfl rfl rfl rfl rfl rfl (info2).1 (info2).2.1 rfl rfl rfl ?_
  intro w354 hB355 hS356
  have hb357 : Below B w w354 := Below.trans hb352 hB355
  have hL358 : B ≤ w354.heap.size := Nat.le_trans hL353 hB355.size
  refine WL.sub [(6, .pointer (some ⟨b10, 0, none⟩)), (7, .pointer (some ⟨(g24 9 0).2, 0, none⟩))] ⟨rfl, rfl, trivial⟩ ?_
  refine WL.nil ?_
  refine WQ.then_normal (hK344 _ _ _ ?_)
  refine WP.seq (fun K359 hK359 => ?_)
  refine WP.region ?_
  refine WL.st (.agg #[.string (bs name_1), .int .i64 x83, .int .i64 x183, .int .i64 x257, .int .i64 x331, .int .i64 (wI64 (10 * x345.1))]) (ST.loadAgg (vs := [.string (bs name_1), .int .i64 x83, .int .i64 x183, .int .i64 x257, .int .i64 x331, .int .i64 (wI64 (10 * x345.1))]) (fun j v hv => SH.boxPart (us := [.string (bs name_1), .int .i64 x83, .int .i64 x183, .int .i64 x257, .int .i64 x331, .int .i64 (wI64 (10 * x345.1))]) (SH.front 0 hS356) 0 rfl j v hv) rfl rfl rfl Tryd.underlying35 rfl (info35).1 (info35).2.1) rfl rfl rfl ?_
  refine WL.boxStore 0 [.string (bs name_1), .int .i64 x83, .int .i64 x183, .int .i64 x257, .int .i64 x331, .int .i64 (wI64 (10 * x345.1))] [.string (bs name_1), .int .i64 x83, .int .i64 x183, .int .i64 x257, .int .i64 x331, .int .i64 (wI64 (10 * x345.1))] (SH.front 2 hS356) hL358 rfl rfl rfl rfl rfl rfl rfl (info35).1 (info35).2.1 rfl rfl rfl ?_
  intro w360 hB361 hS362
  have hb363 : Below B w w360 := Below.trans hb357 hB361
  have hL364 : B ≤ w360.heap.size := Nat.le_trans hL358 hB361.size
  refine WL.sub [(6, .pointer (some ⟨b10, 0, none⟩))] ⟨rfl, trivial⟩ ?_
  refine WL.nil ?_
  refine WQ.then_normal (hK359 _ _ _ ?_)
  refine WP.ret ?_
  obtain rfl := Option.some.inj hm
  exact WQ.retv1 _ rfl (RVal.box (SH.front 0 hS362) rfl Tryd.underlying35 rfl (info35).1 (info35).2.1) ⟨rfl, hb363, (SH.cutOut 1 3 (SH.front 2 hS362))⟩

theorem c_34 (n : Nat) (s_0_code : List Int) (a0_code' : Option Addr) (c0_code' : Nat) (s_0_at_ : Int) (s_0_seed : Int) (b0' : Nat) (w : World) (w0 : World) (B : Nat) (L : List Asrt) {r : SFoot × Int × Int} (hm : m_spec_l02Draw n s_0_code s_0_at_ s_0_seed = some r) (hE0 : Ext w0 w) (hW : w0.heap.size ≤ B) (hL : B ≤ w.heap.size) (h0_code : Rd fU8.ty w0 a0_code' s_0_code) (hle0_code : s_0_code.length ≤ c0_code') (hS : SH w B (aBox 83 b0' [.slice a0_code' s_0_code.length c0_code', .int .i64 s_0_at_, .int .u64 s_0_seed] :: L)) :
    CallV Tryd.prog 34 #[.pointer (some ⟨b0', 0, none⟩)] w (fun v w' => v = .agg #[.int .i64 r.1.Length, .int .i64 r.1.Ball, .int .i64 r.1.Instep, .int .i64 r.1.Heel] ∧ Below B w w' ∧ SH w' B (aBox 83 b0' [.slice a0_code' s_0_code.length c0_code', .int .i64 r.2.1, .int .u64 r.2.2] :: L)) := by
  unfold m_spec_l02Draw at hm
  refine CallV.enter Tryd.func34 rfl (by kernel_rfl) Tryd.ntmps34 (env := [(0, .pointer (some ⟨b0', 0, none⟩))]) ⟨rfl, trivial⟩ ?_
  refine WP.seq (fun K1 hK1 => ?_)
  refine WP.region ?_
  refine WL.box 62 [.int .i64 0, .int .i64 0, .int .i64 0, .int .i64 0] 2 (by kernel_rfl) rfl rfl rfl rfl ?_
  intro b2 w3 hE4 hR5
  have hb7 : Below B w w3 := Below.trans (Below.refl _ _) (Below.mono hE4 hL)
  have hL8 : B ≤ w3.heap.size := Nat.le_trans hL hE4.size
  have hS9 : SH w3 B (aBox 62 b2 [.int .i64 0, .int .i64 0, .int .i64 0, .int .i64 0] :: aBox 83 b0' [.slice a0_code' s_0_code.length c0_code', .int .i64 s_0_at_, .int .u64 s_0_seed] :: L) := SH.add hS hE4 hL hR5
  refine WL.sub [(0, .pointer (some ⟨b0', 0, none⟩)), (2, .pointer (some ⟨b2, 0, none⟩))] ⟨rfl, rfl, trivial⟩ ?_
  refine WL.nil ?_
  refine WQ.then_normal (hK1 _ _ _ ?_)
  refine WP.seq (fun K10 hK10 => ?_)
  refine WP.region ?_
  refine WL.runk 1 [0, 2, 4] [(0, .pointer (some ⟨b0', 0, none⟩)), (2, .pointer (some ⟨b2, 0, none⟩)), (4, .pointer (some ⟨b0', 0, none⟩))] (by kernel_rfl) ?_
  obtain ⟨x11, hx12, hm⟩ := bindE hm
  refine WL.call 53 #[.pointer (some ⟨b0', 0, none⟩), .int .i64 130] rfl rfl (by kernel_rfl) (c_53 n s_0_code a0_code' c0_code' s_0_at_ s_0_seed b0' 130 w3 w0 B (aBox 62 b2 [.int .i64 0, .int .i64 0, .int .i64 0, .int .i64 0] :: L) hx12 (Below.trans hE0 (Below.mono hb7 hW)) hW hL8 h0_code hle0_code (SH.front 1 hS9)) ?_
  rintro _ w13 ⟨rfl, hB17, hS16⟩
  refine ⟨_, rfl, ?_⟩
  have hb18 : Below B w w13 := Below.trans hb7 hB17
  have hL19 : B ≤ w13.heap.size := Nat.le_trans hL8 hB17.size
  refine WL.runk 3 [0, 2, 8] [(0, .pointer (some ⟨b0', 0, none⟩)), (2, .pointer (some ⟨b2, 0, none⟩)), (8, .agg #[.int .i64 (wI64 (2200 + (wI64 (5 * x11.1)))), .int .i64 0, .int .i64 0, .int .i64 0])] (by kernel_rfl) ?_
  refine WL.box 62 [.int .i64 0, .int .i64 0, .int .i64 0, .int .i64 0] 3 (by kernel_rfl) rfl rfl rfl rfl ?_
  intro b20 w21 hE22 hR23
  have hb25 : Below B w w21 := Below.trans hb18 (Below.mono hE22 hL19)
  have hL26 : B ≤ w21.heap.size := Nat.le_trans hL19 hE22.size
  have hS27 : SH w21 B (aBox 62 b20 [.int .i64 0, .int .i64 0, .int .i64 0, .int .i64 0] :: aBox 83 b0' [.slice a0_code' s_0_code.length c0_code', .int .i64 x11.2.1, .int .u64 x11.2.2] :: aBox 62 b2 [.int .i64 0, .int .i64 0, .int .i64 0, .int .i64 0] :: L) := SH.add hS16 hE22 hL19 hR23
  refine WL.boxStore 0 [.int .i64 (wI64 (2200 + (wI64 (5 * x11.1)))), .int .i64 0, .int .i64 0, .int .i64 0] [.int .i64 (wI64 (2200 + (wI64 (5 * x11.1)))), .int .i64 0, .int .i64 0, .int .i64 0] (SH.front 0 hS27) hL26 rfl rfl rfl rfl rfl rfl rfl (info62).1 (info62).2.1 rfl rfl rfl ?_
  intro w28 hB29 hS30
  have hb31 : Below B w w28 := Below.trans hb25 hB29
  have hL32 : B ≤ w28.heap.size := Nat.le_trans hL26 hB29.size
  refine WL.sub [(0, .pointer (some ⟨b0', 0, none⟩)), (2, .pointer (some ⟨b2, 0, none⟩)), (3, .pointer (some ⟨b20, 0, none⟩))] ⟨rfl, rfl, rfl, trivial⟩ ?_
  refine WL.nil ?_
  refine WQ.then_normal (hK10 _ _ _ ?_)
  refine WP.seq (fun K33 hK33 => ?_)
  refine WP.region ?_
  refine WL.runk 1 [0, 2, 3, 9] [(0, .pointer (some ⟨b0', 0, none⟩)), (2, .pointer (some ⟨b2, 0, none⟩)), (3, .pointer (some ⟨b20, 0, none⟩)), (9, .pointer (some ⟨b0', 0, none⟩))] (by kernel_rfl) ?_
  obtain ⟨x34, hx35, hm⟩ := bindE hm
  refine WL.call 53 #[.pointer (some ⟨b0', 0, none⟩), .int .i64 100] rfl rfl (by kernel_rfl) (c_53 n s_0_code a0_code' c0_code' x11.2.1 x11.2.2 b0' 100 w28 w0 B (aBox 62 b20 [.int .i64 (wI64 (2200 + (wI64 (5 * x11.1)))), .int .i64 0, .int .i64 0, .int .i64 0] :: aBox 62 b2 [.int .i64 0, .int .i64 0, .int .i64 0, .int .i64 0] :: L) hx35 (Below.trans hE0 (Below.mono hb31 hW)) hW hL32 h0_code hle0_code (SH.front 2 (SH.front 1 (SH.front 2 hS30)))) ?_
  rintro _ w36 ⟨rfl, hB40, hS39⟩
  refine ⟨_, rfl, ?_⟩
  have hb41 : Below B w w36 := Below.trans hb31 hB40
  have hL42 : B ≤ w36.heap.size := Nat.le_trans hL32 hB40.size
  refine WL.runk 3 [0, 2, 3, 12, 13] [(0, .pointer (some ⟨b0', 0, none⟩)), (2, .pointer (some ⟨b2, 0, none⟩)), (3, .pointer (some ⟨b20, 0, none⟩)), (12, .int .i64 (wI64 (2100 + (wI64 (5 * x34.1))))), (13, .pointer (some ⟨b20, 1, none⟩))] (by kernel_rfl) ?_
  refine WL.boxStore 1 [.int .i64 (wI64 (2100 + (wI64 (5 * x34.1))))] [.int .i64 (wI64 (2200 + (wI64 (5 * x11.1)))), .int .i64 (wI64 (2100 + (wI64 (5 * x34.1)))), .int .i64 0, .int .i64 0] (SH.front 1 hS39) hL42 rfl rfl rfl rfl rfl rfl rfl (info2).1 (info2).2.1 rfl rfl rfl ?_
  intro w43 hB44 hS45
  have hb46 : Below B w w43 := Below.trans hb41 hB44
  have hL47 : B ≤ w43.heap.size := Nat.le_trans hL42 hB44.size
  refine WL.sub [(0, .pointer (some ⟨b0', 0, none⟩)), (2, .pointer (some ⟨b2, 0, none⟩)), (3, .pointer (some ⟨b20, 0, none⟩))] ⟨rfl, rfl, rfl, trivial⟩ ?_
  refine WL.nil ?_
  refine WQ.then_normal (hK33 _ _ _ ?_)
  refine WP.seq (fun K48 hK48 => ?_)
  refine WP.region ?_
  refine WL.runk 1 [0, 2, 3, 14] [(0, .pointer (some ⟨b0', 0, none⟩)), (2, .pointer (some ⟨b2, 0, none⟩)), (3, .pointer (some ⟨b20, 0, none⟩)), (14, .pointer (some ⟨b0', 0, none⟩))] (by kernel_rfl) ?_
  obtain ⟨x49, hx50, hm⟩ := bindE hm
  refine WL.call 53 #[.pointer (some ⟨b0', 0, none⟩), .int .i64 100] rfl rfl (by kernel_rfl) (c_53 n s_0_code a0_code' c0_code' x34.2.1 x34.2.2 b0' 100 w43 w0 B (aBox 62 b20 [.int .i64 (wI64 (2200 + (wI64 (5 * x11.1)))), .int .i64 (wI64 (2100 + (wI64 (5 * x34.1)))), .int .i64 0, .int .i64 0] :: aBox 62 b2 [.int .i64 0, .int .i64 0, .int .i64 0, .int .i64 0] :: L) hx50 (Below.trans hE0 (Below.mono hb46 hW)) hW hL47 h0_code hle0_code (SH.front 2 (SH.front 1 (SH.front 2 hS45)))) ?_
  rintro _ w51 ⟨rfl, hB55, hS54⟩
  refine ⟨_, rfl, ?_⟩
  have hb56 : Below B w w51 := Below.trans hb46 hB55
  have hL57 : B ≤ w51.heap.size := Nat.le_trans hL47 hB55.size
  refine WL.runk 3 [0, 2, 3, 17, 18] [(0, .pointer (some ⟨b0', 0, none⟩)), (2, .pointer (some ⟨b2, 0, none⟩)), (3, .pointer (some ⟨b20, 0, none⟩)), (17, .int .i64 (wI64 (2200 + (wI64 (5 * x49.1))))), (18, .pointer (some ⟨b20, 2, none⟩))] (by kernel_rfl) ?_
  refine WL.boxStore 2 [.int .i64 (wI64 (2200 + (wI64 (5 * x49.1))))] [.int .i64 (wI64 (2200 + (wI64 (5 * x11.1)))), .int .i64 (wI64 (2100 + (wI64 (5 * x34.1)))), .int .i64 (wI64 (2200 + (wI64 (5 * x49.1)))), .int .i64 0] (SH.front 1 hS54) hL57 rfl rfl rfl rfl rfl rfl rfl (info2).1 (info2).2.1 rfl rfl rfl ?_
  intro w58 hB59 hS60
  have hb61 : Below B w w58 := Below.trans hb56 hB59
  have hL62 : B ≤ w58.heap.size := Nat.le_trans hL57 hB59.size
  refine WL.sub [(0, .pointer (some ⟨b0', 0, none⟩)), (2, .pointer (some ⟨b2, 0, none⟩)), (3, .pointer (some ⟨b20, 0, none⟩))] ⟨rfl, rfl, rfl, trivial⟩ ?_
  refine WL.nil ?_
  refine WQ.then_normal (hK48 _ _ _ ?_)
  refine WP.seq (fun K63 hK63 => ?_)
  refine WP.region ?_
  refine WL.runk 1 [2, 3, 19] [(2, .pointer (some ⟨b2, 0, none⟩)), (3, .pointer (some ⟨b20, 0, none⟩)), (19, .pointer (some ⟨b0', 0, none⟩))] (by kernel_rfl) ?_
  obtain ⟨x64, hx65, hm⟩ := bindE hm
  refine WL.call 53 #[.pointer (some ⟨b0', 0, none⟩), .int .i64 100] rfl rfl (by kernel_rfl) (c_53 n s_0_code a0_code' c0_code' x49.2.1 x49.2.2 b0' 100 w58 w0 B (aBox 62 b20 [.int .i64 (wI64 (2200 + (wI64 (5 * x11.1)))), .int .i64 (wI64 (2100 + (wI64 (5 * x34.1)))), .int .i64 (wI64 (2200 + (wI64 (5 * x49.1)))), .int .i64 0] :: aBox 62 b2 [.int .i64 0, .int .i64 0, .int .i64 0, .int .i64 0] :: L) hx65 (Below.trans hE0 (Below.mono hb61 hW)) hW hL62 h0_code hle0_code (SH.front 2 (SH.front 1 (SH.front 2 hS60)))) ?_
  rintro _ w66 ⟨rfl, hB70, hS69⟩
  refine ⟨_, rfl, ?_⟩
  have hb71 : Below B w w66 := Below.trans hb61 hB70
  have hL72 : B ≤ w66.heap.size := Nat.le_trans hL62 hB70.size
  refine WL.runk 3 [2, 3, 22, 23] [(2, .pointer (some ⟨b2, 0, none⟩)), (3, .pointer (some ⟨b20, 0, none⟩)), (22, .int .i64 (wI64 (3000 + (wI64 (5 * x64.1))))), (23, .pointer (some ⟨b20, 3, none⟩))] (by kernel_rfl) ?_
  refine WL.boxStore 3 [.int .i64 (wI64 (3000 + (wI64 (5 * x64.1))))] [.int .i64 (wI64 (2200 + (wI64 (5 * x11.1)))), .int .i64 (wI64 (2100 + (wI64 (5 * x34.1)))), .int .i64 (wI64 (2200 + (wI64 (5 * x49.1)))), .int .i64 (wI64 (3000 + (wI64 (5 * x64.1))))] (SH.front 1 hS69) hL72 rfl rfl rfl rfl rfl rfl rfl (info2).1 (info2).2.1 rfl rfl rfl ?_
  intro w73 hB74 hS75
  have hb76 : Below B w w73 := Below.trans hb71 hB74
  have hL77 : B ≤ w73.heap.size := Nat.le_trans hL72 hB74.size
  refine WL.sub [(2, .pointer (some ⟨b2, 0, none⟩)), (3, .pointer (some ⟨b20, 0, none⟩))] ⟨rfl, rfl, trivial⟩ ?_
  refine WL.nil ?_
  refine WQ.then_normal (hK63 _ _ _ ?_)
  refine WP.seq (fun K78 hK78 => ?_)
  refine WP.region ?_
  refine WL.st (.agg #[.int .i64 (wI64 (2200 + (wI64 (5 * x11.1)))), .int .i64 (wI64 (2100 + (wI64 (5 * x34.1)))), .int .i64 (wI64 (2200 + (wI64 (5 * x49.1)))), .int .i64 (wI64 (3000 + (wI64 (5 * x64.1))))]) (ST.loadAgg (vs := [.int .i64 (wI64 (2200 + (wI64 (5 * x11.1)))), .int .i64 (wI64 (2100 + (wI64 (5 * x34.1)))), .int .i64 (wI64 (2200 + (wI64 (5 * x49.1)))), .int .i64 (wI64 (3000 + (wI64 (5 * x64.1))))]) (fun j v hv => SH.boxPart (us := [.int .i64 (wI64 (2200 + (wI64 (5 * x11.1)))), .int .i64 (wI64 (2100 + (wI64 (5 * x34.1)))), .int .i64 (wI64 (2200 + (wI64 (5 * x49.1)))), .int .i64 (wI64 (3000 + (wI64 (5 * x64.1))))]) (SH.front 0 hS75) 0 rfl j v hv) rfl rfl rfl Tryd.underlying62 rfl (info62).1 (info62).2.1) rfl rfl rfl ?_
  refine WL.boxStore 0 [.int .i64 (wI64 (2200 + (wI64 (5 * x11.1)))), .int .i64 (wI64 (2100 + (wI64 (5 * x34.1)))), .int .i64 (wI64 (2200 + (wI64 (5 * x49.1)))), .int .i64 (wI64 (3000 + (wI64 (5 * x64.1))))] [.int .i64 (wI64 (2200 + (wI64 (5 * x11.1)))), .int .i64 (wI64 (2100 + (wI64 (5 * x34.1)))), .int .i64 (wI64 (2200 + (wI64 (5 * x49.1)))), .int .i64 (wI64 (3000 + (wI64 (5 * x64.1))))] (SH.front 2 hS75) hL77 rfl rfl rfl rfl rfl rfl rfl (info62).1 (info62).2.1 rfl rfl rfl ?_
  intro w79 hB80 hS81
  have hb82 : Below B w w79 := Below.trans hb76 hB80
  have hL83 : B ≤ w79.heap.size := Nat.le_trans hL77 hB80.size
  refine WL.sub [(2, .pointer (some ⟨b2, 0, none⟩))] ⟨rfl, trivial⟩ ?_
  refine WL.nil ?_
  refine WQ.then_normal (hK78 _ _ _ ?_)
  refine WP.ret ?_
  obtain rfl := Option.some.inj hm
  exact WQ.retv1 _ rfl (RVal.box (SH.front 0 hS81) rfl Tryd.underlying62 rfl (info62).1 (info62).2.1) ⟨rfl, hb82, (SH.cutOut 1 2 (SH.front 2 hS81))⟩

theorem c_13 (n : Nat) (code_0 : List Int) (a0' : Option Addr) (c0' : Nat) (w : World) {r : SLast} (hm : m_spec_A2Last n code_0 = some r) (h0 : Rd fU8.ty w a0' code_0) (hle0 : code_0.length ≤ c0') :
    CallV Tryd.prog 13 #[.slice a0' code_0.length c0'] w (fun v w' => v = .agg #[.string (bs r.Name), .int .i64 r.Length, .int .i64 r.Ball, .int .i64 r.Instep, .int .i64 r.Heel, .int .i64 r.Pitch] ∧ Ext w w') := by
  unfold m_spec_A2Last at hm
  refine CallV.enter Tryd.func13 rfl (by kernel_rfl) Tryd.ntmps13 (env := [(0, .slice a0' code_0.length c0')]) ⟨rfl, trivial⟩ ?_
  refine WP.seq (fun K1 hK1 => ?_)
  refine WP.region ?_
  refine WL.box 35 [.string (bs []), .int .i64 0, .int .i64 0, .int .i64 0, .int .i64 0, .int .i64 0] 2 (by kernel_rfl) rfl rfl rfl rfl ?_
  intro b2 w3 hE4 hR5
  have hb7 : Ext w w3 := Ext.trans (Ext.refl w) hE4
  have hL8 : w.heap.size ≤ w3.heap.size := Nat.le_trans (Nat.le_refl _) hE4.size
  have hS9 : SH w3 w.heap.size [aBox 35 b2 [.string (bs []), .int .i64 0, .int .i64 0, .int .i64 0, .int .i64 0, .int .i64 0]] := SH.add (SH.nil _ _) hE4 (Nat.le_refl _) hR5
  refine WL.sub [(0, .slice a0' code_0.length c0'), (2, .pointer (some ⟨b2, 0, none⟩))] ⟨rfl, rfl, trivial⟩ ?_
  refine WL.nil ?_
  refine WQ.then_normal (hK1 _ _ _ ?_)
  refine WP.seq (fun K10 hK10 => ?_)
  refine WP.region ?_
  refine WL.runk 1 [2, 4] [(2, .pointer (some ⟨b2, 0, none⟩)), (4, .slice a0' code_0.length c0')] (by kernel_rfl) ?_
  obtain ⟨x11, hx12, hm⟩ := bindE hm
  refine WL.call 32 #[.slice a0' code_0.length c0'] rfl rfl (by kernel_rfl) (c_32 n code_0 a0' c0' w3 hx12 (Rd.below h0 hb7) hle0) ?_
  rintro _ w15 ⟨b13, rfl, hE16, hR17⟩
  refine ⟨_, rfl, ?_⟩
  have hb18 : Ext w w15 := Ext.trans hb7 hE16
  have hL19 : w.heap.size ≤ w15.heap.size := Nat.le_trans hL8 hE16.size
  have hS20 : SH w15 w.heap.size [aBox 83 b13 [.slice a0' code_0.length c0', .int .i64 x11.1, .int .u64 x11.2], aBox 35 b2 [.string (bs []), .int .i64 0, .int .i64 0, .int .i64 0, .int .i64 0, .int .i64 0]] := SH.add hS9 hE16 hL8 hR17
  refine WL.runk 1 [2, 3] [(2, .pointer (some ⟨b2, 0, none⟩)), (3, .pointer (some ⟨b13, 0, none⟩))] (by kernel_rfl) ?_
  refine WL.nil ?_
  refine WQ.then_normal (hK10 _ _ _ ?_)
  refine WP.seq (fun K21 hK21 => ?_)
  refine WP.region ?_
  refine WL.runk 2 [2, 6, 7] [(2, .pointer (some ⟨b2, 0, none⟩)), (6, .pointer (some ⟨b13, 0, none⟩)), (7, .pointer (some ⟨b13, 0, none⟩))] (by kernel_rfl) ?_
  obtain ⟨x22, hx23, hm⟩ := bindE hm
  refine WL.call 34 #[.pointer (some ⟨b13, 0, none⟩)] rfl rfl (by kernel_rfl) (c_34 n code_0 a0' c0' x11.1 x11.2 b13 w15 w w.heap.size [aBox 35 b2 [.string (bs []), .int .i64 0, .int .i64 0, .int .i64 0, .int .i64 0, .int .i64 0]] hx23 hb18 (Nat.le_refl _) hL19 h0 hle0 hS20) ?_
  rintro _ w24 ⟨rfl, hB28, hS27⟩
  refine ⟨_, rfl, ?_⟩
  have hb29 : Ext w w24 := Below.trans hb18 hB28
  have hL30 : w.heap.size ≤ w24.heap.size := Nat.le_trans hL19 hB28.size
  obtain ⟨x31, hx32, hm⟩ := bindE hm
  refine WL.call 33 #[.pointer (some ⟨b13, 0, none⟩), .string (bs [100, 101, 114, 98, 121]), .agg #[.int .i64 x22.1.Length, .int .i64 x22.1.Ball, .int .i64 x22.1.Instep, .int .i64 x22.1.Heel]] rfl rfl (by kernel_rfl) (c_33 n code_0 a0' c0' x22.2.1 x22.2.2 b13 [100, 101, 114, 98, 121] x22.1 w24 w w.heap.size [aBox 35 b2 [.string (bs []), .int .i64 0, .int .i64 0, .int .i64 0, .int .i64 0, .int .i64 0]] hx32 hb29 (Nat.le_refl _) hL30 h0 hle0 hS27) ?_
  rintro _ w33 ⟨rfl, hB37, hS36⟩
  refine ⟨_, rfl, ?_⟩
  have hb38 : Ext w w33 := Below.trans hb29 hB37
  have hL39 : w.heap.size ≤ w33.heap.size := Nat.le_trans hL30 hB37.size
  refine WL.boxStore 0 [.string (bs x31.1.Name), .int .i64 x31.1.Length, .int .i64 x31.1.Ball, .int .i64 x31.1.Instep, .int .i64 x31.1.Heel, .int .i64 x31.1.Pitch] [.string (bs x31.1.Name), .int .i64 x31.1.Length, .int .i64 x31.1.Ball, .int .i64 x31.1.Instep, .int .i64 x31.1.Heel, .int .i64 x31.1.Pitch] (SH.front 1 hS36) hL39 rfl rfl rfl rfl rfl rfl rfl (info35).1 (info35).2.1 rfl rfl rfl ?_
  intro w40 hB41 hS42
  have hb43 : Ext w w40 := Below.trans hb38 hB41
  have hL44 : w.heap.size ≤ w40.heap.size := Nat.le_trans hL39 hB41.size
  refine WL.sub [(2, .pointer (some ⟨b2, 0, none⟩))] ⟨rfl, trivial⟩ ?_
  refine WL.nil ?_
  refine WQ.then_normal (hK21 _ _ _ ?_)
  refine WP.ret ?_
  obtain rfl := Option.some.inj hm
  exact WQ.retv1 _ rfl (RVal.box (SH.front 0 hS42) rfl Tryd.underlying35 rfl (info35).1 (info35).2.1) ⟨rfl, hb43⟩

theorem c_68 (n : Nat) (s_0_code : List Int) (a0_code' : Option Addr) (c0_code' : Nat) (s_0_at_ : Int) (s_0_seed : Int) (b0' : Nat) (n_1 : Int) (w : World) (w0 : World) (B : Nat) (L : List Asrt) {r : Bool × Int × Int} (hm : m_spec_l00Src_one n s_0_code s_0_at_ s_0_seed n_1 = some r) (hE0 : Ext w0 w) (hW : w0.heap.size ≤ B) (hL : B ≤ w.heap.size) (h0_code : Rd fU8.ty w0 a0_code' s_0_code) (hle0_code : s_0_code.length ≤ c0_code') (hS : SH w B (aBox 83 b0' [.slice a0_code' s_0_code.length c0_code', .int .i64 s_0_at_, .int .u64 s_0_seed] :: L)) :
    CallV Tryd.prog 68 #[.pointer (some ⟨b0', 0, none⟩), .int .i64 n_1] w (fun v w' => v = .bool r.1 ∧ Below B w w' ∧ SH w' B (aBox 83 b0' [.slice a0_code' s_0_code.length c0_code', .int .i64 r.2.1, .int .u64 r.2.2] :: L)) := by
  unfold m_spec_l00Src_one at hm
  refine CallV.enter Tryd.func68 rfl (by kernel_rfl) Tryd.ntmps68 (env := [(0, .pointer (some ⟨b0', 0, none⟩)), (1, .int .i64 n_1)]) ⟨rfl, rfl, trivial⟩ ?_
  refine WP.seq (fun K1 hK1 => ?_)
  refine WP.region ?_
  refine WL.runk 1 [0, 1] [(0, .pointer (some ⟨b0', 0, none⟩)), (1, .int .i64 n_1)] (by kernel_rfl) ?_
  refine WL.nil ?_
  refine WQ.then_normal (hK1 _ _ _ ?_)
  refine WP.seq (fun K2 hK2 => ?_)
  refine WP.region ?_
  refine WL.runk 2 [5, 6] [(5, .pointer (some ⟨b0', 0, none⟩)), (6, .int .i64 n_1)] (by kernel_rfl) ?_
  obtain ⟨x3, hx4, hm⟩ := bindE hm
  refine WL.call 53 #[.pointer (some ⟨b0', 0, none⟩), .int .i64 n_1] rfl rfl (by kernel_rfl) (c_53 n s_0_code a0_code' c0_code' s_0_at_ s_0_seed b0' n_1 w w0 B (L) hx4 (Below.trans hE0 (Below.mono (Below.refl _ _) hW)) hW hL h0_code hle0_code hS) ?_
  rintro _ w5 ⟨rfl, hB9, hS8⟩
  refine ⟨_, rfl, ?_⟩
  have hb10 : Below B w w5 := Below.trans (Below.refl _ _) hB9
  have hL11 : B ≤ w5.heap.size := Nat.le_trans hL hB9.size
  refine WL.runk 2 [4] [(4, .bool (x3.1 == 0))] (by kernel_rfl) ?_
  refine WL.nil ?_
  refine WQ.then_normal (hK2 _ _ _ ?_)
  refine WP.ret ?_
  obtain rfl := Option.some.inj hm
  exact WQ.ret1 _ rfl rfl ⟨rfl, hb10, hS8⟩

theorem c_55 (n : Nat) (s_0_code : List Int) (a0_code' : Option Addr) (c0_code' : Nat) (s_0_at_ : Int) (s_0_seed : Int) (b0' : Nat) (w : World) (w0 : World) (B : Nat) (L : List Asrt) {r : SChange × Int × Int} (hm : m_spec_l22New n s_0_code s_0_at_ s_0_seed = some r) (hE0 : Ext w0 w) (hW : w0.heap.size ≤ B) (hL : B ≤ w.heap.size) (h0_code : Rd fU8.ty w0 a0_code' s_0_code) (hle0_code : s_0_code.length ≤ c0_code') (hS : SH w B (aBox 83 b0' [.slice a0_code' s_0_code.length c0_code', .int .i64 s_0_at_, .int .u64 s_0_seed] :: L)) :
    CallV Tryd.prog 55 #[.pointer (some ⟨b0', 0, none⟩)] w (fun v w' => v = .agg #[.int .i64 r.1.Kind, .int .i64 r.1.Amount] ∧ Below B w w' ∧ SH w' B (aBox 83 b0' [.slice a0_code' s_0_code.length c0_code', .int .i64 r.2.1, .int .u64 r.2.2] :: L)) := by
  unfold m_spec_l22New at hm
  refine CallV.enter Tryd.func55 rfl (by kernel_rfl) Tryd.ntmps55 (env := [(0, .pointer (some ⟨b0', 0, none⟩))]) ⟨rfl, trivial⟩ ?_
  refine WP.seq (fun K1 hK1 => ?_)
  refine WP.region ?_
  refine WL.box 25 [.int .i64 0, .int .i64 0] 2 (by kernel_rfl) rfl rfl rfl rfl ?_
  intro b2 w3 hE4 hR5
  have hb7 : Below B w w3 := Below.trans (Below.refl _ _) (Below.mono hE4 hL)
  have hL8 : B ≤ w3.heap.size := Nat.le_trans hL hE4.size
  have hS9 : SH w3 B (aBox 25 b2 [.int .i64 0, .int .i64 0] :: aBox 83 b0' [.slice a0_code' s_0_code.length c0_code', .int .i64 s_0_at_, .int .u64 s_0_seed] :: L) := SH.add hS hE4 hL hR5
  refine WL.sub [(0, .pointer (some ⟨b0', 0, none⟩)), (2, .pointer (some ⟨b2, 0, none⟩))] ⟨rfl, rfl, trivial⟩ ?_
  refine WL.nil ?_
  refine WQ.then_normal (hK1 _ _ _ ?_)
  refine WP.seq (fun K10 hK10 => ?_)
  refine WP.region ?_
  refine WL.runk 1 [0, 2, 4] [(0, .pointer (some ⟨b0', 0, none⟩)), (2, .pointer (some ⟨b2, 0, none⟩)), (4, .pointer (some ⟨b0', 0, none⟩))] (by kernel_rfl) ?_
  obtain ⟨x11, hx12, hm⟩ := bindE hm
  refine WL.call 53 #[.pointer (some ⟨b0', 0, none⟩), .int .i64 5] rfl rfl (by kernel_rfl) (c_53 n s_0_code a0_code' c0_code' s_0_at_ s_0_seed b0' 5 w3 w0 B (aBox 25 b2 [.int .i64 0, .int .i64 0] :: L) hx12 (Below.trans hE0 (Below.mono hb7 hW)) hW hL8 h0_code hle0_code (SH.front 1 hS9)) ?_
  rintro _ w13 ⟨rfl, hB17, hS16⟩
  refine ⟨_, rfl, ?_⟩
  have hb18 : Below B w w13 := Below.trans hb7 hB17
  have hL19 : B ≤ w13.heap.size := Nat.le_trans hL8 hB17.size
  refine WL.runk 2 [0, 2, 7] [(0, .pointer (some ⟨b0', 0, none⟩)), (2, .pointer (some ⟨b2, 0, none⟩)), (7, .agg #[.int .i64 (wI64 (1 + x11.1)), .int .i64 0])] (by kernel_rfl) ?_
  refine WL.box 25 [.int .i64 0, .int .i64 0] 3 (by kernel_rfl) rfl rfl rfl rfl ?_
  intro b20 w21 hE22 hR23
  have hb25 : Below B w w21 := Below.trans hb18 (Below.mono hE22 hL19)
  have hL26 : B ≤ w21.heap.size := Nat.le_trans hL19 hE22.size
  have hS27 : SH w21 B (aBox 25 b20 [.int .i64 0, .int .i64 0] :: aBox 83 b0' [.slice a0_code' s_0_code.length c0_code', .int .i64 x11.2.1, .int .u64 x11.2.2] :: aBox 25 b2 [.int .i64 0, .int .i64 0] :: L) := SH.add hS16 hE22 hL19 hR23
  refine WL.boxStore 0 [.int .i64 (wI64 (1 + x11.1)), .int .i64 0] [.int .i64 (wI64 (1 + x11.1)), .int .i64 0] (SH.front 0 hS27) hL26 rfl rfl rfl rfl rfl rfl rfl (info25).1 (info25).2.1 rfl rfl rfl ?_
  intro w28 hB29 hS30
  have hb31 : Below B w w28 := Below.trans hb25 hB29
  have hL32 : B ≤ w28.heap.size := Nat.le_trans hL26 hB29.size
  refine WL.sub [(0, .pointer (some ⟨b0', 0, none⟩)), (2, .pointer (some ⟨b2, 0, none⟩)), (3, .pointer (some ⟨b20, 0, none⟩))] ⟨rfl, rfl, rfl, trivial⟩ ?_
  refine WL.nil ?_
  refine WQ.then_normal (hK10 _ _ _ ?_)
  refine WP.seq (fun K33 hK33 => ?_)
  refine WP.region ?_
  refine WL.runk 1 [0, 2, 3, 8] [(0, .pointer (some ⟨b0', 0, none⟩)), (2, .pointer (some ⟨b2, 0, none⟩)), (3, .pointer (some ⟨b20, 0, none⟩)), (8, .pointer (some ⟨b0', 0, none⟩))] (by kernel_rfl) ?_
  obtain ⟨x34, hx35, hm⟩ := bindE hm
  refine WL.call 53 #[.pointer (some ⟨b0', 0, none⟩), .int .i64 60] rfl rfl (by kernel_rfl) (c_53 n s_0_code a0_code' c0_code' x11.2.1 x11.2.2 b0' 60 w28 w0 B (aBox 25 b20 [.int .i64 (wI64 (1 + x11.1)), .int .i64 0] :: aBox 25 b2 [.int .i64 0, .int .i64 0] :: L) hx35 (Below.trans hE0 (Below.mono hb31 hW)) hW hL32 h0_code hle0_code (SH.front 2 (SH.front 1 (SH.front 2 hS30)))) ?_
  rintro _ w36 ⟨rfl, hB40, hS39⟩
  refine ⟨_, rfl, ?_⟩
  have hb41 : Below B w w36 := Below.trans hb31 hB40
  have hL42 : B ≤ w36.heap.size := Nat.le_trans hL32 hB40.size
  refine WL.runk 2 [0, 2, 3, 10, 11] [(0, .pointer (some ⟨b0', 0, none⟩)), (2, .pointer (some ⟨b2, 0, none⟩)), (3, .pointer (some ⟨b20, 0, none⟩)), (10, .int .i64 (wI64 (1 + x34.1))), (11, .pointer (some ⟨b20, 1, none⟩))] (by kernel_rfl) ?_
  refine WL.boxStore 1 [.int .i64 (wI64 (1 + x34.1))] [.int .i64 (wI64 (1 + x11.1)), .int .i64 (wI64 (1 + x34.1))] (SH.front 1 hS39) hL42 rfl rfl rfl rfl rfl rfl rfl (info2).1 (info2).2.1 rfl rfl rfl ?_
  intro w43 hB44 hS45
  have hb46 : Below B w w43 := Below.trans hb41 hB44
  have hL47 : B ≤ w43.heap.size := Nat.le_trans hL42 hB44.size
  refine WL.sub [(0, .pointer (some ⟨b0', 0, none⟩)), (2, .pointer (some ⟨b2, 0, none⟩)), (3, .pointer (some ⟨b20, 0, none⟩))] ⟨rfl, rfl, rfl, trivial⟩ ?_
  refine WL.nil ?_
  refine WQ.then_normal (hK33 _ _ _ ?_)
  refine WP.seq (fun K48 hK48 => ?_)
  refine WP.seq (fun K49 hK49 => ?_)
  refine WP.region ?_
  refine WL.runk 1 [2, 3, 12] [(2, .pointer (some ⟨b2, 0, none⟩)), (3, .pointer (some ⟨b20, 0, none⟩)), (12, .pointer (some ⟨b0', 0, none⟩))] (by kernel_rfl) ?_
  obtain ⟨x50, hx51, hm⟩ := bindE hm
  refine WL.call 68 #[.pointer (some ⟨b0', 0, none⟩), .int .i64 2] rfl rfl (by kernel_rfl) (c_68 n s_0_code a0_code' c0_code' x34.2.1 x34.2.2 b0' 2 w43 w0 B (aBox 25 b20 [.int .i64 (wI64 (1 + x11.1)), .int .i64 (wI64 (1 + x34.1))] :: aBox 25 b2 [.int .i64 0, .int .i64 0] :: L) hx51 (Below.trans hE0 (Below.mono hb46 hW)) hW hL47 h0_code hle0_code (SH.front 2 (SH.front 1 (SH.front 2 hS45)))) ?_
  rintro _ w52 ⟨rfl, hB56, hS55⟩
  refine ⟨_, rfl, ?_⟩
  have hb57 : Below B w w52 := Below.trans hb46 hB56
  have hL58 : B ≤ w52.heap.size := Nat.le_trans hL47 hB56.size
  refine WL.sub [(2, .pointer (some ⟨b2, 0, none⟩)), (3, .pointer (some ⟨b20, 0, none⟩)), (13, .bool x50.1)] ⟨rfl, rfl, rfl, trivial⟩ ?_
  refine WL.nil ?_
  refine WQ.then_normal (hK49 _ _ _ ?_)
  obtain ⟨x77, hx78, hm⟩ := bindE hm
  refine WP.cut (fun env' w' => env' = [(2, .pointer (some ⟨b2, 0, none⟩)), (3, .pointer (some ⟨b20, 0, none⟩))] ∧ Below B w w' ∧ B ≤ w'.heap.size ∧ SH w' B (aBox 83 b0' [.slice a0_code' s_0_code.length c0_code', .int .i64 x50.2.1, .int .u64 x50.2.2] :: aBox 25 b20 [.int .i64 (wI64 (1 + x11.1)), .int .i64 x77] :: aBox 25 b2 [.int .i64 0, .int .i64 0] :: L)) ?_ ?_
  rotate_left
  · clear hx78
    rintro _ w84 ⟨rfl, hb85, hL86, hS87⟩
    refine WQ.then_normal (hK48 _ _ _ ?_)
    refine WP.seq (fun K88 hK88 => ?_)
    refine WP.region ?_
    refine WL.st (.agg #[.int .i64 (wI64 (1 + x11.1)), .int .i64 x77]) (ST.loadAgg (vs := [.int .i64 (wI64 (1 + x11.1)), .int .i64 x77]) (fun j v hv => SH.boxPart (us := [.int .i64 (wI64 (1 + x11.1)), .int .i64 x77]) (SH.front 1 hS87) 0 rfl j v hv) rfl rfl rfl Tryd.underlying25 rfl (info25).1 (info25).2.1) rfl rfl rfl ?_
    refine WL.boxStore 0 [.int .i64 (wI64 (1 + x11.1)), .int .i64 x77] [.int .i64 (wI64 (1 + x11.1)), .int .i64 x77] (SH.front 2 hS87) hL86 rfl rfl rfl rfl rfl rfl rfl (info25).1 (info25).2.1 rfl rfl rfl ?_
    intro w89 hB90 hS91
    have hb92 : Below B w w89 := Below.trans hb85 hB90
    have hL93 : B ≤ w89.heap.size := Nat.le_trans hL86 hB90.size
    refine WL.sub [(2, .pointer (some ⟨b2, 0, none⟩))] ⟨rfl, trivial⟩ ?_
    refine WL.nil ?_
    refine WQ.then_normal (hK88 _ _ _ ?_)
    refine WP.ret ?_
    obtain rfl := Option.some.inj hm
    exact WQ.retv1 _ rfl (RVal.box (SH.front 0 hS91) rfl Tryd.underlying25 rfl (info25).1 (info25).2.1) ⟨rfl, hb92, (SH.cutOut 1 2 (SH.front 1 hS91))⟩
  have hm := hx78; clear hx78
  refine WP.cond x50.1 rfl rfl (fun hc59 => ?_) (fun hc59 => ?_)
  rotate_left
  · have hm := iteF hm hc59
    refine WP.skip ?_
    obtain rfl := Option.some.inj hm
    exact WQ.post' ⟨rfl, hb57, hL58, hS55⟩ ⟨rfl, rfl, trivial⟩
  have hm := iteT hm hc59
  refine WP.region ?_
  refine WL.runk 1 [2, 3, 14] [(2, .pointer (some ⟨b2, 0, none⟩)), (3, .pointer (some ⟨b20, 0, none⟩)), (14, .pointer (some ⟨b20, 1, none⟩))] (by kernel_rfl) ?_
  refine WL.st (.int .i64 (wI64 (1 + x34.1))) (ST.load (cell_ext (SH.boxAt (SH.front 1 hS55) 1 _ rfl)) rfl rfl Tryd.underlying2 rfl) rfl rfl rfl ?_
  refine WL.runk 2 [2, 3, 16, 17] [(2, .pointer (some ⟨b2, 0, none⟩)), (3, .pointer (some ⟨b20, 0, none⟩)), (16, .int .i64 (wI64 (0 - (wI64 (1 + x34.1))))), (17, .pointer (some ⟨b20, 1, none⟩))] (by kernel_rfl) ?_
  refine WL.boxStore 1 [.int .i64 (wI64 (0 - (wI64 (1 + x34.1))))] [.int .i64 (wI64 (1 + x11.1)), .int .i64 (wI64 (0 - (wI64 (1 + x34.1))))] (SH.front 1 hS55) hL58 rfl rfl rfl rfl rfl rfl rfl (info2).1 (info2).2.1 rfl rfl rfl ?_
  intro w79 hB80 hS81
  have hb82 : Below B w w79 := Below.trans hb57 hB80
  have hL83 : B ≤ w79.heap.size := Nat.le_trans hL58 hB80.size
  refine WL.sub [(2, .pointer (some ⟨b2, 0, none⟩)), (3, .pointer (some ⟨b20, 0, none⟩))] ⟨rfl, rfl, trivial⟩ ?_
  refine WL.nil ?_
  obtain rfl := Option.some.inj hm
  exact WQ.post' ⟨rfl, hb82, hL83, (SH.front 2 (SH.front 1 (SH.front 2 hS81)))⟩ ⟨rfl, rfl, trivial⟩

theorem c_35 (n : Nat) (s_0_code : List Int) (a0_code' : Option Addr) (c0_code' : Nat) (s_0_at_ : Int) (s_0_seed : Int) (b0' : Nat) (w : World) (w0 : World) (B : Nat) (L : List Asrt) {r : List SChange × Int × Int} (hm : m_spec_l22Draw n s_0_code s_0_at_ s_0_seed = some r) (hE0 : Ext w0 w) (hW : w0.heap.size ≤ B) (hL : B ≤ w.heap.size) (h0_code : Rd fU8.ty w0 a0_code' s_0_code) (hle0_code : s_0_code.length ≤ c0_code') (hS : SH w B (aBox 83 b0' [.slice a0_code' s_0_code.length c0_code', .int .i64 s_0_at_, .int .u64 s_0_seed] :: L)) :
    CallV Tryd.prog 35 #[.pointer (some ⟨b0', 0, none⟩)] w (fun v w' => ∃ (ra0 : Option Addr) (rc0 : Nat), v = .slice ra0 r.1.length rc0 ∧ Below B w w' ∧ SH w' B (aOwn fChange 25 ra0 rc0 r.1 :: aBox 83 b0' [.slice a0_code' s_0_code.length c0_code', .int .i64 r.2.1, .int .u64 r.2.2] :: L)) := by
  unfold m_spec_l22Draw at hm
  refine CallV.enter Tryd.func35 rfl (by kernel_rfl) Tryd.ntmps35 (env := [(0, .pointer (some ⟨b0', 0, none⟩))]) ⟨rfl, trivial⟩ ?_
  refine WP.seq (fun K1 hK1 => ?_)
  refine WP.region ?_
  refine WL.runk 1 [0] [(0, .pointer (some ⟨b0', 0, none⟩))] (by kernel_rfl) ?_
  refine WL.nil ?_
  refine WQ.then_normal (hK1 _ _ _ ?_)
  refine WP.seq (fun K2 hK2 => ?_)
  refine WP.region ?_
  refine WL.row fChange 25 ([] : List SChange) 0 #[] 5 (by kernel_rfl) rfl rfl rfl rfl rfl rfl rfl ?_
  intro a3 c4 w5 hE6 hR7
  have hb9 : Below B w w5 := Below.trans (Below.refl _ _) (Below.mono hE6 hL)
  have hL10 : B ≤ w5.heap.size := Nat.le_trans hL hE6.size
  have hS11 : SH w5 B (aOwn fChange 25 a3 c4 ([] : List SChange) :: aBox 83 b0' [.slice a0_code' s_0_code.length c0_code', .int .i64 s_0_at_, .int .u64 s_0_seed] :: L) := SH.add hS hE6 hL hR7
  refine WL.runk 1 [0, 3] [(0, .pointer (some ⟨b0', 0, none⟩)), (3, .slice a3 (([] : List SChange).length) c4)] (by kernel_rfl) ?_
  refine WL.nil ?_
  refine WQ.then_normal (hK2 _ _ _ ?_)
  refine WP.seq (fun K12 hK12 => ?_)
  refine WP.seq (fun K13 hK13 => ?_)
  refine WP.region ?_
  refine WL.runk 1 [0, 3, 6] [(0, .pointer (some ⟨b0', 0, none⟩)), (3, .slice a3 (([] : List SChange).length) c4), (6, .pointer (some ⟨b0', 0, none⟩))] (by kernel_rfl) ?_
  obtain ⟨x14, hx15, hm⟩ := bindE hm
  refine WL.call 53 #[.pointer (some ⟨b0', 0, none⟩), .int .i64 6] rfl rfl (by kernel_rfl) (c_53 n s_0_code a0_code' c0_code' s_0_at_ s_0_seed b0' 6 w5 w0 B (aOwn fChange 25 a3 c4 ([] : List SChange) :: L) hx15 (Below.trans hE0 (Below.mono hb9 hW)) hW hL10 h0_code hle0_code (SH.front 1 hS11)) ?_
  rintro _ w16 ⟨rfl, hB20, hS19⟩
  refine ⟨_, rfl, ?_⟩
  have hb21 : Below B w w16 := Below.trans hb9 hB20
  have hL22 : B ≤ w16.heap.size := Nat.le_trans hL10 hB20.size
  refine WL.runk 1 [0, 3, 4] [(0, .pointer (some ⟨b0', 0, none⟩)), (3, .slice a3 (([] : List SChange).length) c4), (4, .int .i64 x14.1)] (by kernel_rfl) ?_
  refine WL.nil ?_
  refine WQ.then_normal (hK13 _ _ _ ?_)
  refine WP.block ?_
  obtain ⟨t85, ht86, hm⟩ := bindE hm
  have hmo80 := hm; clear hm
  refine WP.sub [(0, .pointer (some ⟨b0', 0, none⟩)), (3, .slice a3 (([] : List SChange).length) c4), (4, .int .i64 x14.1)] ⟨rfl, rfl, rfl, trivial⟩ ?_
  refine WP.loop (fun n' env' w' => ∃ (st71 : List SChange × Int × Int × Int) (a72 : Option Addr) (c73 : Nat), env' = [(0, .pointer (some ⟨b0', 0, none⟩)), (3, .slice a72 st71.1.length c73), (4, .int .i64 st71.2.1)] ∧ Below B w w' ∧ B ≤ w'.heap.size ∧ SH w' B (aOwn fChange 25 a72 c73 st71.1 :: aBox 83 b0' [.slice a0_code' s_0_code.length c0_code', .int .i64 st71.2.2.1, .int .u64 st71.2.2.2] :: L) ∧ loopN (m_spec_l22Draw_l1 n s_0_code) n' st71 = some t85) n ⟨(([] : List SChange), x14.1, x14.2.1, x14.2.2), _, _, rfl, hb21, hL22, (SH.front 1 hS19), ht86⟩ ?_
  rintro n82 _ w75 ⟨st71, a72, c73, rfl, hb76, hL77, hS78, hl79⟩ K81 hK81
  obtain ⟨n83, s84, rfl, hm, hl79⟩ := loopN_some hl79
  unfold m_spec_l22Draw_l1 at hm
  refine WP.seq (fun K87 hK87 => ?_)
  refine WP.seq (fun K88 hK88 => ?_)
  refine WP.region ?_
  refine WL.runk 2 [0, 3, 4, 9] [(0, .pointer (some ⟨b0', 0, none⟩)), (3, .slice a72 st71.1.length c73), (4, .int .i64 st71.2.1), (9, .bool (decide (st71.2.1 > 0)))] (by kernel_rfl) ?_
  refine WL.nil ?_
  refine WQ.then_normal (hK88 _ _ _ ?_)
  refine WP.cond (decide (st71.2.1 > 0)) rfl rfl (fun hc89 => ?_) (fun hc89 => ?_)
  rotate_left
  · have hm := iteF hm hc89
    refine WP.exit ?_
    refine WQ.then_exit ?_
    refine WQ.then_exit ?_
    refine WQ.block_here ?_
    obtain rfl := Option.some.inj hm
    obtain rfl := afterN_done hl79
    have hm := hmo80
    refine WQ.then_normal (hK12 _ _ _ ?_)
    refine WP.seq (fun K118 hK118 => ?_)
    refine WP.region ?_
    refine WL.runk 2 [2] [(2, .slice a72 st71.1.length c73)] (by kernel_rfl) ?_
    refine WL.nil ?_
    refine WQ.then_normal (hK118 _ _ _ ?_)
    refine WP.ret ?_
    obtain rfl := Option.some.inj hm
    exact WQ.ret1 _ rfl rfl ⟨_, _, rfl, hb76, hS78⟩
  have hm := iteT hm hc89
  refine WP.skip ?_
  refine WQ.then_normal (hK87 _ _ _ ?_)
  refine WP.seq (fun K90 hK90 => ?_)
  refine WP.block ?_
  refine WP.region ?_
  refine WL.runk 2 [0, 4, 12, 13] [(0, .pointer (some ⟨b0', 0, none⟩)), (4, .int .i64 st71.2.1), (12, .slice a72 st71.1.length c73), (13, .pointer (some ⟨b0', 0, none⟩))] (by kernel_rfl) ?_
  obtain ⟨x91, hx92, hm⟩ := bindE hm
  refine WL.call 55 #[.pointer (some ⟨b0', 0, none⟩)] rfl rfl (by kernel_rfl) (c_55 n s_0_code a0_code' c0_code' st71.2.2.1 st71.2.2.2 b0' w75 w0 B (aOwn fChange 25 a72 c73 st71.1 :: L) hx92 (Below.trans hE0 (Below.mono hb76 hW)) hW hL77 h0_code hle0_code (SH.front 1 hS78)) ?_
  rintro _ w93 ⟨rfl, hB97, hS96⟩
  refine ⟨_, rfl, ?_⟩
  have hb98 : Below B w w93 := Below.trans hb76 hB97
  have hL99 : B ≤ w93.heap.size := Nat.le_trans hL77 hB97.size
  refine WL.row fChange 25 ([x91.1] : List SChange) 1 #[.int .i64 x91.1.Kind, .int .i64 x91.1.Amount] 15 (by kernel_rfl) rfl rfl rfl rfl rfl rfl rfl ?_
  intro a100 c101 w102 hE103 hR104
  have hb106 : Below B w w102 := Below.trans hb98 (Below.mono hE103 hL99)
  have hL107 : B ≤ w102.heap.size := Nat.le_trans hL99 hE103.size
  have hS108 : SH w102 B (aOwn fChange 25 a100 c101 ([x91.1] : List SChange) :: aBox 83 b0' [.slice a0_code' s_0_code.length c0_code', .int .i64 x91.2.1, .int .u64 x91.2.2] :: aOwn fChange 25 a72 c73 st71.1 :: L) := SH.add hS96 hE103 hL99 hR104
  obtain ⟨x109, hx110, hm⟩ := bindE hm
  refine WL.append (F := fChange) (xs := st71.1) (ys := ([x91.1] : List SChange)) 16 (SH.front 2 hS108) hL107 (SH.rd (SH.front 0 hS108)) hx110 rfl rfl rfl Tryd.underlying37 (info25).1 (info25).2.2.1 (info25).2.1 (info25).2.2.2 rfl rfl rfl rfl rfl ?_
  intro a111 c112 w113 hB114 hS115
  have hb116 : Below B w w113 := Below.trans hb106 hB114
  have hL117 : B ≤ w113.heap.size := Nat.le_trans hL107 hB114.size
  refine WL.runk 1 [0, 3, 4] [(0, .pointer (some ⟨b0', 0, none⟩)), (4, .int .i64 st71.2.1), (3, .slice a111 x109.length c112)] (by kernel_rfl) ?_
  refine WL.nil ?_
  refine WQ.block_normal ?_
  refine WQ.then_normal (hK90 _ _ _ ?_)
  refine WP.region ?_
  refine WL.runk 3 [0, 3, 4] [(0, .pointer (some ⟨b0', 0, none⟩)), (4, .int .i64 (wI64 (st71.2.1 - 1))), (3, .slice a111 x109.length c112)] (by kernel_rfl) ?_
  refine WL.nil ?_
  obtain rfl := Option.some.inj hm
  exact WQ.round hK81 ⟨(x109, (wI64 (st71.2.1 - 1)), x91.2.1, x91.2.2), _, _, rfl, hb116, hL117, (SH.cutOut 2 1 (SH.front 1 (SH.front 2 hS115))), hl79⟩ (Nat.lt_succ_self _) ⟨rfl, rfl, rfl, trivial⟩

theorem c_14 (n : Nat) (code_0 : List Int) (a0' : Option Addr) (c0' : Nat) (w : World) {r : List SChange} (hm : m_spec_A2Changes n code_0 = some r) (h0 : Rd fU8.ty w a0' code_0) (hle0 : code_0.length ≤ c0') :
    CallV Tryd.prog 14 #[.slice a0' code_0.length c0'] w (fun v w' => ∃ (ra0 : Option Addr) (rc0 : Nat), v = .slice ra0 r.length rc0 ∧ Ext w w' ∧ SH w' w.heap.size [aOwn fChange 25 ra0 rc0 r]) := by
  unfold m_spec_A2Changes at hm
  refine CallV.enter Tryd.func14 rfl (by kernel_rfl) Tryd.ntmps14 (env := [(0, .slice a0' code_0.length c0')]) ⟨rfl, trivial⟩ ?_
  refine WP.seq (fun K1 hK1 => ?_)
  refine WP.region ?_
  refine WL.runk 1 [0] [(0, .slice a0' code_0.length c0')] (by kernel_rfl) ?_
  refine WL.nil ?_
  refine WQ.then_normal (hK1 _ _ _ ?_)
  refine WP.seq (fun K2 hK2 => ?_)
  refine WP.region ?_
  refine WL.runk 1 [3] [(3, .slice a0' code_0.length c0')] (by kernel_rfl) ?_
  obtain ⟨x3, hx4, hm⟩ := bindE hm
  refine WL.call 32 #[.slice a0' code_0.length c0'] rfl rfl (by kernel_rfl) (c_32 n code_0 a0' c0' w hx4 (Rd.below h0 (Ext.refl w)) hle0) ?_
  rintro _ w7 ⟨b5, rfl, hE8, hR9⟩
  refine ⟨_, rfl, ?_⟩
  have hb10 : Ext w w7 := Ext.trans (Ext.refl w) hE8
  have hL11 : w.heap.size ≤ w7.heap.size := Nat.le_trans (Nat.le_refl _) hE8.size
  have hS12 : SH w7 w.heap.size [aBox 83 b5 [.slice a0' code_0.length c0', .int .i64 x3.1, .int .u64 x3.2]] := SH.add (SH.nil _ _) hE8 (Nat.le_refl _) hR9
  obtain ⟨x13, hx14, hm⟩ := bindE hm
  refine WL.call 35 #[.pointer (some ⟨b5, 0, none⟩)] rfl rfl (by kernel_rfl) (c_35 n code_0 a0' c0' x3.1 x3.2 b5 w7 w w.heap.size [] hx14 hb10 (Nat.le_refl _) hL11 h0 hle0 hS12) ?_
  rintro _ w18 ⟨a15, c16, rfl, hB22, hS21⟩
  refine ⟨_, rfl, ?_⟩
  have hb23 : Ext w w18 := Below.trans hb10 hB22
  have hL24 : w.heap.size ≤ w18.heap.size := Nat.le_trans hL11 hB22.size
  refine WL.runk 1 [2] [(2, .slice a15 x13.1.length c16)] (by kernel_rfl) ?_
  refine WL.nil ?_
  refine WQ.then_normal (hK2 _ _ _ ?_)
  refine WP.ret ?_
  obtain rfl := Option.some.inj hm
  exact WQ.ret1 _ rfl rfl ⟨_, _, rfl, hb23, (SH.take 1 hS21)⟩

theorem c_56 (n : Nat) (s_0 : List UInt8) (w : World) {r : Bool} (hm : m_impl_IsName n s_0 = some r)  :
    CallV Tryd.prog 56 #[.string (bs s_0)] w (fun v w' => v = .bool r ∧ Ext w w') := by
  unfold m_impl_IsName at hm
  refine CallV.enter Tryd.func56 rfl (by kernel_rfl) Tryd.ntmps56 (env := [(0, .string (bs s_0))]) ⟨rfl, trivial⟩ ?_
  refine WP.seq (fun K1 hK1 => ?_)
  refine WP.region ?_
  refine WL.runk 1 [0] [(0, .string (bs s_0))] (by kernel_rfl) ?_
  refine WL.nil ?_
  refine WQ.then_normal (hK1 _ _ _ ?_)
  refine WP.seq (fun K2 hK2 => ?_)
  refine WP.seq (fun K3 hK3 => ?_)
  obtain ⟨x11, hx12, hm⟩ := bindE hm
  refine WP.cut (fun env' w' => env' = [(0, .string (bs s_0)), (21, .bool x11)] ∧ Ext w w' ∧ w.heap.size ≤ w'.heap.size ∧ SH w' w.heap.size []) ?_ ?_
  · have hm := hx12; clear hx12
    refine WP.region ?_
    refine WL.runk 4 [0, 7] [(0, .string (bs s_0)), (7, .bool (decide ((s_0.length : Int) < 1)))] (by kernel_rfl) ?_
    refine WL.case (decide ((s_0.length : Int) < 1)) [7] ⟨rfl, trivial⟩ (fun hc13 => ?_) (fun hc13 => ?_)
    · have hm := iteT hm hc13
      refine WL.runk 14 [0, 21] [(0, .string (bs s_0)), (21, .bool true)] (by kernel_rfl) ?_
      refine WL.nil ?_
      obtain rfl := Option.some.inj hm
      exact WQ.post' ⟨rfl, (Ext.refl w), (Nat.le_refl _), (SH.nil _ _)⟩ ⟨rfl, rfl, trivial⟩
    have hm := iteF hm hc13
    refine WL.runk 5 [0, 12] [(0, .string (bs s_0)), (12, .bool (decide ((s_0.length : Int) > 12)))] (by kernel_rfl) ?_
    refine WL.case (decide ((s_0.length : Int) > 12)) [12] ⟨rfl, trivial⟩ (fun hc14 => ?_) (fun hc14 => ?_)
    · have hm := iteT hm hc14
      refine WL.runk 9 [0, 21] [(0, .string (bs s_0)), (21, .bool true)] (by kernel_rfl) ?_
      refine WL.nil ?_
      obtain rfl := Option.some.inj hm
      exact WQ.post' ⟨rfl, (Ext.refl w), (Nat.le_refl _), (SH.nil _ _)⟩ ⟨rfl, rfl, trivial⟩
    have hm := iteF hm hc14
    refine WL.runk 1 [0, 12, 13] [(0, .string (bs s_0)), (12, .bool false), (13, .string (bs s_0))] (by kernel_rfl) ?_
    obtain ⟨x15, hx16, hm⟩ := bindE hm
    refine WL.st (.int .u8 (x15.toNat : Int)) (ST.sindex hx16 rfl rfl rfl Tryd.underlying9) rfl rfl rfl ?_
    refine WL.runk 3 [0, 17] [(0, .string (bs s_0)), (17, .bool (decide ((x15.toNat : Int) < 97)))] (by kernel_rfl) ?_
    refine WL.case (decide ((x15.toNat : Int) < 97)) [17] ⟨rfl, trivial⟩ (fun hc17 => ?_) (fun hc17 => ?_)
    · have hm := iteT hm hc17
      refine WL.runk 4 [0, 21] [(0, .string (bs s_0)), (21, .bool true)] (by kernel_rfl) ?_
      refine WL.nil ?_
      obtain rfl := Option.some.inj hm
      exact WQ.post' ⟨rfl, (Ext.refl w), (Nat.le_refl _), (SH.nil _ _)⟩ ⟨rfl, rfl, trivial⟩
    have hm := iteF hm hc17
    refine WL.runk 1 [0, 17, 18] [(0, .string (bs s_0)), (17, .bool false), (18, .string (bs s_0))] (by kernel_rfl) ?_
    obtain ⟨x18, hx19, hm⟩ := bindE hm
    refine WL.st (.int .u8 (x18.toNat : Int)) (ST.sindex hx19 rfl rfl rfl Tryd.underlying9) rfl rfl rfl ?_
    refine WL.runk 2 [0, 21] [(0, .string (bs s_0)), (21, .bool (decide ((x18.toNat : Int) > 122)))] (by kernel_rfl) ?_
    refine WL.nil ?_
    obtain rfl := Option.some.inj hm
    exact WQ.post' ⟨rfl, (Ext.refl w), (Nat.le_refl _), (SH.nil _ _)⟩ ⟨rfl, rfl, trivial⟩
  clear hx12
  rintro _ w20 ⟨rfl, hb21, hL22, hS23⟩
  refine WQ.then_normal (hK3 _ _ _ ?_)
  refine WP.cond x11 rfl rfl (fun hc24 => ?_) (fun hc24 => ?_)
  · have hm := iteT hm hc24
    refine WP.seq (fun K25 hK25 => ?_)
    refine WP.region ?_
    refine WL.runk 1 [2] [(2, .bool false)] (by kernel_rfl) ?_
    refine WL.nil ?_
    refine WQ.then_normal (hK25 _ _ _ ?_)
    refine WP.ret ?_
    refine WQ.then_ret ?_
    obtain rfl := Option.some.inj hm
    exact WQ.ret1 _ rfl rfl ⟨rfl, hb21⟩
  have hm := iteF hm hc24
  refine WP.skip ?_
  refine WQ.then_normal (hK2 _ _ _ ?_)
  refine WP.seq (fun K26 hK26 => ?_)
  refine WP.seq (fun K27 hK27 => ?_)
  refine WP.region ?_
  refine WL.runk 1 [0, 3] [(0, .string (bs s_0)), (3, .int .i64 1)] (by kernel_rfl) ?_
  refine WL.nil ?_
  refine WQ.then_normal (hK27 _ _ _ ?_)
  refine WP.block ?_
  obtain ⟨t39, ht40, hm⟩ := bindE hm
  have hmo34 := hm; clear hm
  refine WP.sub [(0, .string (bs s_0)), (3, .int .i64 1)] ⟨rfl, rfl, trivial⟩ ?_
  refine WP.loop (fun n' env' w' => ∃ (st28 : Int) , env' = [(0, .string (bs s_0)), (3, .int .i64 st28)] ∧ Ext w w' ∧ w.heap.size ≤ w'.heap.size ∧ SH w' w.heap.size [] ∧ loopN (m_impl_IsName_l1 n s_0) n' st28 = some t39) n ⟨1, rfl, hb21, hL22, hS23, ht40⟩ ?_
  rintro n36 _ w29 ⟨st28, rfl, hb30, hL31, hS32, hl33⟩ K35 hK35
  obtain ⟨n37, s38, rfl, hm, hl33⟩ := loopN_some hl33
  unfold m_impl_IsName_l1 at hm
  refine WP.seq (fun K41 hK41 => ?_)
  refine WP.seq (fun K42 hK42 => ?_)
  refine WP.region ?_
  refine WL.runk 4 [0, 3, 25] [(0, .string (bs s_0)), (3, .int .i64 st28), (25, .bool (decide (st28 < (s_0.length : Int))))] (by kernel_rfl) ?_
  refine WL.nil ?_
  refine WQ.then_normal (hK42 _ _ _ ?_)
  refine WP.cond (decide (st28 < (s_0.length : Int))) rfl rfl (fun hc43 => ?_) (fun hc43 => ?_)
  rotate_left
  · have hm := iteF hm hc43
    refine WP.exit ?_
    refine WQ.then_exit ?_
    refine WQ.then_exit ?_
    refine WQ.block_here ?_
    obtain rfl := Option.some.inj hm
    obtain rfl := afterN_done hl33
    have hm := hmo34
    refine WQ.then_normal (hK26 _ _ _ ?_)
    refine WP.seq (fun K106 hK106 => ?_)
    refine WP.region ?_
    refine WL.runk 1 [2] [(2, .bool true)] (by kernel_rfl) ?_
    refine WL.nil ?_
    refine WQ.then_normal (hK106 _ _ _ ?_)
    refine WP.ret ?_
    obtain rfl := Option.some.inj hm
    exact WQ.ret1 _ rfl rfl ⟨rfl, hb30⟩
  have hm := iteT hm hc43
  refine WP.skip ?_
  refine WQ.then_normal (hK41 _ _ _ ?_)
  refine WP.seq (fun K44 hK44 => ?_)
  refine WP.block ?_
  refine WP.seq (fun K45 hK45 => ?_)
  obtain ⟨x72, hx73, hm⟩ := bindE hm
  refine WP.cut (fun env' w' => env' = [(0, .string (bs s_0)), (3, .int .i64 st28), (55, .bool x72)] ∧ Ext w w' ∧ w.heap.size ≤ w'.heap.size ∧ SH w' w.heap.size []) ?_ ?_
  rotate_left
  · clear hx73
    rintro _ w100 ⟨rfl, hb101, hL102, hS103⟩
    refine WQ.then_normal (hK45 _ _ _ ?_)
    refine WP.cond x72 rfl rfl (fun hc104 => ?_) (fun hc104 => ?_)
    rotate_left
    · have hm := iteF hm hc104
      refine WP.skip ?_
      refine WQ.block_normal ?_
      refine WQ.then_normal (hK44 _ _ _ ?_)
      refine WP.region ?_
      refine WL.runk 3 [0, 3] [(0, .string (bs s_0)), (3, .int .i64 (wI64 (st28 + 1)))] (by kernel_rfl) ?_
      refine WL.nil ?_
      obtain rfl := Option.some.inj hm
      exact WQ.round hK35 ⟨(wI64 (st28 + 1)), rfl, hb101, hL102, hS103, hl33⟩ (Nat.lt_succ_self _) ⟨rfl, rfl, trivial⟩
    have hm := iteT hm hc104
    refine WP.seq (fun K105 hK105 => ?_)
    refine WP.region ?_
    refine WL.runk 1 [2] [(2, .bool false)] (by kernel_rfl) ?_
    refine WL.nil ?_
    refine WQ.then_normal (hK105 _ _ _ ?_)
    refine WP.ret ?_
    refine WQ.block_ret ?_
    refine WQ.then_ret ?_
    refine WQ.then_ret ?_
    refine WQ.block_ret ?_
    refine WQ.then_ret ?_
    obtain rfl := Option.some.inj hm
    obtain rfl := afterN_done hl33
    have hm := hmo34
    obtain rfl := Option.some.inj hm
    exact WQ.ret1 _ rfl rfl ⟨rfl, hb101⟩
  have hm := hx73; clear hx73
  refine WP.region ?_
  refine WL.runk 2 [0, 3, 28, 29] [(0, .string (bs s_0)), (3, .int .i64 st28), (28, .string (bs s_0)), (29, .int .i64 st28)] (by kernel_rfl) ?_
  obtain ⟨x74, hx75, hm⟩ := bindE hm
  refine WL.st (.int .u8 (x74.toNat : Int)) (ST.sindex hx75 rfl rfl rfl Tryd.underlying9) rfl rfl rfl ?_
  refine WL.runk 2 [0, 3, 32] [(0, .string (bs s_0)), (3, .int .i64 st28), (32, .bool (decide ((x74.toNat : Int) < 97)))] (by kernel_rfl) ?_
  refine WL.case (decide ((x74.toNat : Int) < 97)) [32] ⟨rfl, trivial⟩ (fun hc76 => ?_) (fun hc76 => ?_)
  · have hm := iteT hm hc76
    refine WL.runk 8 [0, 3, 38, 39, 40] [(0, .string (bs s_0)), (3, .int .i64 st28), (38, .bool true), (39, .string (bs s_0)), (40, .int .i64 st28)] (by kernel_rfl) ?_
    obtain ⟨x77, hx78, hm⟩ := bindE hm
    refine WL.st (.int .u8 (x77.toNat : Int)) (ST.sindex hx78 rfl rfl rfl Tryd.underlying9) rfl rfl rfl ?_
    refine WL.runk 2 [0, 3, 38, 43] [(0, .string (bs s_0)), (3, .int .i64 st28), (38, .bool true), (43, .bool (decide ((x77.toNat : Int) < 48)))] (by kernel_rfl) ?_
    refine WL.case (decide ((x77.toNat : Int) < 48)) [43] ⟨rfl, trivial⟩ (fun hc79 => ?_) (fun hc79 => ?_)
    · have hm := iteT hm hc79
      refine WL.runk 9 [0, 3, 50, 51, 52] [(0, .string (bs s_0)), (3, .int .i64 st28), (50, .bool true), (51, .string (bs s_0)), (52, .int .i64 st28)] (by kernel_rfl) ?_
      obtain ⟨x80, hx81, hm⟩ := bindE hm
      refine WL.st (.int .u8 (x80.toNat : Int)) (ST.sindex hx81 rfl rfl rfl Tryd.underlying9) rfl rfl rfl ?_
      refine WL.runk 2 [0, 3, 55] [(0, .string (bs s_0)), (3, .int .i64 st28), (55, .bool ((x80.toNat : Int) != 45))] (by kernel_rfl) ?_
      refine WL.nil ?_
      obtain rfl := Option.some.inj hm
      exact WQ.post' ⟨rfl, hb30, hL31, hS32⟩ ⟨rfl, rfl, rfl, trivial⟩
    have hm := iteF hm hc79
    refine WL.runk 2 [0, 3, 38, 43, 44, 45] [(0, .string (bs s_0)), (3, .int .i64 st28), (38, .bool true), (43, .bool false), (44, .string (bs s_0)), (45, .int .i64 st28)] (by kernel_rfl) ?_
    obtain ⟨x82, hx83, hm⟩ := bindE hm
    refine WL.st (.int .u8 (x82.toNat : Int)) (ST.sindex hx83 rfl rfl rfl Tryd.underlying9) rfl rfl rfl ?_
    refine WL.runk 4 [0, 3, 50] [(0, .string (bs s_0)), (3, .int .i64 st28), (50, .bool (decide ((x82.toNat : Int) > 57)))] (by kernel_rfl) ?_
    refine WL.case (decide ((x82.toNat : Int) > 57)) [50] ⟨rfl, trivial⟩ (fun hc84 => ?_) (fun hc84 => ?_)
    rotate_left
    · have hm := iteF hm hc84
      refine WL.runk 5 [0, 3, 55] [(0, .string (bs s_0)), (3, .int .i64 st28), (55, .bool false)] (by kernel_rfl) ?_
      refine WL.nil ?_
      obtain rfl := Option.some.inj hm
      exact WQ.post' ⟨rfl, hb30, hL31, hS32⟩ ⟨rfl, rfl, rfl, trivial⟩
    have hm := iteT hm hc84
    refine WL.runk 2 [0, 3, 50, 51, 52] [(0, .string (bs s_0)), (3, .int .i64 st28), (50, .bool true), (51, .string (bs s_0)), (52, .int .i64 st28)] (by kernel_rfl) ?_
    obtain ⟨x85, hx86, hm⟩ := bindE hm
    refine WL.st (.int .u8 (x85.toNat : Int)) (ST.sindex hx86 rfl rfl rfl Tryd.underlying9) rfl rfl rfl ?_
    refine WL.runk 2 [0, 3, 55] [(0, .string (bs s_0)), (3, .int .i64 st28), (55, .bool ((x85.toNat : Int) != 45))] (by kernel_rfl) ?_
    refine WL.nil ?_
    obtain rfl := Option.some.inj hm
    exact WQ.post' ⟨rfl, hb30, hL31, hS32⟩ ⟨rfl, rfl, rfl, trivial⟩
  have hm := iteF hm hc76
  refine WL.runk 2 [0, 3, 32, 33, 34] [(0, .string (bs s_0)), (3, .int .i64 st28), (32, .bool false), (33, .string (bs s_0)), (34, .int .i64 st28)] (by kernel_rfl) ?_
  obtain ⟨x87, hx88, hm⟩ := bindE hm
  refine WL.st (.int .u8 (x87.toNat : Int)) (ST.sindex hx88 rfl rfl rfl Tryd.underlying9) rfl rfl rfl ?_
  refine WL.runk 3 [0, 3, 38] [(0, .string (bs s_0)), (3, .int .i64 st28), (38, .bool (decide ((x87.toNat : Int) > 122)))] (by kernel_rfl) ?_
  refine WL.case (decide ((x87.toNat : Int) > 122)) [38] ⟨rfl, trivial⟩ (fun hc89 => ?_) (fun hc89 => ?_)
  rotate_left
  · have hm := iteF hm hc89
    refine WL.runk 17 [0, 3, 55] [(0, .string (bs s_0)), (3, .int .i64 st28), (55, .bool false)] (by kernel_rfl) ?_
    refine WL.nil ?_
    obtain rfl := Option.some.inj hm
    exact WQ.post' ⟨rfl, hb30, hL31, hS32⟩ ⟨rfl, rfl, rfl, trivial⟩
  have hm := iteT hm hc89
  refine WL.runk 2 [0, 3, 38, 39, 40] [(0, .string (bs s_0)), (3, .int .i64 st28), (38, .bool true), (39, .string (bs s_0)), (40, .int .i64 st28)] (by kernel_rfl) ?_
  obtain ⟨x90, hx91, hm⟩ := bindE hm
  refine WL.st (.int .u8 (x90.toNat : Int)) (ST.sindex hx91 rfl rfl rfl Tryd.underlying9) rfl rfl rfl ?_
  refine WL.runk 2 [0, 3, 38, 43] [(0, .string (bs s_0)), (3, .int .i64 st28), (38, .bool true), (43, .bool (decide ((x90.toNat : Int) < 48)))] (by kernel_rfl) ?_
  refine WL.case (decide ((x90.toNat : Int) < 48)) [43] ⟨rfl, trivial⟩ (fun hc92 => ?_) (fun hc92 => ?_)
  · have hm := iteT hm hc92
    refine WL.runk 9 [0, 3, 50, 51, 52] [(0, .string (bs s_0)), (3, .int .i64 st28), (50, .bool true), (51, .string (bs s_0)), (52, .int .i64 st28)] (by kernel_rfl) ?_
    obtain ⟨x93, hx94, hm⟩ := bindE hm
    refine WL.st (.int .u8 (x93.toNat : Int)) (ST.sindex hx94 rfl rfl rfl Tryd.underlying9) rfl rfl rfl ?_
    refine WL.runk 2 [0, 3, 55] [(0, .string (bs s_0)), (3, .int .i64 st28), (55, .bool ((x93.toNat : Int) != 45))] (by kernel_rfl) ?_
    refine WL.nil ?_
    obtain rfl := Option.some.inj hm
    exact WQ.post' ⟨rfl, hb30, hL31, hS32⟩ ⟨rfl, rfl, rfl, trivial⟩
  have hm := iteF hm hc92
  refine WL.runk 2 [0, 3, 38, 43, 44, 45] [(0, .string (bs s_0)), (3, .int .i64 st28), (38, .bool true), (43, .bool false), (44, .string (bs s_0)), (45, .int .i64 st28)] (by kernel_rfl) ?_
  obtain ⟨x95, hx96, hm⟩ := bindE hm
  refine WL.st (.int .u8 (x95.toNat : Int)) (ST.sindex hx96 rfl rfl rfl Tryd.underlying9) rfl rfl rfl ?_
  refine WL.runk 4 [0, 3, 50] [(0, .string (bs s_0)), (3, .int .i64 st28), (50, .bool (decide ((x95.toNat : Int) > 57)))] (by kernel_rfl) ?_
  refine WL.case (decide ((x95.toNat : Int) > 57)) [50] ⟨rfl, trivial⟩ (fun hc97 => ?_) (fun hc97 => ?_)
  rotate_left
  · have hm := iteF hm hc97
    refine WL.runk 5 [0, 3, 55] [(0, .string (bs s_0)), (3, .int .i64 st28), (55, .bool false)] (by kernel_rfl) ?_
    refine WL.nil ?_
    obtain rfl := Option.some.inj hm
    exact WQ.post' ⟨rfl, hb30, hL31, hS32⟩ ⟨rfl, rfl, rfl, trivial⟩
  have hm := iteT hm hc97
  refine WL.runk 2 [0, 3, 50, 51, 52] [(0, .string (bs s_0)), (3, .int .i64 st28), (50, .bool true), (51, .string (bs s_0)), (52, .int .i64 st28)] (by kernel_rfl) ?_
  obtain ⟨x98, hx99, hm⟩ := bindE hm
  refine WL.st (.int .u8 (x98.toNat : Int)) (ST.sindex hx99 rfl rfl rfl Tryd.underlying9) rfl rfl rfl ?_
  refine WL.runk 2 [0, 3, 55] [(0, .string (bs s_0)), (3, .int .i64 st28), (55, .bool ((x98.toNat : Int) != 45))] (by kernel_rfl) ?_
  refine WL.nil ?_
  obtain rfl := Option.some.inj hm
  exact WQ.post' ⟨rfl, hb30, hL31, hS32⟩ ⟨rfl, rfl, rfl, trivial⟩

theorem c_86 (n : Nat) (n_0 : Int) (cap_1 : Int) (b1' o1' : Nat) (cap_2 : Int) (b2' o2' : Nat) (w : World) {r : Bool} (hm : m_impl_outside_1 n n_0 cap_1 cap_2 = some r) (h1 : RdB w b1' o1' [.int .i64 cap_1]) (h2 : RdB w b2' o2' [.int .i64 cap_2]) :
    CallV Tryd.prog 86 #[.int .i64 n_0, .pointer (some ⟨b1', o1', none⟩), .pointer (some ⟨b2', o2', none⟩)] w (fun v w' => v = .bool r ∧ Ext w w') := by
  unfold m_impl_outside_1 at hm
  refine CallV.enter Tryd.func86 rfl (by kernel_rfl) Tryd.ntmps86 (env := [(0, .int .i64 n_0), (1, .pointer (some ⟨b1', o1', none⟩)), (2, .pointer (some ⟨b2', o2', none⟩))]) ⟨rfl, rfl, rfl, trivial⟩ ?_
  refine WP.seq (fun K1 hK1 => ?_)
  refine WP.region ?_
  refine WL.runk 1 [0, 1, 2] [(0, .int .i64 n_0), (1, .pointer (some ⟨b1', o1', none⟩)), (2, .pointer (some ⟨b2', o2', none⟩))] (by kernel_rfl) ?_
  refine WL.nil ?_
  refine WQ.then_normal (hK1 _ _ _ ?_)
  refine WP.seq (fun K2 hK2 => ?_)
  refine WP.region ?_
  refine WL.runk 1 [1, 2, 5] [(1, .pointer (some ⟨b1', o1', none⟩)), (2, .pointer (some ⟨b2', o2', none⟩)), (5, .int .i64 n_0)] (by kernel_rfl) ?_
  refine WL.st (.int .i64 cap_1) (ST.load (cell_ext (RdB.at (RdB.below h1 (Ext.refl w)) 0 _ rfl)) rfl rfl Tryd.underlying2 rfl) rfl rfl rfl ?_
  refine WL.st (.int .i64 cap_2) (ST.load (cell_ext (RdB.at (RdB.below h2 (Ext.refl w)) 0 _ rfl)) rfl rfl Tryd.underlying2 rfl) rfl rfl rfl ?_
  obtain ⟨x3, hx4, hm⟩ := bindE hm
  refine WL.call 46 #[.int .i64 n_0, .int .i64 cap_1, .int .i64 cap_2] rfl rfl (by kernel_rfl) (c_46 n n_0 cap_1 cap_2 w hx4 ) ?_
  rintro _ w5 ⟨rfl, hE6⟩
  refine ⟨_, rfl, ?_⟩
  have hb8 : Ext w w5 := Ext.trans (Ext.refl w) hE6
  have hL9 : w.heap.size ≤ w5.heap.size := Nat.le_trans (Nat.le_refl _) hE6.size
  have hS10 : SH w5 w.heap.size [] := SH.ext (SH.nil _ _) hE6
  refine WL.runk 2 [4] [(4, .bool (!x3))] (by kernel_rfl) ?_
  refine WL.nil ?_
  refine WQ.then_normal (hK2 _ _ _ ?_)
  refine WP.ret ?_
  obtain rfl := Option.some.inj hm
  exact WQ.ret1 _ rfl rfl ⟨rfl, hb8⟩

theorem c_99_86 (n : Nat) (s_0 : List Int) (a0' : Option Addr) (c0' : Nat) (cap_1_0 : Int) (b1_0' o1_0' : Nat) (cap_1_1 : Int) (b1_1' o1_1' : Nat) (w : World) {r : Int} (hm : m_slices_IndexFunc_int64_int64_f86 n s_0 cap_1_0 cap_1_1 = some r) (h0 : Rd fInt.ty w a0' s_0) (_hle0 : s_0.length ≤ c0') (h1_0 : RdB w b1_0' o1_0' [.int .i64 cap_1_0]) (h1_1 : RdB w b1_1' o1_1' [.int .i64 cap_1_1]) :
    CallV Tryd.prog 99 #[.slice a0' s_0.length c0', .func (.func 86) #[] #[.pointer (some ⟨b1_0', o1_0', none⟩), .pointer (some ⟨b1_1', o1_1', none⟩)]] w (fun v w' => v = .int .i64 r ∧ Ext w w') := by
  unfold m_slices_IndexFunc_int64_int64_f86 at hm
  refine CallV.enter Tryd.func99 rfl (by kernel_rfl) Tryd.ntmps99 (env := [(0, .slice a0' s_0.length c0'), (1, .func (.func 86) #[] #[.pointer (some ⟨b1_0', o1_0', none⟩), .pointer (some ⟨b1_1', o1_1', none⟩)])]) ⟨rfl, rfl, trivial⟩ ?_
  refine WP.seq (fun K1 hK1 => ?_)
  refine WP.region ?_
  refine WL.runk 1 [0, 1] [(0, .slice a0' s_0.length c0'), (1, .func (.func 86) #[] #[.pointer (some ⟨b1_0', o1_0', none⟩), .pointer (some ⟨b1_1', o1_1', none⟩)])] (by kernel_rfl) ?_
  refine WL.nil ?_
  refine WQ.then_normal (hK1 _ _ _ ?_)
  refine WP.seq (fun K2 hK2 => ?_)
  refine WP.seq (fun K3 hK3 => ?_)
  refine WP.region ?_
  refine WL.runk 3 [0, 1, 7, 8] [(0, .slice a0' s_0.length c0'), (1, .func (.func 86) #[] #[.pointer (some ⟨b1_0', o1_0', none⟩), .pointer (some ⟨b1_1', o1_1', none⟩)]), (7, .int .i64 (s_0.length : Int)), (8, .int .i64 0)] (by kernel_rfl) ?_
  refine WL.nil ?_
  refine WQ.then_normal (hK3 _ _ _ ?_)
  refine WP.block ?_
  obtain ⟨t15, ht16, hm⟩ := bindE hm
  have hmo10 := hm; clear hm
  refine WP.sub [(0, .slice a0' s_0.length c0'), (1, .func (.func 86) #[] #[.pointer (some ⟨b1_0', o1_0', none⟩), .pointer (some ⟨b1_1', o1_1', none⟩)]), (7, .int .i64 (s_0.length : Int)), (8, .int .i64 0)] ⟨rfl, rfl, rfl, rfl, trivial⟩ ?_
  refine WP.loop (fun n' env' w' => ∃ (st4 : Int) , env' = [(0, .slice a0' s_0.length c0'), (1, .func (.func 86) #[] #[.pointer (some ⟨b1_0', o1_0', none⟩), .pointer (some ⟨b1_1', o1_1', none⟩)]), (7, .int .i64 (s_0.length : Int)), (8, .int .i64 st4)] ∧ Ext w w' ∧ w.heap.size ≤ w'.heap.size ∧ SH w' w.heap.size [] ∧ loopN (m_slices_IndexFunc_int64_int64_f86_l1 n s_0 cap_1_0 cap_1_1) n' st4 = some t15) n ⟨0, rfl, (Ext.refl w), (Nat.le_refl _), (SH.nil _ _), ht16⟩ ?_
  rintro n12 _ w5 ⟨st4, rfl, hb6, hL7, hS8, hl9⟩ K11 hK11
  obtain ⟨n13, s14, rfl, hm, hl9⟩ := loopN_some hl9
  unfold m_slices_IndexFunc_int64_int64_f86_l1 at hm
  refine WP.seq (fun K17 hK17 => ?_)
  refine WP.region ?_
  refine WL.runk 1 [0, 1, 7, 8, 9] [(0, .slice a0' s_0.length c0'), (1, .func (.func 86) #[] #[.pointer (some ⟨b1_0', o1_0', none⟩), .pointer (some ⟨b1_1', o1_1', none⟩)]), (7, .int .i64 (s_0.length : Int)), (8, .int .i64 st4), (9, .bool (decide (st4 < (s_0.length : Int))))] (by kernel_rfl) ?_
  refine WL.nil ?_
  refine WQ.then_normal (hK17 _ _ _ ?_)
  refine WP.seq (fun K18 hK18 => ?_)
  refine WP.cond (decide (st4 < (s_0.length : Int))) rfl rfl (fun hc19 => ?_) (fun hc19 => ?_)
  rotate_left
  · have hm := iteF hm hc19
    refine WP.exit ?_
    refine WQ.then_exit ?_
    refine WQ.then_exit ?_
    refine WQ.block_here ?_
    obtain rfl := Option.some.inj hm
    obtain rfl := afterN_done hl9
    have hm := hmo10
    refine WQ.then_normal (hK2 _ _ _ ?_)
    refine WP.seq (fun K35 hK35 => ?_)
    refine WP.region ?_
    refine WL.runk 1 [4] [(4, .int .i64 (-1))] (by kernel_rfl) ?_
    refine WL.nil ?_
    refine WQ.then_normal (hK35 _ _ _ ?_)
    refine WP.ret ?_
    obtain rfl := Option.some.inj hm
    exact WQ.ret1 _ rfl rfl ⟨rfl, hb6⟩
  have hm := iteT hm hc19
  refine WP.skip ?_
  refine WQ.then_normal (hK18 _ _ _ ?_)
  refine WP.seq (fun K20 hK20 => ?_)
  refine WP.block ?_
  refine WP.seq (fun K21 hK21 => ?_)
  refine WP.region ?_
  refine WL.runk 2 [0, 1, 5, 7, 8] [(0, .slice a0' s_0.length c0'), (1, .func (.func 86) #[] #[.pointer (some ⟨b1_0', o1_0', none⟩), .pointer (some ⟨b1_1', o1_1', none⟩)]), (7, .int .i64 (s_0.length : Int)), (8, .int .i64 st4), (5, .int .i64 st4)] (by kernel_rfl) ?_
  refine WL.nil ?_
  refine WQ.then_normal (hK21 _ _ _ ?_)
  refine WP.seq (fun K22 hK22 => ?_)
  refine WP.region ?_
  refine WL.runk 3 [0, 1, 5, 7, 8, 11, 12, 13] [(0, .slice a0' s_0.length c0'), (1, .func (.func 86) #[] #[.pointer (some ⟨b1_0', o1_0', none⟩), .pointer (some ⟨b1_1', o1_1', none⟩)]), (7, .int .i64 (s_0.length : Int)), (8, .int .i64 st4), (5, .int .i64 st4), (11, .func (.func 86) #[] #[.pointer (some ⟨b1_0', o1_0', none⟩), .pointer (some ⟨b1_1', o1_1', none⟩)]), (12, .slice a0' s_0.length c0'), (13, .int .i64 st4)] (by kernel_rfl) ?_
  obtain ⟨x23, hx24, hm⟩ := bindE hm
  refine WL.st (.pointer (some (at_ a0' (Int.toNat st4 * 1)))) (ST.index (T := fInt.ty) (xs := s_0) (Rd.below h0 hb6) hx24 rfl rfl rfl Tryd.underlying71 (info2).1 (info2).2.1) rfl rfl rfl ?_
  refine WL.st (.int .i64 x23) (ST.load (cell_ext (Rd.flat (F := fInt) (Rd.below h0 hb6) hx24 0 rfl)) rfl rfl Tryd.underlying2 rfl) rfl rfl rfl ?_
  obtain ⟨x25, hx26, hm⟩ := bindE hm
  refine WL.call 86 #[.int .i64 x23, .pointer (some ⟨b1_0', o1_0', none⟩), .pointer (some ⟨b1_1', o1_1', none⟩)] rfl rfl (by kernel_rfl) (c_86 n x23 cap_1_0 b1_0' o1_0' cap_1_1 b1_1' o1_1' w5 hx26 (RdB.below h1_0 hb6) (RdB.below h1_1 hb6)) ?_
  rintro _ w27 ⟨rfl, hE28⟩
  refine ⟨_, rfl, ?_⟩
  have hb30 : Ext w w27 := Ext.trans hb6 hE28
  have hL31 : w.heap.size ≤ w27.heap.size := Nat.le_trans hL7 hE28.size
  have hS32 : SH w27 w.heap.size [] := SH.ext hS8 hE28
  refine WL.sub [(0, .slice a0' s_0.length c0'), (1, .func (.func 86) #[] #[.pointer (some ⟨b1_0', o1_0', none⟩), .pointer (some ⟨b1_1', o1_1', none⟩)]), (7, .int .i64 (s_0.length : Int)), (8, .int .i64 st4), (5, .int .i64 st4), (16, .bool x25)] ⟨rfl, rfl, rfl, rfl, rfl, rfl, trivial⟩ ?_
  refine WL.nil ?_
  refine WQ.then_normal (hK22 _ _ _ ?_)
  refine WP.cond x25 rfl rfl (fun hc33 => ?_) (fun hc33 => ?_)
  rotate_left
  · have hm := iteF hm hc33
    refine WP.skip ?_
    refine WQ.block_normal ?_
    refine WQ.then_normal (hK20 _ _ _ ?_)
    refine WP.region ?_
    refine WL.runk 2 [0, 1, 7, 8] [(0, .slice a0' s_0.length c0'), (1, .func (.func 86) #[] #[.pointer (some ⟨b1_0', o1_0', none⟩), .pointer (some ⟨b1_1', o1_1', none⟩)]), (7, .int .i64 (s_0.length : Int)), (8, .int .i64 (wI64 (st4 + 1)))] (by kernel_rfl) ?_
    refine WL.nil ?_
    obtain rfl := Option.some.inj hm
    exact WQ.round hK11 ⟨(wI64 (st4 + 1)), rfl, hb30, hL31, hS32, hl9⟩ (Nat.lt_succ_self _) ⟨rfl, rfl, rfl, rfl, trivial⟩
  have hm := iteT hm hc33
  refine WP.seq (fun K34 hK34 => ?_)
  refine WP.region ?_
  refine WL.runk 2 [4] [(4, .int .i64 st4)] (by kernel_rfl) ?_
  refine WL.nil ?_
  refine WQ.then_normal (hK34 _ _ _ ?_)
  refine WP.ret ?_
  refine WQ.block_ret ?_
  refine WQ.then_ret ?_
  refine WQ.then_ret ?_
  refine WQ.block_ret ?_
  refine WQ.then_ret ?_
  obtain rfl := Option.some.inj hm
  obtain rfl := afterN_done hl9
  have hm := hmo10
  obtain rfl := Option.some.inj hm
  exact WQ.ret1 _ rfl rfl ⟨rfl, hb30⟩

theorem c_85_86 (n : Nat) (s_0 : List Int) (a0' : Option Addr) (c0' : Nat) (cap_1_0 : Int) (b1_0' o1_0' : Nat) (cap_1_1 : Int) (b1_1' o1_1' : Nat) (w : World) {r : Bool} (hm : m_slices_ContainsFunc_int64_int64_f86 n s_0 cap_1_0 cap_1_1 = some r) (h0 : Rd fInt.ty w a0' s_0) (hle0 : s_0.length ≤ c0') (h1_0 : RdB w b1_0' o1_0' [.int .i64 cap_1_0]) (h1_1 : RdB w b1_1' o1_1' [.int .i64 cap_1_1]) :
    CallV Tryd.prog 85 #[.slice a0' s_0.length c0', .func (.func 86) #[] #[.pointer (some ⟨b1_0', o1_0', none⟩), .pointer (some ⟨b1_1', o1_1', none⟩)]] w (fun v w' => v = .bool r ∧ Ext w w') := by
  unfold m_slices_ContainsFunc_int64_int64_f86 at hm
  refine CallV.enter Tryd.func85 rfl (by kernel_rfl) Tryd.ntmps85 (env := [(0, .slice a0' s_0.length c0'), (1, .func (.func 86) #[] #[.pointer (some ⟨b1_0', o1_0', none⟩), .pointer (some ⟨b1_1', o1_1', none⟩)])]) ⟨rfl, rfl, trivial⟩ ?_
  refine WP.seq (fun K1 hK1 => ?_)
  refine WP.region ?_
  refine WL.runk 1 [0, 1] [(0, .slice a0' s_0.length c0'), (1, .func (.func 86) #[] #[.pointer (some ⟨b1_0', o1_0', none⟩), .pointer (some ⟨b1_1', o1_1', none⟩)])] (by kernel_rfl) ?_
  refine WL.nil ?_
  refine WQ.then_normal (hK1 _ _ _ ?_)
  refine WP.seq (fun K2 hK2 => ?_)
  refine WP.region ?_
  refine WL.runk 2 [5, 6] [(5, .slice a0' s_0.length c0'), (6, .func (.func 86) #[] #[.pointer (some ⟨b1_0', o1_0', none⟩), .pointer (some ⟨b1_1', o1_1', none⟩)])] (by kernel_rfl) ?_
  obtain ⟨x3, hx4, hm⟩ := bindE hm
  refine WL.call 99 #[.slice a0' s_0.length c0', .func (.func 86) #[] #[.pointer (some ⟨b1_0', o1_0', none⟩), .pointer (some ⟨b1_1', o1_1', none⟩)]] rfl rfl (by kernel_rfl) (c_99_86 n s_0 a0' c0' cap_1_0 b1_0' o1_0' cap_1_1 b1_1' o1_1' w hx4 (Rd.below h0 (Ext.refl w)) hle0 (RdB.below h1_0 (Ext.refl w)) (RdB.below h1_1 (Ext.refl w))) ?_
  rintro _ w5 ⟨rfl, hE6⟩
  refine ⟨_, rfl, ?_⟩
  have hb8 : Ext w w5 := Ext.trans (Ext.refl w) hE6
  have hL9 : w.heap.size ≤ w5.heap.size := Nat.le_trans (Nat.le_refl _) hE6.size
  have hS10 : SH w5 w.heap.size [] := SH.ext (SH.nil _ _) hE6
  refine WL.runk 2 [4] [(4, .bool (decide (x3 ≥ 0)))] (by kernel_rfl) ?_
  refine WL.nil ?_
  refine WQ.then_normal (hK2 _ _ _ ?_)
  refine WP.ret ?_
  obtain rfl := Option.some.inj hm
  exact WQ.ret1 _ rfl rfl ⟨rfl, hb8⟩

theorem c_69 (n : Nat) (list_0 : List Int) (a0' : Option Addr) (c0' : Nat) (low_1 : Int) (high_2 : Int) (w : World) {r : Bool} (hm : m_impl_outside n list_0 low_1 high_2 = some r) (h0 : Rd fInt.ty w a0' list_0) (hle0 : list_0.length ≤ c0') :
    CallV Tryd.prog 69 #[.slice a0' list_0.length c0', .int .i64 low_1, .int .i64 high_2] w (fun v w' => v = .bool r ∧ Ext w w') := by
  unfold m_impl_outside at hm
  refine CallV.enter Tryd.func69 rfl (by kernel_rfl) Tryd.ntmps69 (env := [(0, .slice a0' list_0.length c0'), (1, .int .i64 low_1), (2, .int .i64 high_2)]) ⟨rfl, rfl, rfl, trivial⟩ ?_
  refine WP.seq (fun K1 hK1 => ?_)
  refine WP.region ?_
  refine WL.box 2 [.int .i64 low_1] 4 (by kernel_rfl) rfl rfl rfl rfl ?_
  intro b2 w3 hE4 hR5
  have hb7 : Ext w w3 := Ext.trans (Ext.refl w) hE4
  have hL8 : w.heap.size ≤ w3.heap.size := Nat.le_trans (Nat.le_refl _) hE4.size
  have hS9 : SH w3 w.heap.size [aBox 2 b2 [.int .i64 low_1]] := SH.add (SH.nil _ _) hE4 (Nat.le_refl _) hR5
  refine WL.box 2 [.int .i64 high_2] 5 (by kernel_rfl) rfl rfl rfl rfl ?_
  intro b10 w11 hE12 hR13
  have hb15 : Ext w w11 := Ext.trans hb7 hE12
  have hL16 : w.heap.size ≤ w11.heap.size := Nat.le_trans hL8 hE12.size
  have hS17 : SH w11 w.heap.size [aBox 2 b10 [.int .i64 high_2], aBox 2 b2 [.int .i64 low_1]] := SH.add hS9 hE12 hL8 hR13
  refine WL.runk 1 [0, 4, 5] [(0, .slice a0' list_0.length c0'), (4, .pointer (some ⟨b2, 0, none⟩)), (5, .pointer (some ⟨b10, 0, none⟩))] (by kernel_rfl) ?_
  refine WL.nil ?_
  refine WQ.then_normal (hK1 _ _ _ ?_)
  refine WP.seq (fun K18 hK18 => ?_)
  refine WP.region ?_
  refine WL.runk 2 [7, 8] [(7, .slice a0' list_0.length c0'), (8, .func (.func 86) #[] #[.pointer (some ⟨b2, 0, none⟩), .pointer (some ⟨b10, 0, none⟩)])] (by kernel_rfl) ?_
  obtain ⟨x19, hx20, hm⟩ := bindE hm
  refine WL.call 85 #[.slice a0' list_0.length c0', .func (.func 86) #[] #[.pointer (some ⟨b2, 0, none⟩), .pointer (some ⟨b10, 0, none⟩)]] rfl rfl (by kernel_rfl) (c_85_86 n list_0 a0' c0' low_1 b2 0 high_2 b10 0 w11 hx20 (Rd.below h0 hb15) hle0 (SH.boxRd (SH.front 1 hS17)) (SH.boxRd (SH.front 0 hS17))) ?_
  rintro _ w21 ⟨rfl, hE22⟩
  refine ⟨_, rfl, ?_⟩
  have hb24 : Ext w w21 := Ext.trans hb15 hE22
  have hL25 : w.heap.size ≤ w21.heap.size := Nat.le_trans hL16 hE22.size
  have hS26 : SH w21 w.heap.size [aBox 2 b10 [.int .i64 high_2], aBox 2 b2 [.int .i64 low_1]] := SH.ext hS17 hE22
  refine WL.runk 1 [6] [(6, .bool x19)] (by kernel_rfl) ?_
  refine WL.nil ?_
  refine WQ.then_normal (hK18 _ _ _ ?_)
  refine WP.ret ?_
  obtain rfl := Option.some.inj hm
  exact WQ.ret1 _ rfl rfl ⟨rfl, hb24⟩

theorem c_70 (n : Nat) (f_0 : SFoot) (w : World) {r : List Int} (hm : m_impl_Foot_measures n f_0 = some r)  :
    CallV Tryd.prog 70 #[.agg #[.int .i64 f_0.Length, .int .i64 f_0.Ball, .int .i64 f_0.Instep, .int .i64 f_0.Heel]] w (fun v w' => ∃ (ra0 : Option Addr) (rc0 : Nat), v = .slice ra0 r.length rc0 ∧ Ext w w' ∧ SH w' w.heap.size [aOwn fInt 2 ra0 rc0 r]) := by
  unfold m_impl_Foot_measures at hm
  refine CallV.enter Tryd.func70 rfl (by kernel_rfl) Tryd.ntmps70 (env := [(0, .agg #[.int .i64 f_0.Length, .int .i64 f_0.Ball, .int .i64 f_0.Instep, .int .i64 f_0.Heel])]) ⟨rfl, trivial⟩ ?_
  refine WP.seq (fun K1 hK1 => ?_)
  refine WP.region ?_
  refine WL.box 62 [.int .i64 f_0.Length, .int .i64 f_0.Ball, .int .i64 f_0.Instep, .int .i64 f_0.Heel] 1 (by kernel_rfl) rfl rfl rfl rfl ?_
  intro b2 w3 hE4 hR5
  have hb7 : Ext w w3 := Ext.trans (Ext.refl w) hE4
  have hL8 : w.heap.size ≤ w3.heap.size := Nat.le_trans (Nat.le_refl _) hE4.size
  have hS9 : SH w3 w.heap.size [aBox 62 b2 [.int .i64 f_0.Length, .int .i64 f_0.Ball, .int .i64 f_0.Instep, .int .i64 f_0.Heel]] := SH.add (SH.nil _ _) hE4 (Nat.le_refl _) hR5
  refine WL.runk 1 [1] [(1, .pointer (some ⟨b2, 0, none⟩))] (by kernel_rfl) ?_
  refine WL.nil ?_
  refine WQ.then_normal (hK1 _ _ _ ?_)
  refine WP.seq (fun K10 hK10 => ?_)
  refine WP.region ?_
  refine WL.runk 1 [1, 3] [(1, .pointer (some ⟨b2, 0, none⟩)), (3, .pointer (some ⟨b2, 0, none⟩))] (by kernel_rfl) ?_
  refine WL.st (.int .i64 f_0.Length) (ST.load (cell_ext (SH.boxAt (SH.front 0 hS9) 0 _ rfl)) rfl rfl Tryd.underlying2 rfl) rfl rfl rfl ?_
  refine WL.runk 1 [1, 4, 5] [(1, .pointer (some ⟨b2, 0, none⟩)), (4, .int .i64 f_0.Length), (5, .pointer (some ⟨b2, 1, none⟩))] (by kernel_rfl) ?_
  refine WL.st (.int .i64 f_0.Ball) (ST.load (cell_ext (SH.boxAt (SH.front 0 hS9) 1 _ rfl)) rfl rfl Tryd.underlying2 rfl) rfl rfl rfl ?_
  refine WL.runk 1 [1, 4, 6, 7] [(1, .pointer (some ⟨b2, 0, none⟩)), (4, .int .i64 f_0.Length), (6, .int .i64 f_0.Ball), (7, .pointer (some ⟨b2, 2, none⟩))] (by kernel_rfl) ?_
  refine WL.st (.int .i64 f_0.Instep) (ST.load (cell_ext (SH.boxAt (SH.front 0 hS9) 2 _ rfl)) rfl rfl Tryd.underlying2 rfl) rfl rfl rfl ?_
  refine WL.runk 1 [4, 6, 8, 9] [(4, .int .i64 f_0.Length), (6, .int .i64 f_0.Ball), (8, .int .i64 f_0.Instep), (9, .pointer (some ⟨b2, 3, none⟩))] (by kernel_rfl) ?_
  refine WL.st (.int .i64 f_0.Heel) (ST.load (cell_ext (SH.boxAt (SH.front 0 hS9) 3 _ rfl)) rfl rfl Tryd.underlying2 rfl) rfl rfl rfl ?_
  refine WL.row fInt 2 ([f_0.Length, f_0.Ball, f_0.Instep, f_0.Heel] : List Int) 4 #[.int .i64 f_0.Length, .int .i64 f_0.Ball, .int .i64 f_0.Instep, .int .i64 f_0.Heel] 11 (by kernel_rfl) rfl rfl rfl rfl rfl rfl rfl ?_
  intro a11 c12 w13 hE14 hR15
  have hb17 : Ext w w13 := Ext.trans hb7 hE14
  have hL18 : w.heap.size ≤ w13.heap.size := Nat.le_trans hL8 hE14.size
  have hS19 : SH w13 w.heap.size [aOwn fInt 2 a11 c12 ([f_0.Length, f_0.Ball, f_0.Instep, f_0.Heel] : List Int), aBox 62 b2 [.int .i64 f_0.Length, .int .i64 f_0.Ball, .int .i64 f_0.Instep, .int .i64 f_0.Heel]] := SH.add hS9 hE14 hL8 hR15
  refine WL.runk 1 [2] [(2, .slice a11 (([f_0.Length, f_0.Ball, f_0.Instep, f_0.Heel] : List Int).length) c12)] (by kernel_rfl) ?_
  refine WL.nil ?_
  refine WQ.then_normal (hK10 _ _ _ ?_)
  refine WP.ret ?_
  obtain rfl := Option.some.inj hm
  exact WQ.ret1 _ rfl rfl ⟨_, _, rfl, hb17, (SH.take 1 hS19)⟩

theorem c_57 (n : Nat) (f_0 : SFoot) (w : World) {r : Bool} (hm : m_impl_ValidFoot n f_0 = some r)  :
    CallV Tryd.prog 57 #[.agg #[.int .i64 f_0.Length, .int .i64 f_0.Ball, .int .i64 f_0.Instep, .int .i64 f_0.Heel]] w (fun v w' => v = .bool r ∧ Ext w w') := by
  unfold m_impl_ValidFoot at hm
  refine CallV.enter Tryd.func57 rfl (by kernel_rfl) Tryd.ntmps57 (env := [(0, .agg #[.int .i64 f_0.Length, .int .i64 f_0.Ball, .int .i64 f_0.Instep, .int .i64 f_0.Heel])]) ⟨rfl, trivial⟩ ?_
  refine WP.seq (fun K1 hK1 => ?_)
  refine WP.region ?_
  refine WL.box 62 [.int .i64 f_0.Length, .int .i64 f_0.Ball, .int .i64 f_0.Instep, .int .i64 f_0.Heel] 1 (by kernel_rfl) rfl rfl rfl rfl ?_
  intro b2 w3 hE4 hR5
  have hb7 : Ext w w3 := Ext.trans (Ext.refl w) hE4
  have hL8 : w.heap.size ≤ w3.heap.size := Nat.le_trans (Nat.le_refl _) hE4.size
  have hS9 : SH w3 w.heap.size [aBox 62 b2 [.int .i64 f_0.Length, .int .i64 f_0.Ball, .int .i64 f_0.Instep, .int .i64 f_0.Heel]] := SH.add (SH.nil _ _) hE4 (Nat.le_refl _) hR5
  refine WL.runk 1 [1] [(1, .pointer (some ⟨b2, 0, none⟩))] (by kernel_rfl) ?_
  refine WL.nil ?_
  refine WQ.then_normal (hK1 _ _ _ ?_)
  refine WP.seq (fun K10 hK10 => ?_)
  refine WP.region ?_
  refine WL.st (.agg #[.int .i64 f_0.Length, .int .i64 f_0.Ball, .int .i64 f_0.Instep, .int .i64 f_0.Heel]) (ST.loadAgg (vs := [.int .i64 f_0.Length, .int .i64 f_0.Ball, .int .i64 f_0.Instep, .int .i64 f_0.Heel]) (fun j v hv => SH.boxPart (us := [.int .i64 f_0.Length, .int .i64 f_0.Ball, .int .i64 f_0.Instep, .int .i64 f_0.Heel]) (SH.front 0 hS9) 0 rfl j v hv) rfl rfl rfl Tryd.underlying62 rfl (info62).1 (info62).2.1) rfl rfl rfl ?_
  obtain ⟨x11, hx12, hm⟩ := bindE hm
  refine WL.call 70 #[.agg #[.int .i64 f_0.Length, .int .i64 f_0.Ball, .int .i64 f_0.Instep, .int .i64 f_0.Heel]] rfl rfl (by kernel_rfl) (c_70 n f_0 w3 hx12 ) ?_
  rintro _ w16 ⟨a13, c14, rfl, hE17, hR18⟩
  refine ⟨_, rfl, ?_⟩
  have hb19 : Ext w w16 := Ext.trans hb7 hE17
  have hL20 : w.heap.size ≤ w16.heap.size := Nat.le_trans hL8 hE17.size
  have hS21 : SH w16 w.heap.size [aOwn fInt 2 a13 c14 x11, aBox 62 b2 [.int .i64 f_0.Length, .int .i64 f_0.Ball, .int .i64 f_0.Instep, .int .i64 f_0.Heel]] := SH.add hS9 hE17 hL8 hR18
  obtain ⟨x22, hx23, hm⟩ := bindE hm
  refine WL.call 69 #[.slice a13 x11.length c14, .int .i64 500, .int .i64 5000] rfl rfl (by kernel_rfl) (c_69 n x11 a13 c14 500 5000 w16 hx23 (SH.rd (SH.front 0 hS21)) (SH.le (SH.front 0 hS21)).1) ?_
  rintro _ w24 ⟨rfl, hE25⟩
  refine ⟨_, rfl, ?_⟩
  have hb27 : Ext w w24 := Ext.trans hb19 hE25
  have hL28 : w.heap.size ≤ w24.heap.size := Nat.le_trans hL20 hE25.size
  have hS29 : SH w24 w.heap.size [aOwn fInt 2 a13 c14 x11, aBox 62 b2 [.int .i64 f_0.Length, .int .i64 f_0.Ball, .int .i64 f_0.Instep, .int .i64 f_0.Heel]] := SH.ext hS21 hE25
  refine WL.runk 2 [2] [(2, .bool (!x22))] (by kernel_rfl) ?_
  refine WL.nil ?_
  refine WQ.then_normal (hK10 _ _ _ ?_)
  refine WP.ret ?_
  obtain rfl := Option.some.inj hm
  exact WQ.ret1 _ rfl rfl ⟨rfl, hb27⟩

theorem c_58 (n : Nat) (x_0 : SLast) (w : World) {r : SFoot} (hm : m_impl_Last_foot n x_0 = some r)  :
    CallV Tryd.prog 58 #[.agg #[.string (bs x_0.Name), .int .i64 x_0.Length, .int .i64 x_0.Ball, .int .i64 x_0.Instep, .int .i64 x_0.Heel, .int .i64 x_0.Pitch]] w (fun v w' => v = .agg #[.int .i64 r.Length, .int .i64 r.Ball, .int .i64 r.Instep, .int .i64 r.Heel] ∧ Ext w w') := by
  unfold m_impl_Last_foot at hm
  refine CallV.enter Tryd.func58 rfl (by kernel_rfl) Tryd.ntmps58 (env := [(0, .agg #[.string (bs x_0.Name), .int .i64 x_0.Length, .int .i64 x_0.Ball, .int .i64 x_0.Instep, .int .i64 x_0.Heel, .int .i64 x_0.Pitch])]) ⟨rfl, trivial⟩ ?_
  refine WP.seq (fun K1 hK1 => ?_)
  refine WP.region ?_
  refine WL.box 35 [.string (bs x_0.Name), .int .i64 x_0.Length, .int .i64 x_0.Ball, .int .i64 x_0.Instep, .int .i64 x_0.Heel, .int .i64 x_0.Pitch] 1 (by kernel_rfl) rfl rfl rfl rfl ?_
  intro b2 w3 hE4 hR5
  have hb7 : Ext w w3 := Ext.trans (Ext.refl w) hE4
  have hL8 : w.heap.size ≤ w3.heap.size := Nat.le_trans (Nat.le_refl _) hE4.size
  have hS9 : SH w3 w.heap.size [aBox 35 b2 [.string (bs x_0.Name), .int .i64 x_0.Length, .int .i64 x_0.Ball, .int .i64 x_0.Instep, .int .i64 x_0.Heel, .int .i64 x_0.Pitch]] := SH.add (SH.nil _ _) hE4 (Nat.le_refl _) hR5
  refine WL.box 62 [.int .i64 0, .int .i64 0, .int .i64 0, .int .i64 0] 2 (by kernel_rfl) rfl rfl rfl rfl ?_
  intro b10 w11 hE12 hR13
  have hb15 : Ext w w11 := Ext.trans hb7 hE12
  have hL16 : w.heap.size ≤ w11.heap.size := Nat.le_trans hL8 hE12.size
  have hS17 : SH w11 w.heap.size [aBox 62 b10 [.int .i64 0, .int .i64 0, .int .i64 0, .int .i64 0], aBox 35 b2 [.string (bs x_0.Name), .int .i64 x_0.Length, .int .i64 x_0.Ball, .int .i64 x_0.Instep, .int .i64 x_0.Heel, .int .i64 x_0.Pitch]] := SH.add hS9 hE12 hL8 hR13
  refine WL.sub [(1, .pointer (some ⟨b2, 0, none⟩)), (2, .pointer (some ⟨b10, 0, none⟩))] ⟨rfl, rfl, trivial⟩ ?_
  refine WL.nil ?_
  refine WQ.then_normal (hK1 _ _ _ ?_)
  refine WP.seq (fun K18 hK18 => ?_)
  refine WP.region ?_
  refine WL.runk 1 [1, 2, 3] [(1, .pointer (some ⟨b2, 0, none⟩)), (2, .pointer (some ⟨b10, 0, none⟩)), (3, .pointer (some ⟨b2, 1, none⟩))] (by kernel_rfl) ?_
  refine WL.st (.int .i64 x_0.Length) (ST.load (cell_ext (SH.boxAt (SH.front 1 hS17) 1 _ rfl)) rfl rfl Tryd.underlying2 rfl) rfl rfl rfl ?_
  refine WL.runk 1 [1, 2, 4, 5] [(1, .pointer (some ⟨b2, 0, none⟩)), (2, .pointer (some ⟨b10, 0, none⟩)), (4, .int .i64 x_0.Length), (5, .pointer (some ⟨b2, 2, none⟩))] (by kernel_rfl) ?_
  refine WL.st (.int .i64 x_0.Ball) (ST.load (cell_ext (SH.boxAt (SH.front 1 hS17) 2 _ rfl)) rfl rfl Tryd.underlying2 rfl) rfl rfl rfl ?_
  refine WL.runk 1 [1, 2, 4, 6, 7] [(1, .pointer (some ⟨b2, 0, none⟩)), (2, .pointer (some ⟨b10, 0, none⟩)), (4, .int .i64 x_0.Length), (6, .int .i64 x_0.Ball), (7, .pointer (some ⟨b2, 3, none⟩))] (by kernel_rfl) ?_
  refine WL.st (.int .i64 x_0.Instep) (ST.load (cell_ext (SH.boxAt (SH.front 1 hS17) 3 _ rfl)) rfl rfl Tryd.underlying2 rfl) rfl rfl rfl ?_
  refine WL.runk 1 [2, 4, 6, 8, 9] [(2, .pointer (some ⟨b10, 0, none⟩)), (4, .int .i64 x_0.Length), (6, .int .i64 x_0.Ball), (8, .int .i64 x_0.Instep), (9, .pointer (some ⟨b2, 4, none⟩))] (by kernel_rfl) ?_
  refine WL.st (.int .i64 x_0.Heel) (ST.load (cell_ext (SH.boxAt (SH.front 1 hS17) 4 _ rfl)) rfl rfl Tryd.underlying2 rfl) rfl rfl rfl ?_
  refine WL.runk 1 [2, 11] [(2, .pointer (some ⟨b10, 0, none⟩)), (11, .agg #[.int .i64 x_0.Length, .int .i64 x_0.Ball, .int .i64 x_0.Instep, .int .i64 x_0.Heel])] (by kernel_rfl) ?_
  refine WL.boxStore 0 [.int .i64 x_0.Length, .int .i64 x_0.Ball, .int .i64 x_0.Instep, .int .i64 x_0.Heel] [.int .i64 x_0.Length, .int .i64 x_0.Ball, .int .i64 x_0.Instep, .int .i64 x_0.Heel] (SH.front 0 hS17) hL16 rfl rfl rfl rfl rfl rfl rfl (info62).1 (info62).2.1 rfl rfl rfl ?_
  intro w19 hB20 hS21
  have hb22 : Ext w w19 := Below.trans hb15 hB20
  have hL23 : w.heap.size ≤ w19.heap.size := Nat.le_trans hL16 hB20.size
  refine WL.sub [(2, .pointer (some ⟨b10, 0, none⟩))] ⟨rfl, trivial⟩ ?_
  refine WL.nil ?_
  refine WQ.then_normal (hK18 _ _ _ ?_)
  refine WP.ret ?_
  obtain rfl := Option.some.inj hm
  exact WQ.retv1 _ rfl (RVal.box (SH.front 0 hS21) rfl Tryd.underlying62 rfl (info62).1 (info62).2.1) ⟨rfl, hb22⟩

theorem c_36 (n : Nat) (x_0 : SLast) (w : World) {r : Bool} (hm : m_impl_validLast n x_0 = some r)  :
    CallV Tryd.prog 36 #[.agg #[.string (bs x_0.Name), .int .i64 x_0.Length, .int .i64 x_0.Ball, .int .i64 x_0.Instep, .int .i64 x_0.Heel, .int .i64 x_0.Pitch]] w (fun v w' => v = .bool r ∧ Ext w w') := by
  unfold m_impl_validLast at hm
  refine CallV.enter Tryd.func36 rfl (by kernel_rfl) Tryd.ntmps36 (env := [(0, .agg #[.string (bs x_0.Name), .int .i64 x_0.Length, .int .i64 x_0.Ball, .int .i64 x_0.Instep, .int .i64 x_0.Heel, .int .i64 x_0.Pitch])]) ⟨rfl, trivial⟩ ?_
  refine WP.seq (fun K1 hK1 => ?_)
  refine WP.region ?_
  refine WL.box 35 [.string (bs x_0.Name), .int .i64 x_0.Length, .int .i64 x_0.Ball, .int .i64 x_0.Instep, .int .i64 x_0.Heel, .int .i64 x_0.Pitch] 1 (by kernel_rfl) rfl rfl rfl rfl ?_
  intro b2 w3 hE4 hR5
  have hb7 : Ext w w3 := Ext.trans (Ext.refl w) hE4
  have hL8 : w.heap.size ≤ w3.heap.size := Nat.le_trans (Nat.le_refl _) hE4.size
  have hS9 : SH w3 w.heap.size [aBox 35 b2 [.string (bs x_0.Name), .int .i64 x_0.Length, .int .i64 x_0.Ball, .int .i64 x_0.Instep, .int .i64 x_0.Heel, .int .i64 x_0.Pitch]] := SH.add (SH.nil _ _) hE4 (Nat.le_refl _) hR5
  refine WL.runk 1 [1] [(1, .pointer (some ⟨b2, 0, none⟩))] (by kernel_rfl) ?_
  refine WL.nil ?_
  refine WQ.then_normal (hK1 _ _ _ ?_)
  refine WP.seq (fun K10 hK10 => ?_)
  obtain ⟨x45, hx46, hm⟩ := bindE hm
  refine WP.cut (fun env' w' => env' = [(2, .bool x45)] ∧ Ext w w' ∧ w.heap.size ≤ w'.heap.size ∧ SH w' w.heap.size [aBox 35 b2 [.string (bs x_0.Name), .int .i64 x_0.Length, .int .i64 x_0.Ball, .int .i64 x_0.Instep, .int .i64 x_0.Heel, .int .i64 x_0.Pitch]]) ?_ ?_
  rotate_left
  · clear hx46
    rintro _ w81 ⟨rfl, hb82, hL83, hS84⟩
    refine WQ.then_normal (hK10 _ _ _ ?_)
    refine WP.ret ?_
    obtain rfl := Option.some.inj hm
    exact WQ.ret1 _ rfl rfl ⟨rfl, hb82⟩
  have hm := hx46; clear hx46
  refine WP.region ?_
  refine WL.runk 1 [1, 3] [(1, .pointer (some ⟨b2, 0, none⟩)), (3, .pointer (some ⟨b2, 0, none⟩))] (by kernel_rfl) ?_
  refine WL.st (.string (bs x_0.Name)) (ST.load (cell_ext (SH.boxAt (SH.front 0 hS9) 0 _ rfl)) rfl rfl Tryd.underlying9 rfl) rfl rfl rfl ?_
  obtain ⟨x47, hx48, hm⟩ := bindE hm
  refine WL.call 56 #[.string (bs x_0.Name)] rfl rfl (by kernel_rfl) (c_56 n x_0.Name w3 hx48 ) ?_
  rintro _ w49 ⟨rfl, hE50⟩
  refine ⟨_, rfl, ?_⟩
  have hb52 : Ext w w49 := Ext.trans hb7 hE50
  have hL53 : w.heap.size ≤ w49.heap.size := Nat.le_trans hL8 hE50.size
  have hS54 : SH w49 w.heap.size [aBox 35 b2 [.string (bs x_0.Name), .int .i64 x_0.Length, .int .i64 x_0.Ball, .int .i64 x_0.Instep, .int .i64 x_0.Heel, .int .i64 x_0.Pitch]] := SH.ext hS9 hE50
  refine WL.runk 1 [1, 6] [(1, .pointer (some ⟨b2, 0, none⟩)), (6, .bool x47)] (by kernel_rfl) ?_
  refine WL.case x47 [6] ⟨rfl, trivial⟩ (fun hc55 => ?_) (fun hc55 => ?_)
  rotate_left
  · have hm := iteF hm hc55
    refine WL.runk 10 [2] [(2, .bool false)] (by kernel_rfl) ?_
    refine WL.nil ?_
    obtain rfl := Option.some.inj hm
    exact WQ.post' ⟨rfl, hb52, hL53, hS54⟩ ⟨rfl, trivial⟩
  have hm := iteT hm hc55
  refine WL.st (.agg #[.string (bs x_0.Name), .int .i64 x_0.Length, .int .i64 x_0.Ball, .int .i64 x_0.Instep, .int .i64 x_0.Heel, .int .i64 x_0.Pitch]) (ST.loadAgg (vs := [.string (bs x_0.Name), .int .i64 x_0.Length, .int .i64 x_0.Ball, .int .i64 x_0.Instep, .int .i64 x_0.Heel, .int .i64 x_0.Pitch]) (fun j v hv => SH.boxPart (us := [.string (bs x_0.Name), .int .i64 x_0.Length, .int .i64 x_0.Ball, .int .i64 x_0.Instep, .int .i64 x_0.Heel, .int .i64 x_0.Pitch]) (SH.front 0 hS54) 0 rfl j v hv) rfl rfl rfl Tryd.underlying35 rfl (info35).1 (info35).2.1) rfl rfl rfl ?_
  obtain ⟨x56, hx57, hm⟩ := bindE hm
  refine WL.call 58 #[.agg #[.string (bs x_0.Name), .int .i64 x_0.Length, .int .i64 x_0.Ball, .int .i64 x_0.Instep, .int .i64 x_0.Heel, .int .i64 x_0.Pitch]] rfl rfl (by kernel_rfl) (c_58 n x_0 w49 hx57 ) ?_
  rintro _ w58 ⟨rfl, hE59⟩
  refine ⟨_, rfl, ?_⟩
  have hb61 : Ext w w58 := Ext.trans hb52 hE59
  have hL62 : w.heap.size ≤ w58.heap.size := Nat.le_trans hL53 hE59.size
  have hS63 : SH w58 w.heap.size [aBox 35 b2 [.string (bs x_0.Name), .int .i64 x_0.Length, .int .i64 x_0.Ball, .int .i64 x_0.Instep, .int .i64 x_0.Heel, .int .i64 x_0.Pitch]] := SH.ext hS54 hE59
  obtain ⟨x64, hx65, hm⟩ := bindE hm
  refine WL.call 57 #[.agg #[.int .i64 x56.Length, .int .i64 x56.Ball, .int .i64 x56.Instep, .int .i64 x56.Heel]] rfl rfl (by kernel_rfl) (c_57 n x56 w58 hx65 ) ?_
  rintro _ w66 ⟨rfl, hE67⟩
  refine ⟨_, rfl, ?_⟩
  have hb69 : Ext w w66 := Ext.trans hb61 hE67
  have hL70 : w.heap.size ≤ w66.heap.size := Nat.le_trans hL62 hE67.size
  have hS71 : SH w66 w.heap.size [aBox 35 b2 [.string (bs x_0.Name), .int .i64 x_0.Length, .int .i64 x_0.Ball, .int .i64 x_0.Instep, .int .i64 x_0.Heel, .int .i64 x_0.Pitch]] := SH.ext hS63 hE67
  refine WL.runk 2 [1, 11] [(1, .pointer (some ⟨b2, 0, none⟩)), (11, .bool x64)] (by kernel_rfl) ?_
  refine WL.case x64 [11] ⟨rfl, trivial⟩ (fun hc72 => ?_) (fun hc72 => ?_)
  rotate_left
  · have hm := iteF hm hc72
    refine WL.runk 5 [2] [(2, .bool false)] (by kernel_rfl) ?_
    refine WL.nil ?_
    obtain rfl := Option.some.inj hm
    exact WQ.post' ⟨rfl, hb69, hL70, hS71⟩ ⟨rfl, trivial⟩
  have hm := iteT hm hc72
  refine WL.runk 1 [11, 12] [(11, .bool true), (12, .pointer (some ⟨b2, 5, none⟩))] (by kernel_rfl) ?_
  refine WL.st (.int .i64 x_0.Pitch) (ST.load (cell_ext (SH.boxAt (SH.front 0 hS71) 5 _ rfl)) rfl rfl Tryd.underlying2 rfl) rfl rfl rfl ?_
  obtain ⟨x73, hx74, hm⟩ := bindE hm
  refine WL.call 46 #[.int .i64 x_0.Pitch, .int .i64 0, .int .i64 1000] rfl rfl (by kernel_rfl) (c_46 n x_0.Pitch 0 1000 w66 hx74 ) ?_
  rintro _ w75 ⟨rfl, hE76⟩
  refine ⟨_, rfl, ?_⟩
  have hb78 : Ext w w75 := Ext.trans hb69 hE76
  have hL79 : w.heap.size ≤ w75.heap.size := Nat.le_trans hL70 hE76.size
  have hS80 : SH w75 w.heap.size [aBox 35 b2 [.string (bs x_0.Name), .int .i64 x_0.Length, .int .i64 x_0.Ball, .int .i64 x_0.Instep, .int .i64 x_0.Heel, .int .i64 x_0.Pitch]] := SH.ext hS71 hE76
  refine WL.runk 2 [2] [(2, .bool x73)] (by kernel_rfl) ?_
  refine WL.nil ?_
  obtain rfl := Option.some.inj hm
  exact WQ.post' ⟨rfl, hb78, hL79, hS80⟩ ⟨rfl, trivial⟩

theorem c_60 (n : Nat) (c_0 : SChange) (w : World) {r : Bool} (hm : m_impl_ValidChanges_1 n c_0 = some r)  :
    CallV Tryd.prog 60 #[.agg #[.int .i64 c_0.Kind, .int .i64 c_0.Amount]] w (fun v w' => v = .bool r ∧ Ext w w') := by
  unfold m_impl_ValidChanges_1 at hm
  refine CallV.enter Tryd.func60 rfl (by kernel_rfl) Tryd.ntmps60 (env := [(0, .agg #[.int .i64 c_0.Kind, .int .i64 c_0.Amount])]) ⟨rfl, trivial⟩ ?_
  refine WP.seq (fun K1 hK1 => ?_)
  refine WP.region ?_
  refine WL.box 25 [.int .i64 c_0.Kind, .int .i64 c_0.Amount] 1 (by kernel_rfl) rfl rfl rfl rfl ?_
  intro b2 w3 hE4 hR5
  have hb7 : Ext w w3 := Ext.trans (Ext.refl w) hE4
  have hL8 : w.heap.size ≤ w3.heap.size := Nat.le_trans (Nat.le_refl _) hE4.size
  have hS9 : SH w3 w.heap.size [aBox 25 b2 [.int .i64 c_0.Kind, .int .i64 c_0.Amount]] := SH.add (SH.nil _ _) hE4 (Nat.le_refl _) hR5
  refine WL.runk 1 [1] [(1, .pointer (some ⟨b2, 0, none⟩))] (by kernel_rfl) ?_
  refine WL.nil ?_
  refine WQ.then_normal (hK1 _ _ _ ?_)
  refine WP.seq (fun K10 hK10 => ?_)
  refine WP.region ?_
  refine WL.st (.agg #[.int .i64 c_0.Kind, .int .i64 c_0.Amount]) (ST.loadAgg (vs := [.int .i64 c_0.Kind, .int .i64 c_0.Amount]) (fun j v hv => SH.boxPart (us := [.int .i64 c_0.Kind, .int .i64 c_0.Amount]) (SH.front 0 hS9) 0 rfl j v hv) rfl rfl rfl Tryd.underlying25 rfl (info25).1 (info25).2.1) rfl rfl rfl ?_
  obtain ⟨x11, hx12, hm⟩ := bindE hm
  refine WL.call 22 #[.agg #[.int .i64 c_0.Kind, .int .i64 c_0.Amount]] rfl rfl (by kernel_rfl) (c_22 n c_0 w3 hx12 ) ?_
  rintro _ w13 ⟨rfl, hE14⟩
  refine ⟨_, rfl, ?_⟩
  have hb16 : Ext w w13 := Ext.trans hb7 hE14
  have hL17 : w.heap.size ≤ w13.heap.size := Nat.le_trans hL8 hE14.size
  have hS18 : SH w13 w.heap.size [aBox 25 b2 [.int .i64 c_0.Kind, .int .i64 c_0.Amount]] := SH.ext hS9 hE14
  refine WL.runk 2 [2] [(2, .bool (!x11))] (by kernel_rfl) ?_
  refine WL.nil ?_
  refine WQ.then_normal (hK10 _ _ _ ?_)
  refine WP.ret ?_
  obtain rfl := Option.some.inj hm
  exact WQ.ret1 _ rfl rfl ⟨rfl, hb16⟩

theorem c_71_60 (n : Nat) (s_0 : List SChange) (a0' : Option Addr) (c0' : Nat) (w : World) {r : Int} (hm : m_slices_IndexFunc_impl_Change_impl_Change_f60 n s_0 = some r) (h0 : Rd fChange.ty w a0' s_0) (_hle0 : s_0.length ≤ c0') :
    CallV Tryd.prog 71 #[.slice a0' s_0.length c0', .func (.func 60) #[] #[]] w (fun v w' => v = .int .i64 r ∧ Ext w w') := by
  unfold m_slices_IndexFunc_impl_Change_impl_Change_f60 at hm
  refine CallV.enter Tryd.func71 rfl (by kernel_rfl) Tryd.ntmps71 (env := [(0, .slice a0' s_0.length c0'), (1, .func (.func 60) #[] #[])]) ⟨rfl, rfl, trivial⟩ ?_
  refine WP.seq (fun K1 hK1 => ?_)
  refine WP.region ?_
  refine WL.runk 1 [0, 1] [(0, .slice a0' s_0.length c0'), (1, .func (.func 60) #[] #[])] (by kernel_rfl) ?_
  refine WL.nil ?_
  refine WQ.then_normal (hK1 _ _ _ ?_)
  refine WP.seq (fun K2 hK2 => ?_)
  refine WP.seq (fun K3 hK3 => ?_)
  refine WP.region ?_
  refine WL.runk 3 [0, 1, 7, 8] [(0, .slice a0' s_0.length c0'), (1, .func (.func 60) #[] #[]), (7, .int .i64 (s_0.length : Int)), (8, .int .i64 0)] (by kernel_rfl) ?_
  refine WL.nil ?_
  refine WQ.then_normal (hK3 _ _ _ ?_)
  refine WP.block ?_
  obtain ⟨t15, ht16, hm⟩ := bindE hm
  have hmo10 := hm; clear hm
  refine WP.sub [(0, .slice a0' s_0.length c0'), (1, .func (.func 60) #[] #[]), (7, .int .i64 (s_0.length : Int)), (8, .int .i64 0)] ⟨rfl, rfl, rfl, rfl, trivial⟩ ?_
  refine WP.loop (fun n' env' w' => ∃ (st4 : Int) , env' = [(0, .slice a0' s_0.length c0'), (1, .func (.func 60) #[] #[]), (7, .int .i64 (s_0.length : Int)), (8, .int .i64 st4)] ∧ Ext w w' ∧ w.heap.size ≤ w'.heap.size ∧ SH w' w.heap.size [] ∧ loopN (m_slices_IndexFunc_impl_Change_impl_Change_f60_l1 n s_0) n' st4 = some t15) n ⟨0, rfl, (Ext.refl w), (Nat.le_refl _), (SH.nil _ _), ht16⟩ ?_
  rintro n12 _ w5 ⟨st4, rfl, hb6, hL7, hS8, hl9⟩ K11 hK11
  obtain ⟨n13, s14, rfl, hm, hl9⟩ := loopN_some hl9
  unfold m_slices_IndexFunc_impl_Change_impl_Change_f60_l1 at hm
  refine WP.seq (fun K17 hK17 => ?_)
  refine WP.region ?_
  refine WL.runk 1 [0, 1, 7, 8, 9] [(0, .slice a0' s_0.length c0'), (1, .func (.func 60) #[] #[]), (7, .int .i64 (s_0.length : Int)), (8, .int .i64 st4), (9, .bool (decide (st4 < (s_0.length : Int))))] (by kernel_rfl) ?_
  refine WL.nil ?_
  refine WQ.then_normal (hK17 _ _ _ ?_)
  refine WP.seq (fun K18 hK18 => ?_)
  refine WP.cond (decide (st4 < (s_0.length : Int))) rfl rfl (fun hc19 => ?_) (fun hc19 => ?_)
  rotate_left
  · have hm := iteF hm hc19
    refine WP.exit ?_
    refine WQ.then_exit ?_
    refine WQ.then_exit ?_
    refine WQ.block_here ?_
    obtain rfl := Option.some.inj hm
    obtain rfl := afterN_done hl9
    have hm := hmo10
    refine WQ.then_normal (hK2 _ _ _ ?_)
    refine WP.seq (fun K35 hK35 => ?_)
    refine WP.region ?_
    refine WL.runk 1 [4] [(4, .int .i64 (-1))] (by kernel_rfl) ?_
    refine WL.nil ?_
    refine WQ.then_normal (hK35 _ _ _ ?_)
    refine WP.ret ?_
    obtain rfl := Option.some.inj hm
    exact WQ.ret1 _ rfl rfl ⟨rfl, hb6⟩
  have hm := iteT hm hc19
  refine WP.skip ?_
  refine WQ.then_normal (hK18 _ _ _ ?_)
  refine WP.seq (fun K20 hK20 => ?_)
  refine WP.block ?_
  refine WP.seq (fun K21 hK21 => ?_)
  refine WP.region ?_
  refine WL.runk 2 [0, 1, 5, 7, 8] [(0, .slice a0' s_0.length c0'), (1, .func (.func 60) #[] #[]), (7, .int .i64 (s_0.length : Int)), (8, .int .i64 st4), (5, .int .i64 st4)] (by kernel_rfl) ?_
  refine WL.nil ?_
  refine WQ.then_normal (hK21 _ _ _ ?_)
  refine WP.seq (fun K22 hK22 => ?_)
  refine WP.region ?_
  refine WL.runk 3 [0, 1, 5, 7, 8, 11, 12, 13] [(0, .slice a0' s_0.length c0'), (1, .func (.func 60) #[] #[]), (7, .int .i64 (s_0.length : Int)), (8, .int .i64 st4), (5, .int .i64 st4), (11, .func (.func 60) #[] #[]), (12, .slice a0' s_0.length c0'), (13, .int .i64 st4)] (by kernel_rfl) ?_
  obtain ⟨x23, hx24, hm⟩ := bindE hm
  refine WL.st (.pointer (some (at_ a0' (Int.toNat st4 * 2)))) (ST.index (T := fChange.ty) (xs := s_0) (Rd.below h0 hb6) hx24 rfl rfl rfl Tryd.underlying37 (info25).1 (info25).2.1) rfl rfl rfl ?_
  refine WL.st (.agg #[.int .i64 x23.Kind, .int .i64 x23.Amount]) (ST.loadAgg (vs := fChange.leaf x23) (fun j v hv => Rd.flatA (F := fChange) (Rd.below h0 hb6) hx24 j hv) rfl rfl rfl Tryd.underlying25 rfl (info25).1 (info25).2.1) rfl rfl rfl ?_
  obtain ⟨x25, hx26, hm⟩ := bindE hm
  refine WL.call 60 #[.agg #[.int .i64 x23.Kind, .int .i64 x23.Amount]] rfl rfl (by kernel_rfl) (c_60 n x23 w5 hx26 ) ?_
  rintro _ w27 ⟨rfl, hE28⟩
  refine ⟨_, rfl, ?_⟩
  have hb30 : Ext w w27 := Ext.trans hb6 hE28
  have hL31 : w.heap.size ≤ w27.heap.size := Nat.le_trans hL7 hE28.size
  have hS32 : SH w27 w.heap.size [] := SH.ext hS8 hE28
  refine WL.sub [(0, .slice a0' s_0.length c0'), (1, .func (.func 60) #[] #[]), (7, .int .i64 (s_0.length : Int)), (8, .int .i64 st4), (5, .int .i64 st4), (16, .bool x25)] ⟨rfl, rfl, rfl, rfl, rfl, rfl, trivial⟩ ?_
  refine WL.nil ?_
  refine WQ.then_normal (hK22 _ _ _ ?_)
  refine WP.cond x25 rfl rfl (fun hc33 => ?_) (fun hc33 => ?_)
  rotate_left
  · have hm := iteF hm hc33
    refine WP.skip ?_
    refine WQ.block_normal ?_
    refine WQ.then_normal (hK20 _ _ _ ?_)
    refine WP.region ?_
    refine WL.runk 2 [0, 1, 7, 8] [(0, .slice a0' s_0.length c0'), (1, .func (.func 60) #[] #[]), (7, .int .i64 (s_0.length : Int)), (8, .int .i64 (wI64 (st4 + 1)))] (by kernel_rfl) ?_
    refine WL.nil ?_
    obtain rfl := Option.some.inj hm
    exact WQ.round hK11 ⟨(wI64 (st4 + 1)), rfl, hb30, hL31, hS32, hl9⟩ (Nat.lt_succ_self _) ⟨rfl, rfl, rfl, rfl, trivial⟩
  have hm := iteT hm hc33
  refine WP.seq (fun K34 hK34 => ?_)
  refine WP.region ?_
  refine WL.runk 2 [4] [(4, .int .i64 st4)] (by kernel_rfl) ?_
  refine WL.nil ?_
  refine WQ.then_normal (hK34 _ _ _ ?_)
  refine WP.ret ?_
  refine WQ.block_ret ?_
  refine WQ.then_ret ?_
  refine WQ.then_ret ?_
  refine WQ.block_ret ?_
  refine WQ.then_ret ?_
  obtain rfl := Option.some.inj hm
  obtain rfl := afterN_done hl9
  have hm := hmo10
  obtain rfl := Option.some.inj hm
  exact WQ.ret1 _ rfl rfl ⟨rfl, hb30⟩

theorem c_59_60 (n : Nat) (s_0 : List SChange) (a0' : Option Addr) (c0' : Nat) (w : World) {r : Bool} (hm : m_slices_ContainsFunc_impl_Change_impl_Change_f60 n s_0 = some r) (h0 : Rd fChange.ty w a0' s_0) (hle0 : s_0.length ≤ c0') :
    CallV Tryd.prog 59 #[.slice a0' s_0.length c0', .func (.func 60) #[] #[]] w (fun v w' => v = .bool r ∧ Ext w w') := by
  unfold m_slices_ContainsFunc_impl_Change_impl_Change_f60 at hm
  refine CallV.enter Tryd.func59 rfl (by kernel_rfl) Tryd.ntmps59 (env := [(0, .slice a0' s_0.length c0'), (1, .func (.func 60) #[] #[])]) ⟨rfl, rfl, trivial⟩ ?_
  refine WP.seq (fun K1 hK1 => ?_)
  refine WP.region ?_
  refine WL.runk 1 [0, 1] [(0, .slice a0' s_0.length c0'), (1, .func (.func 60) #[] #[])] (by kernel_rfl) ?_
  refine WL.nil ?_
  refine WQ.then_normal (hK1 _ _ _ ?_)
  refine WP.seq (fun K2 hK2 => ?_)
  refine WP.region ?_
  refine WL.runk 2 [5, 6] [(5, .slice a0' s_0.length c0'), (6, .func (.func 60) #[] #[])] (by kernel_rfl) ?_
  obtain ⟨x3, hx4, hm⟩ := bindE hm
  refine WL.call 71 #[.slice a0' s_0.length c0', .func (.func 60) #[] #[]] rfl rfl (by kernel_rfl) (c_71_60 n s_0 a0' c0' w hx4 (Rd.below h0 (Ext.refl w)) hle0) ?_
  rintro _ w5 ⟨rfl, hE6⟩
  refine ⟨_, rfl, ?_⟩
  have hb8 : Ext w w5 := Ext.trans (Ext.refl w) hE6
  have hL9 : w.heap.size ≤ w5.heap.size := Nat.le_trans (Nat.le_refl _) hE6.size
  have hS10 : SH w5 w.heap.size [] := SH.ext (SH.nil _ _) hE6
  refine WL.runk 2 [4] [(4, .bool (decide (x3 ≥ 0)))] (by kernel_rfl) ?_
  refine WL.nil ?_
  refine WQ.then_normal (hK2 _ _ _ ?_)
  refine WP.ret ?_
  obtain rfl := Option.some.inj hm
  exact WQ.ret1 _ rfl rfl ⟨rfl, hb8⟩

theorem c_37 (n : Nat) (list_0 : List SChange) (a0' : Option Addr) (c0' : Nat) (w : World) {r : Bool} (hm : m_impl_ValidChanges n list_0 = some r) (h0 : Rd fChange.ty w a0' list_0) (hle0 : list_0.length ≤ c0') :
    CallV Tryd.prog 37 #[.slice a0' list_0.length c0'] w (fun v w' => v = .bool r ∧ Ext w w') := by
  unfold m_impl_ValidChanges at hm
  refine CallV.enter Tryd.func37 rfl (by kernel_rfl) Tryd.ntmps37 (env := [(0, .slice a0' list_0.length c0')]) ⟨rfl, trivial⟩ ?_
  refine WP.seq (fun K1 hK1 => ?_)
  refine WP.region ?_
  refine WL.runk 1 [0] [(0, .slice a0' list_0.length c0')] (by kernel_rfl) ?_
  refine WL.nil ?_
  refine WQ.then_normal (hK1 _ _ _ ?_)
  refine WP.seq (fun K2 hK2 => ?_)
  obtain ⟨x12, hx13, hm⟩ := bindE hm
  refine WP.cut (fun env' w' => env' = [(2, .bool x12)] ∧ Ext w w' ∧ w.heap.size ≤ w'.heap.size ∧ SH w' w.heap.size []) ?_ ?_
  rotate_left
  · clear hx13
    rintro _ w23 ⟨rfl, hb24, hL25, hS26⟩
    refine WQ.then_normal (hK2 _ _ _ ?_)
    refine WP.ret ?_
    obtain rfl := Option.some.inj hm
    exact WQ.ret1 _ rfl rfl ⟨rfl, hb24⟩
  have hm := hx13; clear hx13
  refine WP.region ?_
  refine WL.runk 4 [0, 6] [(0, .slice a0' list_0.length c0'), (6, .bool (decide ((list_0.length : Int) ≤ 20)))] (by kernel_rfl) ?_
  refine WL.case (decide ((list_0.length : Int) ≤ 20)) [6] ⟨rfl, trivial⟩ (fun hc14 => ?_) (fun hc14 => ?_)
  rotate_left
  · have hm := iteF hm hc14
    refine WL.runk 5 [2] [(2, .bool false)] (by kernel_rfl) ?_
    refine WL.nil ?_
    obtain rfl := Option.some.inj hm
    exact WQ.post' ⟨rfl, (Ext.refl w), (Nat.le_refl _), (SH.nil _ _)⟩ ⟨rfl, trivial⟩
  have hm := iteT hm hc14
  refine WL.runk 1 [6, 7] [(6, .bool true), (7, .slice a0' list_0.length c0')] (by kernel_rfl) ?_
  obtain ⟨x15, hx16, hm⟩ := bindE hm
  refine WL.call 59 #[.slice a0' list_0.length c0', .func (.func 60) #[] #[]] rfl rfl (by kernel_rfl) (c_59_60 n list_0 a0' c0' w hx16 (Rd.below h0 (Ext.refl w)) hle0) ?_
  rintro _ w17 ⟨rfl, hE18⟩
  refine ⟨_, rfl, ?_⟩
  have hb20 : Ext w w17 := Ext.trans (Ext.refl w) hE18
  have hL21 : w.heap.size ≤ w17.heap.size := Nat.le_trans (Nat.le_refl _) hE18.size
  have hS22 : SH w17 w.heap.size [] := SH.ext (SH.nil _ _) hE18
  refine WL.runk 3 [2] [(2, .bool (!x15))] (by kernel_rfl) ?_
  refine WL.nil ?_
  obtain rfl := Option.some.inj hm
  exact WQ.post' ⟨rfl, hb20, hL21, hS22⟩ ⟨rfl, trivial⟩

theorem c_41 (n : Nat) (x_0 : SLast) (w : World) {r : List Int} (hm : m_impl_Last_numbers n x_0 = some r)  :
    CallV Tryd.prog 41 #[.agg #[.string (bs x_0.Name), .int .i64 x_0.Length, .int .i64 x_0.Ball, .int .i64 x_0.Instep, .int .i64 x_0.Heel, .int .i64 x_0.Pitch]] w (fun v w' => ∃ (ra0 : Option Addr) (rc0 : Nat), v = .slice ra0 r.length rc0 ∧ Ext w w' ∧ SH w' w.heap.size [aOwn fInt 2 ra0 rc0 r]) := by
  unfold m_impl_Last_numbers at hm
  refine CallV.enter Tryd.func41 rfl (by kernel_rfl) Tryd.ntmps41 (env := [(0, .agg #[.string (bs x_0.Name), .int .i64 x_0.Length, .int .i64 x_0.Ball, .int .i64 x_0.Instep, .int .i64 x_0.Heel, .int .i64 x_0.Pitch])]) ⟨rfl, trivial⟩ ?_
  refine WP.seq (fun K1 hK1 => ?_)
  refine WP.region ?_
  refine WL.box 35 [.string (bs x_0.Name), .int .i64 x_0.Length, .int .i64 x_0.Ball, .int .i64 x_0.Instep, .int .i64 x_0.Heel, .int .i64 x_0.Pitch] 1 (by kernel_rfl) rfl rfl rfl rfl ?_
  intro b2 w3 hE4 hR5
  have hb7 : Ext w w3 := Ext.trans (Ext.refl w) hE4
  have hL8 : w.heap.size ≤ w3.heap.size := Nat.le_trans (Nat.le_refl _) hE4.size
  have hS9 : SH w3 w.heap.size [aBox 35 b2 [.string (bs x_0.Name), .int .i64 x_0.Length, .int .i64 x_0.Ball, .int .i64 x_0.Instep, .int .i64 x_0.Heel, .int .i64 x_0.Pitch]] := SH.add (SH.nil _ _) hE4 (Nat.le_refl _) hR5
  refine WL.runk 1 [1] [(1, .pointer (some ⟨b2, 0, none⟩))] (by kernel_rfl) ?_
  refine WL.nil ?_
  refine WQ.then_normal (hK1 _ _ _ ?_)
  refine WP.seq (fun K10 hK10 => ?_)
  refine WP.region ?_
  refine WL.runk 1 [1, 3] [(1, .pointer (some ⟨b2, 0, none⟩)), (3, .pointer (some ⟨b2, 1, none⟩))] (by kernel_rfl) ?_
  refine WL.st (.int .i64 x_0.Length) (ST.load (cell_ext (SH.boxAt (SH.front 0 hS9) 1 _ rfl)) rfl rfl Tryd.underlying2 rfl) rfl rfl rfl ?_
  refine WL.runk 1 [1, 4, 5] [(1, .pointer (some ⟨b2, 0, none⟩)), (4, .int .i64 x_0.Length), (5, .pointer (some ⟨b2, 2, none⟩))] (by kernel_rfl) ?_
  refine WL.st (.int .i64 x_0.Ball) (ST.load (cell_ext (SH.boxAt (SH.front 0 hS9) 2 _ rfl)) rfl rfl Tryd.underlying2 rfl) rfl rfl rfl ?_
  refine WL.runk 1 [1, 4, 6, 7] [(1, .pointer (some ⟨b2, 0, none⟩)), (4, .int .i64 x_0.Length), (6, .int .i64 x_0.Ball), (7, .pointer (some ⟨b2, 3, none⟩))] (by kernel_rfl) ?_
  refine WL.st (.int .i64 x_0.Instep) (ST.load (cell_ext (SH.boxAt (SH.front 0 hS9) 3 _ rfl)) rfl rfl Tryd.underlying2 rfl) rfl rfl rfl ?_
  refine WL.runk 1 [1, 4, 6, 8, 9] [(1, .pointer (some ⟨b2, 0, none⟩)), (4, .int .i64 x_0.Length), (6, .int .i64 x_0.Ball), (8, .int .i64 x_0.Instep), (9, .pointer (some ⟨b2, 4, none⟩))] (by kernel_rfl) ?_
  refine WL.st (.int .i64 x_0.Heel) (ST.load (cell_ext (SH.boxAt (SH.front 0 hS9) 4 _ rfl)) rfl rfl Tryd.underlying2 rfl) rfl rfl rfl ?_
  refine WL.runk 1 [4, 6, 8, 10, 11] [(4, .int .i64 x_0.Length), (6, .int .i64 x_0.Ball), (8, .int .i64 x_0.Instep), (10, .int .i64 x_0.Heel), (11, .pointer (some ⟨b2, 5, none⟩))] (by kernel_rfl) ?_
  refine WL.st (.int .i64 x_0.Pitch) (ST.load (cell_ext (SH.boxAt (SH.front 0 hS9) 5 _ rfl)) rfl rfl Tryd.underlying2 rfl) rfl rfl rfl ?_
  refine WL.row fInt 2 ([x_0.Length, x_0.Ball, x_0.Instep, x_0.Heel, x_0.Pitch] : List Int) 5 #[.int .i64 x_0.Length, .int .i64 x_0.Ball, .int .i64 x_0.Instep, .int .i64 x_0.Heel, .int .i64 x_0.Pitch] 13 (by kernel_rfl) rfl rfl rfl rfl rfl rfl rfl ?_
  intro a11 c12 w13 hE14 hR15
  have hb17 : Ext w w13 := Ext.trans hb7 hE14
  have hL18 : w.heap.size ≤ w13.heap.size := Nat.le_trans hL8 hE14.size
  have hS19 : SH w13 w.heap.size [aOwn fInt 2 a11 c12 ([x_0.Length, x_0.Ball, x_0.Instep, x_0.Heel, x_0.Pitch] : List Int), aBox 35 b2 [.string (bs x_0.Name), .int .i64 x_0.Length, .int .i64 x_0.Ball, .int .i64 x_0.Instep, .int .i64 x_0.Heel, .int .i64 x_0.Pitch]] := SH.add hS9 hE14 hL8 hR15
  refine WL.runk 1 [2] [(2, .slice a11 (([x_0.Length, x_0.Ball, x_0.Instep, x_0.Heel, x_0.Pitch] : List Int).length) c12)] (by kernel_rfl) ?_
  refine WL.nil ?_
  refine WQ.then_normal (hK10 _ _ _ ?_)
  refine WP.ret ?_
  obtain rfl := Option.some.inj hm
  exact WQ.ret1 _ rfl rfl ⟨_, _, rfl, hb17, (SH.take 1 hS19)⟩

theorem c_38 (n : Nat) (x_0 : SLast) (c_1 : SChange) (w : World) {r : SLast} (hm : m_impl_Last_changed n x_0 c_1 = some r)  :
    CallV Tryd.prog 38 #[.agg #[.string (bs x_0.Name), .int .i64 x_0.Length, .int .i64 x_0.Ball, .int .i64 x_0.Instep, .int .i64 x_0.Heel, .int .i64 x_0.Pitch], .agg #[.int .i64 c_1.Kind, .int .i64 c_1.Amount]] w (fun v w' => v = .agg #[.string (bs r.Name), .int .i64 r.Length, .int .i64 r.Ball, .int .i64 r.Instep, .int .i64 r.Heel, .int .i64 r.Pitch] ∧ Ext w w') := by
  unfold m_impl_Last_changed at hm
  refine CallV.enter Tryd.func38 rfl (by kernel_rfl) Tryd.ntmps38 (env := [(0, .agg #[.string (bs x_0.Name), .int .i64 x_0.Length, .int .i64 x_0.Ball, .int .i64 x_0.Instep, .int .i64 x_0.Heel, .int .i64 x_0.Pitch]), (1, .agg #[.int .i64 c_1.Kind, .int .i64 c_1.Amount])]) ⟨rfl, rfl, trivial⟩ ?_
  refine WP.seq (fun K1 hK1 => ?_)
  refine WP.region ?_
  refine WL.box 35 [.string (bs x_0.Name), .int .i64 x_0.Length, .int .i64 x_0.Ball, .int .i64 x_0.Instep, .int .i64 x_0.Heel, .int .i64 x_0.Pitch] 2 (by kernel_rfl) rfl rfl rfl rfl ?_
  intro b2 w3 hE4 hR5
  have hb7 : Ext w w3 := Ext.trans (Ext.refl w) hE4
  have hL8 : w.heap.size ≤ w3.heap.size := Nat.le_trans (Nat.le_refl _) hE4.size
  have hS9 : SH w3 w.heap.size [aBox 35 b2 [.string (bs x_0.Name), .int .i64 x_0.Length, .int .i64 x_0.Ball, .int .i64 x_0.Instep, .int .i64 x_0.Heel, .int .i64 x_0.Pitch]] := SH.add (SH.nil _ _) hE4 (Nat.le_refl _) hR5
  refine WL.box 25 [.int .i64 c_1.Kind, .int .i64 c_1.Amount] 3 (by kernel_rfl) rfl rfl rfl rfl ?_
  intro b10 w11 hE12 hR13
  have hb15 : Ext w w11 := Ext.trans hb7 hE12
  have hL16 : w.heap.size ≤ w11.heap.size := Nat.le_trans hL8 hE12.size
  have hS17 : SH w11 w.heap.size [aBox 25 b10 [.int .i64 c_1.Kind, .int .i64 c_1.Amount], aBox 35 b2 [.string (bs x_0.Name), .int .i64 x_0.Length, .int .i64 x_0.Ball, .int .i64 x_0.Instep, .int .i64 x_0.Heel, .int .i64 x_0.Pitch]] := SH.add hS9 hE12 hL8 hR13
  refine WL.box 35 [.string (bs []), .int .i64 0, .int .i64 0, .int .i64 0, .int .i64 0, .int .i64 0] 4 (by kernel_rfl) rfl rfl rfl rfl ?_
  intro b18 w19 hE20 hR21
  have hb23 : Ext w w19 := Ext.trans hb15 hE20
  have hL24 : w.heap.size ≤ w19.heap.size := Nat.le_trans hL16 hE20.size
  have hS25 : SH w19 w.heap.size [aBox 35 b18 [.string (bs []), .int .i64 0, .int .i64 0, .int .i64 0, .int .i64 0, .int .i64 0], aBox 25 b10 [.int .i64 c_1.Kind, .int .i64 c_1.Amount], aBox 35 b2 [.string (bs x_0.Name), .int .i64 x_0.Length, .int .i64 x_0.Ball, .int .i64 x_0.Instep, .int .i64 x_0.Heel, .int .i64 x_0.Pitch]] := SH.add hS17 hE20 hL16 hR21
  refine WL.sub [(2, .pointer (some ⟨b2, 0, none⟩)), (3, .pointer (some ⟨b10, 0, none⟩)), (4, .pointer (some ⟨b18, 0, none⟩))] ⟨rfl, rfl, rfl, trivial⟩ ?_
  refine WL.nil ?_
  refine WQ.then_normal (hK1 _ _ _ ?_)
  refine WP.seq (fun K26 hK26 => ?_)
  refine WP.region ?_
  refine WL.st (.agg #[.string (bs x_0.Name), .int .i64 x_0.Length, .int .i64 x_0.Ball, .int .i64 x_0.Instep, .int .i64 x_0.Heel, .int .i64 x_0.Pitch]) (ST.loadAgg (vs := [.string (bs x_0.Name), .int .i64 x_0.Length, .int .i64 x_0.Ball, .int .i64 x_0.Instep, .int .i64 x_0.Heel, .int .i64 x_0.Pitch]) (fun j v hv => SH.boxPart (us := [.string (bs x_0.Name), .int .i64 x_0.Length, .int .i64 x_0.Ball, .int .i64 x_0.Instep, .int .i64 x_0.Heel, .int .i64 x_0.Pitch]) (SH.front 2 hS25) 0 rfl j v hv) rfl rfl rfl Tryd.underlying35 rfl (info35).1 (info35).2.1) rfl rfl rfl ?_
  obtain ⟨x27, hx28, hm⟩ := bindE hm
  refine WL.call 41 #[.agg #[.string (bs x_0.Name), .int .i64 x_0.Length, .int .i64 x_0.Ball, .int .i64 x_0.Instep, .int .i64 x_0.Heel, .int .i64 x_0.Pitch]] rfl rfl (by kernel_rfl) (c_41 n x_0 w19 hx28 ) ?_
  rintro _ w32 ⟨a29, c30, rfl, hE33, hR34⟩
  refine ⟨_, rfl, ?_⟩
  have hb35 : Ext w w32 := Ext.trans hb23 hE33
  have hL36 : w.heap.size ≤ w32.heap.size := Nat.le_trans hL24 hE33.size
  have hS37 : SH w32 w.heap.size [aOwn fInt 2 a29 c30 x27, aBox 35 b18 [.string (bs []), .int .i64 0, .int .i64 0, .int .i64 0, .int .i64 0, .int .i64 0], aBox 25 b10 [.int .i64 c_1.Kind, .int .i64 c_1.Amount], aBox 35 b2 [.string (bs x_0.Name), .int .i64 x_0.Length, .int .i64 x_0.Ball, .int .i64 x_0.Instep, .int .i64 x_0.Heel, .int .i64 x_0.Pitch]] := SH.add hS25 hE33 hL24 hR34
  refine WL.runk 1 [2, 3, 4, 5] [(2, .pointer (some ⟨b2, 0, none⟩)), (3, .pointer (some ⟨b10, 0, none⟩)), (4, .pointer (some ⟨b18, 0, none⟩)), (5, .slice a29 x27.length c30)] (by kernel_rfl) ?_
  refine WL.nil ?_
  refine WQ.then_normal (hK26 _ _ _ ?_)
  refine WP.seq (fun K38 hK38 => ?_)
  refine WP.open (n := 11) (by kernel_rfl) rfl (fun w39 hE40 => ?_)
  have hb41 : Ext w w39 := Ext.trans hb35 hE40
  have hL42 : w.heap.size ≤ w39.heap.size := Nat.le_trans hL36 hE40.size
  have hS43 : SH w39 w.heap.size [aOwn fInt 2 a29 c30 x27, aBox 35 b18 [.string (bs []), .int .i64 0, .int .i64 0, .int .i64 0, .int .i64 0, .int .i64 0], aBox 25 b10 [.int .i64 c_1.Kind, .int .i64 c_1.Amount], aBox 35 b2 [.string (bs x_0.Name), .int .i64 x_0.Length, .int .i64 x_0.Ball, .int .i64 x_0.Instep, .int .i64 x_0.Heel, .int .i64 x_0.Pitch]] := SH.ext hS37 hE40
  refine WA.quiet (f' := 1) (D' := [0, 1, 2, 3, 4, 5, 6, 7, 8, 9]) [0, 1, 2, 3, 4, 5, 6, 7, 8, 9] rfl rfl (by kernel_rfl) ?_
  refine QL.step1v 8 (.slice a29 x27.length c30) rfl (fun _ => by kernel_rfl) ?_
  refine QL.step1v 9 (.pointer (some ⟨b10, 0, none⟩)) rfl (fun _ => by kernel_rfl) ?_
  refine QL.subk [2, 3, 4, 5, 8, 9] [(2, .pointer (some ⟨b2, 0, none⟩)), (3, .pointer (some ⟨b10, 0, none⟩)), (4, .pointer (some ⟨b18, 0, none⟩)), (5, .slice a29 x27.length c30), (8, .slice a29 x27.length c30), (9, .pointer (some ⟨b10, 0, none⟩))] (by kernel_rfl) ?_
  refine QL.st (.int .i64 c_1.Kind) (ST.load (cell_ext (SH.boxAt (SH.front 2 hS43) 0 _ rfl)) rfl rfl Tryd.underlying2 rfl) rfl rfl rfl ?_
  refine QL.step1v 11 (.int .i64 (wI64 (c_1.Kind - 1))) rfl (fun _ => by kernel_rfl) ?_
  refine QL.subk [2, 3, 4, 5, 8, 11] [(2, .pointer (some ⟨b2, 0, none⟩)), (3, .pointer (some ⟨b10, 0, none⟩)), (4, .pointer (some ⟨b18, 0, none⟩)), (5, .slice a29 x27.length c30), (8, .slice a29 x27.length c30), (11, .int .i64 (wI64 (c_1.Kind - 1)))] (by kernel_rfl) ?_
  obtain ⟨x44, hx45, hm⟩ := bindE hm
  refine QL.st (.pointer (some (at_ a29 (Int.toNat (wI64 (c_1.Kind - 1)) * 1)))) (ST.index (T := fInt.ty) (xs := x27) (SH.rd (SH.front 0 hS43)) hx45 rfl rfl rfl Tryd.underlying71 (info2).1 (info2).2.1) rfl rfl rfl ?_
  refine QL.st (.int .i64 x44) (ST.load (cell_ext (Rd.flat (F := fInt) (SH.rd (SH.front 0 hS43)) hx45 0 rfl)) rfl rfl Tryd.underlying2 rfl) rfl rfl rfl ?_
  refine QL.step1v 14 (.pointer (some ⟨b10, 1, none⟩)) rfl (fun _ => by kernel_rfl) ?_
  refine QL.subk [2, 4, 5, 8, 11, 13, 14] [(2, .pointer (some ⟨b2, 0, none⟩)), (4, .pointer (some ⟨b18, 0, none⟩)), (5, .slice a29 x27.length c30), (8, .slice a29 x27.length c30), (11, .int .i64 (wI64 (c_1.Kind - 1))), (13, .int .i64 x44), (14, .pointer (some ⟨b10, 1, none⟩))] (by kernel_rfl) ?_
  refine QL.st (.int .i64 c_1.Amount) (ST.load (cell_ext (SH.boxAt (SH.front 2 hS43) 1 _ rfl)) rfl rfl Tryd.underlying2 rfl) rfl rfl rfl ?_
  refine QL.step1v 16 (.int .i64 (wI64 (x44 + c_1.Amount))) rfl (fun _ => by kernel_rfl) ?_
  refine QL.subk [2, 4, 5, 8, 11, 16] [(2, .pointer (some ⟨b2, 0, none⟩)), (4, .pointer (some ⟨b18, 0, none⟩)), (5, .slice a29 x27.length c30), (8, .slice a29 x27.length c30), (11, .int .i64 (wI64 (c_1.Kind - 1))), (16, .int .i64 (wI64 (x44 + c_1.Amount)))] (by kernel_rfl) ?_
  obtain ⟨x46, hx47, hm⟩ := bindE hm
  refine QL.st (.pointer (some (at_ a29 (Int.toNat (wI64 (c_1.Kind - 1)) * 1)))) (ST.index (T := fInt.ty) (xs := x27) (SH.rd (SH.front 0 hS43)) hx47 rfl rfl rfl Tryd.underlying71 (info2).1 (info2).2.1) rfl rfl rfl ?_
  refine QL.subk [2, 4, 5, 16, 17] [(2, .pointer (some ⟨b2, 0, none⟩)), (4, .pointer (some ⟨b18, 0, none⟩)), (5, .slice a29 x27.length c30), (16, .int .i64 (wI64 (x44 + c_1.Amount))), (17, .pointer (some (at_ a29 (Int.toNat (wI64 (c_1.Kind - 1)) * 1))))] (by kernel_rfl) ?_
  refine QL.nil ?_
  intro w48 hE49
  have hb50 : Ext w w48 := Ext.trans hb41 hE49
  have hL51 : w.heap.size ≤ w48.heap.size := Nat.le_trans hL42 hE49.size
  have hS52 : SH w48 w.heap.size [aOwn fInt 2 a29 c30 x27, aBox 35 b18 [.string (bs []), .int .i64 0, .int .i64 0, .int .i64 0, .int .i64 0, .int .i64 0], aBox 25 b10 [.int .i64 c_1.Kind, .int .i64 c_1.Amount], aBox 35 b2 [.string (bs x_0.Name), .int .i64 x_0.Length, .int .i64 x_0.Ball, .int .i64 x_0.Instep, .int .i64 x_0.Heel, .int .i64 x_0.Pitch]] := SH.ext hS43 hE49
  refine WA.one (i := 10) (D' := [0, 1, 2, 3, 4, 5, 6, 7, 8, 9, 10]) rfl rfl (by kernel_rfl) ?_
  refine WL.store (F := fInt) (wI64 (x44 + c_1.Amount)) 0 [.int .i64 (wI64 (x44 + c_1.Amount))] (SH.front 0 hS52) hL51 hx47 rfl rfl rfl rfl rfl rfl rfl (info2).1 (info2).2.1 rfl rfl rfl ?_
  intro w53 hB54 hS55
  have hb56 : Ext w w53 := Below.trans hb50 hB54
  have hL57 : w.heap.size ≤ w53.heap.size := Nat.le_trans hL51 hB54.size
  refine WL.sub [(2, .pointer (some ⟨b2, 0, none⟩)), (4, .pointer (some ⟨b18, 0, none⟩)), (5, .slice a29 ((x27.set (Int.toNat (wI64 (c_1.Kind - 1))) (wI64 (x44 + c_1.Amount))).length) c30), (16, .int .i64 (wI64 (x44 + c_1.Amount)))] ⟨rfl, rfl, by first | (simp only [List.length_set]; done) | (simp only [List.length_set]; rfl), rfl, trivial⟩ ?_
  refine WL.sub [(2, .pointer (some ⟨b2, 0, none⟩)), (4, .pointer (some ⟨b18, 0, none⟩)), (5, .slice a29 ((x27.set (Int.toNat (wI64 (c_1.Kind - 1))) (wI64 (x44 + c_1.Amount))).length) c30)] ⟨rfl, rfl, rfl, trivial⟩ ?_
  refine WL.nil ?_
  refine WA.done (by kernel_rfl) ?_
  refine WQ.then_normal (hK38 _ _ _ ?_)
  refine WP.seq (fun K58 hK58 => ?_)
  refine WP.open (n := 19) (by kernel_rfl) rfl (fun w59 hE60 => ?_)
  have hb61 : Ext w w59 := Ext.trans hb56 hE60
  have hL62 : w.heap.size ≤ w59.heap.size := Nat.le_trans hL57 hE60.size
  have hS63 : SH w59 w.heap.size [aOwn fInt 2 a29 c30 (x27.set (Int.toNat (wI64 (c_1.Kind - 1))) (wI64 (x44 + c_1.Amount))), aBox 35 b18 [.string (bs []), .int .i64 0, .int .i64 0, .int .i64 0, .int .i64 0, .int .i64 0], aBox 25 b10 [.int .i64 c_1.Kind, .int .i64 c_1.Amount], aBox 35 b2 [.string (bs x_0.Name), .int .i64 x_0.Length, .int .i64 x_0.Ball, .int .i64 x_0.Instep, .int .i64 x_0.Heel, .int .i64 x_0.Pitch]] := SH.ext hS55 hE60
  refine WA.quiet (f' := 1) (D' := [0, 1, 2, 3, 4, 5, 6, 7, 8, 9, 10, 11, 12, 13, 14, 15, 16, 17]) [0, 1, 2, 3, 4, 5, 6, 7, 8, 9, 10, 11, 12, 13, 14, 15, 16, 17] rfl rfl (by kernel_rfl) ?_
  refine QL.step1v 18 (.pointer (some ⟨b2, 0, none⟩)) rfl (fun _ => by kernel_rfl) ?_
  refine QL.subk [4, 5, 18] [(4, .pointer (some ⟨b18, 0, none⟩)), (5, .slice a29 ((x27.set (Int.toNat (wI64 (c_1.Kind - 1))) (wI64 (x44 + c_1.Amount))).length) c30), (18, .pointer (some ⟨b2, 0, none⟩))] (by kernel_rfl) ?_
  refine QL.st (.string (bs x_0.Name)) (ST.load (cell_ext (SH.boxAt (SH.front 3 hS63) 0 _ rfl)) rfl rfl Tryd.underlying9 rfl) rfl rfl rfl ?_
  refine QL.step1v 20 (.slice a29 ((x27.set (Int.toNat (wI64 (c_1.Kind - 1))) (wI64 (x44 + c_1.Amount))).length) c30) rfl (fun _ => by kernel_rfl) ?_
  refine QL.subk [4, 5, 19, 20] [(4, .pointer (some ⟨b18, 0, none⟩)), (5, .slice a29 ((x27.set (Int.toNat (wI64 (c_1.Kind - 1))) (wI64 (x44 + c_1.Amount))).length) c30), (19, .string (bs x_0.Name)), (20, .slice a29 ((x27.set (Int.toNat (wI64 (c_1.Kind - 1))) (wI64 (x44 + c_1.Amount))).length) c30)] (by kernel_rfl) ?_
  obtain ⟨x64, hx65, hm⟩ := bindE hm
  refine QL.st (.pointer (some (at_ a29 (Int.toNat 0 * 1)))) (ST.index (T := fInt.ty) (xs := (x27.set (Int.toNat (wI64 (c_1.Kind - 1))) (wI64 (x44 + c_1.Amount)))) (SH.rd (SH.front 0 hS63)) hx65 rfl rfl rfl Tryd.underlying71 (info2).1 (info2).2.1) rfl rfl rfl ?_
  refine QL.st (.int .i64 x64) (ST.load (cell_ext (Rd.flat (F := fInt) (SH.rd (SH.front 0 hS63)) hx65 0 rfl)) rfl rfl Tryd.underlying2 rfl) rfl rfl rfl ?_
  refine QL.step1v 23 (.slice a29 ((x27.set (Int.toNat (wI64 (c_1.Kind - 1))) (wI64 (x44 + c_1.Amount))).length) c30) rfl (fun _ => by kernel_rfl) ?_
  refine QL.subk [4, 5, 19, 22, 23] [(4, .pointer (some ⟨b18, 0, none⟩)), (5, .slice a29 ((x27.set (Int.toNat (wI64 (c_1.Kind - 1))) (wI64 (x44 + c_1.Amount))).length) c30), (19, .string (bs x_0.Name)), (22, .int .i64 x64), (23, .slice a29 ((x27.set (Int.toNat (wI64 (c_1.Kind - 1))) (wI64 (x44 + c_1.Amount))).length) c30)] (by kernel_rfl) ?_
  obtain ⟨x66, hx67, hm⟩ := bindE hm
  refine QL.st (.pointer (some (at_ a29 (Int.toNat 1 * 1)))) (ST.index (T := fInt.ty) (xs := (x27.set (Int.toNat (wI64 (c_1.Kind - 1))) (wI64 (x44 + c_1.Amount)))) (SH.rd (SH.front 0 hS63)) hx67 rfl rfl rfl Tryd.underlying71 (info2).1 (info2).2.1) rfl rfl rfl ?_
  refine QL.st (.int .i64 x66) (ST.load (cell_ext (Rd.flat (F := fInt) (SH.rd (SH.front 0 hS63)) hx67 0 rfl)) rfl rfl Tryd.underlying2 rfl) rfl rfl rfl ?_
  refine QL.step1v 26 (.slice a29 ((x27.set (Int.toNat (wI64 (c_1.Kind - 1))) (wI64 (x44 + c_1.Amount))).length) c30) rfl (fun _ => by kernel_rfl) ?_
  refine QL.subk [4, 5, 19, 22, 25, 26] [(4, .pointer (some ⟨b18, 0, none⟩)), (5, .slice a29 ((x27.set (Int.toNat (wI64 (c_1.Kind - 1))) (wI64 (x44 + c_1.Amount))).length) c30), (19, .string (bs x_0.Name)), (22, .int .i64 x64), (25, .int .i64 x66), (26, .slice a29 ((x27.set (Int.toNat (wI64 (c_1.Kind - 1))) (wI64 (x44 + c_1.Amount))).length) c30)] (by kernel_rfl) ?_
  obtain ⟨x68, hx69, hm⟩ := bindE hm
  refine QL.st (.pointer (some (at_ a29 (Int.toNat 2 * 1)))) (ST.index (T := fInt.ty) (xs := (x27.set (Int.toNat (wI64 (c_1.Kind - 1))) (wI64 (x44 + c_1.Amount)))) (SH.rd (SH.front 0 hS63)) hx69 rfl rfl rfl Tryd.underlying71 (info2).1 (info2).2.1) rfl rfl rfl ?_
  refine QL.st (.int .i64 x68) (ST.load (cell_ext (Rd.flat (F := fInt) (SH.rd (SH.front 0 hS63)) hx69 0 rfl)) rfl rfl Tryd.underlying2 rfl) rfl rfl rfl ?_
  refine QL.step1v 29 (.slice a29 ((x27.set (Int.toNat (wI64 (c_1.Kind - 1))) (wI64 (x44 + c_1.Amount))).length) c30) rfl (fun _ => by kernel_rfl) ?_
  refine QL.subk [4, 5, 19, 22, 25, 28, 29] [(4, .pointer (some ⟨b18, 0, none⟩)), (5, .slice a29 ((x27.set (Int.toNat (wI64 (c_1.Kind - 1))) (wI64 (x44 + c_1.Amount))).length) c30), (19, .string (bs x_0.Name)), (22, .int .i64 x64), (25, .int .i64 x66), (28, .int .i64 x68), (29, .slice a29 ((x27.set (Int.toNat (wI64 (c_1.Kind - 1))) (wI64 (x44 + c_1.Amount))).length) c30)] (by kernel_rfl) ?_
  obtain ⟨x70, hx71, hm⟩ := bindE hm
  refine QL.st (.pointer (some (at_ a29 (Int.toNat 3 * 1)))) (ST.index (T := fInt.ty) (xs := (x27.set (Int.toNat (wI64 (c_1.Kind - 1))) (wI64 (x44 + c_1.Amount)))) (SH.rd (SH.front 0 hS63)) hx71 rfl rfl rfl Tryd.underlying71 (info2).1 (info2).2.1) rfl rfl rfl ?_
  refine QL.st (.int .i64 x70) (ST.load (cell_ext (Rd.flat (F := fInt) (SH.rd (SH.front 0 hS63)) hx71 0 rfl)) rfl rfl Tryd.underlying2 rfl) rfl rfl rfl ?_
  refine QL.step1v 32 (.slice a29 ((x27.set (Int.toNat (wI64 (c_1.Kind - 1))) (wI64 (x44 + c_1.Amount))).length) c30) rfl (fun _ => by kernel_rfl) ?_
  refine QL.subk [4, 19, 22, 25, 28, 31, 32] [(4, .pointer (some ⟨b18, 0, none⟩)), (19, .string (bs x_0.Name)), (22, .int .i64 x64), (25, .int .i64 x66), (28, .int .i64 x68), (31, .int .i64 x70), (32, .slice a29 ((x27.set (Int.toNat (wI64 (c_1.Kind - 1))) (wI64 (x44 + c_1.Amount))).length) c30)] (by kernel_rfl) ?_
  obtain ⟨x72, hx73, hm⟩ := bindE hm
  refine QL.st (.pointer (some (at_ a29 (Int.toNat 4 * 1)))) (ST.index (T := fInt.ty) (xs := (x27.set (Int.toNat (wI64 (c_1.Kind - 1))) (wI64 (x44 + c_1.Amount)))) (SH.rd (SH.front 0 hS63)) hx73 rfl rfl rfl Tryd.underlying71 (info2).1 (info2).2.1) rfl rfl rfl ?_
  refine QL.st (.int .i64 x72) (ST.load (cell_ext (Rd.flat (F := fInt) (SH.rd (SH.front 0 hS63)) hx73 0 rfl)) rfl rfl Tryd.underlying2 rfl) rfl rfl rfl ?_
  refine QL.step1v 35 (.agg #[.string (bs x_0.Name), .int .i64 x64, .int .i64 x66, .int .i64 x68, .int .i64 x70, .int .i64 x72]) rfl (fun _ => by kernel_rfl) ?_
  refine QL.subk [4, 35] [(4, .pointer (some ⟨b18, 0, none⟩)), (35, .agg #[.string (bs x_0.Name), .int .i64 x64, .int .i64 x66, .int .i64 x68, .int .i64 x70, .int .i64 x72])] (by kernel_rfl) ?_
  refine QL.nil ?_
  intro w74 hE75
  have hb76 : Ext w w74 := Ext.trans hb61 hE75
  have hL77 : w.heap.size ≤ w74.heap.size := Nat.le_trans hL62 hE75.size
  have hS78 : SH w74 w.heap.size [aOwn fInt 2 a29 c30 (x27.set (Int.toNat (wI64 (c_1.Kind - 1))) (wI64 (x44 + c_1.Amount))), aBox 35 b18 [.string (bs []), .int .i64 0, .int .i64 0, .int .i64 0, .int .i64 0, .int .i64 0], aBox 25 b10 [.int .i64 c_1.Kind, .int .i64 c_1.Amount], aBox 35 b2 [.string (bs x_0.Name), .int .i64 x_0.Length, .int .i64 x_0.Ball, .int .i64 x_0.Instep, .int .i64 x_0.Heel, .int .i64 x_0.Pitch]] := SH.ext hS63 hE75
  refine WA.one (i := 18) (D' := [0, 1, 2, 3, 4, 5, 6, 7, 8, 9, 10, 11, 12, 13, 14, 15, 16, 17, 18]) rfl rfl (by kernel_rfl) ?_
  refine WL.boxStore 0 [.string (bs x_0.Name), .int .i64 x64, .int .i64 x66, .int .i64 x68, .int .i64 x70, .int .i64 x72] [.string (bs x_0.Name), .int .i64 x64, .int .i64 x66, .int .i64 x68, .int .i64 x70, .int .i64 x72] (SH.front 1 hS78) hL77 rfl rfl rfl rfl rfl rfl rfl (info35).1 (info35).2.1 rfl rfl rfl ?_
  intro w79 hB80 hS81
  have hb82 : Ext w w79 := Below.trans hb76 hB80
  have hL83 : w.heap.size ≤ w79.heap.size := Nat.le_trans hL77 hB80.size
  refine WL.sub [(4, .pointer (some ⟨b18, 0, none⟩))] ⟨rfl, trivial⟩ ?_
  refine WL.nil ?_
  refine WA.done (by kernel_rfl) ?_
  refine WQ.then_normal (hK58 _ _ _ ?_)
  refine WP.ret ?_
  obtain rfl := Option.some.inj hm
  exact WQ.retv1 _ rfl (RVal.box (SH.front 0 hS81) rfl Tryd.underlying35 rfl (info35).1 (info35).2.1) ⟨rfl, hb82⟩

end Go.Proofs.YtlplbjeegkkilaaDoor
