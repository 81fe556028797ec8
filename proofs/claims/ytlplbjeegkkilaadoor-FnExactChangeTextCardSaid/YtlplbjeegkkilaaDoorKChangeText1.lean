/- Each call does what its Lean function says. -/
import Derived.Test.YtlplbjeegkkilaaDoorTi
import Derived.Test.YtlplbjeegkkilaaDoorEq
import Derived.Test.YtlplbjeegkkilaaDoorMo
import Derived.Test.YtlplbjeegkkilaaDoorCh
set_option maxRecDepth 20000
set_option maxHeartbeats 40000000
namespace Go.Proofs.YtlplbjeegkkilaaDoor
open Go Go.Gv Go.RowKit

theorem c_27 (n : Nat) (n_0 : Int) (low_1 : Int) (high_2 : Int) (w : World) {r : Bool} (hm : m_spec_l00In n n_0 low_1 high_2 = some r)  :
    CallV Tryd.prog 27 #[.int .i64 n_0, .int .i64 low_1, .int .i64 high_2] w (fun v w' => v = .bool r ∧ Ext w w') := by
  unfold m_spec_l00In at hm
  refine CallV.enter Tryd.func27 rfl (by kernel_rfl) Tryd.ntmps27 (env := [(0, .int .i64 n_0), (1, .int .i64 low_1), (2, .int .i64 high_2)]) ⟨rfl, rfl, rfl, trivial⟩ ?_
  refine WP.seq (fun K1 hK1 => ?_)
  refine WP.region ?_
  refine WL.runk 1 [0, 1, 2] [(0, .int .i64 n_0), (1, .int .i64 low_1), (2, .int .i64 high_2)] (by kernel_rfl) ?_
  refine WL.nil ?_
  refine WQ.then_normal (hK1 _ _ _ ?_)
  refine WP.seq (fun K2 hK2 => ?_)
  obtain ⟨x4, hx5, hm⟩ := bindE hm
  refine WP.cut (fun env' w' => env' = [(6, .bool x4)] ∧ Ext w w' ∧ w.heap.size ≤ w'.heap.size ∧ SH w' w.heap.size []) ?_ ?_
  rotate_left
  · clear hx5
    rintro _ w7 ⟨rfl, hb8, hL9, hS10⟩
    refine WQ.then_normal (hK2 _ _ _ ?_)
    refine WP.ret ?_
    obtain rfl := Option.some.inj hm
    exact WQ.ret1 _ rfl rfl ⟨rfl, hb8⟩
  have hm := hx5; clear hx5
  refine WP.region ?_
  refine WL.runk 4 [0, 2, 10] [(0, .int .i64 n_0), (2, .int .i64 high_2), (10, .bool (decide (n_0 ≥ low_1)))] (by kernel_rfl) ?_
  refine WL.case (decide (n_0 ≥ low_1)) [10] ⟨rfl, trivial⟩ (fun hc6 => ?_) (fun hc6 => ?_)
  · have hm := iteT hm hc6
    refine WL.runk 5 [6] [(6, .bool (decide (n_0 ≤ high_2)))] (by kernel_rfl) ?_
    refine WL.nil ?_
    obtain rfl := Option.some.inj hm
    exact WQ.post' ⟨rfl, (Ext.refl w), (Nat.le_refl _), (SH.nil _ _)⟩ ⟨rfl, trivial⟩
  have hm := iteF hm hc6
  refine WL.runk 5 [6] [(6, .bool false)] (by kernel_rfl) ?_
  refine WL.nil ?_
  obtain rfl := Option.some.inj hm
  exact WQ.post' ⟨rfl, (Ext.refl w), (Nat.le_refl _), (SH.nil _ _)⟩ ⟨rfl, trivial⟩

theorem c_42 (n : Nat) (kind_0 : Int) (w : World) {r : Int} (hm : m_spec_l22Most n kind_0 = some r)  :
    CallV Tryd.prog 42 #[.int .i64 kind_0] w (fun v w' => v = .int .i64 r ∧ Ext w w') := by
  unfold m_spec_l22Most at hm
  refine CallV.enter Tryd.func42 rfl (by kernel_rfl) Tryd.ntmps42 (env := [(0, .int .i64 kind_0)]) ⟨rfl, trivial⟩ ?_
  refine WP.seq (fun K1 hK1 => ?_)
  refine WP.region ?_
  refine WL.runk 1 [0] [(0, .int .i64 kind_0)] (by kernel_rfl) ?_
  refine WL.nil ?_
  refine WQ.then_normal (hK1 _ _ _ ?_)
  refine WP.seq (fun K2 hK2 => ?_)
  refine WP.seq (fun K3 hK3 => ?_)
  refine WP.region ?_
  refine WL.runk 1 [3] [(3, .int .i64 kind_0)] (by kernel_rfl) ?_
  refine WL.nil ?_
  refine WQ.then_normal (hK3 _ _ _ ?_)
  refine WP.block ?_
  refine WP.seq (fun K4 hK4 => ?_)
  refine WP.region ?_
  refine WL.runk 2 [3, 4] [(3, .int .i64 kind_0), (4, .bool (kind_0 == 1))] (by kernel_rfl) ?_
  refine WL.nil ?_
  refine WQ.then_normal (hK4 _ _ _ ?_)
  refine WP.cond (kind_0 == 1) rfl rfl (fun hc5 => ?_) (fun hc5 => ?_)
  · have hm := iteT hm hc5
    refine WP.seq (fun K6 hK6 => ?_)
    refine WP.region ?_
    refine WL.runk 1 [2] [(2, .int .i64 200)] (by kernel_rfl) ?_
    refine WL.nil ?_
    refine WQ.then_normal (hK6 _ _ _ ?_)
    refine WP.ret ?_
    refine WQ.block_ret ?_
    refine WQ.then_ret ?_
    obtain rfl := Option.some.inj hm
    exact WQ.ret1 _ rfl rfl ⟨rfl, (Ext.refl w)⟩
  have hm := iteF hm hc5
  refine WP.seq (fun K7 hK7 => ?_)
  refine WP.seq (fun K8 hK8 => ?_)
  refine WP.region ?_
  refine WL.runk 2 [3, 6] [(3, .int .i64 kind_0), (6, .bool (kind_0 == 2))] (by kernel_rfl) ?_
  refine WL.nil ?_
  refine WQ.then_normal (hK8 _ _ _ ?_)
  obtain ⟨x18, hx19, hm⟩ := bindE hm
  refine WP.cut (fun env' w' => env' = [(3, .int .i64 kind_0), (6, .bool x18)] ∧ Ext w w' ∧ w.heap.size ≤ w'.heap.size ∧ SH w' w.heap.size []) ?_ ?_
  · have hm := hx19; clear hx19
    refine WP.cond (kind_0 == 2) rfl rfl (fun hc9 => ?_) (fun hc9 => ?_)
    · have hm := iteT hm hc9
      refine WP.skip ?_
      obtain rfl := Option.some.inj hm
      exact WQ.post' ⟨rfl, (Ext.refl w), (Nat.le_refl _), (SH.nil _ _)⟩ ⟨rfl, rfl, trivial⟩
    have hm := iteF hm hc9
    refine WP.seq (fun K20 hK20 => ?_)
    refine WP.region ?_
    refine WL.runk 2 [3, 6] [(3, .int .i64 kind_0), (6, .bool (kind_0 == 3))] (by kernel_rfl) ?_
    refine WL.nil ?_
    refine WQ.then_normal (hK20 _ _ _ ?_)
    obtain ⟨x22, hx23, hm⟩ := bindE hm
    refine WP.cut (fun env' w' => env' = [(3, .int .i64 kind_0), (6, .bool x22)] ∧ Ext w w' ∧ w.heap.size ≤ w'.heap.size ∧ SH w' w.heap.size []) ?_ ?_
    rotate_left
    · clear hx23
      rintro _ w24 ⟨rfl, hb25, hL26, hS27⟩
      obtain rfl := Option.some.inj hm
      exact WQ.post' ⟨rfl, hb25, hL26, hS27⟩ ⟨rfl, rfl, trivial⟩
    have hm := hx23; clear hx23
    refine WP.cond (kind_0 == 3) rfl rfl (fun hc21 => ?_) (fun hc21 => ?_)
    · have hm := iteT hm hc21
      refine WP.skip ?_
      obtain rfl := Option.some.inj hm
      exact WQ.post' ⟨rfl, (Ext.refl w), (Nat.le_refl _), (SH.nil _ _)⟩ ⟨rfl, rfl, trivial⟩
    have hm := iteF hm hc21
    refine WP.region ?_
    refine WL.runk 2 [3, 6] [(3, .int .i64 kind_0), (6, .bool (kind_0 == 4))] (by kernel_rfl) ?_
    refine WL.nil ?_
    obtain rfl := Option.some.inj hm
    exact WQ.post' ⟨rfl, (Ext.refl w), (Nat.le_refl _), (SH.nil _ _)⟩ ⟨rfl, rfl, trivial⟩
  clear hx19
  rintro _ w28 ⟨rfl, hb29, hL30, hS31⟩
  refine WQ.then_normal (hK7 _ _ _ ?_)
  refine WP.cond x18 rfl rfl (fun hc32 => ?_) (fun hc32 => ?_)
  · have hm := iteT hm hc32
    refine WP.seq (fun K33 hK33 => ?_)
    refine WP.region ?_
    refine WL.runk 1 [2] [(2, .int .i64 300)] (by kernel_rfl) ?_
    refine WL.nil ?_
    refine WQ.then_normal (hK33 _ _ _ ?_)
    refine WP.ret ?_
    refine WQ.block_ret ?_
    refine WQ.then_ret ?_
    obtain rfl := Option.some.inj hm
    exact WQ.ret1 _ rfl rfl ⟨rfl, hb29⟩
  have hm := iteF hm hc32
  refine WP.seq (fun K34 hK34 => ?_)
  refine WP.region ?_
  refine WL.runk 2 [10] [(10, .bool (kind_0 == 5))] (by kernel_rfl) ?_
  refine WL.nil ?_
  refine WQ.then_normal (hK34 _ _ _ ?_)
  refine WP.cond (kind_0 == 5) rfl rfl (fun hc35 => ?_) (fun hc35 => ?_)
  · have hm := iteT hm hc35
    refine WP.seq (fun K36 hK36 => ?_)
    refine WP.region ?_
    refine WL.runk 1 [2] [(2, .int .i64 150)] (by kernel_rfl) ?_
    refine WL.nil ?_
    refine WQ.then_normal (hK36 _ _ _ ?_)
    refine WP.ret ?_
    refine WQ.block_ret ?_
    refine WQ.then_ret ?_
    obtain rfl := Option.some.inj hm
    exact WQ.ret1 _ rfl rfl ⟨rfl, hb29⟩
  have hm := iteF hm hc35
  refine WP.skip ?_
  refine WQ.block_normal ?_
  refine WQ.then_normal (hK2 _ _ _ ?_)
  refine WP.seq (fun K37 hK37 => ?_)
  refine WP.region ?_
  refine WL.runk 1 [2] [(2, .int .i64 (-1))] (by kernel_rfl) ?_
  refine WL.nil ?_
  refine WQ.then_normal (hK37 _ _ _ ?_)
  refine WP.ret ?_
  obtain rfl := Option.some.inj hm
  exact WQ.ret1 _ rfl rfl ⟨rfl, hb29⟩

theorem c_20 (n : Nat) (c_0 : SChange) (w : World) {r : Bool} (hm : m_spec_l22One n c_0 = some r)  :
    CallV Tryd.prog 20 #[.agg #[.int .i64 c_0.Kind, .int .i64 c_0.Amount]] w (fun v w' => v = .bool r ∧ Ext w w') := by
  unfold m_spec_l22One at hm
  refine CallV.enter Tryd.func20 rfl (by kernel_rfl) Tryd.ntmps20 (env := [(0, .agg #[.int .i64 c_0.Kind, .int .i64 c_0.Amount])]) ⟨rfl, trivial⟩ ?_
  refine WP.seq (fun K1 hK1 => ?_)
  refine WP.region ?_
  refine WL.box 25 [.int .i64 c_0.Kind, .int .i64 c_0.Amount] 1 (by kernel_rfl) rfl rfl rfl rfl ?_
  intro b2 w3 hE4 hR5
  have hb7 : Ext w w3 := Ext.trans (Ext.refl w) hE4
  have hL8 : w.heap.size ≤ w3.heap.size := Nat.le_trans (Nat.le_refl _) hE4.size
  have hS9 : SH w3 w.heap.size [aBox 25 b2 [.int .i64 c_0.Kind, .int .i64 c_0.Amount]] := SH.add (SH.nil _ _) hE4 (Nat.le_refl _) hR5
  refine WL.runk 1 [1] [(1, .pointer (some ⟨b2, 0, none⟩))] (by kernel_rfl) ?_
  refine WL.nil ?_
  refine WQ.then_normal (hK1 _ _ _ ?_)
  refine WP.seq (fun K10 hK10 => ?_)
  refine WP.region ?_
  refine WL.runk 1 [1, 4] [(1, .pointer (some ⟨b2, 0, none⟩)), (4, .pointer (some ⟨b2, 0, none⟩))] (by kernel_rfl) ?_
  refine WL.st (.int .i64 c_0.Kind) (ST.load (cell_ext (SH.boxAt (SH.front 0 hS9) 0 _ rfl)) rfl rfl Tryd.underlying2 rfl) rfl rfl rfl ?_
  obtain ⟨x11, hx12, hm⟩ := bindE hm
  refine WL.call 42 #[.int .i64 c_0.Kind] rfl rfl (by kernel_rfl) (c_42 n c_0.Kind w3 hx12 ) ?_
  rintro _ w13 ⟨rfl, hE14⟩
  refine ⟨_, rfl, ?_⟩
  have hb16 : Ext w w13 := Ext.trans hb7 hE14
  have hL17 : w.heap.size ≤ w13.heap.size := Nat.le_trans hL8 hE14.size
  have hS18 : SH w13 w.heap.size [aBox 25 b2 [.int .i64 c_0.Kind, .int .i64 c_0.Amount]] := SH.ext hS9 hE14
  refine WL.runk 1 [1, 3] [(1, .pointer (some ⟨b2, 0, none⟩)), (3, .int .i64 x11)] (by kernel_rfl) ?_
  refine WL.nil ?_
  refine WQ.then_normal (hK10 _ _ _ ?_)
  refine WP.seq (fun K19 hK19 => ?_)
  obtain ⟨x29, hx30, hm⟩ := bindE hm
  refine WP.cut (fun env' w' => env' = [(2, .bool x29)] ∧ Ext w w' ∧ w.heap.size ≤ w'.heap.size ∧ SH w' w.heap.size [aBox 25 b2 [.int .i64 c_0.Kind, .int .i64 c_0.Amount]]) ?_ ?_
  rotate_left
  · clear hx30
    rintro _ w40 ⟨rfl, hb41, hL42, hS43⟩
    refine WQ.then_normal (hK19 _ _ _ ?_)
    refine WP.ret ?_
    obtain rfl := Option.some.inj hm
    exact WQ.ret1 _ rfl rfl ⟨rfl, hb41⟩
  have hm := hx30; clear hx30
  refine WP.region ?_
  refine WL.runk 1 [1, 3, 7] [(1, .pointer (some ⟨b2, 0, none⟩)), (3, .int .i64 x11), (7, .pointer (some ⟨b2, 1, none⟩))] (by kernel_rfl) ?_
  refine WL.st (.int .i64 c_0.Amount) (ST.load (cell_ext (SH.boxAt (SH.front 0 hS18) 1 _ rfl)) rfl rfl Tryd.underlying2 rfl) rfl rfl rfl ?_
  refine WL.runk 2 [1, 3, 10] [(1, .pointer (some ⟨b2, 0, none⟩)), (3, .int .i64 x11), (10, .bool (c_0.Amount != 0))] (by kernel_rfl) ?_
  refine WL.case (c_0.Amount != 0) [10] ⟨rfl, trivial⟩ (fun hc31 => ?_) (fun hc31 => ?_)
  rotate_left
  · have hm := iteF hm hc31
    refine WL.runk 8 [2] [(2, .bool false)] (by kernel_rfl) ?_
    refine WL.nil ?_
    obtain rfl := Option.some.inj hm
    exact WQ.post' ⟨rfl, hb16, hL17, hS18⟩ ⟨rfl, trivial⟩
  have hm := iteT hm hc31
  refine WL.runk 1 [3, 10, 11] [(3, .int .i64 x11), (10, .bool true), (11, .pointer (some ⟨b2, 1, none⟩))] (by kernel_rfl) ?_
  refine WL.st (.int .i64 c_0.Amount) (ST.load (cell_ext (SH.boxAt (SH.front 0 hS18) 1 _ rfl)) rfl rfl Tryd.underlying2 rfl) rfl rfl rfl ?_
  refine WL.runk 3 [10, 12, 14, 15] [(10, .bool true), (12, .int .i64 c_0.Amount), (14, .int .i64 (wI64 (0 - x11))), (15, .int .i64 x11)] (by kernel_rfl) ?_
  obtain ⟨x32, hx33, hm⟩ := bindE hm
  refine WL.call 27 #[.int .i64 c_0.Amount, .int .i64 (wI64 (0 - x11)), .int .i64 x11] rfl rfl (by kernel_rfl) (c_27 n c_0.Amount (wI64 (0 - x11)) x11 w13 hx33 ) ?_
  rintro _ w34 ⟨rfl, hE35⟩
  refine ⟨_, rfl, ?_⟩
  have hb37 : Ext w w34 := Ext.trans hb16 hE35
  have hL38 : w.heap.size ≤ w34.heap.size := Nat.le_trans hL17 hE35.size
  have hS39 : SH w34 w.heap.size [aBox 25 b2 [.int .i64 c_0.Kind, .int .i64 c_0.Amount]] := SH.ext hS18 hE35
  refine WL.runk 2 [2] [(2, .bool x32)] (by kernel_rfl) ?_
  refine WL.nil ?_
  obtain rfl := Option.some.inj hm
  exact WQ.post' ⟨rfl, hb37, hL38, hS39⟩ ⟨rfl, trivial⟩

theorem c_26 (n : Nat)  (w : World) {r : List (List UInt8)} (hm : m_spec_l22Names n  = some r)  :
    CallV Tryd.prog 26 #[] w (fun v w' => ∃ (ra0 : Option Addr) (rc0 : Nat), v = .slice ra0 r.length rc0 ∧ Ext w w' ∧ SH w' w.heap.size [aOwn fStr 9 ra0 rc0 r]) := by
  unfold m_spec_l22Names at hm
  refine CallV.enter Tryd.func26 rfl (by kernel_rfl) Tryd.ntmps26 (env := []) trivial ?_
  refine WP.seq (fun K1 hK1 => ?_)
  refine WP.region ?_
  refine WL.runk 1 [] [] (by kernel_rfl) ?_
  refine WL.nil ?_
  refine WQ.then_normal (hK1 _ _ _ ?_)
  refine WP.seq (fun K2 hK2 => ?_)
  refine WP.region ?_
  refine WL.row fStr 9 ([[108, 101, 110, 103, 116, 104], [98, 97, 108, 108], [105, 110, 115, 116, 101, 112], [104, 101, 101, 108], [112, 105, 116, 99, 104]] : List (List UInt8)) 5 #[.string (bs [108, 101, 110, 103, 116, 104]), .string (bs [98, 97, 108, 108]), .string (bs [105, 110, 115, 116, 101, 112]), .string (bs [104, 101, 101, 108]), .string (bs [112, 105, 116, 99, 104])] 1 (by kernel_rfl) rfl rfl rfl rfl rfl rfl rfl ?_
  intro a3 c4 w5 hE6 hR7
  have hb9 : Ext w w5 := Ext.trans (Ext.refl w) hE6
  have hL10 : w.heap.size ≤ w5.heap.size := Nat.le_trans (Nat.le_refl _) hE6.size
  have hS11 : SH w5 w.heap.size [aOwn fStr 9 a3 c4 ([[108, 101, 110, 103, 116, 104], [98, 97, 108, 108], [105, 110, 115, 116, 101, 112], [104, 101, 101, 108], [112, 105, 116, 99, 104]] : List (List UInt8))] := SH.add (SH.nil _ _) hE6 (Nat.le_refl _) hR7
  refine WL.runk 1 [0] [(0, .slice a3 (([[108, 101, 110, 103, 116, 104], [98, 97, 108, 108], [105, 110, 115, 116, 101, 112], [104, 101, 101, 108], [112, 105, 116, 99, 104]] : List (List UInt8)).length) c4)] (by kernel_rfl) ?_
  refine WL.nil ?_
  refine WQ.then_normal (hK2 _ _ _ ?_)
  refine WP.ret ?_
  obtain rfl := Option.some.inj hm
  exact WQ.ret1 _ rfl rfl ⟨_, _, rfl, hb9, hS11⟩

theorem c_43 (n : Nat) (n_0 : Int) (w : World) {r : List UInt8} (hm : m_spec_l01Dec n n_0 = some r)  :
    CallV Tryd.prog 43 #[.int .i64 n_0] w (fun v w' => v = .string (bs r) ∧ Ext w w') := by
  unfold m_spec_l01Dec at hm
  refine CallV.enter Tryd.func43 rfl (by kernel_rfl) Tryd.ntmps43 (env := [(0, .int .i64 n_0)]) ⟨rfl, trivial⟩ ?_
  refine WP.seq (fun K1 hK1 => ?_)
  refine WP.region ?_
  refine WL.runk 1 [0] [(0, .int .i64 n_0)] (by kernel_rfl) ?_
  refine WL.nil ?_
  refine WQ.then_normal (hK1 _ _ _ ?_)
  refine WP.seq (fun K2 hK2 => ?_)
  refine WP.region ?_
  refine WL.row fU8 5 ([] : List Int) 0 #[] 6 (by kernel_rfl) rfl rfl rfl rfl rfl rfl rfl ?_
  intro a3 c4 w5 hE6 hR7
  have hb9 : Ext w w5 := Ext.trans (Ext.refl w) hE6
  have hL10 : w.heap.size ≤ w5.heap.size := Nat.le_trans (Nat.le_refl _) hE6.size
  have hS11 : SH w5 w.heap.size [aOwn fU8 5 a3 c4 ([] : List Int)] := SH.add (SH.nil _ _) hE6 (Nat.le_refl _) hR7
  refine WL.runk 1 [0, 3] [(0, .int .i64 n_0), (3, .slice a3 (([] : List Int).length) c4)] (by kernel_rfl) ?_
  refine WL.nil ?_
  refine WQ.then_normal (hK2 _ _ _ ?_)
  refine WP.seq (fun K12 hK12 => ?_)
  refine WP.seq (fun K13 hK13 => ?_)
  refine WP.region ?_
  refine WL.runk 2 [0, 3, 4] [(0, .int .i64 n_0), (3, .slice a3 (([] : List Int).length) c4), (4, .int .i64 n_0)] (by kernel_rfl) ?_
  refine WL.nil ?_
  refine WQ.then_normal (hK13 _ _ _ ?_)
  refine WP.block ?_
  obtain ⟨t28, ht29, hm⟩ := bindE hm
  have hmo23 := hm; clear hm
  refine WP.sub [(0, .int .i64 n_0), (3, .slice a3 (([] : List Int).length) c4), (4, .int .i64 n_0)] ⟨rfl, rfl, rfl, trivial⟩ ?_
  refine WP.loop (fun n' env' w' => ∃ (st14 : List Int × Int) (a15 : Option Addr) (c16 : Nat), env' = [(0, .int .i64 n_0), (3, .slice a15 st14.1.length c16), (4, .int .i64 st14.2)] ∧ Ext w w' ∧ w.heap.size ≤ w'.heap.size ∧ SH w' w.heap.size [aOwn fU8 5 a15 c16 st14.1] ∧ loopN (m_spec_l01Dec_l1 n) n' st14 = some t28) n ⟨(([] : List Int), n_0), _, _, rfl, hb9, hL10, hS11, ht29⟩ ?_
  rintro n25 _ w18 ⟨st14, a15, c16, rfl, hb19, hL20, hS21, hl22⟩ K24 hK24
  obtain ⟨n26, s27, rfl, hm, hl22⟩ := loopN_some hl22
  unfold m_spec_l01Dec_l1 at hm
  refine WP.seq (fun K30 hK30 => ?_)
  refine WP.seq (fun K31 hK31 => ?_)
  refine WP.region ?_
  refine WL.runk 2 [0, 3, 4, 9] [(0, .int .i64 n_0), (3, .slice a15 st14.1.length c16), (4, .int .i64 st14.2), (9, .bool (st14.2 != 0))] (by kernel_rfl) ?_
  refine WL.nil ?_
  refine WQ.then_normal (hK31 _ _ _ ?_)
  refine WP.cond (st14.2 != 0) rfl rfl (fun hc32 => ?_) (fun hc32 => ?_)
  · have hm := iteT hm hc32
    refine WP.skip ?_
    refine WQ.then_normal (hK30 _ _ _ ?_)
    refine WP.seq (fun K33 hK33 => ?_)
    refine WP.block ?_
    refine WP.seq (fun K34 hK34 => ?_)
    refine WP.region ?_
    refine WL.runk 3 [0, 3, 4, 5] [(0, .int .i64 n_0), (3, .slice a15 st14.1.length c16), (4, .int .i64 st14.2), (5, .int .i64 (Int.tmod st14.2 10))] (by kernel_rfl) ?_
    refine WL.nil ?_
    refine WQ.then_normal (hK34 _ _ _ ?_)
    refine WP.seq (fun K35 hK35 => ?_)
    refine WP.seq (fun K36 hK36 => ?_)
    refine WP.region ?_
    refine WL.runk 2 [0, 3, 4, 5, 15] [(0, .int .i64 n_0), (3, .slice a15 st14.1.length c16), (4, .int .i64 st14.2), (5, .int .i64 (Int.tmod st14.2 10)), (15, .bool (decide ((Int.tmod st14.2 10) < 0)))] (by kernel_rfl) ?_
    refine WL.nil ?_
    refine WQ.then_normal (hK36 _ _ _ ?_)
    obtain ⟨x38, hx39, hm⟩ := bindE hm
    refine WP.cut (fun env' w' => env' = [(0, .int .i64 n_0), (3, .slice a15 st14.1.length c16), (4, .int .i64 st14.2), (5, .int .i64 x38)] ∧ Ext w w' ∧ w.heap.size ≤ w'.heap.size ∧ SH w' w.heap.size [aOwn fU8 5 a15 c16 st14.1]) ?_ ?_
    · have hm := hx39; clear hx39
      refine WP.cond (decide ((Int.tmod st14.2 10) < 0)) rfl rfl (fun hc37 => ?_) (fun hc37 => ?_)
      rotate_left
      · have hm := iteF hm hc37
        refine WP.skip ?_
        obtain rfl := Option.some.inj hm
        exact WQ.post' ⟨rfl, hb19, hL20, hS21⟩ ⟨rfl, rfl, rfl, rfl, trivial⟩
      have hm := iteT hm hc37
      refine WP.region ?_
      refine WL.runk 3 [0, 3, 4, 5] [(0, .int .i64 n_0), (3, .slice a15 st14.1.length c16), (4, .int .i64 st14.2), (5, .int .i64 (wI64 (0 - (Int.tmod st14.2 10))))] (by kernel_rfl) ?_
      refine WL.nil ?_
      obtain rfl := Option.some.inj hm
      exact WQ.post' ⟨rfl, hb19, hL20, hS21⟩ ⟨rfl, rfl, rfl, rfl, trivial⟩
    clear hx39
    rintro _ w40 ⟨rfl, hb41, hL42, hS43⟩
    refine WQ.then_normal (hK35 _ _ _ ?_)
    refine WP.region ?_
    refine WL.runk 3 [0, 3, 4, 20] [(0, .int .i64 n_0), (3, .slice a15 st14.1.length c16), (4, .int .i64 st14.2), (20, .int .u8 (IntKind.u8.wrap (wI64 (48 + x38))))] (by kernel_rfl) ?_
    refine WL.row fU8 5 ([(IntKind.u8.wrap (wI64 (48 + x38)))] : List Int) 1 #[.int .u8 (IntKind.u8.wrap (wI64 (48 + x38)))] 21 (by kernel_rfl) rfl rfl rfl rfl rfl rfl rfl ?_
    intro a44 c45 w46 hE47 hR48
    have hb50 : Ext w w46 := Ext.trans hb41 hE47
    have hL51 : w.heap.size ≤ w46.heap.size := Nat.le_trans hL42 hE47.size
    have hS52 : SH w46 w.heap.size [aOwn fU8 5 a44 c45 ([(IntKind.u8.wrap (wI64 (48 + x38)))] : List Int), aOwn fU8 5 a15 c16 st14.1] := SH.add hS43 hE47 hL42 hR48
    refine WL.runk 1 [0, 4, 21, 22] [(0, .int .i64 n_0), (4, .int .i64 st14.2), (21, .slice a44 (([(IntKind.u8.wrap (wI64 (48 + x38)))] : List Int).length) c45), (22, .slice a15 st14.1.length c16)] (by kernel_rfl) ?_
    obtain ⟨x53, hx54, hm⟩ := bindE hm
    refine WL.append (F := fU8) (xs := ([(IntKind.u8.wrap (wI64 (48 + x38)))] : List Int)) (ys := st14.1) 23 (SH.front 0 hS52) hL51 (SH.rd (SH.front 1 hS52)) hx54 rfl rfl rfl Tryd.underlying32 (info5).1 (info5).2.2.1 (info5).2.1 (info5).2.2.2 rfl rfl rfl rfl rfl ?_
    intro a55 c56 w57 hB58 hS59
    have hb60 : Ext w w57 := Below.trans hb50 hB58
    have hL61 : w.heap.size ≤ w57.heap.size := Nat.le_trans hL51 hB58.size
    refine WL.runk 1 [0, 3, 4] [(0, .int .i64 n_0), (4, .int .i64 st14.2), (3, .slice a55 x53.length c56)] (by kernel_rfl) ?_
    refine WL.nil ?_
    refine WQ.block_normal ?_
    refine WQ.then_normal (hK33 _ _ _ ?_)
    refine WP.region ?_
    refine WL.runk 3 [0, 3, 4] [(0, .int .i64 n_0), (4, .int .i64 (wI64 (Int.tdiv st14.2 10))), (3, .slice a55 x53.length c56)] (by kernel_rfl) ?_
    refine WL.nil ?_
    obtain rfl := Option.some.inj hm
    exact WQ.round hK24 ⟨(x53, (wI64 (Int.tdiv st14.2 10))), _, _, rfl, hb60, hL61, (SH.take 1 hS59), hl22⟩ (Nat.lt_succ_self _) ⟨rfl, rfl, rfl, trivial⟩
  have hm := iteF hm hc32
  refine WP.exit ?_
  refine WQ.then_exit ?_
  refine WQ.then_exit ?_
  refine WQ.block_here ?_
  obtain rfl := Option.some.inj hm
  obtain rfl := afterN_done hl22
  have hm := hmo23
  refine WQ.then_normal (hK12 _ _ _ ?_)
  refine WP.seq (fun K62 hK62 => ?_)
  refine WP.seq (fun K63 hK63 => ?_)
  refine WP.region ?_
  refine WL.runk 3 [0, 3, 26] [(0, .int .i64 n_0), (3, .slice a15 st14.1.length c16), (26, .bool ((st14.1.length : Int) == 0))] (by kernel_rfl) ?_
  refine WL.nil ?_
  refine WQ.then_normal (hK63 _ _ _ ?_)
  refine WP.cond ((st14.1.length : Int) == 0) rfl rfl (fun hc64 => ?_) (fun hc64 => ?_)
  · have hm := iteT hm hc64
    refine WP.seq (fun K65 hK65 => ?_)
    refine WP.region ?_
    refine WL.runk 1 [2] [(2, .string (bs [48]))] (by kernel_rfl) ?_
    refine WL.nil ?_
    refine WQ.then_normal (hK65 _ _ _ ?_)
    refine WP.ret ?_
    refine WQ.then_ret ?_
    obtain rfl := Option.some.inj hm
    exact WQ.ret1 _ rfl rfl ⟨rfl, hb19⟩
  have hm := iteF hm hc64
  refine WP.skip ?_
  refine WQ.then_normal (hK62 _ _ _ ?_)
  refine WP.seq (fun K66 hK66 => ?_)
  refine WP.seq (fun K67 hK67 => ?_)
  refine WP.region ?_
  refine WL.runk 2 [3, 28] [(3, .slice a15 st14.1.length c16), (28, .bool (decide (n_0 < 0)))] (by kernel_rfl) ?_
  refine WL.nil ?_
  refine WQ.then_normal (hK67 _ _ _ ?_)
  refine WP.cond (decide (n_0 < 0)) rfl rfl (fun hc68 => ?_) (fun hc68 => ?_)
  rotate_left
  · have hm := iteF hm hc68
    refine WP.skip ?_
    refine WQ.then_normal (hK66 _ _ _ ?_)
    refine WP.seq (fun K72 hK72 => ?_)
    refine WP.region ?_
    refine WL.runk 1 [32] [(32, .slice a15 st14.1.length c16)] (by kernel_rfl) ?_
    refine WL.st (.string (bs (ofBytes st14.1))) (ST.b2s (SH.rd (SH.front 0 hS21)) (SH.le (SH.front 0 hS21)).2 rfl rfl Tryd.underlying32 Tryd.underlying9 Tryd.underlying5) rfl rfl rfl ?_
    refine WL.runk 1 [2] [(2, .string (bs (ofBytes st14.1)))] (by kernel_rfl) ?_
    refine WL.nil ?_
    refine WQ.then_normal (hK72 _ _ _ ?_)
    refine WP.ret ?_
    obtain rfl := Option.some.inj hm
    exact WQ.ret1 _ rfl rfl ⟨rfl, hb19⟩
  have hm := iteT hm hc68
  refine WP.seq (fun K69 hK69 => ?_)
  refine WP.region ?_
  refine WL.runk 1 [29] [(29, .slice a15 st14.1.length c16)] (by kernel_rfl) ?_
  refine WL.st (.string (bs (ofBytes st14.1))) (ST.b2s (SH.rd (SH.front 0 hS21)) (SH.le (SH.front 0 hS21)).2 rfl rfl Tryd.underlying32 Tryd.underlying9 Tryd.underlying5) rfl rfl rfl ?_
  obtain ⟨x70, hx71, hm⟩ := bindE hm
  refine WL.st (.string (bs x70)) (ST.cat hx71 rfl rfl rfl) rfl rfl rfl ?_
  refine WL.runk 1 [2] [(2, .string (bs x70))] (by kernel_rfl) ?_
  refine WL.nil ?_
  refine WQ.then_normal (hK69 _ _ _ ?_)
  refine WP.ret ?_
  refine WQ.then_ret ?_
  obtain rfl := Option.some.inj hm
  exact WQ.ret1 _ rfl rfl ⟨rfl, hb19⟩

theorem c_44 (n : Nat) (n_0 : Int) (w : World) {r : Int} (hm : m_spec_l02Size n n_0 = some r)  :
    CallV Tryd.prog 44 #[.int .i64 n_0] w (fun v w' => v = .int .i64 r ∧ Ext w w') := by
  unfold m_spec_l02Size at hm
  refine CallV.enter Tryd.func44 rfl (by kernel_rfl) Tryd.ntmps44 (env := [(0, .int .i64 n_0)]) ⟨rfl, trivial⟩ ?_
  refine WP.seq (fun K1 hK1 => ?_)
  refine WP.region ?_
  refine WL.runk 1 [0] [(0, .int .i64 n_0)] (by kernel_rfl) ?_
  refine WL.nil ?_
  refine WQ.then_normal (hK1 _ _ _ ?_)
  refine WP.seq (fun K2 hK2 => ?_)
  refine WP.seq (fun K3 hK3 => ?_)
  refine WP.region ?_
  refine WL.runk 2 [0, 4] [(0, .int .i64 n_0), (4, .bool (decide (n_0 < 0)))] (by kernel_rfl) ?_
  refine WL.nil ?_
  refine WQ.then_normal (hK3 _ _ _ ?_)
  refine WP.cond (decide (n_0 < 0)) rfl rfl (fun hc4 => ?_) (fun hc4 => ?_)
  · have hm := iteT hm hc4
    refine WP.seq (fun K5 hK5 => ?_)
    refine WP.region ?_
    refine WL.runk 3 [2] [(2, .int .i64 (wI64 (0 - n_0)))] (by kernel_rfl) ?_
    refine WL.nil ?_
    refine WQ.then_normal (hK5 _ _ _ ?_)
    refine WP.ret ?_
    refine WQ.then_ret ?_
    obtain rfl := Option.some.inj hm
    exact WQ.ret1 _ rfl rfl ⟨rfl, (Ext.refl w)⟩
  have hm := iteF hm hc4
  refine WP.skip ?_
  refine WQ.then_normal (hK2 _ _ _ ?_)
  refine WP.seq (fun K6 hK6 => ?_)
  refine WP.region ?_
  refine WL.runk 2 [2] [(2, .int .i64 n_0)] (by kernel_rfl) ?_
  refine WL.nil ?_
  refine WQ.then_normal (hK6 _ _ _ ?_)
  refine WP.ret ?_
  obtain rfl := Option.some.inj hm
  exact WQ.ret1 _ rfl rfl ⟨rfl, (Ext.refl w)⟩

theorem c_21 (n : Nat) (c_0 : SChange) (w : World) {r : List UInt8} (hm : m_spec_l22Text n c_0 = some r)  :
    CallV Tryd.prog 21 #[.agg #[.int .i64 c_0.Kind, .int .i64 c_0.Amount]] w (fun v w' => v = .string (bs r) ∧ Ext w w') := by
  unfold m_spec_l22Text at hm
  refine CallV.enter Tryd.func21 rfl (by kernel_rfl) Tryd.ntmps21 (env := [(0, .agg #[.int .i64 c_0.Kind, .int .i64 c_0.Amount])]) ⟨rfl, trivial⟩ ?_
  refine WP.seq (fun K1 hK1 => ?_)
  refine WP.region ?_
  refine WL.box 25 [.int .i64 c_0.Kind, .int .i64 c_0.Amount] 1 (by kernel_rfl) rfl rfl rfl rfl ?_
  intro b2 w3 hE4 hR5
  have hb7 : Ext w w3 := Ext.trans (Ext.refl w) hE4
  have hL8 : w.heap.size ≤ w3.heap.size := Nat.le_trans (Nat.le_refl _) hE4.size
  have hS9 : SH w3 w.heap.size [aBox 25 b2 [.int .i64 c_0.Kind, .int .i64 c_0.Amount]] := SH.add (SH.nil _ _) hE4 (Nat.le_refl _) hR5
  refine WL.runk 1 [1] [(1, .pointer (some ⟨b2, 0, none⟩))] (by kernel_rfl) ?_
  refine WL.nil ?_
  refine WQ.then_normal (hK1 _ _ _ ?_)
  refine WP.seq (fun K10 hK10 => ?_)
  refine WP.region ?_
  refine WL.runk 1 [1, 3] [(1, .pointer (some ⟨b2, 0, none⟩)), (3, .string (bs [43]))] (by kernel_rfl) ?_
  refine WL.nil ?_
  refine WQ.then_normal (hK10 _ _ _ ?_)
  refine WP.seq (fun K11 hK11 => ?_)
  refine WP.seq (fun K12 hK12 => ?_)
  refine WP.region ?_
  refine WL.runk 1 [1, 3, 4] [(1, .pointer (some ⟨b2, 0, none⟩)), (3, .string (bs [43])), (4, .pointer (some ⟨b2, 1, none⟩))] (by kernel_rfl) ?_
  refine WL.st (.int .i64 c_0.Amount) (ST.load (cell_ext (SH.boxAt (SH.front 0 hS9) 1 _ rfl)) rfl rfl Tryd.underlying2 rfl) rfl rfl rfl ?_
  refine WL.runk 1 [1, 3, 6] [(1, .pointer (some ⟨b2, 0, none⟩)), (3, .string (bs [43])), (6, .bool (decide (c_0.Amount < 0)))] (by kernel_rfl) ?_
  refine WL.nil ?_
  refine WQ.then_normal (hK12 _ _ _ ?_)
  obtain ⟨x14, hx15, hm⟩ := bindE hm
  refine WP.cut (fun env' w' => env' = [(1, .pointer (some ⟨b2, 0, none⟩)), (3, .string (bs x14))] ∧ Ext w w' ∧ w.heap.size ≤ w'.heap.size ∧ SH w' w.heap.size [aBox 25 b2 [.int .i64 c_0.Kind, .int .i64 c_0.Amount]]) ?_ ?_
  · have hm := hx15; clear hx15
    refine WP.cond (decide (c_0.Amount < 0)) rfl rfl (fun hc13 => ?_) (fun hc13 => ?_)
    rotate_left
    · have hm := iteF hm hc13
      refine WP.skip ?_
      obtain rfl := Option.some.inj hm
      exact WQ.post' ⟨rfl, hb7, hL8, hS9⟩ ⟨rfl, rfl, trivial⟩
    have hm := iteT hm hc13
    refine WP.region ?_
    refine WL.runk 1 [1, 3] [(1, .pointer (some ⟨b2, 0, none⟩)), (3, .string (bs [45]))] (by kernel_rfl) ?_
    refine WL.nil ?_
    obtain rfl := Option.some.inj hm
    exact WQ.post' ⟨rfl, hb7, hL8, hS9⟩ ⟨rfl, rfl, trivial⟩
  clear hx15
  rintro _ w16 ⟨rfl, hb17, hL18, hS19⟩
  refine WQ.then_normal (hK11 _ _ _ ?_)
  refine WP.seq (fun K20 hK20 => ?_)
  refine WP.open (n := 15) (by kernel_rfl) rfl (fun w21 hE22 => ?_)
  have hb23 : Ext w w21 := Ext.trans hb17 hE22
  have hL24 : w.heap.size ≤ w21.heap.size := Nat.le_trans hL18 hE22.size
  have hS25 : SH w21 w.heap.size [aBox 25 b2 [.int .i64 c_0.Kind, .int .i64 c_0.Amount]] := SH.ext hS19 hE22
  obtain ⟨x34, hx35, hm⟩ := bindE hm
  obtain ⟨x69, hx70, hm⟩ := bindE hm
  obtain ⟨x83, hx84, hm⟩ := bindE hm
  obtain ⟨x97, hx98, hm⟩ := bindE hm
  obtain ⟨x117, hx118, hm⟩ := bindE hm
  obtain ⟨x131, hx132, hm⟩ := bindE hm
  refine WA.par (R := []) (f' := 2) (D' := [0, 1, 2, 3, 4, 5, 6, 7, 8, 9, 10, 11, 12]) [⟨0, [0], fun g26 => .slice ((g26 0 0).1) x34.length ((g26 0 0).2)⟩, ⟨1, [], fun _ => .pointer (some ⟨b2, 0, none⟩)⟩, ⟨2, [], fun _ => .int .i64 c_0.Kind⟩, ⟨3, [], fun _ => .int .i64 (wI64 (c_0.Kind - 1))⟩, ⟨4, [0], fun g26 => .pointer (some (at_ ((g26 0 0).1) (Int.toNat (wI64 (c_0.Kind - 1)) * 1)))⟩, ⟨5, [], fun _ => .string (bs x69)⟩, ⟨6, [], fun _ => .string (bs x83)⟩, ⟨7, [], fun _ => .string (bs x14)⟩, ⟨8, [], fun _ => .string (bs x97)⟩, ⟨9, [], fun _ => .pointer (some ⟨b2, 1, none⟩)⟩, ⟨10, [], fun _ => .int .i64 c_0.Amount⟩, ⟨11, [], fun _ => .int .i64 x117⟩, ⟨12, [], fun _ => .string (bs x131)⟩] [⟨[aBox 25 b2 [.int .i64 c_0.Kind, .int .i64 c_0.Amount]], []⟩, ⟨[], [⟨0, [0], fun g26 => [aOwn fStr 9 ((g26 0 0).1) ((g26 0 0).2) x34]⟩]⟩] rfl rfl hS25 (by kernel_rfl) (by kernel_rfl) ⟨?_, ?_, ?_, ?_, ?_, ?_, ?_, ?_, ?_, ?_, ?_, ?_, ?_, trivial⟩ ?_
  · intro g26 w28 R27 hB29 hS30
    have hS31 : SH w28 w.heap.size (aBox 25 b2 [.int .i64 c_0.Kind, .int .i64 c_0.Amount] :: R27) := memEq hS30 (by kernel_rfl)
    have hb32 : Ext w w28 := Below.trans hb23 hB29
    have hL33 : w.heap.size ≤ w28.heap.size := Nat.le_trans hL24 hB29.size
    refine WL.subk [] [] (by kernel_rfl) ?_
    refine WL.call 26 #[] rfl rfl (by kernel_rfl) (c_26 n  w28 hx35 ) ?_
    rintro _ w39 ⟨a36, c37, rfl, hE40, hR41⟩
    refine ⟨_, rfl, ?_⟩
    have hb42 : Ext w w39 := Ext.trans hb32 hE40
    have hL43 : w.heap.size ≤ w39.heap.size := Nat.le_trans hL33 hE40.size
    have hS44 : SH w39 w.heap.size (aOwn fStr 9 a36 c37 x34 :: aBox 25 b2 [.int .i64 c_0.Kind, .int .i64 c_0.Amount] :: R27) := SH.add hS31 hE40 hL33 hR41
    refine WL.nil ?_
    exact QP.intro (fun k => ([(a36, c37)] : List (Option Addr × Nat)).getD k (none, 0)) (d := 7) (by kernel_rfl) (by kernel_rfl) (Below.mono hE40 hL33) (SH.front 1 hS44) (by kernel_rfl)
  · intro g26 w45 R27 hB46 hS47
    have hS48 : SH w45 w.heap.size (aBox 25 b2 [.int .i64 c_0.Kind, .int .i64 c_0.Amount] :: R27) := memEq hS47 (by kernel_rfl)
    have hb49 : Ext w w45 := Below.trans hb23 hB46
    have hL50 : w.heap.size ≤ w45.heap.size := Nat.le_trans hL24 hB46.size
    refine WL.subk [1] [(1, .pointer (some ⟨b2, 0, none⟩))] (by kernel_rfl) ?_
    refine WL.runk 1 [8] [(8, .pointer (some ⟨b2, 0, none⟩))] (by kernel_rfl) ?_
    refine WL.nil ?_
    exact QP.intro (fun k => ([] : List (Option Addr × Nat)).getD k (none, 0)) (d := 8) (by kernel_rfl) (by kernel_rfl) (Below.refl _ _) hS48 (by kernel_rfl)
  · intro g26 w51 R27 hB52 hS53
    have hS54 : SH w51 w.heap.size (aBox 25 b2 [.int .i64 c_0.Kind, .int .i64 c_0.Amount] :: R27) := memEq hS53 (by kernel_rfl)
    have hb55 : Ext w w51 := Below.trans hb23 hB52
    have hL56 : w.heap.size ≤ w51.heap.size := Nat.le_trans hL24 hB52.size
    refine WL.subk [8] [(8, .pointer (some ⟨b2, 0, none⟩))] (by kernel_rfl) ?_
    refine WL.st (.int .i64 c_0.Kind) (ST.load (cell_ext (SH.boxAt (SH.front 0 hS54) 0 _ rfl)) rfl rfl Tryd.underlying2 rfl) rfl rfl rfl ?_
    refine WL.nil ?_
    exact QP.intro (fun k => ([] : List (Option Addr × Nat)).getD k (none, 0)) (d := 9) (by kernel_rfl) (by kernel_rfl) (Below.refl _ _) hS54 (by kernel_rfl)
  · intro g26 w57 R27 hB58 hS59
    have hS60 : SH w57 w.heap.size (aBox 25 b2 [.int .i64 c_0.Kind, .int .i64 c_0.Amount] :: R27) := memEq hS59 (by kernel_rfl)
    have hb61 : Ext w w57 := Below.trans hb23 hB58
    have hL62 : w.heap.size ≤ w57.heap.size := Nat.le_trans hL24 hB58.size
    refine WL.subk [9] [(9, .int .i64 c_0.Kind)] (by kernel_rfl) ?_
    refine WL.runk 1 [10] [(10, .int .i64 (wI64 (c_0.Kind - 1)))] (by kernel_rfl) ?_
    refine WL.nil ?_
    exact QP.intro (fun k => ([] : List (Option Addr × Nat)).getD k (none, 0)) (d := 10) (by kernel_rfl) (by kernel_rfl) (Below.refl _ _) hS60 (by kernel_rfl)
  · intro g26 w63 R27 hB64 hS65
    have hS66 : SH w63 w.heap.size (aBox 25 b2 [.int .i64 c_0.Kind, .int .i64 c_0.Amount] :: aOwn fStr 9 ((g26 0 0).1) ((g26 0 0).2) x34 :: R27) := memEq hS65 (by kernel_rfl)
    have hb67 : Ext w w63 := Below.trans hb23 hB64
    have hL68 : w.heap.size ≤ w63.heap.size := Nat.le_trans hL24 hB64.size
    refine WL.subk [7, 10] [(7, .slice ((g26 0 0).1) x34.length ((g26 0 0).2)), (10, .int .i64 (wI64 (c_0.Kind - 1)))] (by kernel_rfl) ?_
    refine WL.st (.pointer (some (at_ ((g26 0 0).1) (Int.toNat (wI64 (c_0.Kind - 1)) * 1)))) (ST.index (T := fStr.ty) (xs := x34) (SH.rd (SH.front 1 hS66)) hx70 rfl rfl rfl Tryd.underlying48 (info9).1 (info9).2.1) rfl rfl rfl ?_
    refine WL.nil ?_
    exact QP.intro (fun k => ([] : List (Option Addr × Nat)).getD k (none, 0)) (d := 11) (by kernel_rfl) (by kernel_rfl) (Below.refl _ _) hS66 (by kernel_rfl)
  · intro g26 w71 R27 hB72 hS73
    have hS74 : SH w71 w.heap.size (aBox 25 b2 [.int .i64 c_0.Kind, .int .i64 c_0.Amount] :: aOwn fStr 9 ((g26 0 0).1) ((g26 0 0).2) x34 :: R27) := memEq hS73 (by kernel_rfl)
    have hb75 : Ext w w71 := Below.trans hb23 hB72
    have hL76 : w.heap.size ≤ w71.heap.size := Nat.le_trans hL24 hB72.size
    refine WL.subk [11] [(11, .pointer (some (at_ ((g26 0 0).1) (Int.toNat (wI64 (c_0.Kind - 1)) * 1))))] (by kernel_rfl) ?_
    refine WL.st (.string (bs x69)) (ST.load (cell_ext (Rd.flat (F := fStr) (SH.rd (SH.front 1 hS74)) hx70 0 rfl)) rfl rfl Tryd.underlying9 rfl) rfl rfl rfl ?_
    refine WL.nil ?_
    exact QP.intro (fun k => ([] : List (Option Addr × Nat)).getD k (none, 0)) (d := 12) (by kernel_rfl) (by kernel_rfl) (Below.refl _ _) hS74 (by kernel_rfl)
  · intro g26 w77 R27 hB78 hS79
    have hS80 : SH w77 w.heap.size (aBox 25 b2 [.int .i64 c_0.Kind, .int .i64 c_0.Amount] :: aOwn fStr 9 ((g26 0 0).1) ((g26 0 0).2) x34 :: R27) := memEq hS79 (by kernel_rfl)
    have hb81 : Ext w w77 := Below.trans hb23 hB78
    have hL82 : w.heap.size ≤ w77.heap.size := Nat.le_trans hL24 hB78.size
    refine WL.subk [12] [(12, .string (bs x69))] (by kernel_rfl) ?_
    refine WL.st (.string (bs x83)) (ST.cat hx84 rfl rfl rfl) rfl rfl rfl ?_
    refine WL.nil ?_
    exact QP.intro (fun k => ([] : List (Option Addr × Nat)).getD k (none, 0)) (d := 13) (by kernel_rfl) (by kernel_rfl) (Below.refl _ _) hS80 (by kernel_rfl)
  · intro g26 w85 R27 hB86 hS87
    have hS88 : SH w85 w.heap.size (aBox 25 b2 [.int .i64 c_0.Kind, .int .i64 c_0.Amount] :: R27) := memEq hS87 (by kernel_rfl)
    have hb89 : Ext w w85 := Below.trans hb23 hB86
    have hL90 : w.heap.size ≤ w85.heap.size := Nat.le_trans hL24 hB86.size
    refine WL.subk [3] [(3, .string (bs x14))] (by kernel_rfl) ?_
    refine WL.runk 1 [14] [(14, .string (bs x14))] (by kernel_rfl) ?_
    refine WL.nil ?_
    exact QP.intro (fun k => ([] : List (Option Addr × Nat)).getD k (none, 0)) (d := 14) (by kernel_rfl) (by kernel_rfl) (Below.refl _ _) hS88 (by kernel_rfl)
  · intro g26 w91 R27 hB92 hS93
    have hS94 : SH w91 w.heap.size (aBox 25 b2 [.int .i64 c_0.Kind, .int .i64 c_0.Amount] :: aOwn fStr 9 ((g26 0 0).1) ((g26 0 0).2) x34 :: R27) := memEq hS93 (by kernel_rfl)
    have hb95 : Ext w w91 := Below.trans hb23 hB92
    have hL96 : w.heap.size ≤ w91.heap.size := Nat.le_trans hL24 hB92.size
    refine WL.subk [13, 14] [(13, .string (bs x83)), (14, .string (bs x14))] (by kernel_rfl) ?_
    refine WL.st (.string (bs x97)) (ST.cat hx98 rfl rfl rfl) rfl rfl rfl ?_
    refine WL.nil ?_
    exact QP.intro (fun k => ([] : List (Option Addr × Nat)).getD k (none, 0)) (d := 15) (by kernel_rfl) (by kernel_rfl) (Below.refl _ _) hS94 (by kernel_rfl)
  · intro g26 w99 R27 hB100 hS101
    have hS102 : SH w99 w.heap.size (aBox 25 b2 [.int .i64 c_0.Kind, .int .i64 c_0.Amount] :: R27) := memEq hS101 (by kernel_rfl)
    have hb103 : Ext w w99 := Below.trans hb23 hB100
    have hL104 : w.heap.size ≤ w99.heap.size := Nat.le_trans hL24 hB100.size
    refine WL.subk [1] [(1, .pointer (some ⟨b2, 0, none⟩))] (by kernel_rfl) ?_
    refine WL.runk 1 [16] [(16, .pointer (some ⟨b2, 1, none⟩))] (by kernel_rfl) ?_
    refine WL.nil ?_
    exact QP.intro (fun k => ([] : List (Option Addr × Nat)).getD k (none, 0)) (d := 16) (by kernel_rfl) (by kernel_rfl) (Below.refl _ _) hS102 (by kernel_rfl)
  · intro g26 w105 R27 hB106 hS107
    have hS108 : SH w105 w.heap.size (aBox 25 b2 [.int .i64 c_0.Kind, .int .i64 c_0.Amount] :: R27) := memEq hS107 (by kernel_rfl)
    have hb109 : Ext w w105 := Below.trans hb23 hB106
    have hL110 : w.heap.size ≤ w105.heap.size := Nat.le_trans hL24 hB106.size
    refine WL.subk [16] [(16, .pointer (some ⟨b2, 1, none⟩))] (by kernel_rfl) ?_
    refine WL.st (.int .i64 c_0.Amount) (ST.load (cell_ext (SH.boxAt (SH.front 0 hS108) 1 _ rfl)) rfl rfl Tryd.underlying2 rfl) rfl rfl rfl ?_
    refine WL.nil ?_
    exact QP.intro (fun k => ([] : List (Option Addr × Nat)).getD k (none, 0)) (d := 17) (by kernel_rfl) (by kernel_rfl) (Below.refl _ _) hS108 (by kernel_rfl)
  · intro g26 w111 R27 hB112 hS113
    have hS114 : SH w111 w.heap.size (aBox 25 b2 [.int .i64 c_0.Kind, .int .i64 c_0.Amount] :: aOwn fStr 9 ((g26 0 0).1) ((g26 0 0).2) x34 :: R27) := memEq hS113 (by kernel_rfl)
    have hb115 : Ext w w111 := Below.trans hb23 hB112
    have hL116 : w.heap.size ≤ w111.heap.size := Nat.le_trans hL24 hB112.size
    refine WL.subk [17] [(17, .int .i64 c_0.Amount)] (by kernel_rfl) ?_
    refine WL.call 44 #[.int .i64 c_0.Amount] rfl rfl (by kernel_rfl) (c_44 n c_0.Amount w111 hx118 ) ?_
    rintro _ w119 ⟨rfl, hE120⟩
    refine ⟨_, rfl, ?_⟩
    have hb122 : Ext w w119 := Ext.trans hb115 hE120
    have hL123 : w.heap.size ≤ w119.heap.size := Nat.le_trans hL116 hE120.size
    have hS124 : SH w119 w.heap.size (aBox 25 b2 [.int .i64 c_0.Kind, .int .i64 c_0.Amount] :: aOwn fStr 9 ((g26 0 0).1) ((g26 0 0).2) x34 :: R27) := SH.ext hS114 hE120
    refine WL.nil ?_
    exact QP.intro (fun k => ([] : List (Option Addr × Nat)).getD k (none, 0)) (d := 18) (by kernel_rfl) (by kernel_rfl) (Below.mono hE120 hL116) hS124 (by kernel_rfl)
  · intro g26 w125 R27 hB126 hS127
    have hS128 : SH w125 w.heap.size (aBox 25 b2 [.int .i64 c_0.Kind, .int .i64 c_0.Amount] :: aOwn fStr 9 ((g26 0 0).1) ((g26 0 0).2) x34 :: R27) := memEq hS127 (by kernel_rfl)
    have hb129 : Ext w w125 := Below.trans hb23 hB126
    have hL130 : w.heap.size ≤ w125.heap.size := Nat.le_trans hL24 hB126.size
    refine WL.subk [18] [(18, .int .i64 x117)] (by kernel_rfl) ?_
    refine WL.call 43 #[.int .i64 x117] rfl rfl (by kernel_rfl) (c_43 n x117 w125 hx132 ) ?_
    rintro _ w133 ⟨rfl, hE134⟩
    refine ⟨_, rfl, ?_⟩
    have hb136 : Ext w w133 := Ext.trans hb129 hE134
    have hL137 : w.heap.size ≤ w133.heap.size := Nat.le_trans hL130 hE134.size
    have hS138 : SH w133 w.heap.size (aBox 25 b2 [.int .i64 c_0.Kind, .int .i64 c_0.Amount] :: aOwn fStr 9 ((g26 0 0).1) ((g26 0 0).2) x34 :: R27) := SH.ext hS128 hE134
    refine WL.nil ?_
    exact QP.intro (fun k => ([] : List (Option Addr × Nat)).getD k (none, 0)) (d := 19) (by kernel_rfl) (by kernel_rfl) (Below.mono hE134 hL130) hS138 (by kernel_rfl)
  intro g26 w139 hB140 hS141
  have hS142 : SH w139 w.heap.size [aBox 25 b2 [.int .i64 c_0.Kind, .int .i64 c_0.Amount], aOwn fStr 9 ((g26 0 0).1) ((g26 0 0).2) x34] := memEq hS141 (by kernel_rfl)
  have hb143 : Ext w w139 := Below.trans hb23 hB140
  have hL144 : w.heap.size ≤ w139.heap.size := Nat.le_trans hL24 hB140.size
  refine WQ.subk [15, 19] [(15, .string (bs x97)), (19, .string (bs x131))] (by kernel_rfl) ?_
  refine WA.one (i := 13) (D' := [0, 1, 2, 3, 4, 5, 6, 7, 8, 9, 10, 11, 12, 13]) rfl rfl (by kernel_rfl) ?_
  obtain ⟨x145, hx146, hm⟩ := bindE hm
  refine WL.st (.string (bs x145)) (ST.cat hx146 rfl rfl rfl) rfl rfl rfl ?_
  refine WL.sub [(20, .string (bs x145))] ⟨rfl, trivial⟩ ?_
  refine WL.nil ?_
  refine WA.one (i := 14) (D' := [0, 1, 2, 3, 4, 5, 6, 7, 8, 9, 10, 11, 12, 13, 14]) rfl rfl (by kernel_rfl) ?_
  refine WL.runk 1 [2] [(2, .string (bs x145))] (by kernel_rfl) ?_
  refine WL.nil ?_
  refine WA.done (by kernel_rfl) ?_
  refine WQ.then_normal (hK20 _ _ _ ?_)
  refine WP.ret ?_
  obtain rfl := Option.some.inj hm
  exact WQ.ret1 _ rfl rfl ⟨rfl, hb143⟩

theorem c_6 (n : Nat) (c_0 : SChange) (w : World) {r : List UInt8} (hm : m_spec_ChangeText n c_0 = some r)  :
    CallV Tryd.prog 6 #[.agg #[.int .i64 c_0.Kind, .int .i64 c_0.Amount]] w (fun v w' => v = .string (bs r) ∧ Ext w w') := by
  unfold m_spec_ChangeText at hm
  refine CallV.enter Tryd.func6 rfl (by kernel_rfl) Tryd.ntmps6 (env := [(0, .agg #[.int .i64 c_0.Kind, .int .i64 c_0.Amount])]) ⟨rfl, trivial⟩ ?_
  refine WP.seq (fun K1 hK1 => ?_)
  refine WP.region ?_
  refine WL.box 25 [.int .i64 c_0.Kind, .int .i64 c_0.Amount] 1 (by kernel_rfl) rfl rfl rfl rfl ?_
  intro b2 w3 hE4 hR5
  have hb7 : Ext w w3 := Ext.trans (Ext.refl w) hE4
  have hL8 : w.heap.size ≤ w3.heap.size := Nat.le_trans (Nat.le_refl _) hE4.size
  have hS9 : SH w3 w.heap.size [aBox 25 b2 [.int .i64 c_0.Kind, .int .i64 c_0.Amount]] := SH.add (SH.nil _ _) hE4 (Nat.le_refl _) hR5
  refine WL.runk 1 [1] [(1, .pointer (some ⟨b2, 0, none⟩))] (by kernel_rfl) ?_
  refine WL.nil ?_
  refine WQ.then_normal (hK1 _ _ _ ?_)
  refine WP.seq (fun K10 hK10 => ?_)
  refine WP.seq (fun K11 hK11 => ?_)
  refine WP.region ?_
  refine WL.st (.agg #[.int .i64 c_0.Kind, .int .i64 c_0.Amount]) (ST.loadAgg (vs := [.int .i64 c_0.Kind, .int .i64 c_0.Amount]) (fun j v hv => SH.boxPart (us := [.int .i64 c_0.Kind, .int .i64 c_0.Amount]) (SH.front 0 hS9) 0 rfl j v hv) rfl rfl rfl Tryd.underlying25 rfl (info25).1 (info25).2.1) rfl rfl rfl ?_
  obtain ⟨x12, hx13, hm⟩ := bindE hm
  refine WL.call 20 #[.agg #[.int .i64 c_0.Kind, .int .i64 c_0.Amount]] rfl rfl (by kernel_rfl) (c_20 n c_0 w3 hx13 ) ?_
  rintro _ w14 ⟨rfl, hE15⟩
  refine ⟨_, rfl, ?_⟩
  have hb17 : Ext w w14 := Ext.trans hb7 hE15
  have hL18 : w.heap.size ≤ w14.heap.size := Nat.le_trans hL8 hE15.size
  have hS19 : SH w14 w.heap.size [aBox 25 b2 [.int .i64 c_0.Kind, .int .i64 c_0.Amount]] := SH.ext hS9 hE15
  refine WL.runk 1 [1, 5] [(1, .pointer (some ⟨b2, 0, none⟩)), (5, .bool (!x12))] (by kernel_rfl) ?_
  refine WL.nil ?_
  refine WQ.then_normal (hK11 _ _ _ ?_)
  refine WP.cond (!x12) rfl rfl (fun hc20 => ?_) (fun hc20 => ?_)
  · have hm := iteT hm hc20
    refine WP.seq (fun K21 hK21 => ?_)
    refine WP.region ?_
    refine WL.runk 1 [2] [(2, .string (bs []))] (by kernel_rfl) ?_
    refine WL.nil ?_
    refine WQ.then_normal (hK21 _ _ _ ?_)
    refine WP.ret ?_
    refine WQ.then_ret ?_
    obtain rfl := Option.some.inj hm
    exact WQ.ret1 _ rfl rfl ⟨rfl, hb17⟩
  have hm := iteF hm hc20
  refine WP.skip ?_
  refine WQ.then_normal (hK10 _ _ _ ?_)
  refine WP.seq (fun K22 hK22 => ?_)
  refine WP.region ?_
  refine WL.st (.agg #[.int .i64 c_0.Kind, .int .i64 c_0.Amount]) (ST.loadAgg (vs := [.int .i64 c_0.Kind, .int .i64 c_0.Amount]) (fun j v hv => SH.boxPart (us := [.int .i64 c_0.Kind, .int .i64 c_0.Amount]) (SH.front 0 hS19) 0 rfl j v hv) rfl rfl rfl Tryd.underlying25 rfl (info25).1 (info25).2.1) rfl rfl rfl ?_
  obtain ⟨x23, hx24, hm⟩ := bindE hm
  refine WL.call 21 #[.agg #[.int .i64 c_0.Kind, .int .i64 c_0.Amount]] rfl rfl (by kernel_rfl) (c_21 n c_0 w14 hx24 ) ?_
  rintro _ w25 ⟨rfl, hE26⟩
  refine ⟨_, rfl, ?_⟩
  have hb28 : Ext w w25 := Ext.trans hb17 hE26
  have hL29 : w.heap.size ≤ w25.heap.size := Nat.le_trans hL18 hE26.size
  have hS30 : SH w25 w.heap.size [aBox 25 b2 [.int .i64 c_0.Kind, .int .i64 c_0.Amount]] := SH.ext hS19 hE26
  refine WL.runk 1 [2] [(2, .string (bs x23))] (by kernel_rfl) ?_
  refine WL.nil ?_
  refine WQ.then_normal (hK22 _ _ _ ?_)
  refine WP.ret ?_
  obtain rfl := Option.some.inj hm
  exact WQ.ret1 _ rfl rfl ⟨rfl, hb28⟩

theorem c_7 (n : Nat) (a_0 : SChange) (w : World) {r : SChange} (hm : m_laws_toChange n a_0 = some r)  :
    CallV Tryd.prog 7 #[.agg #[.int .i64 a_0.Kind, .int .i64 a_0.Amount]] w (fun v w' => v = .agg #[.int .i64 r.Kind, .int .i64 r.Amount] ∧ Ext w w') := by
  unfold m_laws_toChange at hm
  refine CallV.enter Tryd.func7 rfl (by kernel_rfl) Tryd.ntmps7 (env := [(0, .agg #[.int .i64 a_0.Kind, .int .i64 a_0.Amount])]) ⟨rfl, trivial⟩ ?_
  refine WP.seq (fun K1 hK1 => ?_)
  refine WP.region ?_
  refine WL.box 23 [.int .i64 a_0.Kind, .int .i64 a_0.Amount] 1 (by kernel_rfl) rfl rfl rfl rfl ?_
  intro b2 w3 hE4 hR5
  have hb7 : Ext w w3 := Ext.trans (Ext.refl w) hE4
  have hL8 : w.heap.size ≤ w3.heap.size := Nat.le_trans (Nat.le_refl _) hE4.size
  have hS9 : SH w3 w.heap.size [aBox 23 b2 [.int .i64 a_0.Kind, .int .i64 a_0.Amount]] := SH.add (SH.nil _ _) hE4 (Nat.le_refl _) hR5
  refine WL.box 25 [.int .i64 0, .int .i64 0] 2 (by kernel_rfl) rfl rfl rfl rfl ?_
  intro b10 w11 hE12 hR13
  have hb15 : Ext w w11 := Ext.trans hb7 hE12
  have hL16 : w.heap.size ≤ w11.heap.size := Nat.le_trans hL8 hE12.size
  have hS17 : SH w11 w.heap.size [aBox 25 b10 [.int .i64 0, .int .i64 0], aBox 23 b2 [.int .i64 a_0.Kind, .int .i64 a_0.Amount]] := SH.add hS9 hE12 hL8 hR13
  refine WL.sub [(1, .pointer (some ⟨b2, 0, none⟩)), (2, .pointer (some ⟨b10, 0, none⟩))] ⟨rfl, rfl, trivial⟩ ?_
  refine WL.nil ?_
  refine WQ.then_normal (hK1 _ _ _ ?_)
  refine WP.seq (fun K18 hK18 => ?_)
  refine WP.region ?_
  refine WL.box 25 [.int .i64 0, .int .i64 0] 3 (by kernel_rfl) rfl rfl rfl rfl ?_
  intro b19 w20 hE21 hR22
  have hb24 : Ext w w20 := Ext.trans hb15 hE21
  have hL25 : w.heap.size ≤ w20.heap.size := Nat.le_trans hL16 hE21.size
  have hS26 : SH w20 w.heap.size [aBox 25 b19 [.int .i64 0, .int .i64 0], aBox 25 b10 [.int .i64 0, .int .i64 0], aBox 23 b2 [.int .i64 a_0.Kind, .int .i64 a_0.Amount]] := SH.add hS17 hE21 hL16 hR22
  refine WL.sub [(1, .pointer (some ⟨b2, 0, none⟩)), (2, .pointer (some ⟨b10, 0, none⟩)), (3, .pointer (some ⟨b19, 0, none⟩))] ⟨rfl, rfl, rfl, trivial⟩ ?_
  refine WL.nil ?_
  refine WQ.then_normal (hK18 _ _ _ ?_)
  refine WP.seq (fun K27 hK27 => ?_)
  refine WP.region ?_
  refine WL.runk 1 [1, 2, 3, 4] [(1, .pointer (some ⟨b2, 0, none⟩)), (2, .pointer (some ⟨b10, 0, none⟩)), (3, .pointer (some ⟨b19, 0, none⟩)), (4, .pointer (some ⟨b2, 0, none⟩))] (by kernel_rfl) ?_
  refine WL.st (.int .i64 a_0.Kind) (ST.load (cell_ext (SH.boxAt (SH.front 2 hS26) 0 _ rfl)) rfl rfl Tryd.underlying2 rfl) rfl rfl rfl ?_
  refine WL.runk 1 [1, 2, 3, 5, 6] [(1, .pointer (some ⟨b2, 0, none⟩)), (2, .pointer (some ⟨b10, 0, none⟩)), (3, .pointer (some ⟨b19, 0, none⟩)), (5, .int .i64 a_0.Kind), (6, .pointer (some ⟨b19, 0, none⟩))] (by kernel_rfl) ?_
  refine WL.boxStore 0 [.int .i64 a_0.Kind] [.int .i64 a_0.Kind, .int .i64 0] (SH.front 0 hS26) hL25 rfl rfl rfl rfl rfl rfl rfl (info2).1 (info2).2.1 rfl rfl rfl ?_
  intro w28 hB29 hS30
  have hb31 : Ext w w28 := Below.trans hb24 hB29
  have hL32 : w.heap.size ≤ w28.heap.size := Nat.le_trans hL25 hB29.size
  refine WL.sub [(1, .pointer (some ⟨b2, 0, none⟩)), (2, .pointer (some ⟨b10, 0, none⟩)), (3, .pointer (some ⟨b19, 0, none⟩))] ⟨rfl, rfl, rfl, trivial⟩ ?_
  refine WL.nil ?_
  refine WQ.then_normal (hK27 _ _ _ ?_)
  refine WP.seq (fun K33 hK33 => ?_)
  refine WP.region ?_
  refine WL.runk 1 [2, 3, 7] [(2, .pointer (some ⟨b10, 0, none⟩)), (3, .pointer (some ⟨b19, 0, none⟩)), (7, .pointer (some ⟨b2, 1, none⟩))] (by kernel_rfl) ?_
  refine WL.st (.int .i64 a_0.Amount) (ST.load (cell_ext (SH.boxAt (SH.front 2 hS30) 1 _ rfl)) rfl rfl Tryd.underlying2 rfl) rfl rfl rfl ?_
  refine WL.runk 1 [2, 3, 8, 9] [(2, .pointer (some ⟨b10, 0, none⟩)), (3, .pointer (some ⟨b19, 0, none⟩)), (8, .int .i64 a_0.Amount), (9, .pointer (some ⟨b19, 1, none⟩))] (by kernel_rfl) ?_
  refine WL.boxStore 1 [.int .i64 a_0.Amount] [.int .i64 a_0.Kind, .int .i64 a_0.Amount] (SH.front 0 hS30) hL32 rfl rfl rfl rfl rfl rfl rfl (info2).1 (info2).2.1 rfl rfl rfl ?_
  intro w34 hB35 hS36
  have hb37 : Ext w w34 := Below.trans hb31 hB35
  have hL38 : w.heap.size ≤ w34.heap.size := Nat.le_trans hL32 hB35.size
  refine WL.sub [(2, .pointer (some ⟨b10, 0, none⟩)), (3, .pointer (some ⟨b19, 0, none⟩))] ⟨rfl, rfl, trivial⟩ ?_
  refine WL.nil ?_
  refine WQ.then_normal (hK33 _ _ _ ?_)
  refine WP.seq (fun K39 hK39 => ?_)
  refine WP.region ?_
  refine WL.st (.agg #[.int .i64 a_0.Kind, .int .i64 a_0.Amount]) (ST.loadAgg (vs := [.int .i64 a_0.Kind, .int .i64 a_0.Amount]) (fun j v hv => SH.boxPart (us := [.int .i64 a_0.Kind, .int .i64 a_0.Amount]) (SH.front 0 hS36) 0 rfl j v hv) rfl rfl rfl Tryd.underlying25 rfl (info25).1 (info25).2.1) rfl rfl rfl ?_
  refine WL.boxStore 0 [.int .i64 a_0.Kind, .int .i64 a_0.Amount] [.int .i64 a_0.Kind, .int .i64 a_0.Amount] (SH.front 1 hS36) hL38 rfl rfl rfl rfl rfl rfl rfl (info25).1 (info25).2.1 rfl rfl rfl ?_
  intro w40 hB41 hS42
  have hb43 : Ext w w40 := Below.trans hb37 hB41
  have hL44 : w.heap.size ≤ w40.heap.size := Nat.le_trans hL38 hB41.size
  refine WL.sub [(2, .pointer (some ⟨b10, 0, none⟩))] ⟨rfl, trivial⟩ ?_
  refine WL.nil ?_
  refine WQ.then_normal (hK39 _ _ _ ?_)
  refine WP.ret ?_
  obtain rfl := Option.some.inj hm
  exact WQ.retv1 _ rfl (RVal.box (SH.front 0 hS42) rfl Tryd.underlying25 rfl (info25).1 (info25).2.1) ⟨rfl, hb43⟩

theorem c_45 (n : Nat) (kind_0 : Int) (w : World) {r : Int} (hm : m_impl_mostChange n kind_0 = some r)  :
    CallV Tryd.prog 45 #[.int .i64 kind_0] w (fun v w' => v = .int .i64 r ∧ Ext w w') := by
  unfold m_impl_mostChange at hm
  refine CallV.enter Tryd.func45 rfl (by kernel_rfl) Tryd.ntmps45 (env := [(0, .int .i64 kind_0)]) ⟨rfl, trivial⟩ ?_
  refine WP.seq (fun K1 hK1 => ?_)
  refine WP.region ?_
  refine WL.runk 1 [0] [(0, .int .i64 kind_0)] (by kernel_rfl) ?_
  refine WL.nil ?_
  refine WQ.then_normal (hK1 _ _ _ ?_)
  refine WP.seq (fun K2 hK2 => ?_)
  refine WP.seq (fun K3 hK3 => ?_)
  refine WP.region ?_
  refine WL.runk 1 [3] [(3, .int .i64 kind_0)] (by kernel_rfl) ?_
  refine WL.nil ?_
  refine WQ.then_normal (hK3 _ _ _ ?_)
  refine WP.block ?_
  refine WP.seq (fun K4 hK4 => ?_)
  refine WP.region ?_
  refine WL.runk 2 [3, 4] [(3, .int .i64 kind_0), (4, .bool (kind_0 == 1))] (by kernel_rfl) ?_
  refine WL.nil ?_
  refine WQ.then_normal (hK4 _ _ _ ?_)
  refine WP.cond (kind_0 == 1) rfl rfl (fun hc5 => ?_) (fun hc5 => ?_)
  · have hm := iteT hm hc5
    refine WP.seq (fun K6 hK6 => ?_)
    refine WP.region ?_
    refine WL.runk 1 [2] [(2, .int .i64 200)] (by kernel_rfl) ?_
    refine WL.nil ?_
    refine WQ.then_normal (hK6 _ _ _ ?_)
    refine WP.ret ?_
    refine WQ.block_ret ?_
    refine WQ.then_ret ?_
    obtain rfl := Option.some.inj hm
    exact WQ.ret1 _ rfl rfl ⟨rfl, (Ext.refl w)⟩
  have hm := iteF hm hc5
  refine WP.seq (fun K7 hK7 => ?_)
  refine WP.seq (fun K8 hK8 => ?_)
  refine WP.region ?_
  refine WL.runk 2 [3, 6] [(3, .int .i64 kind_0), (6, .bool (kind_0 == 2))] (by kernel_rfl) ?_
  refine WL.nil ?_
  refine WQ.then_normal (hK8 _ _ _ ?_)
  obtain ⟨x18, hx19, hm⟩ := bindE hm
  refine WP.cut (fun env' w' => env' = [(3, .int .i64 kind_0), (6, .bool x18)] ∧ Ext w w' ∧ w.heap.size ≤ w'.heap.size ∧ SH w' w.heap.size []) ?_ ?_
  · have hm := hx19; clear hx19
    refine WP.cond (kind_0 == 2) rfl rfl (fun hc9 => ?_) (fun hc9 => ?_)
    · have hm := iteT hm hc9
      refine WP.skip ?_
      obtain rfl := Option.some.inj hm
      exact WQ.post' ⟨rfl, (Ext.refl w), (Nat.le_refl _), (SH.nil _ _)⟩ ⟨rfl, rfl, trivial⟩
    have hm := iteF hm hc9
    refine WP.seq (fun K20 hK20 => ?_)
    refine WP.region ?_
    refine WL.runk 2 [3, 6] [(3, .int .i64 kind_0), (6, .bool (kind_0 == 3))] (by kernel_rfl) ?_
    refine WL.nil ?_
    refine WQ.then_normal (hK20 _ _ _ ?_)
    obtain ⟨x22, hx23, hm⟩ := bindE hm
    refine WP.cut (fun env' w' => env' = [(3, .int .i64 kind_0), (6, .bool x22)] ∧ Ext w w' ∧ w.heap.size ≤ w'.heap.size ∧ SH w' w.heap.size []) ?_ ?_
    rotate_left
    · clear hx23
      rintro _ w24 ⟨rfl, hb25, hL26, hS27⟩
      obtain rfl := Option.some.inj hm
      exact WQ.post' ⟨rfl, hb25, hL26, hS27⟩ ⟨rfl, rfl, trivial⟩
    have hm := hx23; clear hx23
    refine WP.cond (kind_0 == 3) rfl rfl (fun hc21 => ?_) (fun hc21 => ?_)
    · have hm := iteT hm hc21
      refine WP.skip ?_
      obtain rfl := Option.some.inj hm
      exact WQ.post' ⟨rfl, (Ext.refl w), (Nat.le_refl _), (SH.nil _ _)⟩ ⟨rfl, rfl, trivial⟩
    have hm := iteF hm hc21
    refine WP.region ?_
    refine WL.runk 2 [3, 6] [(3, .int .i64 kind_0), (6, .bool (kind_0 == 4))] (by kernel_rfl) ?_
    refine WL.nil ?_
    obtain rfl := Option.some.inj hm
    exact WQ.post' ⟨rfl, (Ext.refl w), (Nat.le_refl _), (SH.nil _ _)⟩ ⟨rfl, rfl, trivial⟩
  clear hx19
  rintro _ w28 ⟨rfl, hb29, hL30, hS31⟩
  refine WQ.then_normal (hK7 _ _ _ ?_)
  refine WP.cond x18 rfl rfl (fun hc32 => ?_) (fun hc32 => ?_)
  · have hm := iteT hm hc32
    refine WP.seq (fun K33 hK33 => ?_)
    refine WP.region ?_
    refine WL.runk 1 [2] [(2, .int .i64 300)] (by kernel_rfl) ?_
    refine WL.nil ?_
    refine WQ.then_normal (hK33 _ _ _ ?_)
    refine WP.ret ?_
    refine WQ.block_ret ?_
    refine WQ.then_ret ?_
    obtain rfl := Option.some.inj hm
    exact WQ.ret1 _ rfl rfl ⟨rfl, hb29⟩
  have hm := iteF hm hc32
  refine WP.seq (fun K34 hK34 => ?_)
  refine WP.region ?_
  refine WL.runk 2 [10] [(10, .bool (kind_0 == 5))] (by kernel_rfl) ?_
  refine WL.nil ?_
  refine WQ.then_normal (hK34 _ _ _ ?_)
  refine WP.cond (kind_0 == 5) rfl rfl (fun hc35 => ?_) (fun hc35 => ?_)
  · have hm := iteT hm hc35
    refine WP.seq (fun K36 hK36 => ?_)
    refine WP.region ?_
    refine WL.runk 1 [2] [(2, .int .i64 150)] (by kernel_rfl) ?_
    refine WL.nil ?_
    refine WQ.then_normal (hK36 _ _ _ ?_)
    refine WP.ret ?_
    refine WQ.block_ret ?_
    refine WQ.then_ret ?_
    obtain rfl := Option.some.inj hm
    exact WQ.ret1 _ rfl rfl ⟨rfl, hb29⟩
  have hm := iteF hm hc35
  refine WP.skip ?_
  refine WQ.block_normal ?_
  refine WQ.then_normal (hK2 _ _ _ ?_)
  refine WP.seq (fun K37 hK37 => ?_)
  refine WP.region ?_
  refine WL.runk 1 [2] [(2, .int .i64 0)] (by kernel_rfl) ?_
  refine WL.nil ?_
  refine WQ.then_normal (hK37 _ _ _ ?_)
  refine WP.ret ?_
  obtain rfl := Option.some.inj hm
  exact WQ.ret1 _ rfl rfl ⟨rfl, hb29⟩

theorem c_46 (n : Nat) (n_0 : Int) (low_1 : Int) (high_2 : Int) (w : World) {r : Bool} (hm : m_impl_within n n_0 low_1 high_2 = some r)  :
    CallV Tryd.prog 46 #[.int .i64 n_0, .int .i64 low_1, .int .i64 high_2] w (fun v w' => v = .bool r ∧ Ext w w') := by
  unfold m_impl_within at hm
  refine CallV.enter Tryd.func46 rfl (by kernel_rfl) Tryd.ntmps46 (env := [(0, .int .i64 n_0), (1, .int .i64 low_1), (2, .int .i64 high_2)]) ⟨rfl, rfl, rfl, trivial⟩ ?_
  refine WP.seq (fun K1 hK1 => ?_)
  refine WP.region ?_
  refine WL.runk 1 [0, 1, 2] [(0, .int .i64 n_0), (1, .int .i64 low_1), (2, .int .i64 high_2)] (by kernel_rfl) ?_
  refine WL.nil ?_
  refine WQ.then_normal (hK1 _ _ _ ?_)
  refine WP.seq (fun K2 hK2 => ?_)
  obtain ⟨x4, hx5, hm⟩ := bindE hm
  refine WP.cut (fun env' w' => env' = [(6, .bool x4)] ∧ Ext w w' ∧ w.heap.size ≤ w'.heap.size ∧ SH w' w.heap.size []) ?_ ?_
  rotate_left
  · clear hx5
    rintro _ w7 ⟨rfl, hb8, hL9, hS10⟩
    refine WQ.then_normal (hK2 _ _ _ ?_)
    refine WP.ret ?_
    obtain rfl := Option.some.inj hm
    exact WQ.ret1 _ rfl rfl ⟨rfl, hb8⟩
  have hm := hx5; clear hx5
  refine WP.region ?_
  refine WL.runk 4 [0, 2, 10] [(0, .int .i64 n_0), (2, .int .i64 high_2), (10, .bool (decide (n_0 ≥ low_1)))] (by kernel_rfl) ?_
  refine WL.case (decide (n_0 ≥ low_1)) [10] ⟨rfl, trivial⟩ (fun hc6 => ?_) (fun hc6 => ?_)
  · have hm := iteT hm hc6
    refine WL.runk 5 [6] [(6, .bool (decide (n_0 ≤ high_2)))] (by kernel_rfl) ?_
    refine WL.nil ?_
    obtain rfl := Option.some.inj hm
    exact WQ.post' ⟨rfl, (Ext.refl w), (Nat.le_refl _), (SH.nil _ _)⟩ ⟨rfl, trivial⟩
  have hm := iteF hm hc6
  refine WL.runk 5 [6] [(6, .bool false)] (by kernel_rfl) ?_
  refine WL.nil ?_
  obtain rfl := Option.some.inj hm
  exact WQ.post' ⟨rfl, (Ext.refl w), (Nat.le_refl _), (SH.nil _ _)⟩ ⟨rfl, trivial⟩

theorem c_22 (n : Nat) (c_0 : SChange) (w : World) {r : Bool} (hm : m_impl_validChange n c_0 = some r)  :
    CallV Tryd.prog 22 #[.agg #[.int .i64 c_0.Kind, .int .i64 c_0.Amount]] w (fun v w' => v = .bool r ∧ Ext w w') := by
  unfold m_impl_validChange at hm
  refine CallV.enter Tryd.func22 rfl (by kernel_rfl) Tryd.ntmps22 (env := [(0, .agg #[.int .i64 c_0.Kind, .int .i64 c_0.Amount])]) ⟨rfl, trivial⟩ ?_
  refine WP.seq (fun K1 hK1 => ?_)
  refine WP.region ?_
  refine WL.box 25 [.int .i64 c_0.Kind, .int .i64 c_0.Amount] 1 (by kernel_rfl) rfl rfl rfl rfl ?_
  intro b2 w3 hE4 hR5
  have hb7 : Ext w w3 := Ext.trans (Ext.refl w) hE4
  have hL8 : w.heap.size ≤ w3.heap.size := Nat.le_trans (Nat.le_refl _) hE4.size
  have hS9 : SH w3 w.heap.size [aBox 25 b2 [.int .i64 c_0.Kind, .int .i64 c_0.Amount]] := SH.add (SH.nil _ _) hE4 (Nat.le_refl _) hR5
  refine WL.runk 1 [1] [(1, .pointer (some ⟨b2, 0, none⟩))] (by kernel_rfl) ?_
  refine WL.nil ?_
  refine WQ.then_normal (hK1 _ _ _ ?_)
  refine WP.seq (fun K10 hK10 => ?_)
  refine WP.region ?_
  refine WL.runk 1 [1, 4] [(1, .pointer (some ⟨b2, 0, none⟩)), (4, .pointer (some ⟨b2, 0, none⟩))] (by kernel_rfl) ?_
  refine WL.st (.int .i64 c_0.Kind) (ST.load (cell_ext (SH.boxAt (SH.front 0 hS9) 0 _ rfl)) rfl rfl Tryd.underlying2 rfl) rfl rfl rfl ?_
  obtain ⟨x11, hx12, hm⟩ := bindE hm
  refine WL.call 45 #[.int .i64 c_0.Kind] rfl rfl (by kernel_rfl) (c_45 n c_0.Kind w3 hx12 ) ?_
  rintro _ w13 ⟨rfl, hE14⟩
  refine ⟨_, rfl, ?_⟩
  have hb16 : Ext w w13 := Ext.trans hb7 hE14
  have hL17 : w.heap.size ≤ w13.heap.size := Nat.le_trans hL8 hE14.size
  have hS18 : SH w13 w.heap.size [aBox 25 b2 [.int .i64 c_0.Kind, .int .i64 c_0.Amount]] := SH.ext hS9 hE14
  refine WL.runk 1 [1, 3] [(1, .pointer (some ⟨b2, 0, none⟩)), (3, .int .i64 x11)] (by kernel_rfl) ?_
  refine WL.nil ?_
  refine WQ.then_normal (hK10 _ _ _ ?_)
  refine WP.seq (fun K19 hK19 => ?_)
  obtain ⟨x30, hx31, hm⟩ := bindE hm
  refine WP.cut (fun env' w' => env' = [(2, .bool x30)] ∧ Ext w w' ∧ w.heap.size ≤ w'.heap.size ∧ SH w' w.heap.size [aBox 25 b2 [.int .i64 c_0.Kind, .int .i64 c_0.Amount]]) ?_ ?_
  rotate_left
  · clear hx31
    rintro _ w42 ⟨rfl, hb43, hL44, hS45⟩
    refine WQ.then_normal (hK19 _ _ _ ?_)
    refine WP.ret ?_
    obtain rfl := Option.some.inj hm
    exact WQ.ret1 _ rfl rfl ⟨rfl, hb43⟩
  have hm := hx31; clear hx31
  refine WP.region ?_
  refine WL.runk 3 [1, 3, 9] [(1, .pointer (some ⟨b2, 0, none⟩)), (3, .int .i64 x11), (9, .bool (decide (x11 > 0)))] (by kernel_rfl) ?_
  refine WL.case (decide (x11 > 0)) [9] ⟨rfl, trivial⟩ (fun hc32 => ?_) (fun hc32 => ?_)
  rotate_left
  · have hm := iteF hm hc32
    refine WL.runk 13 [2] [(2, .bool false)] (by kernel_rfl) ?_
    refine WL.nil ?_
    obtain rfl := Option.some.inj hm
    exact WQ.post' ⟨rfl, hb16, hL17, hS18⟩ ⟨rfl, trivial⟩
  have hm := iteT hm hc32
  refine WL.runk 1 [1, 3, 9, 10] [(1, .pointer (some ⟨b2, 0, none⟩)), (3, .int .i64 x11), (9, .bool true), (10, .pointer (some ⟨b2, 1, none⟩))] (by kernel_rfl) ?_
  refine WL.st (.int .i64 c_0.Amount) (ST.load (cell_ext (SH.boxAt (SH.front 0 hS18) 1 _ rfl)) rfl rfl Tryd.underlying2 rfl) rfl rfl rfl ?_
  refine WL.runk 3 [1, 3, 14] [(1, .pointer (some ⟨b2, 0, none⟩)), (3, .int .i64 x11), (14, .bool (c_0.Amount != 0))] (by kernel_rfl) ?_
  refine WL.case (c_0.Amount != 0) [14] ⟨rfl, trivial⟩ (fun hc33 => ?_) (fun hc33 => ?_)
  rotate_left
  · have hm := iteF hm hc33
    refine WL.runk 8 [2] [(2, .bool false)] (by kernel_rfl) ?_
    refine WL.nil ?_
    obtain rfl := Option.some.inj hm
    exact WQ.post' ⟨rfl, hb16, hL17, hS18⟩ ⟨rfl, trivial⟩
  have hm := iteT hm hc33
  refine WL.runk 1 [3, 14, 15] [(3, .int .i64 x11), (14, .bool true), (15, .pointer (some ⟨b2, 1, none⟩))] (by kernel_rfl) ?_
  refine WL.st (.int .i64 c_0.Amount) (ST.load (cell_ext (SH.boxAt (SH.front 0 hS18) 1 _ rfl)) rfl rfl Tryd.underlying2 rfl) rfl rfl rfl ?_
  refine WL.runk 3 [14, 16, 18, 19] [(14, .bool true), (16, .int .i64 c_0.Amount), (18, .int .i64 (wI64 (0 - x11))), (19, .int .i64 x11)] (by kernel_rfl) ?_
  obtain ⟨x34, hx35, hm⟩ := bindE hm
  refine WL.call 46 #[.int .i64 c_0.Amount, .int .i64 (wI64 (0 - x11)), .int .i64 x11] rfl rfl (by kernel_rfl) (c_46 n c_0.Amount (wI64 (0 - x11)) x11 w13 hx35 ) ?_
  rintro _ w36 ⟨rfl, hE37⟩
  refine ⟨_, rfl, ?_⟩
  have hb39 : Ext w w36 := Ext.trans hb16 hE37
  have hL40 : w.heap.size ≤ w36.heap.size := Nat.le_trans hL17 hE37.size
  have hS41 : SH w36 w.heap.size [aBox 25 b2 [.int .i64 c_0.Kind, .int .i64 c_0.Amount]] := SH.ext hS18 hE37
  refine WL.runk 2 [2] [(2, .bool x34)] (by kernel_rfl) ?_
  refine WL.nil ?_
  obtain rfl := Option.some.inj hm
  exact WQ.post' ⟨rfl, hb39, hL40, hS41⟩ ⟨rfl, trivial⟩

theorem c_23 (n : Nat) (n_0 : Int) (w : World) {r : List UInt8} (hm : m_impl_Decimal n n_0 = some r) (hG : GL 2 w) :
    CallV Tryd.prog 23 #[.int .i64 n_0] w (fun v w' => v = .string (bs r) ∧ Ext w w') := by
  unfold m_impl_Decimal at hm
  refine CallV.enter Tryd.func23 rfl (by kernel_rfl) Tryd.ntmps23 (env := [(0, .int .i64 n_0)]) ⟨rfl, trivial⟩ ?_
  refine WP.seq (fun K1 hK1 => ?_)
  refine WP.region ?_
  refine WL.runk 1 [0] [(0, .int .i64 n_0)] (by kernel_rfl) ?_
  refine WL.nil ?_
  refine WQ.then_normal (hK1 _ _ _ ?_)
  refine WP.seq (fun K2 hK2 => ?_)
  refine WP.region ?_
  refine WL.runk 1 [3] [(3, .int .i64 n_0)] (by kernel_rfl) ?_
  obtain ⟨x3, hx4, hm⟩ := bindE hm
  refine WL.call 47 #[.int .i64 n_0, .int .i64 10] rfl rfl (by kernel_rfl) (c_47 n n_0 10 w hx4 (GL.below hG (Ext.refl w))) ?_
  rintro _ w5 ⟨rfl, hE6⟩
  refine ⟨_, rfl, ?_⟩
  have hb8 : Ext w w5 := Ext.trans (Ext.refl w) hE6
  have hL9 : w.heap.size ≤ w5.heap.size := Nat.le_trans (Nat.le_refl _) hE6.size
  have hS10 : SH w5 w.heap.size [] := SH.ext (SH.nil _ _) hE6
  refine WL.runk 1 [2] [(2, .string (bs x3))] (by kernel_rfl) ?_
  refine WL.nil ?_
  refine WQ.then_normal (hK2 _ _ _ ?_)
  refine WP.ret ?_
  obtain rfl := Option.some.inj hm
  exact WQ.ret1 _ rfl rfl ⟨rfl, hb8⟩

theorem c_8 (n : Nat) (c_0 : SChange) (w : World) {r : List UInt8} (hm : m_impl_ChangeText n c_0 = some r) (hG : GL 3 w) :
    CallV Tryd.prog 8 #[.agg #[.int .i64 c_0.Kind, .int .i64 c_0.Amount]] w (fun v w' => v = .string (bs r) ∧ Ext w w') := by
  unfold m_impl_ChangeText at hm
  refine CallV.enter Tryd.func8 rfl (by kernel_rfl) Tryd.ntmps8 (env := [(0, .agg #[.int .i64 c_0.Kind, .int .i64 c_0.Amount])]) ⟨rfl, trivial⟩ ?_
  refine WP.seq (fun K1 hK1 => ?_)
  refine WP.region ?_
  refine WL.box 25 [.int .i64 c_0.Kind, .int .i64 c_0.Amount] 1 (by kernel_rfl) rfl rfl rfl rfl ?_
  intro b2 w3 hE4 hR5
  have hb7 : Ext w w3 := Ext.trans (Ext.refl w) hE4
  have hL8 : w.heap.size ≤ w3.heap.size := Nat.le_trans (Nat.le_refl _) hE4.size
  have hS9 : SH w3 w.heap.size [aBox 25 b2 [.int .i64 c_0.Kind, .int .i64 c_0.Amount]] := SH.add (SH.nil _ _) hE4 (Nat.le_refl _) hR5
  refine WL.runk 1 [1] [(1, .pointer (some ⟨b2, 0, none⟩))] (by kernel_rfl) ?_
  refine WL.nil ?_
  refine WQ.then_normal (hK1 _ _ _ ?_)
  refine WP.seq (fun K10 hK10 => ?_)
  refine WP.block ?_
  refine WP.seq (fun K11 hK11 => ?_)
  refine WP.region ?_
  refine WL.st (.agg #[.int .i64 c_0.Kind, .int .i64 c_0.Amount]) (ST.loadAgg (vs := [.int .i64 c_0.Kind, .int .i64 c_0.Amount]) (fun j v hv => SH.boxPart (us := [.int .i64 c_0.Kind, .int .i64 c_0.Amount]) (SH.front 0 hS9) 0 rfl j v hv) rfl rfl rfl Tryd.underlying25 rfl (info25).1 (info25).2.1) rfl rfl rfl ?_
  obtain ⟨x12, hx13, hm⟩ := bindE hm
  refine WL.call 22 #[.agg #[.int .i64 c_0.Kind, .int .i64 c_0.Amount]] rfl rfl (by kernel_rfl) (c_22 n c_0 w3 hx13 ) ?_
  rintro _ w14 ⟨rfl, hE15⟩
  refine ⟨_, rfl, ?_⟩
  have hb17 : Ext w w14 := Ext.trans hb7 hE15
  have hL18 : w.heap.size ≤ w14.heap.size := Nat.le_trans hL8 hE15.size
  have hS19 : SH w14 w.heap.size [aBox 25 b2 [.int .i64 c_0.Kind, .int .i64 c_0.Amount]] := SH.ext hS9 hE15
  refine WL.runk 2 [1, 3] [(1, .pointer (some ⟨b2, 0, none⟩)), (3, .bool (!x12))] (by kernel_rfl) ?_
  refine WL.nil ?_
  refine WQ.then_normal (hK11 _ _ _ ?_)
  refine WP.cond (!x12) rfl rfl (fun hc20 => ?_) (fun hc20 => ?_)
  · have hm := iteT hm hc20
    refine WP.seq (fun K21 hK21 => ?_)
    refine WP.region ?_
    refine WL.runk 1 [2] [(2, .string (bs []))] (by kernel_rfl) ?_
    refine WL.nil ?_
    refine WQ.then_normal (hK21 _ _ _ ?_)
    refine WP.ret ?_
    refine WQ.block_ret ?_
    refine WQ.then_ret ?_
    obtain rfl := Option.some.inj hm
    exact WQ.ret1 _ rfl rfl ⟨rfl, hb17⟩
  have hm := iteF hm hc20
  refine WP.seq (fun K22 hK22 => ?_)
  refine WP.region ?_
  refine WL.runk 1 [1, 8] [(1, .pointer (some ⟨b2, 0, none⟩)), (8, .pointer (some ⟨b2, 1, none⟩))] (by kernel_rfl) ?_
  refine WL.st (.int .i64 c_0.Amount) (ST.load (cell_ext (SH.boxAt (SH.front 0 hS19) 1 _ rfl)) rfl rfl Tryd.underlying2 rfl) rfl rfl rfl ?_
  refine WL.runk 2 [1, 7] [(1, .pointer (some ⟨b2, 0, none⟩)), (7, .bool (decide (c_0.Amount > 0)))] (by kernel_rfl) ?_
  refine WL.nil ?_
  refine WQ.then_normal (hK22 _ _ _ ?_)
  refine WP.cond (decide (c_0.Amount > 0)) rfl rfl (fun hc23 => ?_) (fun hc23 => ?_)
  · have hm := iteT hm hc23
    refine WP.seq (fun K24 hK24 => ?_)
    refine WP.quiet (by kernel_rfl) (by kernel_rfl) ?_
    refine QL.step1v 11 (.pointer (some ⟨b2, 0, none⟩)) rfl (fun _ => by kernel_rfl) ?_
    refine QL.subk [1, 11] [(1, .pointer (some ⟨b2, 0, none⟩)), (11, .pointer (some ⟨b2, 0, none⟩))] (by kernel_rfl) ?_
    refine QL.st (.int .i64 c_0.Kind) (ST.load (cell_ext (SH.boxAt (SH.front 0 hS19) 0 _ rfl)) rfl rfl Tryd.underlying2 rfl) rfl rfl rfl ?_
    obtain ⟨x25, hx26, hm⟩ := bindE hm
    refine QL.st (.pointer (some (at_ (some ⟨0, 0, none⟩) (Int.toNat c_0.Kind * 1)))) (ST.indexG (xs := v_changeNames) hx26 rfl rfl rfl Tryd.underlying46 rfl (info9).1 (info9).2.1) rfl rfl rfl ?_
    refine QL.st (.string (bs x25)) (ST.load (cell_ext (Rd.flat (F := fStr) (Rd.below (GL.v_changeNames hG rfl) hb17) hx26 0 rfl)) rfl rfl Tryd.underlying9 rfl) rfl rfl rfl ?_
    obtain ⟨x27, hx28, hm⟩ := bindE hm
    refine QL.st (.string (bs x27)) (ST.cat hx28 rfl rfl rfl) rfl rfl rfl ?_
    refine QL.step1v 16 (.pointer (some ⟨b2, 1, none⟩)) rfl (fun _ => by kernel_rfl) ?_
    refine QL.subk [15, 16] [(15, .string (bs x27)), (16, .pointer (some ⟨b2, 1, none⟩))] (by kernel_rfl) ?_
    refine QL.st (.int .i64 c_0.Amount) (ST.load (cell_ext (SH.boxAt (SH.front 0 hS19) 1 _ rfl)) rfl rfl Tryd.underlying2 rfl) rfl rfl rfl ?_
    obtain ⟨x29, hx30, hm⟩ := bindE hm
    refine QL.call 23 #[.int .i64 c_0.Amount] (.string (bs x29)) (fun _ => by kernel_rfl) (fun w31 hE32 => c_23 n c_0.Amount w31 hx30 (GL.below (GL.below (GL.low (j := 2) hG rfl) hb17) hE32)) rfl rfl rfl ?_
    obtain ⟨x33, hx34, hm⟩ := bindE hm
    refine QL.st (.string (bs x33)) (ST.cat hx34 rfl rfl rfl) rfl rfl rfl ?_
    refine QL.step1v 2 (.string (bs x33)) rfl (fun _ => by kernel_rfl) ?_
    refine QL.subk [2] [(2, .string (bs x33))] (by kernel_rfl) ?_
    refine QL.nil ?_
    intro w35 hE36
    have hb37 : Ext w w35 := Ext.trans hb17 hE36
    have hL38 : w.heap.size ≤ w35.heap.size := Nat.le_trans hL18 hE36.size
    have hS39 : SH w35 w.heap.size [aBox 25 b2 [.int .i64 c_0.Kind, .int .i64 c_0.Amount]] := SH.ext hS19 hE36
    refine WQ.then_normal (hK24 _ _ _ ?_)
    refine WP.ret ?_
    refine WQ.block_ret ?_
    refine WQ.then_ret ?_
    obtain rfl := Option.some.inj hm
    exact WQ.ret1 _ rfl rfl ⟨rfl, hb37⟩
  have hm := iteF hm hc23
  refine WP.skip ?_
  refine WQ.block_normal ?_
  refine WQ.then_normal (hK10 _ _ _ ?_)
  refine WP.seq (fun K40 hK40 => ?_)
  refine WP.quiet (by kernel_rfl) (by kernel_rfl) ?_
  refine QL.step1v 20 (.pointer (some ⟨b2, 0, none⟩)) rfl (fun _ => by kernel_rfl) ?_
  refine QL.subk [1, 20] [(1, .pointer (some ⟨b2, 0, none⟩)), (20, .pointer (some ⟨b2, 0, none⟩))] (by kernel_rfl) ?_
  refine QL.st (.int .i64 c_0.Kind) (ST.load (cell_ext (SH.boxAt (SH.front 0 hS19) 0 _ rfl)) rfl rfl Tryd.underlying2 rfl) rfl rfl rfl ?_
  obtain ⟨x41, hx42, hm⟩ := bindE hm
  refine QL.st (.pointer (some (at_ (some ⟨0, 0, none⟩) (Int.toNat c_0.Kind * 1)))) (ST.indexG (xs := v_changeNames) hx42 rfl rfl rfl Tryd.underlying46 rfl (info9).1 (info9).2.1) rfl rfl rfl ?_
  refine QL.st (.string (bs x41)) (ST.load (cell_ext (Rd.flat (F := fStr) (Rd.below (GL.v_changeNames hG rfl) hb17) hx42 0 rfl)) rfl rfl Tryd.underlying9 rfl) rfl rfl rfl ?_
  obtain ⟨x43, hx44, hm⟩ := bindE hm
  refine QL.st (.string (bs x43)) (ST.cat hx44 rfl rfl rfl) rfl rfl rfl ?_
  refine QL.step1v 25 (.pointer (some ⟨b2, 1, none⟩)) rfl (fun _ => by kernel_rfl) ?_
  refine QL.subk [24, 25] [(24, .string (bs x43)), (25, .pointer (some ⟨b2, 1, none⟩))] (by kernel_rfl) ?_
  refine QL.st (.int .i64 c_0.Amount) (ST.load (cell_ext (SH.boxAt (SH.front 0 hS19) 1 _ rfl)) rfl rfl Tryd.underlying2 rfl) rfl rfl rfl ?_
  obtain ⟨x45, hx46, hm⟩ := bindE hm
  refine QL.call 23 #[.int .i64 c_0.Amount] (.string (bs x45)) (fun _ => by kernel_rfl) (fun w47 hE48 => c_23 n c_0.Amount w47 hx46 (GL.below (GL.below (GL.low (j := 2) hG rfl) hb17) hE48)) rfl rfl rfl ?_
  obtain ⟨x49, hx50, hm⟩ := bindE hm
  refine QL.st (.string (bs x49)) (ST.cat hx50 rfl rfl rfl) rfl rfl rfl ?_
  refine QL.step1v 2 (.string (bs x49)) rfl (fun _ => by kernel_rfl) ?_
  refine QL.subk [2] [(2, .string (bs x49))] (by kernel_rfl) ?_
  refine QL.nil ?_
  intro w51 hE52
  have hb53 : Ext w w51 := Ext.trans hb17 hE52
  have hL54 : w.heap.size ≤ w51.heap.size := Nat.le_trans hL18 hE52.size
  have hS55 : SH w51 w.heap.size [aBox 25 b2 [.int .i64 c_0.Kind, .int .i64 c_0.Amount]] := SH.ext hS19 hE52
  refine WQ.then_normal (hK40 _ _ _ ?_)
  refine WP.ret ?_
  obtain rfl := Option.some.inj hm
  exact WQ.ret1 _ rfl rfl ⟨rfl, hb53⟩

theorem c_3 (n : Nat) (aC_0 : SChange) (w : World) {r : Bool} (hm : m_laws_FnExactChangeText n aC_0 = some r) (hG : GL 3 w) :
    CallV Tryd.prog 3 #[.agg #[.int .i64 aC_0.Kind, .int .i64 aC_0.Amount]] w (fun v w' => v = .bool r ∧ Ext w w') := by
  unfold m_laws_FnExactChangeText at hm
  refine CallV.enter Tryd.func3 rfl (by kernel_rfl) Tryd.ntmps3 (env := [(0, .agg #[.int .i64 aC_0.Kind, .int .i64 aC_0.Amount])]) ⟨rfl, trivial⟩ ?_
  refine WP.seq (fun K1 hK1 => ?_)
  refine WP.region ?_
  refine WL.box 23 [.int .i64 aC_0.Kind, .int .i64 aC_0.Amount] 1 (by kernel_rfl) rfl rfl rfl rfl ?_
  intro b2 w3 hE4 hR5
  have hb7 : Ext w w3 := Ext.trans (Ext.refl w) hE4
  have hL8 : w.heap.size ≤ w3.heap.size := Nat.le_trans (Nat.le_refl _) hE4.size
  have hS9 : SH w3 w.heap.size [aBox 23 b2 [.int .i64 aC_0.Kind, .int .i64 aC_0.Amount]] := SH.add (SH.nil _ _) hE4 (Nat.le_refl _) hR5
  refine WL.runk 1 [1] [(1, .pointer (some ⟨b2, 0, none⟩))] (by kernel_rfl) ?_
  refine WL.nil ?_
  refine WQ.then_normal (hK1 _ _ _ ?_)
  refine WP.seq (fun K10 hK10 => ?_)
  refine WP.region ?_
  refine WL.st (.agg #[.int .i64 aC_0.Kind, .int .i64 aC_0.Amount]) (ST.loadAgg (vs := [.int .i64 aC_0.Kind, .int .i64 aC_0.Amount]) (fun j v hv => SH.boxPart (us := [.int .i64 aC_0.Kind, .int .i64 aC_0.Amount]) (SH.front 0 hS9) 0 rfl j v hv) rfl rfl rfl Tryd.underlying23 rfl (info23).1 (info23).2.1) rfl rfl rfl ?_
  obtain ⟨x11, hx12, hm⟩ := bindE hm
  refine WL.call 7 #[.agg #[.int .i64 aC_0.Kind, .int .i64 aC_0.Amount]] rfl rfl (by kernel_rfl) (c_7 n aC_0 w3 hx12 ) ?_
  rintro _ w13 ⟨rfl, hE14⟩
  refine ⟨_, rfl, ?_⟩
  have hb16 : Ext w w13 := Ext.trans hb7 hE14
  have hL17 : w.heap.size ≤ w13.heap.size := Nat.le_trans hL8 hE14.size
  have hS18 : SH w13 w.heap.size [aBox 23 b2 [.int .i64 aC_0.Kind, .int .i64 aC_0.Amount]] := SH.ext hS9 hE14
  obtain ⟨x19, hx20, hm⟩ := bindE hm
  refine WL.call 6 #[.agg #[.int .i64 x11.Kind, .int .i64 x11.Amount]] rfl rfl (by kernel_rfl) (c_6 n x11 w13 hx20 ) ?_
  rintro _ w21 ⟨rfl, hE22⟩
  refine ⟨_, rfl, ?_⟩
  have hb24 : Ext w w21 := Ext.trans hb16 hE22
  have hL25 : w.heap.size ≤ w21.heap.size := Nat.le_trans hL17 hE22.size
  have hS26 : SH w21 w.heap.size [aBox 23 b2 [.int .i64 aC_0.Kind, .int .i64 aC_0.Amount]] := SH.ext hS18 hE22
  refine WL.runk 1 [1, 3] [(1, .pointer (some ⟨b2, 0, none⟩)), (3, .string (bs x19))] (by kernel_rfl) ?_
  refine WL.nil ?_
  refine WQ.then_normal (hK10 _ _ _ ?_)
  refine WP.seq (fun K27 hK27 => ?_)
  refine WP.region ?_
  refine WL.st (.agg #[.int .i64 aC_0.Kind, .int .i64 aC_0.Amount]) (ST.loadAgg (vs := [.int .i64 aC_0.Kind, .int .i64 aC_0.Amount]) (fun j v hv => SH.boxPart (us := [.int .i64 aC_0.Kind, .int .i64 aC_0.Amount]) (SH.front 0 hS26) 0 rfl j v hv) rfl rfl rfl Tryd.underlying23 rfl (info23).1 (info23).2.1) rfl rfl rfl ?_
  obtain ⟨x28, hx29, hm⟩ := bindE hm
  refine WL.call 7 #[.agg #[.int .i64 aC_0.Kind, .int .i64 aC_0.Amount]] rfl rfl (by kernel_rfl) (c_7 n aC_0 w21 hx29 ) ?_
  rintro _ w30 ⟨rfl, hE31⟩
  refine ⟨_, rfl, ?_⟩
  have hb33 : Ext w w30 := Ext.trans hb24 hE31
  have hL34 : w.heap.size ≤ w30.heap.size := Nat.le_trans hL25 hE31.size
  have hS35 : SH w30 w.heap.size [aBox 23 b2 [.int .i64 aC_0.Kind, .int .i64 aC_0.Amount]] := SH.ext hS26 hE31
  obtain ⟨x36, hx37, hm⟩ := bindE hm
  refine WL.call 8 #[.agg #[.int .i64 x28.Kind, .int .i64 x28.Amount]] rfl rfl (by kernel_rfl) (c_8 n x28 w30 hx37 (GL.below hG hb33)) ?_
  rintro _ w38 ⟨rfl, hE39⟩
  refine ⟨_, rfl, ?_⟩
  have hb41 : Ext w w38 := Ext.trans hb33 hE39
  have hL42 : w.heap.size ≤ w38.heap.size := Nat.le_trans hL34 hE39.size
  have hS43 : SH w38 w.heap.size [aBox 23 b2 [.int .i64 aC_0.Kind, .int .i64 aC_0.Amount]] := SH.ext hS35 hE39
  refine WL.runk 1 [3, 4] [(3, .string (bs x19)), (4, .string (bs x36))] (by kernel_rfl) ?_
  refine WL.nil ?_
  refine WQ.then_normal (hK27 _ _ _ ?_)
  refine WP.seq (fun K44 hK44 => ?_)
  refine WP.seq (fun K45 hK45 => ?_)
  refine WP.region ?_
  refine WL.runk 2 [11, 12] [(11, .string (bs x36)), (12, .string (bs x19))] (by kernel_rfl) ?_
  refine WL.st (.bool (!(x36 == x19))) (ST.strne (x := x36) (y := x19) rfl rfl rfl) rfl rfl rfl ?_
  refine WL.sub [(13, .bool (!(x36 == x19)))] ⟨rfl, trivial⟩ ?_
  refine WL.nil ?_
  refine WQ.then_normal (hK45 _ _ _ ?_)
  refine WP.cond (!(x36 == x19)) rfl rfl (fun hc46 => ?_) (fun hc46 => ?_)
  · have hm := iteT hm hc46
    refine WP.seq (fun K47 hK47 => ?_)
    refine WP.region ?_
    refine WL.runk 1 [2] [(2, .bool false)] (by kernel_rfl) ?_
    refine WL.nil ?_
    refine WQ.then_normal (hK47 _ _ _ ?_)
    refine WP.ret ?_
    refine WQ.then_ret ?_
    obtain rfl := Option.some.inj hm
    exact WQ.ret1 _ rfl rfl ⟨rfl, hb41⟩
  have hm := iteF hm hc46
  refine WP.skip ?_
  refine WQ.then_normal (hK44 _ _ _ ?_)
  refine WP.seq (fun K48 hK48 => ?_)
  refine WP.region ?_
  refine WL.runk 1 [2] [(2, .bool true)] (by kernel_rfl) ?_
  refine WL.nil ?_
  refine WQ.then_normal (hK48 _ _ _ ?_)
  refine WP.ret ?_
  obtain rfl := Option.some.inj hm
  exact WQ.ret1 _ rfl rfl ⟨rfl, hb41⟩

end Go.Proofs.YtlplbjeegkkilaaDoor
