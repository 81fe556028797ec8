/- Each call does what its Lean function says. -/
import Derived.Test.YtlplbjeegkkilaaDoorTi
import Derived.Test.YtlplbjeegkkilaaDoorEq
import Derived.Test.YtlplbjeegkkilaaDoorMo
import Derived.Test.YtlplbjeegkkilaaDoorCh
set_option maxRecDepth 20000
set_option maxHeartbeats 40000000
namespace Go.Proofs.YtlplbjeegkkilaaDoor
open Go Go.Gv Go.RowKit

theorem c_27 (n : Nat) (n_0 : Int) (low_1 : Int) (high_2 : Int) (w : World) {r : Bool} (hm : m_spec_l00In n n_0 low_1 high_2 = some r)  :
    CallV Tryd.prog 27 #[.int .i64 n_0, .int .i64 low_1, .int .i64 high_2] w (fun v w' => v = .bool r ∧ Ext w w') := by
  unfold m_spec_l00In at hm
  refine CallV.enter Tryd.func27 rfl (by kernel_rfl) Tryd.ntmps27 (env := [(0, .int .i64 n_0), (1, .int .i64 low_1), (2, .int .i64 high_2)]) ⟨rfl, rfl, rfl, trivial⟩ ?_
  refine WP.seq (fun K1 hK1 => ?_)
  refine WP.region ?_
  refine WL.runk 1 [0, 1, 2] [(0, .int .i64 n_0), (1, .int .i64 low_1), (2, .int .i64 high_2)] (by kernel_rfl) ?_
  refine WL.nil ?_
  refine WQ.then_normal (hK1 _ _ _ ?_)
  refine WP.seq (fun K2 hK2 => ?_)
  obtain ⟨x4, hx5, hm⟩ := bindE hm
  refine WP.cut (fun env' w' => env' = [(6, .bool x4)] ∧ Ext w w' ∧ w.heap.size ≤ w'.heap.size ∧ SH w' w.heap.size []) ?_ ?_
  rotate_left
  · clear hx5
    rintro _ w7 ⟨rfl, hb8, hL9, hS10⟩
    refine WQ.then_normal (hK2 _ _ _ ?_)
    refine WP.ret ?_
    obtain rfl := Option.some.inj hm
    exact WQ.ret1 _ rfl rfl ⟨rfl, hb8⟩
  have hm := hx5; clear hx5
  refine WP.region ?_
  refine WL.runk 4 [0, 2, 10] [(0, .int .i64 n_0), (2, .int .i64 high_2), (10, .bool (decide (n_0 ≥ low_1)))] (by kernel_rfl) ?_
  refine WL.case (decide (n_0 ≥ low_1)) [10] ⟨rfl, trivial⟩ (fun hc6 => ?_) (fun hc6 => ?_)
  · have hm := iteT hm hc6
    refine WL.runk 5 [6] [(6, .bool (decide (n_0 ≤ high_2)))] (by kernel_rfl) ?_
    refine WL.nil ?_
    obtain rfl := Option.some.inj hm
    exact WQ.post' ⟨rfl, (Ext.refl w), (Nat.le_refl _), (SH.nil _ _)⟩ ⟨rfl, trivial⟩
  have hm := iteF hm hc6
  refine WL.runk 5 [6] [(6, .bool false)] (by kernel_rfl) ?_
  refine WL.nil ?_
  obtain rfl := Option.some.inj hm
  exact WQ.post' ⟨rfl, (Ext.refl w), (Nat.le_refl _), (SH.nil _ _)⟩ ⟨rfl, trivial⟩

theorem c_42 (n : Nat) (kind_0 : Int) (w : World) {r : Int} (hm : m_spec_l22Most n kind_0 = some r)  :
    CallV Tryd.prog 42 #[.int .i64 kind_0] w (fun v w' => v = .int .i64 r ∧ Ext w w') := by
  unfold m_spec_l22Most at hm
  refine CallV.enter Tryd.func42 rfl (by kernel_rfl) Tryd.ntmps42 (env := [(0, .int .i64 kind_0)]) ⟨rfl, trivial⟩ ?_
  refine WP.seq (fun K1 hK1 => ?_)
  refine WP.region ?_
  refine WL.runk 1 [0] [(0, .int .i64 kind_0)] (by kernel_rfl) ?_
  refine WL.nil ?_
  refine WQ.then_normal (hK1 _ _ _ ?_)
  refine WP.seq (fun K2 hK2 => ?_)
  refine WP.seq (fun K3 hK3 => ?_)
  refine WP.region ?_
  refine WL.runk 1 [3] [(3, .int .i64 kind_0)] (by kernel_rfl) ?_
  refine WL.nil ?_
  refine WQ.then_normal (hK3 _ _ _ ?_)
  refine WP.block ?_
  refine WP.seq (fun K4 hK4 => ?_)
  refine WP.region ?_
  refine WL.runk 2 [3, 4] [(3, .int .i64 kind_0), (4, .bool (kind_0 == 1))] (by kernel_rfl) ?_
  refine WL.nil ?_
  refine WQ.then_normal (hK4 _ _ _ ?_)
  refine WP.cond (kind_0 == 1) rfl rfl (fun hc5 => ?_) (fun hc5 => ?_)
  · have hm := iteT hm hc5
    refine WP.seq (fun K6 hK6 => ?_)
    refine WP.region ?_
    refine WL.runk 1 [2] [(2, .int .i64 200)] (by kernel_rfl) ?_
    refine WL.nil ?_
    refine WQ.then_normal (hK6 _ _ _ ?_)
    refine WP.ret ?_
    refine WQ.block_ret ?_
    refine WQ.then_ret ?_
    obtain rfl := Option.some.inj hm
    exact WQ.ret1 _ rfl rfl ⟨rfl, (Ext.refl w)⟩
  have hm := iteF hm hc5
  refine WP.seq (fun K7 hK7 => ?_)
  refine WP.seq (fun K8 hK8 => ?_)
  refine WP.region ?_
  refine WL.runk 2 [3, 6] [(3, .int .i64 kind_0), (6, .bool (kind_0 == 2))] (by kernel_rfl) ?_
  refine WL.nil ?_
  refine WQ.then_normal (hK8 _ _ _ ?_)
  obtain ⟨x18, hx19, hm⟩ := bindE hm
  refine WP.cut (fun env' w' => env' = [(3, .int .i64 kind_0), (6, .bool x18)] ∧ Ext w w' ∧ w.heap.size ≤ w'.heap.size ∧ SH w' w.heap.size []) ?_ ?_
  · have hm := hx19; clear hx19
    refine WP.cond (kind_0 == 2) rfl rfl (fun hc9 => ?_) (fun hc9 => ?_)
    · have hm := iteT hm hc9
      refine WP.skip ?_
      obtain rfl := Option.some.inj hm
      exact WQ.post' ⟨rfl, (Ext.refl w), (Nat.le_refl _), (SH.nil _ _)⟩ ⟨rfl, rfl, trivial⟩
    have hm := iteF hm hc9
    refine WP.seq (fun K20 hK20 => ?_)
    refine WP.region ?_
    refine WL.runk 2 [3, 6] [(3, .int .i64 kind_0), (6, .bool (kind_0 == 3))] (by kernel_rfl) ?_
    refine WL.nil ?_
    refine WQ.then_normal (hK20 _ _ _ ?_)
    obtain ⟨x22, hx23, hm⟩ := bindE hm
    refine WP.cut (fun env' w' => env' = [(3, .int .i64 kind_0), (6, .bool x22)] ∧ Ext w w' ∧ w.heap.size ≤ w'.heap.size ∧ SH w' w.heap.size []) ?_ ?_
    rotate_left
    · clear hx23
      rintro _ w24 ⟨rfl, hb25, hL26, hS27⟩
      obtain rfl := Option.some.inj hm
      exact WQ.post' ⟨rfl, hb25, hL26, hS27⟩ ⟨rfl, rfl, trivial⟩
    have hm := hx23; clear hx23
    refine WP.cond (kind_0 == 3) rfl rfl (fun hc21 => ?_) (fun hc21 => ?_)
    · have hm := iteT hm hc21
      refine WP.skip ?_
      obtain rfl := Option.some.inj hm
      exact WQ.post' ⟨rfl, (Ext.refl w), (Nat.le_refl _), (SH.nil _ _)⟩ ⟨rfl, rfl, trivial⟩
    have hm := iteF hm hc21
    refine WP.region ?_
    refine WL.runk 2 [3, 6] [(3, .int .i64 kind_0), (6, .bool (kind_0 == 4))] (by kernel_rfl) ?_
    refine WL.nil ?_
    obtain rfl := Option.some.inj hm
    exact WQ.post' ⟨rfl, (Ext.refl w), (Nat.le_refl _), (SH.nil _ _)⟩ ⟨rfl, rfl, trivial⟩
  clear hx19
  rintro _ w28 ⟨rfl, hb29, hL30, hS31⟩
  refine WQ.then_normal (hK7 _ _ _ ?_)
  refine WP.cond x18 rfl rfl (fun hc32 => ?_) (fun hc32 => ?_)
  · have hm := iteT hm hc32
    refine WP.seq (fun K33 hK33 => ?_)
    refine WP.region ?_
    refine WL.runk 1 [2] [(2, .int .i64 300)] (by kernel_rfl) ?_
    refine WL.nil ?_
    refine WQ.then_normal (hK33 _ _ _ ?_)
    refine WP.ret ?_
    refine WQ.block_ret ?_
    refine WQ.then_ret ?_
    obtain rfl := Option.some.inj hm
    exact WQ.ret1 _ rfl rfl ⟨rfl, hb29⟩
  have hm := iteF hm hc32
  refine WP.seq (fun K34 hK34 => ?_)
  refine WP.region ?_
  refine WL.runk 2 [10] [(10, .bool (kind_0 == 5))] (by kernel_rfl) ?_
  refine WL.nil ?_
  refine WQ.then_normal (hK34 _ _ _ ?_)
  refine WP.cond (kind_0 == 5) rfl rfl (fun hc35 => ?_) (fun hc35 => ?_)
  · have hm := iteT hm hc35
    refine WP.seq (fun K36 hK36 => ?_)
    refine WP.region ?_
    refine WL.runk 1 [2] [(2, .int .i64 150)] (by kernel_rfl) ?_
    refine WL.nil ?_
    refine WQ.then_normal (hK36 _ _ _ ?_)
    refine WP.ret ?_
    refine WQ.block_ret ?_
    refine WQ.then_ret ?_
    obtain rfl := Option.some.inj hm
    exact WQ.ret1 _ rfl rfl ⟨rfl, hb29⟩
  have hm := iteF hm hc35
  refine WP.skip ?_
  refine WQ.block_normal ?_
  refine WQ.then_normal (hK2 _ _ _ ?_)
  refine WP.seq (fun K37 hK37 => ?_)
  refine WP.region ?_
  refine WL.runk 1 [2] [(2, .int .i64 (-1))] (by kernel_rfl) ?_
  refine WL.nil ?_
  refine WQ.then_normal (hK37 _ _ _ ?_)
  refine WP.ret ?_
  obtain rfl := Option.some.inj hm
  exact WQ.ret1 _ rfl rfl ⟨rfl, hb29⟩

theorem c_20 (n : Nat) (c_0 : SChange) (w : World) {r : Bool} (hm : m_spec_l22One n c_0 = some r)  :
    CallV Tryd.prog 20 #[.agg #[.int .i64 c_0.Kind, .int .i64 c_0.Amount]] w (fun v w' => v = .bool r ∧ Ext w w') := by
  unfold m_spec_l22One at hm
  refine CallV.enter Tryd.func20 rfl (by kernel_rfl) Tryd.ntmps20 (env := [(0, .agg #[.int .i64 c_0.Kind, .int .i64 c_0.Amount])]) ⟨rfl, trivial⟩ ?_
  refine WP.seq (fun K1 hK1 => ?_)
  refine WP.region ?_
  refine WL.box 25 [.int .i64 c_0.Kind, .int .i64 c_0.Amount] 1 (by kernel_rfl) rfl rfl rfl rfl ?_
  intro b2 w3 hE4 hR5
  have hb7 : Ext w w3 := Ext.trans (Ext.refl w) hE4
  have hL8 : w.heap.size ≤ w3.heap.size := Nat.le_trans (Nat.le_refl _) hE4.size
  have hS9 : SH w3 w.heap.size [aBox 25 b2 [.int .i64 c_0.Kind, .int .i64 c_0.Amount]] := SH.add (SH.nil _ _) hE4 (Nat.le_refl _) hR5
  refine WL.runk 1 [1] [(1, .pointer (some ⟨b2, 0, none⟩))] (by kernel_rfl) ?_
  refine WL.nil ?_
  refine WQ.then_normal (hK1 _ _ _ ?_)
  refine WP.seq (fun K10 hK10 => ?_)
  refine WP.region ?_
  refine WL.runk 1 [1, 4] [(1, .pointer (some ⟨b2, 0, none⟩)), (4, .pointer (some ⟨b2, 0, none⟩))] (by kernel_rfl) ?_
  refine WL.st (.int .i64 c_0.Kind) (ST.load (cell_ext (SH.boxAt (SH.front 0 hS9) 0 _ rfl)) rfl rfl Tryd.underlying2 rfl) rfl rfl rfl ?_
  obtain ⟨x11, hx12, hm⟩ := bindE hm
  refine WL.call 42 #[.int .i64 c_0.Kind] rfl rfl (by kernel_rfl) (c_42 n c_0.Kind w3 hx12 ) ?_
  rintro _ w13 ⟨rfl, hE14⟩
  refine ⟨_, rfl, ?_⟩
  have hb16 : Ext w w13 := Ext.trans hb7 hE14
  have hL17 : w.heap.size ≤ w13.heap.size := Nat.le_trans hL8 hE14.size
  have hS18 : SH w13 w.heap.size [aBox 25 b2 [.int .i64 c_0.Kind, .int .i64 c_0.Amount]] := SH.ext hS9 hE14
  refine WL.runk 1 [1, 3] [(1, .pointer (some ⟨b2, 0, none⟩)), (3, .int .i64 x11)] (by kernel_rfl) ?_
  refine WL.nil ?_
  refine WQ.then_normal (hK10 _ _ _ ?_)
  refine WP.seq (fun K19 hK19 => ?_)
  obtain ⟨x29, hx30, hm⟩ := bindE hm
  refine WP.cut (fun env' w' => env' = [(2, .bool x29)] ∧ Ext w w' ∧ w.heap.size ≤ w'.heap.size ∧ SH w' w.heap.size [aBox 25 b2 [.int .i64 c_0.Kind, .int .i64 c_0.Amount]]) ?_ ?_
  rotate_left
  · clear hx30
    rintro _ w40 ⟨rfl, hb41, hL42, hS43⟩
    refine WQ.then_normal (hK19 _ _ _ ?_)
    refine WP.ret ?_
    obtain rfl := Option.some.inj hm
    exact WQ.ret1 _ rfl rfl ⟨rfl, hb41⟩
  have hm := hx30; clear hx30
  refine WP.region ?_
  refine WL.runk 1 [1, 3, 7] [(1, .pointer (some ⟨b2, 0, none⟩)), (3, .int .i64 x11), (7, .pointer (some ⟨b2, 1, none⟩))] (by kernel_rfl) ?_
  refine WL.st (.int .i64 c_0.Amount) (ST.load (cell_ext (SH.boxAt (SH.front 0 hS18) 1 _ rfl)) rfl rfl Tryd.underlying2 rfl) rfl rfl rfl ?_
  refine WL.runk 2 [1, 3, 10] [(1, .pointer (some ⟨b2, 0, none⟩)), (3, .int .i64 x11), (10, .bool (c_0.Amount != 0))] (by kernel_rfl) ?_
  refine WL.case (c_0.Amount != 0) [10] ⟨rfl, trivial⟩ (fun hc31 => ?_) (fun hc31 => ?_)
  rotate_left
  · have hm := iteF hm hc31
    refine WL.runk 8 [2] [(2, .bool false)] (by kernel_rfl) ?_
    refine WL.nil ?_
    obtain rfl := Option.some.inj hm
    exact WQ.post' ⟨rfl, hb16, hL17, hS18⟩ ⟨rfl, trivial⟩
  have hm := iteT hm hc31
  refine WL.runk 1 [3, 10, 11] [(3, .int .i64 x11), (10, .bool true), (11, .pointer (some ⟨b2, 1, none⟩))] (by kernel_rfl) ?_
  refine WL.st (.int .i64 c_0.Amount) (ST.load (cell_ext (SH.boxAt (SH.front 0 hS18) 1 _ rfl)) rfl rfl Tryd.underlying2 rfl) rfl rfl rfl ?_
  refine WL.runk 3 [10, 12, 14, 15] [(10, .bool true), (12, .int .i64 c_0.Amount), (14, .int .i64 (wI64 (0 - x11))), (15, .int .i64 x11)] (by kernel_rfl) ?_
  obtain ⟨x32, hx33, hm⟩ := bindE hm
  refine WL.call 27 #[.int .i64 c_0.Amount, .int .i64 (wI64 (0 - x11)), .int .i64 x11] rfl rfl (by kernel_rfl) (c_27 n c_0.Amount (wI64 (0 - x11)) x11 w13 hx33 ) ?_
  rintro _ w34 ⟨rfl, hE35⟩
  refine ⟨_, rfl, ?_⟩
  have hb37 : Ext w w34 := Ext.trans hb16 hE35
  have hL38 : w.heap.size ≤ w34.heap.size := Nat.le_trans hL17 hE35.size
  have hS39 : SH w34 w.heap.size [aBox 25 b2 [.int .i64 c_0.Kind, .int .i64 c_0.Amount]] := SH.ext hS18 hE35
  refine WL.runk 2 [2] [(2, .bool x32)] (by kernel_rfl) ?_
  refine WL.nil ?_
  obtain rfl := Option.some.inj hm
  exact WQ.post' ⟨rfl, hb37, hL38, hS39⟩ ⟨rfl, trivial⟩

theorem c_26 (n : Nat)  (w : World) {r : List (List UInt8)} (hm : m_spec_l22Names n  = some r)  :
    CallV Tryd.prog 26 #[] w (fun v w' => ∃ (ra0 : Option Addr) (rc0 : Nat), v = .slice ra0 r.length rc0 ∧ Ext w w' ∧ SH w' w.heap.size [aOwn fStr 9 ra0 rc0 r]) := by
  unfold m_spec_l22Names at hm
  refine CallV.enter Tryd.func26 rfl (by kernel_rfl) Tryd.ntmps26 (env := []) trivial ?_
  refine WP.seq (fun K1 hK1 => ?_)
  refine WP.region ?_
  refine WL.runk 1 [] [] (by kernel_rfl) ?_
  refine WL.nil ?_
  refine WQ.then_normal (hK1 _ _ _ ?_)
  refine WP.seq (fun K2 hK2 => ?_)
  refine WP.region ?_
  refine WL.row fStr 9 ([[108, 101, 110, 103, 116, 104], [98, 97, 108, 108], [105, 110, 115, 116, 101, 112], [104, 101, 101, 108], [112, 105, 116, 99, 104]] : List (List UInt8)) 5 #[.string (bs [108, 101, 110, 103, 116, 104]), .string (bs [98, 97, 108, 108]), .string (bs [105, 110, 115, 116, 101, 112]), .string (bs [104, 101, 101, 108]), .string (bs [112, 105, 116, 99, 104])] 1 (by kernel_rfl) rfl rfl rfl rfl rfl rfl rfl ?_
  intro a3 c4 w5 hE6 hR7
  have hb9 : Ext w w5 := Ext.trans (Ext.refl w) hE6
  have hL10 : w.heap.size ≤ w5.heap.size := Nat.le_trans (Nat.le_refl _) hE6.size
  have hS11 : SH w5 w.heap.size [aOwn fStr 9 a3 c4 ([[108, 101, 110, 103, 116, 104], [98, 97, 108, 108], [105, 110, 115, 116, 101, 112], [104, 101, 101, 108], [112, 105, 116, 99, 104]] : List (List UInt8))] := SH.add (SH.nil _ _) hE6 (Nat.le_refl _) hR7
  refine WL.runk 1 [0] [(0, .slice a3 (([[108, 101, 110, 103, 116, 104], [98, 97, 108, 108], [105, 110, 115, 116, 101, 112], [104, 101, 101, 108], [112, 105, 116, 99, 104]] : List (List UInt8)).length) c4)] (by kernel_rfl) ?_
  refine WL.nil ?_
  refine WQ.then_normal (hK2 _ _ _ ?_)
  refine WP.ret ?_
  obtain rfl := Option.some.inj hm
  exact WQ.ret1 _ rfl rfl ⟨_, _, rfl, hb9, hS11⟩

theorem c_43 (n : Nat) (n_0 : Int) (w : World) {r : List UInt8} (hm : m_spec_l01Dec n n_0 = some r)  :
    CallV Tryd.prog 43 #[.int .i64 n_0] w (fun v w' => v = .string (bs r) ∧ Ext w w') := by
  unfold m_spec_l01Dec at hm
  refine CallV.enter Tryd.func43 rfl (by kernel_rfl) Tryd.ntmps43 (env := [(0, .int .i64 n_0)]) ⟨rfl, trivial⟩ ?_
  refine WP.seq (fun K1 hK1 => ?_)
  refine WP.region ?_
  refine WL.runk 1 [0] [(0, .int .i64 n_0)] (by kernel_rfl) ?_
  refine WL.nil ?_
  refine WQ.then_normal (hK1 _ _ _ ?_)
  refine WP.seq (fun K2 hK2 => ?_)
  refine WP.region ?_
  refine WL.row fU8 5 ([] : List Int) 0 #[] 6 (by kernel_rfl) rfl rfl rfl rfl rfl rfl rfl ?_
  intro a3 c4 w5 hE6 hR7
  have hb9 : Ext w w5 := Ext.trans (Ext.refl w) hE6
  have hL10 : w.heap.size ≤ w5.heap.size := Nat.le_trans (Nat.le_refl _) hE6.size
  have hS11 : SH w5 w.heap.size [aOwn fU8 5 a3 c4 ([] : List Int)] := SH.add (SH.nil _ _) hE6 (Nat.le_refl _) hR7
  refine WL.runk 1 [0, 3] [(0, .int .i64 n_0), (3, .slice a3 (([] : List Int).length) c4)] (by kernel_rfl) ?_
  refine WL.nil ?_
  refine WQ.then_normal (hK2 _ _ _ ?_)
  refine WP.seq (fun K12 hK12 => ?_)
  refine WP.seq (fun K13 hK13 => ?_)
  refine WP.region ?_
  refine WL.runk 2 [0, 3, 4] [(0, .int .i64 n_0), (3, .slice a3 (([] : List Int).length) c4), (4, .int .i64 n_0)] (by kernel_rfl) ?_
  refine WL.nil ?_
  refine WQ.then_normal (hK13 _ _ _ ?_)
  refine WP.block ?_
  obtain ⟨t28, ht29, hm⟩ := bindE hm
  have hmo23 := hm; clear hm
  refine WP.sub [(0, .int .i64 n_0), (3, .slice a3 (([] : List Int).length) c4), (4, .int .i64 n_0)] ⟨rfl, rfl, rfl, trivial⟩ ?_
  refine WP.loop (fun n' env' w' => ∃ (st14 : List Int × Int) (a15 : Option Addr) (c16 : Nat), env' = [(0, .int .i64 n_0), (3, .slice a15 st14.1.length c16), (4, .int .i64 st14.2)] ∧ Ext w w' ∧ w.heap.size ≤ w'.heap.size ∧ SH w' w.heap.size [aOwn fU8 5 a15 c16 st14.1] ∧ loopN (m_spec_l01Dec_l1 n) n' st14 = some t28) n ⟨(([] : List Int), n_0), _, _, rfl, hb9, hL10, hS11, ht29⟩ ?_
  rintro n25 _ w18 ⟨st14, a15, c16, rfl, hb19, hL20, hS21, hl22⟩ K24 hK24
  obtain ⟨n26, s27, rfl, hm, hl22⟩ := loopN_some hl22
  unfold m_spec_l01Dec_l1 at hm
  refine WP.seq (fun K30 hK30 => ?_)
  refine WP.seq (fun K31 hK31 => ?_)
  refine WP.region ?_
  refine WL.runk 2 [0, 3, 4, 9] [(0, .int .i64 n_0), (3, .slice a15 st14.1.length c16), (4, .int .i64 st14.2), (9, .bool (st14.2 != 0))] (by kernel_rfl) ?_
  refine WL.nil ?_
  refine WQ.then_normal (hK31 _ _ _ ?_)
  refine WP.cond (st14.2 != 0) rfl rfl (fun hc32 => ?_) (fun hc32 => ?_)
  · have hm := iteT hm hc32
    refine WP.skip ?_
    refine WQ.then_normal (hK30 _ _ _ ?_)
    refine WP.seq (fun K33 hK33 => ?_)
    refine WP.block ?_
    refine WP.seq (fun K34 hK34 => ?_)
    refine WP.region ?_
    refine WL.runk 3 [0, 3, 4, 5] [(0, .int .i64 n_0), (3, .slice a15 st14.1.length c16), (4, .int .i64 st14.2), (5, .int .i64 (Int.tmod st14.2 10))] (by kernel_rfl) ?_
    refine WL.nil ?_
    refine WQ.then_normal (hK34 _ _ _ ?_)
    refine WP.seq (fun K35 hK35 => ?_)
    refine WP.seq (fun K36 hK36 => ?_)
    refine WP.region ?_
    refine WL.runk 2 [0, 3, 4, 5, 15] [(0, .int .i64 n_0), (3, .slice a15 st14.1.length c16), (4, .int .i64 st14.2), (5, .int .i64 (Int.tmod st14.2 10)), (15, .bool (decide ((Int.tmod st14.2 10) < 0)))] (by kernel_rfl) ?_
    refine WL.nil ?_
    refine WQ.then_normal (hK36 _ _ _ ?_)
    obtain ⟨x38, hx39, hm⟩ := bindE hm
    refine WP.cut (fun env' w' => env' = [(0, .int .i64 n_0), (3, .slice a15 st14.1.length c16), (4, .int .i64 st14.2), (5, .int .i64 x38)] ∧ Ext w w' ∧ w.heap.size ≤ w'.heap.size ∧ SH w' w.heap.size [aOwn fU8 5 a15 c16 st14.1]) ?_ ?_
    · have hm := hx39; clear hx39
      refine WP.cond (decide ((Int.tmod st14.2 10) < 0)) rfl rfl (fun hc37 => ?_) (fun hc37 => ?_)
      rotate_left
      · have hm := iteF hm hc37
        refine WP.skip ?_
        obtain rfl := Option.some.inj hm
        exact WQ.post' ⟨rfl, hb19, hL20, hS21⟩ ⟨rfl, rfl, rfl, rfl, trivial⟩
      have hm := iteT hm hc37
      refine WP.region ?_
      refine WL.runk 3 [0, 3, 4, 5] [(0, .int .i64 n_0), (3, .slice a15 st14.1.length c16), (4, .int .i64 st14.2), (5, .int .i64 (wI64 (0 - (Int.tmod st14.2 10))))] (by kernel_rfl) ?_
      refine WL.nil ?_
      obtain rfl := Option.some.inj hm
      exact WQ.post' ⟨rfl, hb19, hL20, hS21⟩ ⟨rfl, rfl, rfl, rfl, trivial⟩
    clear hx39
    rintro _ w40 ⟨rfl, hb41, hL42, hS43⟩
    refine WQ.then_normal (hK35 _ _ _ ?_)
    refine WP.region ?_
    refine WL.runk 3 [0, 3, 4, 20] [(0, .int .i64 n_0), (3, .slice a15 st14.1.length c16), (4, .int .i64 st14.2), (20, .int .u8 (IntKind.u8.wrap (wI64 (48 + x38))))] (by kernel_rfl) ?_
    refine WL.row fU8 5 ([(IntKind.u8.wrap (wI64 (48 + x38)))] : List Int) 1 #[.int .u8 (IntKind.u8.wrap (wI64 (48 + x38)))] 21 (by kernel_rfl) rfl rfl rfl rfl rfl rfl rfl ?_
    intro a44 c45 w46 hE47 hR48
    have hb50 : Ext w w46 := Ext.trans hb41 hE47
    have hL51 : w.heap.size ≤ w46.heap.size := Nat.le_trans hL42 hE47.size
    have hS52 : SH w46 w.heap.size [aOwn fU8 5 a44 c45 ([(IntKind.u8.wrap (wI64 (48 + x38)))] : List Int), aOwn fU8 5 a15 c16 st14.1] := SH.add hS43 hE47 hL42 hR48
    refine WL.runk 1 [0, 4, 21, 22] [(0, .int .i64 n_0), (4, .int .i64 st14.2), (21, .slice a44 (([(IntKind.u8.wrap (wI64 (48 + x38)))] : List Int).length) c45), (22, .slice a15 st14.1.length c16)] (by kernel_rfl) ?_
    obtain ⟨x53, hx54, hm⟩ := bindE hm
    refine WL.append (F := fU8) (xs := ([(IntKind.u8.wrap (wI64 (48 + x38)))] : List Int)) (ys := st14.1) 23 (SH.front 0 hS52) hL51 (SH.rd (SH.front 1 hS52)) hx54 rfl rfl rfl Tryd.underlying32 (info5).1 (info5).2.2.1 (info5).2.1 (info5).2.2.2 rfl rfl rfl rfl rfl ?_
    intro a55 c56 w57 hB58 hS59
    have hb60 : Ext w w57 := Below.trans hb50 hB58
    have hL61 : w.heap.size ≤ w57.heap.size := Nat.le_trans hL51 hB58.size
    refine WL.runk 1 [0, 3, 4] [(0, .int .i64 n_0), (4, .int .i64 st14.2), (3, .slice a55 x53.length c56)] (by kernel_rfl) ?_
    refine WL.nil ?_
    refine WQ.block_normal ?_
    refine WQ.then_normal (hK33 _ _ _ ?_)
    refine WP.region ?_
    refine WL.runk 3 [0, 3, 4] [(0, .int .i64 n_0), (4, .int .i64 (wI64 (Int.tdiv st14.2 10))), (3, .slice a55 x53.length c56)] (by kernel_rfl) ?_
    refine WL.nil ?_
    obtain rfl := Option.some.inj hm
    exact WQ.round hK24 ⟨(x53, (wI64 (Int.tdiv st14.2 10))), _, _, rfl, hb60, hL61, (SH.take 1 hS59), hl22⟩ (Nat.lt_succ_self _) ⟨rfl, rfl, rfl, trivial⟩
  have hm := iteF hm hc32
  refine WP.exit ?_
  refine WQ.then_exit ?_
  refine WQ.then_exit ?_
  refine WQ.block_here ?_
  obtain rfl := Option.some.inj hm
  obtain rfl := afterN_done hl22
  have hm := hmo23
  refine WQ.then_normal (hK12 _ _ _ ?_)
  refine WP.seq (fun K62 hK62 => ?_)
  refine WP.seq (fun K63 hK63 => ?_)
  refine WP.region ?_
  refine WL.runk 3 [0, 3, 26] [(0, .int .i64 n_0), (3, .slice a15 st14.1.length c16), (26, .bool ((st14.1.length : Int) == 0))] (by kernel_rfl) ?_
  refine WL.nil ?_
  refine WQ.then_normal (hK63 _ _ _ ?_)
  refine WP.cond ((st14.1.length : Int) == 0) rfl rfl (fun hc64 => ?_) (fun hc64 => ?_)
  · have hm := iteT hm hc64
    refine WP.seq (fun K65 hK65 => ?_)
    refine WP.region ?_
    refine WL.runk 1 [2] [(2, .string (bs [48]))] (by kernel_rfl) ?_
    refine WL.nil ?_
    refine WQ.then_normal (hK65 _ _ _ ?_)
    refine WP.ret ?_
    refine WQ.then_ret ?_
    obtain rfl := Option.some.inj hm
    exact WQ.ret1 _ rfl rfl ⟨rfl, hb19⟩
  have hm := iteF hm hc64
  refine WP.skip ?_
  refine WQ.then_normal (hK62 _ _ _ ?_)
  refine WP.seq (fun K66 hK66 => ?_)
  refine WP.seq (fun K67 hK67 => ?_)
  refine WP.region ?_
  refine WL.runk 2 [3, 28] [(3, .slice a15 st14.1.length c16), (28, .bool (decide (n_0 < 0)))] (by kernel_rfl) ?_
  refine WL.nil ?_
  refine WQ.then_normal (hK67 _ _ _ ?_)
  refine WP.cond (decide (n_0 < 0)) rfl rfl (fun hc68 => ?_) (fun hc68 => ?_)
  rotate_left
  · have hm := iteF hm hc68
    refine WP.skip ?_
    refine WQ.then_normal (hK66 _ _ _ ?_)
    refine WP.seq (fun K72 hK72 => ?_)
    refine WP.region ?_
    refine WL.runk 1 [32] [(32, .slice a15 st14.1.length c16)] (by kernel_rfl) ?_
    refine WL.st (.string (bs (ofBytes st14.1))) (ST.b2s (SH.rd (SH.front 0 hS21)) (SH.le (SH.front 0 hS21)).2 rfl rfl Tryd.underlying32 Tryd.underlying9 Tryd.underlying5) rfl rfl rfl ?_
    refine WL.runk 1 [2] [(2, .string (bs (ofBytes st14.1)))] (by kernel_rfl) ?_
    refine WL.nil ?_
    refine WQ.then_normal (hK72 _ _ _ ?_)
    refine WP.ret ?_
    obtain rfl := Option.some.inj hm
    exact WQ.ret1 _ rfl rfl ⟨rfl, hb19⟩
  have hm := iteT hm hc68
  refine WP.seq (fun K69 hK69 => ?_)
  refine WP.region ?_
  refine WL.runk 1 [29] [(29, .slice a15 st14.1.length c16)] (by kernel_rfl) ?_
  refine WL.st (.string (bs (ofBytes st14.1))) (ST.b2s (SH.rd (SH.front 0 hS21)) (SH.le (SH.front 0 hS21)).2 rfl rfl Tryd.underlying32 Tryd.underlying9 Tryd.underlying5) rfl rfl rfl ?_
  obtain ⟨x70, hx71, hm⟩ := bindE hm
  refine WL.st (.string (bs x70)) (ST.cat hx71 rfl rfl rfl) rfl rfl rfl ?_
  refine WL.runk 1 [2] [(2, .string (bs x70))] (by kernel_rfl) ?_
  refine WL.nil ?_
  refine WQ.then_normal (hK69 _ _ _ ?_)
  refine WP.ret ?_
  refine WQ.then_ret ?_
  obtain rfl := Option.some.inj hm
  exact WQ.ret1 _ rfl rfl ⟨rfl, hb19⟩

theorem c_45 (n : Nat) (kind_0 : Int) (w : World) {r : Int} (hm : m_impl_mostChange n kind_0 = some r)  :
    CallV Tryd.prog 45 #[.int .i64 kind_0] w (fun v w' => v = .int .i64 r ∧ Ext w w') := by
  unfold m_impl_mostChange at hm
  refine CallV.enter Tryd.func45 rfl (by kernel_rfl) Tryd.ntmps45 (env := [(0, .int .i64 kind_0)]) ⟨rfl, trivial⟩ ?_
  refine WP.seq (fun K1 hK1 => ?_)
  refine WP.region ?_
  refine WL.runk 1 [0] [(0, .int .i64 kind_0)] (by kernel_rfl) ?_
  refine WL.nil ?_
  refine WQ.then_normal (hK1 _ _ _ ?_)
  refine WP.seq (fun K2 hK2 => ?_)
  refine WP.seq (fun K3 hK3 => ?_)
  refine WP.region ?_
  refine WL.runk 1 [3] [(3, .int .i64 kind_0)] (by kernel_rfl) ?_
  refine WL.nil ?_
  refine WQ.then_normal (hK3 _ _ _ ?_)
  refine WP.block ?_
  refine WP.seq (fun K4 hK4 => ?_)
  refine WP.region ?_
  refine WL.runk 2 [3, 4] [(3, .int .i64 kind_0), (4, .bool (kind_0 == 1))] (by kernel_rfl) ?_
  refine WL.nil ?_
  refine WQ.then_normal (hK4 _ _ _ ?_)
  refine WP.cond (kind_0 == 1) rfl rfl (fun hc5 => ?_) (fun hc5 => ?_)
  · have hm := iteT hm hc5
    refine WP.seq (fun K6 hK6 => ?_)
    refine WP.region ?_
    refine WL.runk 1 [2] [(2, .int .i64 200)] (by kernel_rfl) ?_
    refine WL.nil ?_
    refine WQ.then_normal (hK6 _ _ _ ?_)
    refine WP.ret ?_
    refine WQ.block_ret ?_
    refine WQ.then_ret ?_
    obtain rfl := Option.some.inj hm
    exact WQ.ret1 _ rfl rfl ⟨rfl, (Ext.refl w)⟩
  have hm := iteF hm hc5
  refine WP.seq (fun K7 hK7 => ?_)
  refine WP.seq (fun K8 hK8 => ?_)
  refine WP.region ?_
  refine WL.runk 2 [3, 6] [(3, .int .i64 kind_0), (6, .bool (kind_0 == 2))] (by kernel_rfl) ?_
  refine WL.nil ?_
  refine WQ.then_normal (hK8 _ _ _ ?_)
  obtain ⟨x18, hx19, hm⟩ := bindE hm
  refine WP.cut (fun env' w' => env' = [(3, .int .i64 kind_0), (6, .bool x18)] ∧ Ext w w' ∧ w.heap.size ≤ w'.heap.size ∧ SH w' w.heap.size []) ?_ ?_
  · have hm := hx19; clear hx19
    refine WP.cond (kind_0 == 2) rfl rfl (fun hc9 => ?_) (fun hc9 => ?_)
    · have hm := iteT hm hc9
      refine WP.skip ?_
      obtain rfl := Option.some.inj hm
      exact WQ.post' ⟨rfl, (Ext.refl w), (Nat.le_refl _), (SH.nil _ _)⟩ ⟨rfl, rfl, trivial⟩
    have hm := iteF hm hc9
    refine WP.seq (fun K20 hK20 => ?_)
    refine WP.region ?_
    refine WL.runk 2 [3, 6] [(3, .int .i64 kind_0), (6, .bool (kind_0 == 3))] (by kernel_rfl) ?_
    refine WL.nil ?_
    refine WQ.then_normal (hK20 _ _ _ ?_)
    obtain ⟨x22, hx23, hm⟩ := bindE hm
    refine WP.cut (fun env' w' => env' = [(3, .int .i64 kind_0), (6, .bool x22)] ∧ Ext w w' ∧ w.heap.size ≤ w'.heap.size ∧ SH w' w.heap.size []) ?_ ?_
    rotate_left
    · clear hx23
      rintro _ w24 ⟨rfl, hb25, hL26, hS27⟩
      obtain rfl := Option.some.inj hm
      exact WQ.post' ⟨rfl, hb25, hL26, hS27⟩ ⟨rfl, rfl, trivial⟩
    have hm := hx23; clear hx23
    refine WP.cond (kind_0 == 3) rfl rfl (fun hc21 => ?_) (fun hc21 => ?_)
    · have hm := iteT hm hc21
      refine WP.skip ?_
      obtain rfl := Option.some.inj hm
      exact WQ.post' ⟨rfl, (Ext.refl w), (Nat.le_refl _), (SH.nil _ _)⟩ ⟨rfl, rfl, trivial⟩
    have hm := iteF hm hc21
    refine WP.region ?_
    refine WL.runk 2 [3, 6] [(3, .int .i64 kind_0), (6, .bool (kind_0 == 4))] (by kernel_rfl) ?_
    refine WL.nil ?_
    obtain rfl := Option.some.inj hm
    exact WQ.post' ⟨rfl, (Ext.refl w), (Nat.le_refl _), (SH.nil _ _)⟩ ⟨rfl, rfl, trivial⟩
  clear hx19
  rintro _ w28 ⟨rfl, hb29, hL30, hS31⟩
  refine WQ.then_normal (hK7 _ _ _ ?_)
  refine WP.cond x18 rfl rfl (fun hc32 => ?_) (fun hc32 => ?_)
  · have hm := iteT hm hc32
    refine WP.seq (fun K33 hK33 => ?_)
    refine WP.region ?_
    refine WL.runk 1 [2] [(2, .int .i64 300)] (by kernel_rfl) ?_
    refine WL.nil ?_
    refine WQ.then_normal (hK33 _ _ _ ?_)
    refine WP.ret ?_
    refine WQ.block_ret ?_
    refine WQ.then_ret ?_
    obtain rfl := Option.some.inj hm
    exact WQ.ret1 _ rfl rfl ⟨rfl, hb29⟩
  have hm := iteF hm hc32
  refine WP.seq (fun K34 hK34 => ?_)
  refine WP.region ?_
  refine WL.runk 2 [10] [(10, .bool (kind_0 == 5))] (by kernel_rfl) ?_
  refine WL.nil ?_
  refine WQ.then_normal (hK34 _ _ _ ?_)
  refine WP.cond (kind_0 == 5) rfl rfl (fun hc35 => ?_) (fun hc35 => ?_)
  · have hm := iteT hm hc35
    refine WP.seq (fun K36 hK36 => ?_)
    refine WP.region ?_
    refine WL.runk 1 [2] [(2, .int .i64 150)] (by kernel_rfl) ?_
    refine WL.nil ?_
    refine WQ.then_normal (hK36 _ _ _ ?_)
    refine WP.ret ?_
    refine WQ.block_ret ?_
    refine WQ.then_ret ?_
    obtain rfl := Option.some.inj hm
    exact WQ.ret1 _ rfl rfl ⟨rfl, hb29⟩
  have hm := iteF hm hc35
  refine WP.skip ?_
  refine WQ.block_normal ?_
  refine WQ.then_normal (hK2 _ _ _ ?_)
  refine WP.seq (fun K37 hK37 => ?_)
  refine WP.region ?_
  refine WL.runk 1 [2] [(2, .int .i64 0)] (by kernel_rfl) ?_
  refine WL.nil ?_
  refine WQ.then_normal (hK37 _ _ _ ?_)
  refine WP.ret ?_
  obtain rfl := Option.some.inj hm
  exact WQ.ret1 _ rfl rfl ⟨rfl, hb29⟩

theorem c_46 (n : Nat) (n_0 : Int) (low_1 : Int) (high_2 : Int) (w : World) {r : Bool} (hm : m_impl_within n n_0 low_1 high_2 = some r)  :
    CallV Tryd.prog 46 #[.int .i64 n_0, .int .i64 low_1, .int .i64 high_2] w (fun v w' => v = .bool r ∧ Ext w w') := by
  unfold m_impl_within at hm
  refine CallV.enter Tryd.func46 rfl (by kernel_rfl) Tryd.ntmps46 (env := [(0, .int .i64 n_0), (1, .int .i64 low_1), (2, .int .i64 high_2)]) ⟨rfl, rfl, rfl, trivial⟩ ?_
  refine WP.seq (fun K1 hK1 => ?_)
  refine WP.region ?_
  refine WL.runk 1 [0, 1, 2] [(0, .int .i64 n_0), (1, .int .i64 low_1), (2, .int .i64 high_2)] (by kernel_rfl) ?_
  refine WL.nil ?_
  refine WQ.then_normal (hK1 _ _ _ ?_)
  refine WP.seq (fun K2 hK2 => ?_)
  obtain ⟨x4, hx5, hm⟩ := bindE hm
  refine WP.cut (fun env' w' => env' = [(6, .bool x4)] ∧ Ext w w' ∧ w.heap.size ≤ w'.heap.size ∧ SH w' w.heap.size []) ?_ ?_
  rotate_left
  · clear hx5
    rintro _ w7 ⟨rfl, hb8, hL9, hS10⟩
    refine WQ.then_normal (hK2 _ _ _ ?_)
    refine WP.ret ?_
    obtain rfl := Option.some.inj hm
    exact WQ.ret1 _ rfl rfl ⟨rfl, hb8⟩
  have hm := hx5; clear hx5
  refine WP.region ?_
  refine WL.runk 4 [0, 2, 10] [(0, .int .i64 n_0), (2, .int .i64 high_2), (10, .bool (decide (n_0 ≥ low_1)))] (by kernel_rfl) ?_
  refine WL.case (decide (n_0 ≥ low_1)) [10] ⟨rfl, trivial⟩ (fun hc6 => ?_) (fun hc6 => ?_)
  · have hm := iteT hm hc6
    refine WL.runk 5 [6] [(6, .bool (decide (n_0 ≤ high_2)))] (by kernel_rfl) ?_
    refine WL.nil ?_
    obtain rfl := Option.some.inj hm
    exact WQ.post' ⟨rfl, (Ext.refl w), (Nat.le_refl _), (SH.nil _ _)⟩ ⟨rfl, trivial⟩
  have hm := iteF hm hc6
  refine WL.runk 5 [6] [(6, .bool false)] (by kernel_rfl) ?_
  refine WL.nil ?_
  obtain rfl := Option.some.inj hm
  exact WQ.post' ⟨rfl, (Ext.refl w), (Nat.le_refl _), (SH.nil _ _)⟩ ⟨rfl, trivial⟩

theorem c_22 (n : Nat) (c_0 : SChange) (w : World) {r : Bool} (hm : m_impl_validChange n c_0 = some r)  :
    CallV Tryd.prog 22 #[.agg #[.int .i64 c_0.Kind, .int .i64 c_0.Amount]] w (fun v w' => v = .bool r ∧ Ext w w') := by
  unfold m_impl_validChange at hm
  refine CallV.enter Tryd.func22 rfl (by kernel_rfl) Tryd.ntmps22 (env := [(0, .agg #[.int .i64 c_0.Kind, .int .i64 c_0.Amount])]) ⟨rfl, trivial⟩ ?_
  refine WP.seq (fun K1 hK1 => ?_)
  refine WP.region ?_
  refine WL.box 25 [.int .i64 c_0.Kind, .int .i64 c_0.Amount] 1 (by kernel_rfl) rfl rfl rfl rfl ?_
  intro b2 w3 hE4 hR5
  have hb7 : Ext w w3 := Ext.trans (Ext.refl w) hE4
  have hL8 : w.heap.size ≤ w3.heap.size := Nat.le_trans (Nat.le_refl _) hE4.size
  have hS9 : SH w3 w.heap.size [aBox 25 b2 [.int .i64 c_0.Kind, .int .i64 c_0.Amount]] := SH.add (SH.nil _ _) hE4 (Nat.le_refl _) hR5
  refine WL.runk 1 [1] [(1, .pointer (some ⟨b2, 0, none⟩))] (by kernel_rfl) ?_
  refine WL.nil ?_
  refine WQ.then_normal (hK1 _ _ _ ?_)
  refine WP.seq (fun K10 hK10 => ?_)
  refine WP.region ?_
  refine WL.runk 1 [1, 4] [(1, .pointer (some ⟨b2, 0, none⟩)), (4, .pointer (some ⟨b2, 0, none⟩))] (by kernel_rfl) ?_
  refine WL.st (.int .i64 c_0.Kind) (ST.load (cell_ext (SH.boxAt (SH.front 0 hS9) 0 _ rfl)) rfl rfl Tryd.underlying2 rfl) rfl rfl rfl ?_
  obtain ⟨x11, hx12, hm⟩ := bindE hm
  refine WL.call 45 #[.int .i64 c_0.Kind] rfl rfl (by kernel_rfl) (c_45 n c_0.Kind w3 hx12 ) ?_
  rintro _ w13 ⟨rfl, hE14⟩
  refine ⟨_, rfl, ?_⟩
  have hb16 : Ext w w13 := Ext.trans hb7 hE14
  have hL17 : w.heap.size ≤ w13.heap.size := Nat.le_trans hL8 hE14.size
  have hS18 : SH w13 w.heap.size [aBox 25 b2 [.int .i64 c_0.Kind, .int .i64 c_0.Amount]] := SH.ext hS9 hE14
  refine WL.runk 1 [1, 3] [(1, .pointer (some ⟨b2, 0, none⟩)), (3, .int .i64 x11)] (by kernel_rfl) ?_
  refine WL.nil ?_
  refine WQ.then_normal (hK10 _ _ _ ?_)
  refine WP.seq (fun K19 hK19 => ?_)
  obtain ⟨x30, hx31, hm⟩ := bindE hm
  refine WP.cut (fun env' w' => env' = [(2, .bool x30)] ∧ Ext w w' ∧ w.heap.size ≤ w'.heap.size ∧ SH w' w.heap.size [aBox 25 b2 [.int .i64 c_0.Kind, .int .i64 c_0.Amount]]) ?_ ?_
  rotate_left
  · clear hx31
    rintro _ w42 ⟨rfl, hb43, hL44, hS45⟩
    refine WQ.then_normal (hK19 _ _ _ ?_)
    refine WP.ret ?_
    obtain rfl := Option.some.inj hm
    exact WQ.ret1 _ rfl rfl ⟨rfl, hb43⟩
  have hm := hx31; clear hx31
  refine WP.region ?_
  refine WL.runk 3 [1, 3, 9] [(1, .pointer (some ⟨b2, 0, none⟩)), (3, .int .i64 x11), (9, .bool (decide (x11 > 0)))] (by kernel_rfl) ?_
  refine WL.case (decide (x11 > 0)) [9] ⟨rfl, trivial⟩ (fun hc32 => ?_) (fun hc32 => ?_)
  rotate_left
  · have hm := iteF hm hc32
    refine WL.runk 13 [2] [(2, .bool false)] (by kernel_rfl) ?_
    refine WL.nil ?_
    obtain rfl := Option.some.inj hm
    exact WQ.post' ⟨rfl, hb16, hL17, hS18⟩ ⟨rfl, trivial⟩
  have hm := iteT hm hc32
  refine WL.runk 1 [1, 3, 9, 10] [(1, .pointer (some ⟨b2, 0, none⟩)), (3, .int .i64 x11), (9, .bool true), (10, .pointer (some ⟨b2, 1, none⟩))] (by kernel_rfl) ?_
  refine WL.st (.int .i64 c_0.Amount) (ST.load (cell_ext (SH.boxAt (SH.front 0 hS18) 1 _ rfl)) rfl rfl Tryd.underlying2 rfl) rfl rfl rfl ?_
  refine WL.runk 3 [1, 3, 14] [(1, .pointer (some ⟨b2, 0, none⟩)), (3, .int .i64 x11), (14, .bool (c_0.Amount != 0))] (by kernel_rfl) ?_
  refine WL.case (c_0.Amount != 0) [14] ⟨rfl, trivial⟩ (fun hc33 => ?_) (fun hc33 => ?_)
  rotate_left
  · have hm := iteF hm hc33
    refine WL.runk 8 [2] [(2, .bool false)] (by kernel_rfl) ?_
    refine WL.nil ?_
    obtain rfl := Option.some.inj hm
    exact WQ.post' ⟨rfl, hb16, hL17, hS18⟩ ⟨rfl, trivial⟩
  have hm := iteT hm hc33
  refine WL.runk 1 [3, 14, 15] [(3, .int .i64 x11), (14, .bool true), (15, .pointer (some ⟨b2, 1, none⟩))] (by kernel_rfl) ?_
  refine WL.st (.int .i64 c_0.Amount) (ST.load (cell_ext (SH.boxAt (SH.front 0 hS18) 1 _ rfl)) rfl rfl Tryd.underlying2 rfl) rfl rfl rfl ?_
  refine WL.runk 3 [14, 16, 18, 19] [(14, .bool true), (16, .int .i64 c_0.Amount), (18, .int .i64 (wI64 (0 - x11))), (19, .int .i64 x11)] (by kernel_rfl) ?_
  obtain ⟨x34, hx35, hm⟩ := bindE hm
  refine WL.call 46 #[.int .i64 c_0.Amount, .int .i64 (wI64 (0 - x11)), .int .i64 x11] rfl rfl (by kernel_rfl) (c_46 n c_0.Amount (wI64 (0 - x11)) x11 w13 hx35 ) ?_
  rintro _ w36 ⟨rfl, hE37⟩
  refine ⟨_, rfl, ?_⟩
  have hb39 : Ext w w36 := Ext.trans hb16 hE37
  have hL40 : w.heap.size ≤ w36.heap.size := Nat.le_trans hL17 hE37.size
  have hS41 : SH w36 w.heap.size [aBox 25 b2 [.int .i64 c_0.Kind, .int .i64 c_0.Amount]] := SH.ext hS18 hE37
  refine WL.runk 2 [2] [(2, .bool x34)] (by kernel_rfl) ?_
  refine WL.nil ?_
  obtain rfl := Option.some.inj hm
  exact WQ.post' ⟨rfl, hb39, hL40, hS41⟩ ⟨rfl, trivial⟩

theorem c_23 (n : Nat) (n_0 : Int) (w : World) {r : List UInt8} (hm : m_impl_Decimal n n_0 = some r) (hG : GL 2 w) :
    CallV Tryd.prog 23 #[.int .i64 n_0] w (fun v w' => v = .string (bs r) ∧ Ext w w') := by
  unfold m_impl_Decimal at hm
  refine CallV.enter Tryd.func23 rfl (by kernel_rfl) Tryd.ntmps23 (env := [(0, .int .i64 n_0)]) ⟨rfl, trivial⟩ ?_
  refine WP.seq (fun K1 hK1 => ?_)
  refine WP.region ?_
  refine WL.runk 1 [0] [(0, .int .i64 n_0)] (by kernel_rfl) ?_
  refine WL.nil ?_
  refine WQ.then_normal (hK1 _ _ _ ?_)
  refine WP.seq (fun K2 hK2 => ?_)
  refine WP.region ?_
  refine WL.runk 1 [3] [(3, .int .i64 n_0)] (by kernel_rfl) ?_
  obtain ⟨x3, hx4, hm⟩ := bindE hm
  refine WL.call 47 #[.int .i64 n_0, .int .i64 10] rfl rfl (by kernel_rfl) (c_47 n n_0 10 w hx4 (GL.below hG (Ext.refl w))) ?_
  rintro _ w5 ⟨rfl, hE6⟩
  refine ⟨_, rfl, ?_⟩
  have hb8 : Ext w w5 := Ext.trans (Ext.refl w) hE6
  have hL9 : w.heap.size ≤ w5.heap.size := Nat.le_trans (Nat.le_refl _) hE6.size
  have hS10 : SH w5 w.heap.size [] := SH.ext (SH.nil _ _) hE6
  refine WL.runk 1 [2] [(2, .string (bs x3))] (by kernel_rfl) ?_
  refine WL.nil ?_
  refine WQ.then_normal (hK2 _ _ _ ?_)
  refine WP.ret ?_
  obtain rfl := Option.some.inj hm
  exact WQ.ret1 _ rfl rfl ⟨rfl, hb8⟩

theorem c_8 (n : Nat) (c_0 : SChange) (w : World) {r : List UInt8} (hm : m_impl_ChangeText n c_0 = some r) (hG : GL 3 w) :
    CallV Tryd.prog 8 #[.agg #[.int .i64 c_0.Kind, .int .i64 c_0.Amount]] w (fun v w' => v = .string (bs r) ∧ Ext w w') := by
  unfold m_impl_ChangeText at hm
  refine CallV.enter Tryd.func8 rfl (by kernel_rfl) Tryd.ntmps8 (env := [(0, .agg #[.int .i64 c_0.Kind, .int .i64 c_0.Amount])]) ⟨rfl, trivial⟩ ?_
  refine WP.seq (fun K1 hK1 => ?_)
  refine WP.region ?_
  refine WL.box 25 [.int .i64 c_0.Kind, .int .i64 c_0.Amount] 1 (by kernel_rfl) rfl rfl rfl rfl ?_
  intro b2 w3 hE4 hR5
  have hb7 : Ext w w3 := Ext.trans (Ext.refl w) hE4
  have hL8 : w.heap.size ≤ w3.heap.size := Nat.le_trans (Nat.le_refl _) hE4.size
  have hS9 : SH w3 w.heap.size [aBox 25 b2 [.int .i64 c_0.Kind, .int .i64 c_0.Amount]] := SH.add (SH.nil _ _) hE4 (Nat.le_refl _) hR5
  refine WL.runk 1 [1] [(1, .pointer (some ⟨b2, 0, none⟩))] (by kernel_rfl) ?_
  refine WL.nil ?_
  refine WQ.then_normal (hK1 _ _ _ ?_)
  refine WP.seq (fun K10 hK10 => ?_)
  refine WP.block ?_
  refine WP.seq (fun K11 hK11 => ?_)
  refine WP.region ?_
  refine WL.st (.agg #[.int .i64 c_0.Kind, .int .i64 c_0.Amount]) (ST.loadAgg (vs := [.int .i64 c_0.Kind, .int .i64 c_0.Amount]) (fun j v hv => SH.boxPart (us := [.int .i64 c_0.Kind, .int .i64 c_0.Amount]) (SH.front 0 hS9) 0 rfl j v hv) rfl rfl rfl Tryd.underlying25 rfl (info25).1 (info25).2.1) rfl rfl rfl ?_
  obtain ⟨x12, hx13, hm⟩ := bindE hm
  refine WL.call 22 #[.agg #[.int .i64 c_0.Kind, .int .i64 c_0.Amount]] rfl rfl (by kernel_rfl) (c_22 n c_0 w3 hx13 ) ?_
  rintro _ w14 ⟨rfl, hE15⟩
  refine ⟨_, rfl, ?_⟩
  have hb17 : Ext w w14 := Ext.trans hb7 hE15
  have hL18 : w.heap.size ≤ w14.heap.size := Nat.le_trans hL8 hE15.size
  have hS19 : SH w14 w.heap.size [aBox 25 b2 [.int .i64 c_0.Kind, .int .i64 c_0.Amount]] := SH.ext hS9 hE15
  refine WL.runk 2 [1, 3] [(1, .pointer (some ⟨b2, 0, none⟩)), (3, .bool (!x12))] (by kernel_rfl) ?_
  refine WL.nil ?_
  refine WQ.then_normal (hK11 _ _ _ ?_)
  refine WP.cond (!x12) rfl rfl (fun hc20 => ?_) (fun hc20 => ?_)
  · have hm := iteT hm hc20
    refine WP.seq (fun K21 hK21 => ?_)
    refine WP.region ?_
    refine WL.runk 1 [2] [(2, .string (bs []))] (by kernel_rfl) ?_
    refine WL.nil ?_
    refine WQ.then_normal (hK21 _ _ _ ?_)
    refine WP.ret ?_
    refine WQ.block_ret ?_
    refine WQ.then_ret ?_
    obtain rfl := Option.some.inj hm
    exact WQ.ret1 _ rfl rfl ⟨rfl, hb17⟩
  have hm := iteF hm hc20
  refine WP.seq (fun K22 hK22 => ?_)
  refine WP.region ?_
  refine WL.runk 1 [1, 8] [(1, .pointer (some ⟨b2, 0, none⟩)), (8, .pointer (some ⟨b2, 1, none⟩))] (by kernel_rfl) ?_
  refine WL.st (.int .i64 c_0.Amount) (ST.load (cell_ext (SH.boxAt (SH.front 0 hS19) 1 _ rfl)) rfl rfl Tryd.underlying2 rfl) rfl rfl rfl ?_
  refine WL.runk 2 [1, 7] [(1, .pointer (some ⟨b2, 0, none⟩)), (7, .bool (decide (c_0.Amount > 0)))] (by kernel_rfl) ?_
  refine WL.nil ?_
  refine WQ.then_normal (hK22 _ _ _ ?_)
  refine WP.cond (decide (c_0.Amount > 0)) rfl rfl (fun hc23 => ?_) (fun hc23 => ?_)
  · have hm := iteT hm hc23
    refine WP.seq (fun K24 hK24 => ?_)
    refine WP.quiet (by kernel_rfl) (by kernel_rfl) ?_
    refine QL.step1v 11 (.pointer (some ⟨b2, 0, none⟩)) rfl (fun _ => by kernel_rfl) ?_
    refine QL.subk [1, 11] [(1, .pointer (some ⟨b2, 0, none⟩)), (11, .pointer (some ⟨b2, 0, none⟩))] (by kernel_rfl) ?_
    refine QL.st (.int .i64 c_0.Kind) (ST.load (cell_ext (SH.boxAt (SH.front 0 hS19) 0 _ rfl)) rfl rfl Tryd.underlying2 rfl) rfl rfl rfl ?_
    obtain ⟨x25, hx26, hm⟩ := bindE hm
    refine QL.st (.pointer (some (at_ (some ⟨0, 0, none⟩) (Int.toNat c_0.Kind * 1)))) (ST.indexG (xs := v_changeNames) hx26 rfl rfl rfl Tryd.underlying46 rfl (info9).1 (info9).2.1) rfl rfl rfl ?_
    refine QL.st (.string (bs x25)) (ST.load (cell_ext (Rd.flat (F := fStr) (Rd.below (GL.v_changeNames hG rfl) hb17) hx26 0 rfl)) rfl rfl Tryd.underlying9 rfl) rfl rfl rfl ?_
    obtain ⟨x27, hx28, hm⟩ := bindE hm
    refine QL.st (.string (bs x27)) (ST.cat hx28 rfl rfl rfl) rfl rfl rfl ?_
    refine QL.step1v 16 (.pointer (some ⟨b2, 1, none⟩)) rfl (fun _ => by kernel_rfl) ?_
    refine QL.subk [15, 16] [(15, .string (bs x27)), (16, .pointer (some ⟨b2, 1, none⟩))] (by kernel_rfl) ?_
    refine QL.st (.int .i64 c_0.Amount) (ST.load (cell_ext (SH.boxAt (SH.front 0 hS19) 1 _ rfl)) rfl rfl Tryd.underlying2 rfl) rfl rfl rfl ?_
    obtain ⟨x29, hx30, hm⟩ := bindE hm
    refine QL.call 23 #[.int .i64 c_0.Amount] (.string (bs x29)) (fun _ => by kernel_rfl) (fun w31 hE32 => c_23 n c_0.Amount w31 hx30 (GL.below (GL.below (GL.low (j := 2) hG rfl) hb17) hE32)) rfl rfl rfl ?_
    obtain ⟨x33, hx34, hm⟩ := bindE hm
    refine QL.st (.string (bs x33)) (ST.cat hx34 rfl rfl rfl) rfl rfl rfl ?_
    refine QL.step1v 2 (.string (bs x33)) rfl (fun _ => by kernel_rfl) ?_
    refine QL.subk [2] [(2, .string (bs x33))] (by kernel_rfl) ?_
    refine QL.nil ?_
    intro w35 hE36
    have hb37 : Ext w w35 := Ext.trans hb17 hE36
    have hL38 : w.heap.size ≤ w35.heap.size := Nat.le_trans hL18 hE36.size
    have hS39 : SH w35 w.heap.size [aBox 25 b2 [.int .i64 c_0.Kind, .int .i64 c_0.Amount]] := SH.ext hS19 hE36
    refine WQ.then_normal (hK24 _ _ _ ?_)
    refine WP.ret ?_
    refine WQ.block_ret ?_
    refine WQ.then_ret ?_
    obtain rfl := Option.some.inj hm
    exact WQ.ret1 _ rfl rfl ⟨rfl, hb37⟩
  have hm := iteF hm hc23
  refine WP.skip ?_
  refine WQ.block_normal ?_
  refine WQ.then_normal (hK10 _ _ _ ?_)
  refine WP.seq (fun K40 hK40 => ?_)
  refine WP.quiet (by kernel_rfl) (by kernel_rfl) ?_
  refine QL.step1v 20 (.pointer (some ⟨b2, 0, none⟩)) rfl (fun _ => by kernel_rfl) ?_
  refine QL.subk [1, 20] [(1, .pointer (some ⟨b2, 0, none⟩)), (20, .pointer (some ⟨b2, 0, none⟩))] (by kernel_rfl) ?_
  refine QL.st (.int .i64 c_0.Kind) (ST.load (cell_ext (SH.boxAt (SH.front 0 hS19) 0 _ rfl)) rfl rfl Tryd.underlying2 rfl) rfl rfl rfl ?_
  obtain ⟨x41, hx42, hm⟩ := bindE hm
  refine QL.st (.pointer (some (at_ (some ⟨0, 0, none⟩) (Int.toNat c_0.Kind * 1)))) (ST.indexG (xs := v_changeNames) hx42 rfl rfl rfl Tryd.underlying46 rfl (info9).1 (info9).2.1) rfl rfl rfl ?_
  refine QL.st (.string (bs x41)) (ST.load (cell_ext (Rd.flat (F := fStr) (Rd.below (GL.v_changeNames hG rfl) hb17) hx42 0 rfl)) rfl rfl Tryd.underlying9 rfl) rfl rfl rfl ?_
  obtain ⟨x43, hx44, hm⟩ := bindE hm
  refine QL.st (.string (bs x43)) (ST.cat hx44 rfl rfl rfl) rfl rfl rfl ?_
  refine QL.step1v 25 (.pointer (some ⟨b2, 1, none⟩)) rfl (fun _ => by kernel_rfl) ?_
  refine QL.subk [24, 25] [(24, .string (bs x43)), (25, .pointer (some ⟨b2, 1, none⟩))] (by kernel_rfl) ?_
  refine QL.st (.int .i64 c_0.Amount) (ST.load (cell_ext (SH.boxAt (SH.front 0 hS19) 1 _ rfl)) rfl rfl Tryd.underlying2 rfl) rfl rfl rfl ?_
  obtain ⟨x45, hx46, hm⟩ := bindE hm
  refine QL.call 23 #[.int .i64 c_0.Amount] (.string (bs x45)) (fun _ => by kernel_rfl) (fun w47 hE48 => c_23 n c_0.Amount w47 hx46 (GL.below (GL.below (GL.low (j := 2) hG rfl) hb17) hE48)) rfl rfl rfl ?_
  obtain ⟨x49, hx50, hm⟩ := bindE hm
  refine QL.st (.string (bs x49)) (ST.cat hx50 rfl rfl rfl) rfl rfl rfl ?_
  refine QL.step1v 2 (.string (bs x49)) rfl (fun _ => by kernel_rfl) ?_
  refine QL.subk [2] [(2, .string (bs x49))] (by kernel_rfl) ?_
  refine QL.nil ?_
  intro w51 hE52
  have hb53 : Ext w w51 := Ext.trans hb17 hE52
  have hL54 : w.heap.size ≤ w51.heap.size := Nat.le_trans hL18 hE52.size
  have hS55 : SH w51 w.heap.size [aBox 25 b2 [.int .i64 c_0.Kind, .int .i64 c_0.Amount]] := SH.ext hS19 hE52
  refine WQ.then_normal (hK40 _ _ _ ?_)
  refine WP.ret ?_
  obtain rfl := Option.some.inj hm
  exact WQ.ret1 _ rfl rfl ⟨rfl, hb53⟩

theorem c_24 (n : Nat) (s_0 : List UInt8) (by_1 : Int) (w : World) {r : List (List UInt8)} (hm : m_spec_l01Split n s_0 by_1 = some r)  :
    CallV Tryd.prog 24 #[.string (bs s_0), .int .u8 by_1] w (fun v w' => ∃ (ra0 : Option Addr) (rc0 : Nat), v = .slice ra0 r.length rc0 ∧ Ext w w' ∧ SH w' w.heap.size [aOwn fStr 9 ra0 rc0 r]) := by
  unfold m_spec_l01Split at hm
  refine CallV.enter Tryd.func24 rfl (by kernel_rfl) Tryd.ntmps24 (env := [(0, .string (bs s_0)), (1, .int .u8 by_1)]) ⟨rfl, rfl, trivial⟩ ?_
  refine WP.seq (fun K1 hK1 => ?_)
  refine WP.region ?_
  refine WL.runk 1 [0, 1] [(0, .string (bs s_0)), (1, .int .u8 by_1)] (by kernel_rfl) ?_
  refine WL.nil ?_
  refine WQ.then_normal (hK1 _ _ _ ?_)
  refine WP.seq (fun K2 hK2 => ?_)
  refine WP.region ?_
  refine WL.row fStr 9 ([] : List (List UInt8)) 0 #[] 8 (by kernel_rfl) rfl rfl rfl rfl rfl rfl rfl ?_
  intro a3 c4 w5 hE6 hR7
  have hb9 : Ext w w5 := Ext.trans (Ext.refl w) hE6
  have hL10 : w.heap.size ≤ w5.heap.size := Nat.le_trans (Nat.le_refl _) hE6.size
  have hS11 : SH w5 w.heap.size [aOwn fStr 9 a3 c4 ([] : List (List UInt8))] := SH.add (SH.nil _ _) hE6 (Nat.le_refl _) hR7
  refine WL.runk 1 [0, 1, 5] [(0, .string (bs s_0)), (1, .int .u8 by_1), (5, .slice a3 (([] : List (List UInt8)).length) c4)] (by kernel_rfl) ?_
  refine WL.nil ?_
  refine WQ.then_normal (hK2 _ _ _ ?_)
  refine WP.seq (fun K12 hK12 => ?_)
  refine WP.region ?_
  refine WL.runk 1 [0, 1, 5, 6] [(0, .string (bs s_0)), (1, .int .u8 by_1), (5, .slice a3 (([] : List (List UInt8)).length) c4), (6, .int .i64 0)] (by kernel_rfl) ?_
  refine WL.nil ?_
  refine WQ.then_normal (hK12 _ _ _ ?_)
  refine WP.seq (fun K13 hK13 => ?_)
  refine WP.seq (fun K14 hK14 => ?_)
  refine WP.region ?_
  refine WL.runk 1 [0, 1, 5, 6, 7] [(0, .string (bs s_0)), (1, .int .u8 by_1), (5, .slice a3 (([] : List (List UInt8)).length) c4), (6, .int .i64 0), (7, .int .i64 0)] (by kernel_rfl) ?_
  refine WL.nil ?_
  refine WQ.then_normal (hK14 _ _ _ ?_)
  refine WP.block ?_
  obtain ⟨t29, ht30, hm⟩ := bindE hm
  have hmo24 := hm; clear hm
  refine WP.sub [(0, .string (bs s_0)), (1, .int .u8 by_1), (5, .slice a3 (([] : List (List UInt8)).length) c4), (6, .int .i64 0), (7, .int .i64 0)] ⟨rfl, rfl, rfl, rfl, rfl, trivial⟩ ?_
  refine WP.loop (fun n' env' w' => ∃ (st15 : List (List UInt8) × Int × Int) (a16 : Option Addr) (c17 : Nat), env' = [(0, .string (bs s_0)), (1, .int .u8 by_1), (5, .slice a16 st15.1.length c17), (6, .int .i64 st15.2.1), (7, .int .i64 st15.2.2)] ∧ Ext w w' ∧ w.heap.size ≤ w'.heap.size ∧ SH w' w.heap.size [aOwn fStr 9 a16 c17 st15.1] ∧ loopN (m_spec_l01Split_l1 n s_0 by_1) n' st15 = some t29) n ⟨(([] : List (List UInt8)), 0, 0), _, _, rfl, hb9, hL10, hS11, ht30⟩ ?_
  rintro n26 _ w19 ⟨st15, a16, c17, rfl, hb20, hL21, hS22, hl23⟩ K25 hK25
  obtain ⟨n27, s28, rfl, hm, hl23⟩ := loopN_some hl23
  unfold m_spec_l01Split_l1 at hm
  refine WP.seq (fun K31 hK31 => ?_)
  refine WP.seq (fun K32 hK32 => ?_)
  refine WP.region ?_
  refine WL.runk 4 [0, 1, 5, 6, 7, 12] [(0, .string (bs s_0)), (1, .int .u8 by_1), (5, .slice a16 st15.1.length c17), (6, .int .i64 st15.2.1), (7, .int .i64 st15.2.2), (12, .bool (decide (st15.2.2 < (s_0.length : Int))))] (by kernel_rfl) ?_
  refine WL.nil ?_
  refine WQ.then_normal (hK32 _ _ _ ?_)
  refine WP.cond (decide (st15.2.2 < (s_0.length : Int))) rfl rfl (fun hc33 => ?_) (fun hc33 => ?_)
  rotate_left
  · have hm := iteF hm hc33
    refine WP.exit ?_
    refine WQ.then_exit ?_
    refine WQ.then_exit ?_
    refine WQ.block_here ?_
    obtain rfl := Option.some.inj hm
    obtain rfl := afterN_done hl23
    have hm := hmo24
    refine WQ.then_normal (hK13 _ _ _ ?_)
    refine WP.seq (fun K90 hK90 => ?_)
    refine WP.region ?_
    refine WL.runk 3 [29, 30, 31] [(29, .slice a16 st15.1.length c17), (30, .string (bs s_0)), (31, .int .i64 st15.2.1)] (by kernel_rfl) ?_
    obtain ⟨x91, hx92, hm⟩ := bindE hm
    refine WL.st (.string (bs x91)) (ST.ssub hx92 rfl rfl Tryd.underlying9 ⟨_, rfl⟩ rfl) rfl rfl rfl ?_
    refine WL.row fStr 9 ([x91] : List (List UInt8)) 1 #[.string (bs x91)] 33 (by kernel_rfl) rfl rfl rfl rfl rfl rfl rfl ?_
    intro a93 c94 w95 hE96 hR97
    have hb99 : Ext w w95 := Ext.trans hb20 hE96
    have hL100 : w.heap.size ≤ w95.heap.size := Nat.le_trans hL21 hE96.size
    have hS101 : SH w95 w.heap.size [aOwn fStr 9 a93 c94 ([x91] : List (List UInt8)), aOwn fStr 9 a16 c17 st15.1] := SH.add hS22 hE96 hL21 hR97
    obtain ⟨x102, hx103, hm⟩ := bindE hm
    refine WL.append (F := fStr) (xs := st15.1) (ys := ([x91] : List (List UInt8))) 34 (SH.front 1 hS101) hL100 (SH.rd (SH.front 0 hS101)) hx103 rfl rfl rfl Tryd.underlying48 (info9).1 (info9).2.2.1 (info9).2.1 (info9).2.2.2 rfl rfl rfl rfl rfl ?_
    intro a104 c105 w106 hB107 hS108
    have hb109 : Ext w w106 := Below.trans hb99 hB107
    have hL110 : w.heap.size ≤ w106.heap.size := Nat.le_trans hL100 hB107.size
    refine WL.runk 1 [4] [(4, .slice a104 x102.length c105)] (by kernel_rfl) ?_
    refine WL.nil ?_
    refine WQ.then_normal (hK90 _ _ _ ?_)
    refine WP.ret ?_
    obtain rfl := Option.some.inj hm
    exact WQ.ret1 _ rfl rfl ⟨_, _, rfl, hb109, (SH.take 1 hS108)⟩
  have hm := iteT hm hc33
  refine WP.skip ?_
  refine WQ.then_normal (hK31 _ _ _ ?_)
  refine WP.seq (fun K34 hK34 => ?_)
  refine WP.block ?_
  refine WP.seq (fun K35 hK35 => ?_)
  refine WP.region ?_
  refine WL.runk 2 [0, 1, 5, 6, 7, 15, 16] [(0, .string (bs s_0)), (1, .int .u8 by_1), (5, .slice a16 st15.1.length c17), (6, .int .i64 st15.2.1), (7, .int .i64 st15.2.2), (15, .string (bs s_0)), (16, .int .i64 st15.2.2)] (by kernel_rfl) ?_
  obtain ⟨x36, hx37, hm⟩ := bindE hm
  refine WL.st (.int .u8 (x36.toNat : Int)) (ST.sindex hx37 rfl rfl rfl Tryd.underlying9) rfl rfl rfl ?_
  refine WL.runk 2 [0, 1, 5, 6, 7, 19] [(0, .string (bs s_0)), (1, .int .u8 by_1), (5, .slice a16 st15.1.length c17), (6, .int .i64 st15.2.1), (7, .int .i64 st15.2.2), (19, .bool ((x36.toNat : Int) == by_1))] (by kernel_rfl) ?_
  refine WL.nil ?_
  refine WQ.then_normal (hK35 _ _ _ ?_)
  obtain ⟨x60, hx61, hm⟩ := bindE hm
  refine WP.cut (fun env' w' => ∃ (a62 : Option Addr) (c63 : Nat), env' = [(0, .string (bs s_0)), (1, .int .u8 by_1), (5, .slice a62 x60.1.length c63), (6, .int .i64 x60.2), (7, .int .i64 st15.2.2)] ∧ Ext w w' ∧ w.heap.size ≤ w'.heap.size ∧ SH w' w.heap.size [aOwn fStr 9 a62 c63 x60.1]) ?_ ?_
  rotate_left
  · clear hx61
    rintro _ w86 ⟨a62, c63, rfl, hb87, hL88, hS89⟩
    refine WQ.block_normal ?_
    refine WQ.then_normal (hK34 _ _ _ ?_)
    refine WP.region ?_
    refine WL.runk 3 [0, 1, 5, 6, 7] [(0, .string (bs s_0)), (1, .int .u8 by_1), (5, .slice a62 x60.1.length c63), (6, .int .i64 x60.2), (7, .int .i64 (wI64 (st15.2.2 + 1)))] (by kernel_rfl) ?_
    refine WL.nil ?_
    obtain rfl := Option.some.inj hm
    exact WQ.round hK25 ⟨(x60.1, x60.2, (wI64 (st15.2.2 + 1))), _, _, rfl, hb87, hL88, hS89, hl23⟩ (Nat.lt_succ_self _) ⟨rfl, rfl, rfl, rfl, rfl, trivial⟩
  have hm := hx61; clear hx61
  refine WP.cond ((x36.toNat : Int) == by_1) rfl rfl (fun hc38 => ?_) (fun hc38 => ?_)
  rotate_left
  · have hm := iteF hm hc38
    refine WP.skip ?_
    obtain rfl := Option.some.inj hm
    exact WQ.post' ⟨_, _, rfl, hb20, hL21, hS22⟩ ⟨rfl, rfl, rfl, rfl, rfl, trivial⟩
  have hm := iteT hm hc38
  refine WP.seq (fun K65 hK65 => ?_)
  refine WP.region ?_
  refine WL.runk 4 [0, 1, 7, 20, 21, 22, 23] [(0, .string (bs s_0)), (1, .int .u8 by_1), (7, .int .i64 st15.2.2), (20, .slice a16 st15.1.length c17), (21, .string (bs s_0)), (22, .int .i64 st15.2.1), (23, .int .i64 st15.2.2)] (by kernel_rfl) ?_
  obtain ⟨x66, hx67, hm⟩ := bindE hm
  refine WL.st (.string (bs x66)) (ST.ssub hx67 rfl rfl Tryd.underlying9 ⟨_, rfl⟩ ⟨_, rfl⟩) rfl rfl rfl ?_
  refine WL.row fStr 9 ([x66] : List (List UInt8)) 1 #[.string (bs x66)] 25 (by kernel_rfl) rfl rfl rfl rfl rfl rfl rfl ?_
  intro a68 c69 w70 hE71 hR72
  have hb74 : Ext w w70 := Ext.trans hb20 hE71
  have hL75 : w.heap.size ≤ w70.heap.size := Nat.le_trans hL21 hE71.size
  have hS76 : SH w70 w.heap.size [aOwn fStr 9 a68 c69 ([x66] : List (List UInt8)), aOwn fStr 9 a16 c17 st15.1] := SH.add hS22 hE71 hL21 hR72
  obtain ⟨x77, hx78, hm⟩ := bindE hm
  refine WL.append (F := fStr) (xs := st15.1) (ys := ([x66] : List (List UInt8))) 26 (SH.front 1 hS76) hL75 (SH.rd (SH.front 0 hS76)) hx78 rfl rfl rfl Tryd.underlying48 (info9).1 (info9).2.2.1 (info9).2.1 (info9).2.2.2 rfl rfl rfl rfl rfl ?_
  intro a79 c80 w81 hB82 hS83
  have hb84 : Ext w w81 := Below.trans hb74 hB82
  have hL85 : w.heap.size ≤ w81.heap.size := Nat.le_trans hL75 hB82.size
  refine WL.runk 1 [0, 1, 5, 7] [(0, .string (bs s_0)), (1, .int .u8 by_1), (7, .int .i64 st15.2.2), (5, .slice a79 x77.length c80)] (by kernel_rfl) ?_
  refine WL.nil ?_
  refine WQ.then_normal (hK65 _ _ _ ?_)
  refine WP.region ?_
  refine WL.runk 3 [0, 1, 5, 6, 7] [(0, .string (bs s_0)), (1, .int .u8 by_1), (7, .int .i64 st15.2.2), (5, .slice a79 x77.length c80), (6, .int .i64 (wI64 (st15.2.2 + 1)))] (by kernel_rfl) ?_
  refine WL.nil ?_
  obtain rfl := Option.some.inj hm
  exact WQ.post' ⟨_, _, rfl, hb84, hL85, (SH.take 1 hS83)⟩ ⟨rfl, rfl, rfl, rfl, rfl, trivial⟩

theorem c_48 (n : Nat) (c_0 : Int) (w : World) {r : Bool} (hm : m_spec_l01Digit n c_0 = some r)  :
    CallV Tryd.prog 48 #[.int .u8 c_0] w (fun v w' => v = .bool r ∧ Ext w w') := by
  unfold m_spec_l01Digit at hm
  refine CallV.enter Tryd.func48 rfl (by kernel_rfl) Tryd.ntmps48 (env := [(0, .int .u8 c_0)]) ⟨rfl, trivial⟩ ?_
  refine WP.seq (fun K1 hK1 => ?_)
  refine WP.region ?_
  refine WL.runk 1 [0] [(0, .int .u8 c_0)] (by kernel_rfl) ?_
  refine WL.nil ?_
  refine WQ.then_normal (hK1 _ _ _ ?_)
  refine WP.seq (fun K2 hK2 => ?_)
  obtain ⟨x4, hx5, hm⟩ := bindE hm
  refine WP.cut (fun env' w' => env' = [(2, .bool x4)] ∧ Ext w w' ∧ w.heap.size ≤ w'.heap.size ∧ SH w' w.heap.size []) ?_ ?_
  rotate_left
  · clear hx5
    rintro _ w7 ⟨rfl, hb8, hL9, hS10⟩
    refine WQ.then_normal (hK2 _ _ _ ?_)
    refine WP.ret ?_
    obtain rfl := Option.some.inj hm
    exact WQ.ret1 _ rfl rfl ⟨rfl, hb8⟩
  have hm := hx5; clear hx5
  refine WP.region ?_
  refine WL.runk 3 [0, 5] [(0, .int .u8 c_0), (5, .bool (decide (c_0 ≥ 48)))] (by kernel_rfl) ?_
  refine WL.case (decide (c_0 ≥ 48)) [5] ⟨rfl, trivial⟩ (fun hc6 => ?_) (fun hc6 => ?_)
  · have hm := iteT hm hc6
    refine WL.runk 4 [2] [(2, .bool (decide (c_0 ≤ 57)))] (by kernel_rfl) ?_
    refine WL.nil ?_
    obtain rfl := Option.some.inj hm
    exact WQ.post' ⟨rfl, (Ext.refl w), (Nat.le_refl _), (SH.nil _ _)⟩ ⟨rfl, trivial⟩
  have hm := iteF hm hc6
  refine WL.runk 4 [2] [(2, .bool false)] (by kernel_rfl) ?_
  refine WL.nil ?_
  obtain rfl := Option.some.inj hm
  exact WQ.post' ⟨rfl, (Ext.refl w), (Nat.le_refl _), (SH.nil _ _)⟩ ⟨rfl, trivial⟩

theorem c_25 (n : Nat) (s_0 : List UInt8) (w : World) {r : Int × Bool} (hm : m_spec_l01Number n s_0 = some r)  :
    CallV Tryd.prog 25 #[.string (bs s_0)] w (fun v w' => v = .tuple #[.int .i64 r.1, .bool r.2] ∧ Ext w w') := by
  unfold m_spec_l01Number at hm
  refine CallV.enter Tryd.func25 rfl (by kernel_rfl) Tryd.ntmps25 (env := [(0, .string (bs s_0))]) ⟨rfl, trivial⟩ ?_
  refine WP.seq (fun K1 hK1 => ?_)
  refine WP.region ?_
  refine WL.runk 2 [0] [(0, .string (bs s_0))] (by kernel_rfl) ?_
  refine WL.nil ?_
  refine WQ.then_normal (hK1 _ _ _ ?_)
  refine WP.seq (fun K2 hK2 => ?_)
  refine WP.region ?_
  refine WL.runk 2 [0, 4] [(0, .string (bs s_0)), (4, .string (bs s_0))] (by kernel_rfl) ?_
  refine WL.nil ?_
  refine WQ.then_normal (hK2 _ _ _ ?_)
  refine WP.seq (fun K3 hK3 => ?_)
  refine WP.seq (fun K4 hK4 => ?_)
  obtain ⟨x8, hx9, hm⟩ := bindE hm
  refine WP.cut (fun env' w' => env' = [(0, .string (bs s_0)), (4, .string (bs s_0)), (14, .bool x8)] ∧ Ext w w' ∧ w.heap.size ≤ w'.heap.size ∧ SH w' w.heap.size []) ?_ ?_
  · have hm := hx9; clear hx9
    refine WP.region ?_
    refine WL.runk 1 [0, 4, 8] [(0, .string (bs s_0)), (4, .string (bs s_0)), (8, .string (bs s_0))] (by kernel_rfl) ?_
    refine WL.st (.bool (!(s_0 == []))) (ST.strne (x := s_0) (y := []) rfl rfl rfl) rfl rfl rfl ?_
    refine WL.runk 1 [0, 4, 10] [(0, .string (bs s_0)), (4, .string (bs s_0)), (10, .bool (!(s_0 == [])))] (by kernel_rfl) ?_
    refine WL.case (!(s_0 == [])) [10] ⟨rfl, trivial⟩ (fun hc10 => ?_) (fun hc10 => ?_)
    rotate_left
    · have hm := iteF hm hc10
      refine WL.runk 4 [0, 4, 14] [(0, .string (bs s_0)), (4, .string (bs s_0)), (14, .bool false)] (by kernel_rfl) ?_
      refine WL.nil ?_
      obtain rfl := Option.some.inj hm
      exact WQ.post' ⟨rfl, (Ext.refl w), (Nat.le_refl _), (SH.nil _ _)⟩ ⟨rfl, rfl, rfl, trivial⟩
    have hm := iteT hm hc10
    refine WL.runk 1 [0, 4, 10, 11] [(0, .string (bs s_0)), (4, .string (bs s_0)), (10, .bool true), (11, .string (bs s_0))] (by kernel_rfl) ?_
    obtain ⟨x11, hx12, hm⟩ := bindE hm
    refine WL.st (.int .u8 (x11.toNat : Int)) (ST.sindex hx12 rfl rfl rfl Tryd.underlying9) rfl rfl rfl ?_
    refine WL.runk 2 [0, 4, 14] [(0, .string (bs s_0)), (4, .string (bs s_0)), (14, .bool ((x11.toNat : Int) == 45))] (by kernel_rfl) ?_
    refine WL.nil ?_
    obtain rfl := Option.some.inj hm
    exact WQ.post' ⟨rfl, (Ext.refl w), (Nat.le_refl _), (SH.nil _ _)⟩ ⟨rfl, rfl, rfl, trivial⟩
  clear hx9
  rintro _ w13 ⟨rfl, hb14, hL15, hS16⟩
  refine WQ.then_normal (hK4 _ _ _ ?_)
  obtain ⟨x20, hx21, hm⟩ := bindE hm
  refine WP.cut (fun env' w' => env' = [(0, .string (bs s_0)), (4, .string (bs x20))] ∧ Ext w w' ∧ w.heap.size ≤ w'.heap.size ∧ SH w' w.heap.size []) ?_ ?_
  · have hm := hx21; clear hx21
    refine WP.cond x8 rfl rfl (fun hc17 => ?_) (fun hc17 => ?_)
    rotate_left
    · have hm := iteF hm hc17
      refine WP.skip ?_
      obtain rfl := Option.some.inj hm
      exact WQ.post' ⟨rfl, hb14, hL15, hS16⟩ ⟨rfl, rfl, trivial⟩
    have hm := iteT hm hc17
    refine WP.region ?_
    refine WL.runk 1 [0, 15] [(0, .string (bs s_0)), (15, .string (bs s_0))] (by kernel_rfl) ?_
    obtain ⟨x22, hx23, hm⟩ := bindE hm
    refine WL.st (.string (bs x22)) (ST.ssub hx23 rfl rfl Tryd.underlying9 ⟨_, rfl⟩ rfl) rfl rfl rfl ?_
    refine WL.runk 1 [0, 4] [(0, .string (bs s_0)), (4, .string (bs x22))] (by kernel_rfl) ?_
    refine WL.nil ?_
    obtain rfl := Option.some.inj hm
    exact WQ.post' ⟨rfl, hb14, hL15, hS16⟩ ⟨rfl, rfl, trivial⟩
  clear hx21
  rintro _ w24 ⟨rfl, hb25, hL26, hS27⟩
  refine WQ.then_normal (hK3 _ _ _ ?_)
  refine WP.seq (fun K28 hK28 => ?_)
  refine WP.seq (fun K29 hK29 => ?_)
  obtain ⟨x31, hx32, hm⟩ := bindE hm
  refine WP.cut (fun env' w' => env' = [(0, .string (bs s_0)), (4, .string (bs x20)), (24, .bool x31)] ∧ Ext w w' ∧ w.heap.size ≤ w'.heap.size ∧ SH w' w.heap.size []) ?_ ?_
  · have hm := hx32; clear hx32
    refine WP.region ?_
    refine WL.runk 4 [0, 4, 20] [(0, .string (bs s_0)), (4, .string (bs x20)), (20, .bool (decide ((x20.length : Int) < 1)))] (by kernel_rfl) ?_
    refine WL.case (decide ((x20.length : Int) < 1)) [20] ⟨rfl, trivial⟩ (fun hc33 => ?_) (fun hc33 => ?_)
    · have hm := iteT hm hc33
      refine WL.runk 4 [0, 4, 24] [(0, .string (bs s_0)), (4, .string (bs x20)), (24, .bool true)] (by kernel_rfl) ?_
      refine WL.nil ?_
      obtain rfl := Option.some.inj hm
      exact WQ.post' ⟨rfl, hb25, hL26, hS27⟩ ⟨rfl, rfl, rfl, trivial⟩
    have hm := iteF hm hc33
    refine WL.runk 4 [0, 4, 24] [(0, .string (bs s_0)), (4, .string (bs x20)), (24, .bool (decide ((x20.length : Int) > 18)))] (by kernel_rfl) ?_
    refine WL.nil ?_
    obtain rfl := Option.some.inj hm
    exact WQ.post' ⟨rfl, hb25, hL26, hS27⟩ ⟨rfl, rfl, rfl, trivial⟩
  clear hx32
  rintro _ w34 ⟨rfl, hb35, hL36, hS37⟩
  refine WQ.then_normal (hK29 _ _ _ ?_)
  refine WP.cond x31 rfl rfl (fun hc38 => ?_) (fun hc38 => ?_)
  · have hm := iteT hm hc38
    refine WP.seq (fun K39 hK39 => ?_)
    refine WP.region ?_
    refine WL.runk 2 [2, 3] [(2, .int .i64 0), (3, .bool false)] (by kernel_rfl) ?_
    refine WL.nil ?_
    refine WQ.then_normal (hK39 _ _ _ ?_)
    refine WP.ret ?_
    refine WQ.then_ret ?_
    obtain rfl := Option.some.inj hm
    exact WQ.ret2 _ _ rfl rfl rfl ⟨rfl, hb35⟩
  have hm := iteF hm hc38
  refine WP.skip ?_
  refine WQ.then_normal (hK28 _ _ _ ?_)
  refine WP.seq (fun K40 hK40 => ?_)
  refine WP.region ?_
  refine WL.runk 1 [0, 4, 5] [(0, .string (bs s_0)), (4, .string (bs x20)), (5, .int .i64 0)] (by kernel_rfl) ?_
  refine WL.nil ?_
  refine WQ.then_normal (hK40 _ _ _ ?_)
  refine WP.seq (fun K41 hK41 => ?_)
  refine WP.seq (fun K42 hK42 => ?_)
  refine WP.region ?_
  refine WL.runk 1 [0, 4, 5, 6] [(0, .string (bs s_0)), (4, .string (bs x20)), (5, .int .i64 0), (6, .int .i64 0)] (by kernel_rfl) ?_
  refine WL.nil ?_
  refine WQ.then_normal (hK42 _ _ _ ?_)
  refine WP.block ?_
  obtain ⟨t54, ht55, hm⟩ := bindE hm
  have hmo49 := hm; clear hm
  refine WP.sub [(0, .string (bs s_0)), (4, .string (bs x20)), (5, .int .i64 0), (6, .int .i64 0)] ⟨rfl, rfl, rfl, rfl, trivial⟩ ?_
  refine WP.loop (fun n' env' w' => ∃ (st43 : Int × Int) , env' = [(0, .string (bs s_0)), (4, .string (bs x20)), (5, .int .i64 st43.1), (6, .int .i64 st43.2)] ∧ Ext w w' ∧ w.heap.size ≤ w'.heap.size ∧ SH w' w.heap.size [] ∧ loopN (m_spec_l01Number_l1 n x20) n' st43 = some t54) n ⟨(0, 0), rfl, hb35, hL36, hS37, ht55⟩ ?_
  rintro n51 _ w44 ⟨st43, rfl, hb45, hL46, hS47, hl48⟩ K50 hK50
  obtain ⟨n52, s53, rfl, hm, hl48⟩ := loopN_some hl48
  unfold m_spec_l01Number_l1 at hm
  refine WP.seq (fun K56 hK56 => ?_)
  refine WP.seq (fun K57 hK57 => ?_)
  refine WP.region ?_
  refine WL.runk 4 [0, 4, 5, 6, 28] [(0, .string (bs s_0)), (4, .string (bs x20)), (5, .int .i64 st43.1), (6, .int .i64 st43.2), (28, .bool (decide (st43.2 < (x20.length : Int))))] (by kernel_rfl) ?_
  refine WL.nil ?_
  refine WQ.then_normal (hK57 _ _ _ ?_)
  refine WP.cond (decide (st43.2 < (x20.length : Int))) rfl rfl (fun hc58 => ?_) (fun hc58 => ?_)
  · have hm := iteT hm hc58
    refine WP.skip ?_
    refine WQ.then_normal (hK56 _ _ _ ?_)
    refine WP.seq (fun K59 hK59 => ?_)
    refine WP.block ?_
    refine WP.seq (fun K60 hK60 => ?_)
    refine WP.seq (fun K61 hK61 => ?_)
    refine WP.region ?_
    refine WL.runk 2 [0, 4, 5, 6, 31, 32] [(0, .string (bs s_0)), (4, .string (bs x20)), (5, .int .i64 st43.1), (6, .int .i64 st43.2), (31, .string (bs x20)), (32, .int .i64 st43.2)] (by kernel_rfl) ?_
    obtain ⟨x62, hx63, hm⟩ := bindE hm
    refine WL.st (.int .u8 (x62.toNat : Int)) (ST.sindex hx63 rfl rfl rfl Tryd.underlying9) rfl rfl rfl ?_
    obtain ⟨x64, hx65, hm⟩ := bindE hm
    refine WL.call 48 #[.int .u8 (x62.toNat : Int)] rfl rfl (by kernel_rfl) (c_48 n (x62.toNat : Int) w44 hx65 ) ?_
    rintro _ w66 ⟨rfl, hE67⟩
    refine ⟨_, rfl, ?_⟩
    have hb69 : Ext w w66 := Ext.trans hb45 hE67
    have hL70 : w.heap.size ≤ w66.heap.size := Nat.le_trans hL46 hE67.size
    have hS71 : SH w66 w.heap.size [] := SH.ext hS47 hE67
    refine WL.runk 1 [0, 4, 5, 6, 35] [(0, .string (bs s_0)), (4, .string (bs x20)), (5, .int .i64 st43.1), (6, .int .i64 st43.2), (35, .bool (!x64))] (by kernel_rfl) ?_
    refine WL.nil ?_
    refine WQ.then_normal (hK61 _ _ _ ?_)
    refine WP.cond (!x64) rfl rfl (fun hc72 => ?_) (fun hc72 => ?_)
    rotate_left
    · have hm := iteF hm hc72
      refine WP.skip ?_
      refine WQ.then_normal (hK60 _ _ _ ?_)
      refine WP.region ?_
      refine WL.runk 4 [0, 4, 6, 37, 38, 39] [(0, .string (bs s_0)), (4, .string (bs x20)), (6, .int .i64 st43.2), (37, .int .i64 (wI64 (10 * st43.1))), (38, .string (bs x20)), (39, .int .i64 st43.2)] (by kernel_rfl) ?_
      obtain ⟨x74, hx75, hm⟩ := bindE hm
      refine WL.st (.int .u8 (x74.toNat : Int)) (ST.sindex hx75 rfl rfl rfl Tryd.underlying9) rfl rfl rfl ?_
      refine WL.runk 4 [0, 4, 5, 6] [(0, .string (bs s_0)), (4, .string (bs x20)), (6, .int .i64 st43.2), (5, .int .i64 (wI64 ((wI64 (10 * st43.1)) + (wI64 (IntKind.u8.wrap ((x74.toNat : Int) - 48))))))] (by kernel_rfl) ?_
      refine WL.nil ?_
      refine WQ.block_normal ?_
      refine WQ.then_normal (hK59 _ _ _ ?_)
      refine WP.region ?_
      refine WL.runk 3 [0, 4, 5, 6] [(0, .string (bs s_0)), (4, .string (bs x20)), (6, .int .i64 (wI64 (st43.2 + 1))), (5, .int .i64 (wI64 ((wI64 (10 * st43.1)) + (wI64 (IntKind.u8.wrap ((x74.toNat : Int) - 48))))))] (by kernel_rfl) ?_
      refine WL.nil ?_
      obtain rfl := Option.some.inj hm
      exact WQ.round hK50 ⟨((wI64 ((wI64 (10 * st43.1)) + (wI64 (IntKind.u8.wrap ((x74.toNat : Int) - 48))))), (wI64 (st43.2 + 1))), rfl, hb69, hL70, hS71, hl48⟩ (Nat.lt_succ_self _) ⟨rfl, rfl, rfl, rfl, trivial⟩
    have hm := iteT hm hc72
    refine WP.seq (fun K73 hK73 => ?_)
    refine WP.region ?_
    refine WL.runk 2 [2, 3] [(2, .int .i64 0), (3, .bool false)] (by kernel_rfl) ?_
    refine WL.nil ?_
    refine WQ.then_normal (hK73 _ _ _ ?_)
    refine WP.ret ?_
    refine WQ.then_ret ?_
    refine WQ.block_ret ?_
    refine WQ.then_ret ?_
    refine WQ.then_ret ?_
    refine WQ.block_ret ?_
    refine WQ.then_ret ?_
    obtain rfl := Option.some.inj hm
    obtain rfl := afterN_done hl48
    have hm := hmo49
    obtain rfl := Option.some.inj hm
    exact WQ.ret2 _ _ rfl rfl rfl ⟨rfl, hb69⟩
  have hm := iteF hm hc58
  refine WP.exit ?_
  refine WQ.then_exit ?_
  refine WQ.then_exit ?_
  refine WQ.block_here ?_
  obtain rfl := Option.some.inj hm
  obtain rfl := afterN_done hl48
  have hm := hmo49
  refine WQ.then_normal (hK41 _ _ _ ?_)
  refine WP.seq (fun K76 hK76 => ?_)
  refine WP.seq (fun K77 hK77 => ?_)
  refine WP.region ?_
  refine WL.runk 5 [0, 5, 48] [(0, .string (bs s_0)), (5, .int .i64 st43.1), (48, .bool (decide ((x20.length : Int) < (s_0.length : Int))))] (by kernel_rfl) ?_
  refine WL.nil ?_
  refine WQ.then_normal (hK77 _ _ _ ?_)
  obtain ⟨x79, hx80, hm⟩ := bindE hm
  refine WP.cut (fun env' w' => env' = [(0, .string (bs s_0)), (5, .int .i64 x79)] ∧ Ext w w' ∧ w.heap.size ≤ w'.heap.size ∧ SH w' w.heap.size []) ?_ ?_
  · have hm := hx80; clear hx80
    refine WP.cond (decide ((x20.length : Int) < (s_0.length : Int))) rfl rfl (fun hc78 => ?_) (fun hc78 => ?_)
    rotate_left
    · have hm := iteF hm hc78
      refine WP.skip ?_
      obtain rfl := Option.some.inj hm
      exact WQ.post' ⟨rfl, hb45, hL46, hS47⟩ ⟨rfl, rfl, trivial⟩
    have hm := iteT hm hc78
    refine WP.region ?_
    refine WL.runk 3 [0, 5] [(0, .string (bs s_0)), (5, .int .i64 (wI64 (0 - st43.1)))] (by kernel_rfl) ?_
    refine WL.nil ?_
    obtain rfl := Option.some.inj hm
    exact WQ.post' ⟨rfl, hb45, hL46, hS47⟩ ⟨rfl, rfl, trivial⟩
  clear hx80
  rintro _ w81 ⟨rfl, hb82, hL83, hS84⟩
  refine WQ.then_normal (hK76 _ _ _ ?_)
  refine WP.seq (fun K85 hK85 => ?_)
  refine WP.seq (fun K86 hK86 => ?_)
  refine WP.region ?_
  refine WL.runk 1 [0, 5, 51] [(0, .string (bs s_0)), (5, .int .i64 x79), (51, .int .i64 x79)] (by kernel_rfl) ?_
  obtain ⟨x87, hx88, hm⟩ := bindE hm
  refine WL.call 43 #[.int .i64 x79] rfl rfl (by kernel_rfl) (c_43 n x79 w81 hx88 ) ?_
  rintro _ w89 ⟨rfl, hE90⟩
  refine ⟨_, rfl, ?_⟩
  have hb92 : Ext w w89 := Ext.trans hb82 hE90
  have hL93 : w.heap.size ≤ w89.heap.size := Nat.le_trans hL83 hE90.size
  have hS94 : SH w89 w.heap.size [] := SH.ext hS84 hE90
  refine WL.runk 1 [5, 52, 53] [(5, .int .i64 x79), (52, .string (bs x87)), (53, .string (bs s_0))] (by kernel_rfl) ?_
  refine WL.st (.bool (!(x87 == s_0))) (ST.strne (x := x87) (y := s_0) rfl rfl rfl) rfl rfl rfl ?_
  refine WL.sub [(5, .int .i64 x79), (54, .bool (!(x87 == s_0)))] ⟨rfl, rfl, trivial⟩ ?_
  refine WL.nil ?_
  refine WQ.then_normal (hK86 _ _ _ ?_)
  refine WP.cond (!(x87 == s_0)) rfl rfl (fun hc95 => ?_) (fun hc95 => ?_)
  · have hm := iteT hm hc95
    refine WP.seq (fun K96 hK96 => ?_)
    refine WP.region ?_
    refine WL.runk 2 [2, 3] [(2, .int .i64 0), (3, .bool false)] (by kernel_rfl) ?_
    refine WL.nil ?_
    refine WQ.then_normal (hK96 _ _ _ ?_)
    refine WP.ret ?_
    refine WQ.then_ret ?_
    obtain rfl := Option.some.inj hm
    exact WQ.ret2 _ _ rfl rfl rfl ⟨rfl, hb92⟩
  have hm := iteF hm hc95
  refine WP.skip ?_
  refine WQ.then_normal (hK85 _ _ _ ?_)
  refine WP.seq (fun K97 hK97 => ?_)
  refine WP.region ?_
  refine WL.runk 3 [2, 3] [(2, .int .i64 x79), (3, .bool true)] (by kernel_rfl) ?_
  refine WL.nil ?_
  refine WQ.then_normal (hK97 _ _ _ ?_)
  refine WP.ret ?_
  obtain rfl := Option.some.inj hm
  exact WQ.ret2 _ _ rfl rfl rfl ⟨rfl, hb92⟩

theorem c_9 (n : Nat) (s_0 : List UInt8) (w : World) {r : SChange × Bool} (hm : m_spec_ReadChange n s_0 = some r)  :
    CallV Tryd.prog 9 #[.string (bs s_0)] w (fun v w' => v = .tuple #[.agg #[.int .i64 r.1.Kind, .int .i64 r.1.Amount], .bool r.2] ∧ Ext w w') := by
  unfold m_spec_ReadChange at hm
  refine CallV.enter Tryd.func9 rfl (by kernel_rfl) Tryd.ntmps9 (env := [(0, .string (bs s_0))]) ⟨rfl, trivial⟩ ?_
  refine WP.seq (fun K1 hK1 => ?_)
  refine WP.region ?_
  refine WL.box 25 [.int .i64 0, .int .i64 0] 2 (by kernel_rfl) rfl rfl rfl rfl ?_
  intro b2 w3 hE4 hR5
  have hb7 : Ext w w3 := Ext.trans (Ext.refl w) hE4
  have hL8 : w.heap.size ≤ w3.heap.size := Nat.le_trans (Nat.le_refl _) hE4.size
  have hS9 : SH w3 w.heap.size [aBox 25 b2 [.int .i64 0, .int .i64 0]] := SH.add (SH.nil _ _) hE4 (Nat.le_refl _) hR5
  refine WL.runk 1 [0, 2] [(0, .string (bs s_0)), (2, .pointer (some ⟨b2, 0, none⟩))] (by kernel_rfl) ?_
  refine WL.nil ?_
  refine WQ.then_normal (hK1 _ _ _ ?_)
  refine WP.seq (fun K10 hK10 => ?_)
  refine WP.region ?_
  refine WL.runk 1 [2, 10] [(2, .pointer (some ⟨b2, 0, none⟩)), (10, .string (bs s_0))] (by kernel_rfl) ?_
  obtain ⟨x11, hx12, hm⟩ := bindE hm
  refine WL.call 24 #[.string (bs s_0), .int .u8 32] rfl rfl (by kernel_rfl) (c_24 n s_0 32 w3 hx12 ) ?_
  rintro _ w16 ⟨a13, c14, rfl, hE17, hR18⟩
  refine ⟨_, rfl, ?_⟩
  have hb19 : Ext w w16 := Ext.trans hb7 hE17
  have hL20 : w.heap.size ≤ w16.heap.size := Nat.le_trans hL8 hE17.size
  have hS21 : SH w16 w.heap.size [aOwn fStr 9 a13 c14 x11, aBox 25 b2 [.int .i64 0, .int .i64 0]] := SH.add hS9 hE17 hL8 hR18
  refine WL.runk 1 [2, 4] [(2, .pointer (some ⟨b2, 0, none⟩)), (4, .slice a13 x11.length c14)] (by kernel_rfl) ?_
  refine WL.nil ?_
  refine WQ.then_normal (hK10 _ _ _ ?_)
  refine WP.seq (fun K22 hK22 => ?_)
  refine WP.seq (fun K23 hK23 => ?_)
  obtain ⟨x37, hx38, hm⟩ := bindE hm
  refine WP.cut (fun env' w' => env' = [(2, .pointer (some ⟨b2, 0, none⟩)), (4, .slice a13 x11.length c14), (35, .bool x37)] ∧ Ext w w' ∧ w.heap.size ≤ w'.heap.size ∧ SH w' w.heap.size [aOwn fStr 9 a13 c14 x11, aBox 25 b2 [.int .i64 0, .int .i64 0]]) ?_ ?_
  · have hm := hx38; clear hx38
    refine WP.region ?_
    refine WL.runk 4 [2, 4, 15] [(2, .pointer (some ⟨b2, 0, none⟩)), (4, .slice a13 x11.length c14), (15, .bool ((x11.length : Int) != 2))] (by kernel_rfl) ?_
    refine WL.case ((x11.length : Int) != 2) [15] ⟨rfl, trivial⟩ (fun hc39 => ?_) (fun hc39 => ?_)
    · have hm := iteT hm hc39
      refine WL.runk 20 [2, 4, 35] [(2, .pointer (some ⟨b2, 0, none⟩)), (4, .slice a13 x11.length c14), (35, .bool true)] (by kernel_rfl) ?_
      refine WL.nil ?_
      obtain rfl := Option.some.inj hm
      exact WQ.post' ⟨rfl, hb19, hL20, hS21⟩ ⟨rfl, rfl, rfl, trivial⟩
    have hm := iteF hm hc39
    refine WL.runk 1 [2, 4, 15, 16] [(2, .pointer (some ⟨b2, 0, none⟩)), (4, .slice a13 x11.length c14), (15, .bool false), (16, .slice a13 x11.length c14)] (by kernel_rfl) ?_
    obtain ⟨x40, hx41, hm⟩ := bindE hm
    refine WL.st (.pointer (some (at_ a13 (Int.toNat 1 * 1)))) (ST.index (T := fStr.ty) (xs := x11) (SH.rd (SH.front 0 hS21)) hx41 rfl rfl rfl Tryd.underlying48 (info9).1 (info9).2.1) rfl rfl rfl ?_
    refine WL.st (.string (bs x40)) (ST.load (cell_ext (Rd.flat (F := fStr) (SH.rd (SH.front 0 hS21)) hx41 0 rfl)) rfl rfl Tryd.underlying9 rfl) rfl rfl rfl ?_
    refine WL.runk 4 [2, 4, 22] [(2, .pointer (some ⟨b2, 0, none⟩)), (4, .slice a13 x11.length c14), (22, .bool (decide ((x40.length : Int) < 2)))] (by kernel_rfl) ?_
    refine WL.case (decide ((x40.length : Int) < 2)) [22] ⟨rfl, trivial⟩ (fun hc42 => ?_) (fun hc42 => ?_)
    · have hm := iteT hm hc42
      refine WL.runk 13 [2, 4, 35] [(2, .pointer (some ⟨b2, 0, none⟩)), (4, .slice a13 x11.length c14), (35, .bool true)] (by kernel_rfl) ?_
      refine WL.nil ?_
      obtain rfl := Option.some.inj hm
      exact WQ.post' ⟨rfl, hb19, hL20, hS21⟩ ⟨rfl, rfl, rfl, trivial⟩
    have hm := iteF hm hc42
    refine WL.runk 1 [2, 4, 22, 23] [(2, .pointer (some ⟨b2, 0, none⟩)), (4, .slice a13 x11.length c14), (22, .bool false), (23, .slice a13 x11.length c14)] (by kernel_rfl) ?_
    obtain ⟨x43, hx44, hm⟩ := bindE hm
    refine WL.st (.pointer (some (at_ a13 (Int.toNat 1 * 1)))) (ST.index (T := fStr.ty) (xs := x11) (SH.rd (SH.front 0 hS21)) hx44 rfl rfl rfl Tryd.underlying48 (info9).1 (info9).2.1) rfl rfl rfl ?_
    refine WL.st (.string (bs x43)) (ST.load (cell_ext (Rd.flat (F := fStr) (SH.rd (SH.front 0 hS21)) hx44 0 rfl)) rfl rfl Tryd.underlying9 rfl) rfl rfl rfl ?_
    obtain ⟨x45, hx46, hm⟩ := bindE hm
    refine WL.st (.int .u8 (x45.toNat : Int)) (ST.sindex hx46 rfl rfl rfl Tryd.underlying9) rfl rfl rfl ?_
    refine WL.runk 2 [2, 4, 22, 28] [(2, .pointer (some ⟨b2, 0, none⟩)), (4, .slice a13 x11.length c14), (22, .bool false), (28, .bool ((x45.toNat : Int) != 43))] (by kernel_rfl) ?_
    refine WL.case ((x45.toNat : Int) != 43) [28] ⟨rfl, trivial⟩ (fun hc47 => ?_) (fun hc47 => ?_)
    rotate_left
    · have hm := iteF hm hc47
      refine WL.runk 7 [2, 4, 35] [(2, .pointer (some ⟨b2, 0, none⟩)), (4, .slice a13 x11.length c14), (35, .bool false)] (by kernel_rfl) ?_
      refine WL.nil ?_
      obtain rfl := Option.some.inj hm
      exact WQ.post' ⟨rfl, hb19, hL20, hS21⟩ ⟨rfl, rfl, rfl, trivial⟩
    have hm := iteT hm hc47
    refine WL.runk 1 [2, 4, 22, 28, 29] [(2, .pointer (some ⟨b2, 0, none⟩)), (4, .slice a13 x11.length c14), (22, .bool false), (28, .bool true), (29, .slice a13 x11.length c14)] (by kernel_rfl) ?_
    obtain ⟨x48, hx49, hm⟩ := bindE hm
    refine WL.st (.pointer (some (at_ a13 (Int.toNat 1 * 1)))) (ST.index (T := fStr.ty) (xs := x11) (SH.rd (SH.front 0 hS21)) hx49 rfl rfl rfl Tryd.underlying48 (info9).1 (info9).2.1) rfl rfl rfl ?_
    refine WL.st (.string (bs x48)) (ST.load (cell_ext (Rd.flat (F := fStr) (SH.rd (SH.front 0 hS21)) hx49 0 rfl)) rfl rfl Tryd.underlying9 rfl) rfl rfl rfl ?_
    obtain ⟨x50, hx51, hm⟩ := bindE hm
    refine WL.st (.int .u8 (x50.toNat : Int)) (ST.sindex hx51 rfl rfl rfl Tryd.underlying9) rfl rfl rfl ?_
    refine WL.runk 3 [2, 4, 35] [(2, .pointer (some ⟨b2, 0, none⟩)), (4, .slice a13 x11.length c14), (35, .bool ((x50.toNat : Int) != 45))] (by kernel_rfl) ?_
    refine WL.nil ?_
    obtain rfl := Option.some.inj hm
    exact WQ.post' ⟨rfl, hb19, hL20, hS21⟩ ⟨rfl, rfl, rfl, trivial⟩
  clear hx38
  rintro _ w52 ⟨rfl, hb53, hL54, hS55⟩
  refine WQ.then_normal (hK23 _ _ _ ?_)
  refine WP.cond x37 rfl rfl (fun hc56 => ?_) (fun hc56 => ?_)
  · have hm := iteT hm hc56
    refine WP.seq (fun K57 hK57 => ?_)
    refine WP.region ?_
    refine WL.runk 1 [2, 36] [(2, .pointer (some ⟨b2, 0, none⟩)), (36, .agg #[.int .i64 0, .int .i64 0])] (by kernel_rfl) ?_
    refine WL.boxStore 0 [.int .i64 0, .int .i64 0] [.int .i64 0, .int .i64 0] (SH.front 1 hS55) hL54 rfl rfl rfl rfl rfl rfl rfl (info25).1 (info25).2.1 rfl rfl rfl ?_
    intro w58 hB59 hS60
    have hb61 : Ext w w58 := Below.trans hb53 hB59
    have hL62 : w.heap.size ≤ w58.heap.size := Nat.le_trans hL54 hB59.size
    refine WL.runk 1 [2, 3] [(2, .pointer (some ⟨b2, 0, none⟩)), (3, .bool false)] (by kernel_rfl) ?_
    refine WL.nil ?_
    refine WQ.then_normal (hK57 _ _ _ ?_)
    refine WP.ret ?_
    refine WQ.then_ret ?_
    obtain rfl := Option.some.inj hm
    exact WQ.retv2 _ _ rfl (RVal.box (SH.front 0 hS60) rfl Tryd.underlying25 rfl (info25).1 (info25).2.1) (RVal.tmp rfl) ⟨rfl, hb61⟩
  have hm := iteF hm hc56
  refine WP.skip ?_
  refine WQ.then_normal (hK22 _ _ _ ?_)
  refine WP.seq (fun K63 hK63 => ?_)
  refine WP.region ?_
  refine WL.runk 1 [2, 4, 38] [(2, .pointer (some ⟨b2, 0, none⟩)), (4, .slice a13 x11.length c14), (38, .slice a13 x11.length c14)] (by kernel_rfl) ?_
  obtain ⟨x64, hx65, hm⟩ := bindE hm
  refine WL.st (.pointer (some (at_ a13 (Int.toNat 1 * 1)))) (ST.index (T := fStr.ty) (xs := x11) (SH.rd (SH.front 0 hS55)) hx65 rfl rfl rfl Tryd.underlying48 (info9).1 (info9).2.1) rfl rfl rfl ?_
  refine WL.st (.string (bs x64)) (ST.load (cell_ext (Rd.flat (F := fStr) (SH.rd (SH.front 0 hS55)) hx65 0 rfl)) rfl rfl Tryd.underlying9 rfl) rfl rfl rfl ?_
  obtain ⟨x66, hx67, hm⟩ := bindE hm
  refine WL.st (.string (bs x66)) (ST.ssub hx67 rfl rfl Tryd.underlying9 ⟨_, rfl⟩ rfl) rfl rfl rfl ?_
  obtain ⟨x68, hx69, hm⟩ := bindE hm
  refine WL.call 25 #[.string (bs x66)] rfl rfl (by kernel_rfl) (c_25 n x66 w52 hx69 ) ?_
  rintro _ w70 ⟨rfl, hE71⟩
  refine ⟨_, rfl, ?_⟩
  have hb73 : Ext w w70 := Ext.trans hb53 hE71
  have hL74 : w.heap.size ≤ w70.heap.size := Nat.le_trans hL54 hE71.size
  have hS75 : SH w70 w.heap.size [aOwn fStr 9 a13 c14 x11, aBox 25 b2 [.int .i64 0, .int .i64 0]] := SH.ext hS55 hE71
  refine WL.runk 5 [2, 4, 5, 6] [(2, .pointer (some ⟨b2, 0, none⟩)), (4, .slice a13 x11.length c14), (5, .int .i64 x68.1), (6, .bool x68.2)] (by kernel_rfl) ?_
  refine WL.nil ?_
  refine WQ.then_normal (hK63 _ _ _ ?_)
  refine WP.seq (fun K76 hK76 => ?_)
  refine WP.region ?_
  refine WL.runk 1 [2, 4, 5, 6, 45] [(2, .pointer (some ⟨b2, 0, none⟩)), (4, .slice a13 x11.length c14), (5, .int .i64 x68.1), (6, .bool x68.2), (45, .agg #[.int .i64 0, .int .i64 0])] (by kernel_rfl) ?_
  refine WL.box 25 [.int .i64 0, .int .i64 0] 7 (by kernel_rfl) rfl rfl rfl rfl ?_
  intro b77 w78 hE79 hR80
  have hb82 : Ext w w78 := Ext.trans hb73 hE79
  have hL83 : w.heap.size ≤ w78.heap.size := Nat.le_trans hL74 hE79.size
  have hS84 : SH w78 w.heap.size [aBox 25 b77 [.int .i64 0, .int .i64 0], aOwn fStr 9 a13 c14 x11, aBox 25 b2 [.int .i64 0, .int .i64 0]] := SH.add hS75 hE79 hL74 hR80
  refine WL.boxStore 0 [.int .i64 0, .int .i64 0] [.int .i64 0, .int .i64 0] (SH.front 0 hS84) hL83 rfl rfl rfl rfl rfl rfl rfl (info25).1 (info25).2.1 rfl rfl rfl ?_
  intro w85 hB86 hS87
  have hb88 : Ext w w85 := Below.trans hb82 hB86
  have hL89 : w.heap.size ≤ w85.heap.size := Nat.le_trans hL83 hB86.size
  refine WL.sub [(2, .pointer (some ⟨b2, 0, none⟩)), (4, .slice a13 x11.length c14), (5, .int .i64 x68.1), (6, .bool x68.2), (7, .pointer (some ⟨b77, 0, none⟩))] ⟨rfl, rfl, rfl, rfl, rfl, trivial⟩ ?_
  refine WL.nil ?_
  refine WQ.then_normal (hK76 _ _ _ ?_)
  refine WP.seq (fun K90 hK90 => ?_)
  refine WP.region ?_
  obtain ⟨x91, hx92, hm⟩ := bindE hm
  refine WL.call 26 #[] rfl rfl (by kernel_rfl) (c_26 n  w85 hx92 ) ?_
  rintro _ w96 ⟨a93, c94, rfl, hE97, hR98⟩
  refine ⟨_, rfl, ?_⟩
  have hb99 : Ext w w96 := Ext.trans hb88 hE97
  have hL100 : w.heap.size ≤ w96.heap.size := Nat.le_trans hL89 hE97.size
  have hS101 : SH w96 w.heap.size [aOwn fStr 9 a93 c94 x91, aBox 25 b77 [.int .i64 0, .int .i64 0], aOwn fStr 9 a13 c14 x11, aBox 25 b2 [.int .i64 0, .int .i64 0]] := SH.add hS87 hE97 hL89 hR98
  refine WL.runk 1 [2, 4, 5, 6, 7, 8] [(2, .pointer (some ⟨b2, 0, none⟩)), (4, .slice a13 x11.length c14), (5, .int .i64 x68.1), (6, .bool x68.2), (7, .pointer (some ⟨b77, 0, none⟩)), (8, .slice a93 x91.length c94)] (by kernel_rfl) ?_
  refine WL.nil ?_
  refine WQ.then_normal (hK90 _ _ _ ?_)
  refine WP.seq (fun K102 hK102 => ?_)
  refine WP.seq (fun K103 hK103 => ?_)
  refine WP.region ?_
  refine WL.runk 1 [2, 4, 5, 6, 7, 8, 9] [(2, .pointer (some ⟨b2, 0, none⟩)), (4, .slice a13 x11.length c14), (5, .int .i64 x68.1), (6, .bool x68.2), (7, .pointer (some ⟨b77, 0, none⟩)), (8, .slice a93 x91.length c94), (9, .int .i64 0)] (by kernel_rfl) ?_
  refine WL.nil ?_
  refine WQ.then_normal (hK103 _ _ _ ?_)
  refine WP.block ?_
  obtain ⟨t268, ht269, hm⟩ := bindE hm
  have hmo263 := hm; clear hm
  refine WP.sub [(2, .pointer (some ⟨b2, 0, none⟩)), (4, .slice a13 x11.length c14), (5, .int .i64 x68.1), (6, .bool x68.2), (7, .pointer (some ⟨b77, 0, none⟩)), (8, .slice a93 x91.length c94), (9, .int .i64 0)] ⟨rfl, rfl, rfl, rfl, rfl, rfl, rfl, trivial⟩ ?_
  refine WP.loop (fun n' env' w' => ∃ (st257 : Int × Int) , env' = [(2, .pointer (some ⟨b2, 0, none⟩)), (4, .slice a13 x11.length c14), (5, .int .i64 x68.1), (6, .bool x68.2), (7, .pointer (some ⟨b77, 0, none⟩)), (8, .slice a93 x91.length c94), (9, .int .i64 st257.1)] ∧ Ext w w' ∧ w.heap.size ≤ w'.heap.size ∧ SH w' w.heap.size [aOwn fStr 9 a93 c94 x91, aBox 25 b77 [.int .i64 st257.2, .int .i64 0], aOwn fStr 9 a13 c14 x11, aBox 25 b2 [.int .i64 0, .int .i64 0]] ∧ loopN (m_spec_ReadChange_l1 n x11 x91) n' st257 = some t268) n ⟨(0, 0), rfl, hb99, hL100, hS101, ht269⟩ ?_
  rintro n265 _ w258 ⟨st257, rfl, hb259, hL260, hS261, hl262⟩ K264 hK264
  obtain ⟨n266, s267, rfl, hm, hl262⟩ := loopN_some hl262
  unfold m_spec_ReadChange_l1 at hm
  refine WP.seq (fun K270 hK270 => ?_)
  refine WP.seq (fun K271 hK271 => ?_)
  refine WP.region ?_
  refine WL.runk 4 [2, 4, 5, 6, 7, 8, 9, 50] [(2, .pointer (some ⟨b2, 0, none⟩)), (4, .slice a13 x11.length c14), (5, .int .i64 x68.1), (6, .bool x68.2), (7, .pointer (some ⟨b77, 0, none⟩)), (8, .slice a93 x91.length c94), (9, .int .i64 st257.1), (50, .bool (decide (st257.1 < (x91.length : Int))))] (by kernel_rfl) ?_
  refine WL.nil ?_
  refine WQ.then_normal (hK271 _ _ _ ?_)
  refine WP.cond (decide (st257.1 < (x91.length : Int))) rfl rfl (fun hc272 => ?_) (fun hc272 => ?_)
  · have hm := iteT hm hc272
    refine WP.skip ?_
    refine WQ.then_normal (hK270 _ _ _ ?_)
    refine WP.seq (fun K273 hK273 => ?_)
    refine WP.block ?_
    refine WP.seq (fun K274 hK274 => ?_)
    refine WP.quiet (by kernel_rfl) (by kernel_rfl) ?_
    refine QL.step1v 53 (.slice a93 x91.length c94) rfl (fun _ => by kernel_rfl) ?_
    refine QL.step1v 54 (.int .i64 st257.1) rfl (fun _ => by kernel_rfl) ?_
    refine QL.subk [2, 4, 5, 6, 7, 8, 9, 53, 54] [(2, .pointer (some ⟨b2, 0, none⟩)), (4, .slice a13 x11.length c14), (5, .int .i64 x68.1), (6, .bool x68.2), (7, .pointer (some ⟨b77, 0, none⟩)), (8, .slice a93 x91.length c94), (9, .int .i64 st257.1), (53, .slice a93 x91.length c94), (54, .int .i64 st257.1)] (by kernel_rfl) ?_
    obtain ⟨x275, hx276, hm⟩ := bindE hm
    refine QL.st (.pointer (some (at_ a93 (Int.toNat st257.1 * 1)))) (ST.index (T := fStr.ty) (xs := x91) (SH.rd (SH.front 0 hS261)) hx276 rfl rfl rfl Tryd.underlying48 (info9).1 (info9).2.1) rfl rfl rfl ?_
    refine QL.st (.string (bs x275)) (ST.load (cell_ext (Rd.flat (F := fStr) (SH.rd (SH.front 0 hS261)) hx276 0 rfl)) rfl rfl Tryd.underlying9 rfl) rfl rfl rfl ?_
    refine QL.step1v 57 (.slice a13 x11.length c14) rfl (fun _ => by kernel_rfl) ?_
    refine QL.subk [2, 4, 5, 6, 7, 8, 9, 56, 57] [(2, .pointer (some ⟨b2, 0, none⟩)), (4, .slice a13 x11.length c14), (5, .int .i64 x68.1), (6, .bool x68.2), (7, .pointer (some ⟨b77, 0, none⟩)), (8, .slice a93 x91.length c94), (9, .int .i64 st257.1), (56, .string (bs x275)), (57, .slice a13 x11.length c14)] (by kernel_rfl) ?_
    obtain ⟨x277, hx278, hm⟩ := bindE hm
    refine QL.st (.pointer (some (at_ a13 (Int.toNat 0 * 1)))) (ST.index (T := fStr.ty) (xs := x11) (SH.rd (SH.front 2 hS261)) hx278 rfl rfl rfl Tryd.underlying48 (info9).1 (info9).2.1) rfl rfl rfl ?_
    refine QL.st (.string (bs x277)) (ST.load (cell_ext (Rd.flat (F := fStr) (SH.rd (SH.front 2 hS261)) hx278 0 rfl)) rfl rfl Tryd.underlying9 rfl) rfl rfl rfl ?_
    refine QL.st (.bool (x275 == x277)) (ST.streq (x := x275) (y := x277) rfl rfl rfl) rfl rfl rfl ?_
    refine QL.subk [2, 4, 5, 6, 7, 8, 9, 60] [(2, .pointer (some ⟨b2, 0, none⟩)), (4, .slice a13 x11.length c14), (5, .int .i64 x68.1), (6, .bool x68.2), (7, .pointer (some ⟨b77, 0, none⟩)), (8, .slice a93 x91.length c94), (9, .int .i64 st257.1), (60, .bool (x275 == x277))] (by kernel_rfl) ?_
    refine QL.nil ?_
    intro w279 hE280
    have hb281 : Ext w w279 := Ext.trans hb259 hE280
    have hL282 : w.heap.size ≤ w279.heap.size := Nat.le_trans hL260 hE280.size
    have hS283 : SH w279 w.heap.size [aOwn fStr 9 a93 c94 x91, aBox 25 b77 [.int .i64 st257.2, .int .i64 0], aOwn fStr 9 a13 c14 x11, aBox 25 b2 [.int .i64 0, .int .i64 0]] := SH.ext hS261 hE280
    refine WQ.then_normal (hK274 _ _ _ ?_)
    obtain ⟨x302, hx303, hm⟩ := bindE hm
    refine WP.cut (fun env' w' => env' = [(2, .pointer (some ⟨b2, 0, none⟩)), (4, .slice a13 x11.length c14), (5, .int .i64 x68.1), (6, .bool x68.2), (7, .pointer (some ⟨b77, 0, none⟩)), (8, .slice a93 x91.length c94), (9, .int .i64 st257.1)] ∧ Ext w w' ∧ w.heap.size ≤ w'.heap.size ∧ SH w' w.heap.size [aOwn fStr 9 a93 c94 x91, aBox 25 b77 [.int .i64 x302, .int .i64 0], aOwn fStr 9 a13 c14 x11, aBox 25 b2 [.int .i64 0, .int .i64 0]]) ?_ ?_
    rotate_left
    · clear hx303
      rintro _ w309 ⟨rfl, hb310, hL311, hS312⟩
      refine WQ.block_normal ?_
      refine WQ.then_normal (hK273 _ _ _ ?_)
      refine WP.region ?_
      refine WL.runk 3 [2, 4, 5, 6, 7, 8, 9] [(2, .pointer (some ⟨b2, 0, none⟩)), (4, .slice a13 x11.length c14), (5, .int .i64 x68.1), (6, .bool x68.2), (7, .pointer (some ⟨b77, 0, none⟩)), (8, .slice a93 x91.length c94), (9, .int .i64 (wI64 (st257.1 + 1)))] (by kernel_rfl) ?_
      refine WL.nil ?_
      obtain rfl := Option.some.inj hm
      exact WQ.round hK264 ⟨((wI64 (st257.1 + 1)), x302), rfl, hb310, hL311, hS312, hl262⟩ (Nat.lt_succ_self _) ⟨rfl, rfl, rfl, rfl, rfl, rfl, rfl, trivial⟩
    have hm := hx303; clear hx303
    refine WP.cond (x275 == x277) rfl rfl (fun hc284 => ?_) (fun hc284 => ?_)
    rotate_left
    · have hm := iteF hm hc284
      refine WP.skip ?_
      obtain rfl := Option.some.inj hm
      exact WQ.post' ⟨rfl, hb281, hL282, hS283⟩ ⟨rfl, rfl, rfl, rfl, rfl, rfl, rfl, trivial⟩
    have hm := iteT hm hc284
    refine WP.region ?_
    refine WL.runk 3 [2, 4, 5, 6, 7, 8, 9, 62, 63] [(2, .pointer (some ⟨b2, 0, none⟩)), (4, .slice a13 x11.length c14), (5, .int .i64 x68.1), (6, .bool x68.2), (7, .pointer (some ⟨b77, 0, none⟩)), (8, .slice a93 x91.length c94), (9, .int .i64 st257.1), (62, .int .i64 (wI64 (st257.1 + 1))), (63, .pointer (some ⟨b77, 0, none⟩))] (by kernel_rfl) ?_
    refine WL.boxStore 0 [.int .i64 (wI64 (st257.1 + 1))] [.int .i64 (wI64 (st257.1 + 1)), .int .i64 0] (SH.front 1 hS283) hL282 rfl rfl rfl rfl rfl rfl rfl (info2).1 (info2).2.1 rfl rfl rfl ?_
    intro w304 hB305 hS306
    have hb307 : Ext w w304 := Below.trans hb281 hB305
    have hL308 : w.heap.size ≤ w304.heap.size := Nat.le_trans hL282 hB305.size
    refine WL.sub [(2, .pointer (some ⟨b2, 0, none⟩)), (4, .slice a13 x11.length c14), (5, .int .i64 x68.1), (6, .bool x68.2), (7, .pointer (some ⟨b77, 0, none⟩)), (8, .slice a93 x91.length c94), (9, .int .i64 st257.1)] ⟨rfl, rfl, rfl, rfl, rfl, rfl, rfl, trivial⟩ ?_
    refine WL.nil ?_
    obtain rfl := Option.some.inj hm
    exact WQ.post' ⟨rfl, hb307, hL308, (SH.front 3 (SH.front 2 (SH.front 3 (SH.front 3 hS306))))⟩ ⟨rfl, rfl, rfl, rfl, rfl, rfl, rfl, trivial⟩
  have hm := iteF hm hc272
  refine WP.exit ?_
  refine WQ.then_exit ?_
  refine WQ.then_exit ?_
  refine WQ.block_here ?_
  obtain rfl := Option.some.inj hm
  obtain rfl := afterN_done hl262
  have hm := hmo263
  refine WQ.then_normal (hK102 _ _ _ ?_)
  refine WP.seq (fun K313 hK313 => ?_)
  refine WP.seq (fun K314 hK314 => ?_)
  obtain ⟨x324, hx325, hm⟩ := bindE hm
  refine WP.cut (fun env' w' => env' = [(2, .pointer (some ⟨b2, 0, none⟩)), (4, .slice a13 x11.length c14), (5, .int .i64 x68.1), (7, .pointer (some ⟨b77, 0, none⟩)), (70, .bool x324)] ∧ Ext w w' ∧ w.heap.size ≤ w'.heap.size ∧ SH w' w.heap.size [aBox 25 b77 [.int .i64 st257.2, .int .i64 0], aOwn fStr 9 a13 c14 x11, aBox 25 b2 [.int .i64 0, .int .i64 0]]) ?_ ?_
  · have hm := hx325; clear hx325
    refine WP.region ?_
    refine WL.runk 3 [2, 4, 5, 7, 66] [(2, .pointer (some ⟨b2, 0, none⟩)), (4, .slice a13 x11.length c14), (5, .int .i64 x68.1), (7, .pointer (some ⟨b77, 0, none⟩)), (66, .bool (!x68.2))] (by kernel_rfl) ?_
    refine WL.case (!x68.2) [66] ⟨rfl, trivial⟩ (fun hc326 => ?_) (fun hc326 => ?_)
    · have hm := iteT hm hc326
      refine WL.runk 4 [2, 4, 5, 7, 70] [(2, .pointer (some ⟨b2, 0, none⟩)), (4, .slice a13 x11.length c14), (5, .int .i64 x68.1), (7, .pointer (some ⟨b77, 0, none⟩)), (70, .bool true)] (by kernel_rfl) ?_
      refine WL.nil ?_
      obtain rfl := Option.some.inj hm
      exact WQ.post' ⟨rfl, hb259, hL260, (SH.take 3 (SH.front 3 (SH.front 3 (SH.front 3 hS261))))⟩ ⟨rfl, rfl, rfl, rfl, rfl, trivial⟩
    have hm := iteF hm hc326
    refine WL.runk 1 [2, 4, 5, 7, 66, 67] [(2, .pointer (some ⟨b2, 0, none⟩)), (4, .slice a13 x11.length c14), (5, .int .i64 x68.1), (7, .pointer (some ⟨b77, 0, none⟩)), (66, .bool false), (67, .int .i64 x68.1)] (by kernel_rfl) ?_
    obtain ⟨x327, hx328, hm⟩ := bindE hm
    refine WL.call 27 #[.int .i64 x68.1, .int .i64 1, .int .i64 300] rfl rfl (by kernel_rfl) (c_27 n x68.1 1 300 w258 hx328 ) ?_
    rintro _ w329 ⟨rfl, hE330⟩
    refine ⟨_, rfl, ?_⟩
    have hb332 : Ext w w329 := Ext.trans hb259 hE330
    have hL333 : w.heap.size ≤ w329.heap.size := Nat.le_trans hL260 hE330.size
    have hS334 : SH w329 w.heap.size [aOwn fStr 9 a93 c94 x91, aBox 25 b77 [.int .i64 st257.2, .int .i64 0], aOwn fStr 9 a13 c14 x11, aBox 25 b2 [.int .i64 0, .int .i64 0]] := SH.ext hS261 hE330
    refine WL.runk 2 [2, 4, 5, 7, 70] [(2, .pointer (some ⟨b2, 0, none⟩)), (4, .slice a13 x11.length c14), (5, .int .i64 x68.1), (7, .pointer (some ⟨b77, 0, none⟩)), (70, .bool (!x327))] (by kernel_rfl) ?_
    refine WL.nil ?_
    obtain rfl := Option.some.inj hm
    exact WQ.post' ⟨rfl, hb332, hL333, (SH.take 3 (SH.front 3 (SH.front 3 (SH.front 3 hS334))))⟩ ⟨rfl, rfl, rfl, rfl, rfl, trivial⟩
  clear hx325
  rintro _ w335 ⟨rfl, hb336, hL337, hS338⟩
  refine WQ.then_normal (hK314 _ _ _ ?_)
  refine WP.cond x324 rfl rfl (fun hc339 => ?_) (fun hc339 => ?_)
  · have hm := iteT hm hc339
    refine WP.seq (fun K340 hK340 => ?_)
    refine WP.region ?_
    refine WL.runk 1 [2, 71] [(2, .pointer (some ⟨b2, 0, none⟩)), (71, .agg #[.int .i64 0, .int .i64 0])] (by kernel_rfl) ?_
    refine WL.boxStore 0 [.int .i64 0, .int .i64 0] [.int .i64 0, .int .i64 0] (SH.front 2 hS338) hL337 rfl rfl rfl rfl rfl rfl rfl (info25).1 (info25).2.1 rfl rfl rfl ?_
    intro w341 hB342 hS343
    have hb344 : Ext w w341 := Below.trans hb336 hB342
    have hL345 : w.heap.size ≤ w341.heap.size := Nat.le_trans hL337 hB342.size
    refine WL.runk 1 [2, 3] [(2, .pointer (some ⟨b2, 0, none⟩)), (3, .bool false)] (by kernel_rfl) ?_
    refine WL.nil ?_
    refine WQ.then_normal (hK340 _ _ _ ?_)
    refine WP.ret ?_
    refine WQ.then_ret ?_
    obtain rfl := Option.some.inj hm
    exact WQ.retv2 _ _ rfl (RVal.box (SH.front 0 hS343) rfl Tryd.underlying25 rfl (info25).1 (info25).2.1) (RVal.tmp rfl) ⟨rfl, hb344⟩
  have hm := iteF hm hc339
  refine WP.skip ?_
  refine WQ.then_normal (hK313 _ _ _ ?_)
  refine WP.seq (fun K346 hK346 => ?_)
  refine WP.region ?_
  refine WL.runk 2 [2, 4, 5, 7, 72, 73] [(2, .pointer (some ⟨b2, 0, none⟩)), (4, .slice a13 x11.length c14), (5, .int .i64 x68.1), (7, .pointer (some ⟨b77, 0, none⟩)), (72, .int .i64 x68.1), (73, .pointer (some ⟨b77, 1, none⟩))] (by kernel_rfl) ?_
  refine WL.boxStore 1 [.int .i64 x68.1] [.int .i64 st257.2, .int .i64 x68.1] (SH.front 0 hS338) hL337 rfl rfl rfl rfl rfl rfl rfl (info2).1 (info2).2.1 rfl rfl rfl ?_
  intro w347 hB348 hS349
  have hb350 : Ext w w347 := Below.trans hb336 hB348
  have hL351 : w.heap.size ≤ w347.heap.size := Nat.le_trans hL337 hB348.size
  refine WL.sub [(2, .pointer (some ⟨b2, 0, none⟩)), (4, .slice a13 x11.length c14), (5, .int .i64 x68.1), (7, .pointer (some ⟨b77, 0, none⟩))] ⟨rfl, rfl, rfl, rfl, trivial⟩ ?_
  refine WL.nil ?_
  refine WQ.then_normal (hK346 _ _ _ ?_)
  refine WP.seq (fun K352 hK352 => ?_)
  refine WP.seq (fun K353 hK353 => ?_)
  refine WP.region ?_
  refine WL.runk 1 [2, 5, 7, 74] [(2, .pointer (some ⟨b2, 0, none⟩)), (5, .int .i64 x68.1), (7, .pointer (some ⟨b77, 0, none⟩)), (74, .slice a13 x11.length c14)] (by kernel_rfl) ?_
  obtain ⟨x354, hx355, hm⟩ := bindE hm
  refine WL.st (.pointer (some (at_ a13 (Int.toNat 1 * 1)))) (ST.index (T := fStr.ty) (xs := x11) (SH.rd (SH.front 1 hS349)) hx355 rfl rfl rfl Tryd.underlying48 (info9).1 (info9).2.1) rfl rfl rfl ?_
  refine WL.st (.string (bs x354)) (ST.load (cell_ext (Rd.flat (F := fStr) (SH.rd (SH.front 1 hS349)) hx355 0 rfl)) rfl rfl Tryd.underlying9 rfl) rfl rfl rfl ?_
  obtain ⟨x356, hx357, hm⟩ := bindE hm
  refine WL.st (.int .u8 (x356.toNat : Int)) (ST.sindex hx357 rfl rfl rfl Tryd.underlying9) rfl rfl rfl ?_
  refine WL.runk 1 [2, 5, 7, 78] [(2, .pointer (some ⟨b2, 0, none⟩)), (5, .int .i64 x68.1), (7, .pointer (some ⟨b77, 0, none⟩)), (78, .bool ((x356.toNat : Int) == 45))] (by kernel_rfl) ?_
  refine WL.nil ?_
  refine WQ.then_normal (hK353 _ _ _ ?_)
  obtain ⟨x376, hx377, hm⟩ := bindE hm
  refine WP.cut (fun env' w' => env' = [(2, .pointer (some ⟨b2, 0, none⟩)), (7, .pointer (some ⟨b77, 0, none⟩))] ∧ Ext w w' ∧ w.heap.size ≤ w'.heap.size ∧ SH w' w.heap.size [aBox 25 b77 [.int .i64 st257.2, .int .i64 x376], aBox 25 b2 [.int .i64 0, .int .i64 0]]) ?_ ?_
  · have hm := hx377; clear hx377
    refine WP.cond ((x356.toNat : Int) == 45) rfl rfl (fun hc358 => ?_) (fun hc358 => ?_)
    rotate_left
    · have hm := iteF hm hc358
      refine WP.skip ?_
      obtain rfl := Option.some.inj hm
      exact WQ.post' ⟨rfl, hb350, hL351, (SH.take 2 (SH.front 1 (SH.front 2 hS349)))⟩ ⟨rfl, rfl, trivial⟩
    have hm := iteT hm hc358
    refine WP.region ?_
    refine WL.runk 3 [2, 7, 80, 81] [(2, .pointer (some ⟨b2, 0, none⟩)), (7, .pointer (some ⟨b77, 0, none⟩)), (80, .int .i64 (wI64 (0 - x68.1))), (81, .pointer (some ⟨b77, 1, none⟩))] (by kernel_rfl) ?_
    refine WL.boxStore 1 [.int .i64 (wI64 (0 - x68.1))] [.int .i64 st257.2, .int .i64 (wI64 (0 - x68.1))] (SH.front 0 hS349) hL351 rfl rfl rfl rfl rfl rfl rfl (info2).1 (info2).2.1 rfl rfl rfl ?_
    intro w378 hB379 hS380
    have hb381 : Ext w w378 := Below.trans hb350 hB379
    have hL382 : w.heap.size ≤ w378.heap.size := Nat.le_trans hL351 hB379.size
    refine WL.sub [(2, .pointer (some ⟨b2, 0, none⟩)), (7, .pointer (some ⟨b77, 0, none⟩))] ⟨rfl, rfl, trivial⟩ ?_
    refine WL.nil ?_
    obtain rfl := Option.some.inj hm
    exact WQ.post' ⟨rfl, hb381, hL382, (SH.take 2 (SH.front 1 (SH.front 2 hS380)))⟩ ⟨rfl, rfl, trivial⟩
  clear hx377
  rintro _ w383 ⟨rfl, hb384, hL385, hS386⟩
  refine WQ.then_normal (hK352 _ _ _ ?_)
  refine WP.seq (fun K387 hK387 => ?_)
  refine WP.seq (fun K388 hK388 => ?_)
  refine WP.region ?_
  refine WL.st (.agg #[.int .i64 st257.2, .int .i64 x376]) (ST.loadAgg (vs := [.int .i64 st257.2, .int .i64 x376]) (fun j v hv => SH.boxPart (us := [.int .i64 st257.2, .int .i64 x376]) (SH.front 0 hS386) 0 rfl j v hv) rfl rfl rfl Tryd.underlying25 rfl (info25).1 (info25).2.1) rfl rfl rfl ?_
  obtain ⟨x389, hx390, hm⟩ := bindE hm
  refine WL.call 20 #[.agg #[.int .i64 st257.2, .int .i64 x376]] rfl rfl (by kernel_rfl) (c_20 n (SChange.mk st257.2 x376) w383 hx390 ) ?_
  rintro _ w391 ⟨rfl, hE392⟩
  refine ⟨_, rfl, ?_⟩
  have hb394 : Ext w w391 := Ext.trans hb384 hE392
  have hL395 : w.heap.size ≤ w391.heap.size := Nat.le_trans hL385 hE392.size
  have hS396 : SH w391 w.heap.size [aBox 25 b77 [.int .i64 st257.2, .int .i64 x376], aBox 25 b2 [.int .i64 0, .int .i64 0]] := SH.ext hS386 hE392
  refine WL.runk 1 [2, 7, 84] [(2, .pointer (some ⟨b2, 0, none⟩)), (7, .pointer (some ⟨b77, 0, none⟩)), (84, .bool (!x389))] (by kernel_rfl) ?_
  refine WL.nil ?_
  refine WQ.then_normal (hK388 _ _ _ ?_)
  refine WP.cond (!x389) rfl rfl (fun hc397 => ?_) (fun hc397 => ?_)
  · have hm := iteT hm hc397
    refine WP.seq (fun K398 hK398 => ?_)
    refine WP.region ?_
    refine WL.runk 1 [2, 85] [(2, .pointer (some ⟨b2, 0, none⟩)), (85, .agg #[.int .i64 0, .int .i64 0])] (by kernel_rfl) ?_
    refine WL.boxStore 0 [.int .i64 0, .int .i64 0] [.int .i64 0, .int .i64 0] (SH.front 1 hS396) hL395 rfl rfl rfl rfl rfl rfl rfl (info25).1 (info25).2.1 rfl rfl rfl ?_
    intro w399 hB400 hS401
    have hb402 : Ext w w399 := Below.trans hb394 hB400
    have hL403 : w.heap.size ≤ w399.heap.size := Nat.le_trans hL395 hB400.size
    refine WL.runk 1 [2, 3] [(2, .pointer (some ⟨b2, 0, none⟩)), (3, .bool false)] (by kernel_rfl) ?_
    refine WL.nil ?_
    refine WQ.then_normal (hK398 _ _ _ ?_)
    refine WP.ret ?_
    refine WQ.then_ret ?_
    obtain rfl := Option.some.inj hm
    exact WQ.retv2 _ _ rfl (RVal.box (SH.front 0 hS401) rfl Tryd.underlying25 rfl (info25).1 (info25).2.1) (RVal.tmp rfl) ⟨rfl, hb402⟩
  have hm := iteF hm hc397
  refine WP.skip ?_
  refine WQ.then_normal (hK387 _ _ _ ?_)
  refine WP.seq (fun K404 hK404 => ?_)
  refine WP.region ?_
  refine WL.st (.agg #[.int .i64 st257.2, .int .i64 x376]) (ST.loadAgg (vs := [.int .i64 st257.2, .int .i64 x376]) (fun j v hv => SH.boxPart (us := [.int .i64 st257.2, .int .i64 x376]) (SH.front 0 hS396) 0 rfl j v hv) rfl rfl rfl Tryd.underlying25 rfl (info25).1 (info25).2.1) rfl rfl rfl ?_
  refine WL.boxStore 0 [.int .i64 st257.2, .int .i64 x376] [.int .i64 st257.2, .int .i64 x376] (SH.front 1 hS396) hL395 rfl rfl rfl rfl rfl rfl rfl (info25).1 (info25).2.1 rfl rfl rfl ?_
  intro w405 hB406 hS407
  have hb408 : Ext w w405 := Below.trans hb394 hB406
  have hL409 : w.heap.size ≤ w405.heap.size := Nat.le_trans hL395 hB406.size
  refine WL.runk 1 [2, 3] [(2, .pointer (some ⟨b2, 0, none⟩)), (3, .bool true)] (by kernel_rfl) ?_
  refine WL.nil ?_
  refine WQ.then_normal (hK404 _ _ _ ?_)
  refine WP.ret ?_
  obtain rfl := Option.some.inj hm
  exact WQ.retv2 _ _ rfl (RVal.box (SH.front 0 hS407) rfl Tryd.underlying25 rfl (info25).1 (info25).2.1) (RVal.tmp rfl) ⟨rfl, hb408⟩

theorem c_29 (n : Nat) (s_0 : List UInt8) (w : World) {r : Int × Bool} (hm : m_impl_ReadDecimal n s_0 = some r) (hG : GL 4 w) :
    CallV Tryd.prog 29 #[.string (bs s_0)] w (fun v w' => v = .tuple #[.int .i64 r.1, .bool r.2] ∧ Ext w w') := by
  unfold m_impl_ReadDecimal at hm
  refine CallV.enter Tryd.func29 rfl (by kernel_rfl) Tryd.ntmps29 (env := [(0, .string (bs s_0))]) ⟨rfl, trivial⟩ ?_
  refine WP.seq (fun K1 hK1 => ?_)
  refine WP.region ?_
  refine WL.runk 2 [0] [(0, .string (bs s_0))] (by kernel_rfl) ?_
  refine WL.nil ?_
  refine WQ.then_normal (hK1 _ _ _ ?_)
  refine WP.seq (fun K2 hK2 => ?_)
  refine WP.seq (fun K3 hK3 => ?_)
  obtain ⟨x13, hx14, hm⟩ := bindE hm
  refine WP.cut (fun env' w' => env' = [(0, .string (bs s_0)), (14, .bool x13)] ∧ Ext w w' ∧ w.heap.size ≤ w'.heap.size ∧ SH w' w.heap.size []) ?_ ?_
  · have hm := hx14; clear hx14
    refine WP.region ?_
    refine WL.runk 4 [0, 9] [(0, .string (bs s_0)), (9, .bool (decide ((s_0.length : Int) > 19)))] (by kernel_rfl) ?_
    refine WL.case (decide ((s_0.length : Int) > 19)) [9] ⟨rfl, trivial⟩ (fun hc15 => ?_) (fun hc15 => ?_)
    · have hm := iteT hm hc15
      refine WL.runk 5 [0, 14] [(0, .string (bs s_0)), (14, .bool true)] (by kernel_rfl) ?_
      refine WL.nil ?_
      obtain rfl := Option.some.inj hm
      exact WQ.post' ⟨rfl, (Ext.refl w), (Nat.le_refl _), (SH.nil _ _)⟩ ⟨rfl, rfl, trivial⟩
    have hm := iteF hm hc15
    refine WL.runk 1 [0, 9, 10] [(0, .string (bs s_0)), (9, .bool false), (10, .string (bs s_0))] (by kernel_rfl) ?_
    obtain ⟨x16, hx17, hm⟩ := bindE hm
    refine WL.call 30 #[.string (bs s_0), .string (bs [45])] rfl rfl (by kernel_rfl) (c_30 n s_0 [45] w hx17 ) ?_
    rintro _ w18 ⟨rfl, hE19⟩
    refine ⟨_, rfl, ?_⟩
    have hb21 : Ext w w18 := Ext.trans (Ext.refl w) hE19
    have hL22 : w.heap.size ≤ w18.heap.size := Nat.le_trans (Nat.le_refl _) hE19.size
    have hS23 : SH w18 w.heap.size [] := SH.ext (SH.nil _ _) hE19
    refine WL.runk 3 [0, 14] [(0, .string (bs s_0)), (14, .bool (decide ((x16.length : Int) > 18)))] (by kernel_rfl) ?_
    refine WL.nil ?_
    obtain rfl := Option.some.inj hm
    exact WQ.post' ⟨rfl, hb21, hL22, hS23⟩ ⟨rfl, rfl, trivial⟩
  clear hx14
  rintro _ w24 ⟨rfl, hb25, hL26, hS27⟩
  refine WQ.then_normal (hK3 _ _ _ ?_)
  refine WP.cond x13 rfl rfl (fun hc28 => ?_) (fun hc28 => ?_)
  · have hm := iteT hm hc28
    refine WP.seq (fun K29 hK29 => ?_)
    refine WP.region ?_
    refine WL.runk 2 [2, 3] [(2, .int .i64 0), (3, .bool false)] (by kernel_rfl) ?_
    refine WL.nil ?_
    refine WQ.then_normal (hK29 _ _ _ ?_)
    refine WP.ret ?_
    refine WQ.then_ret ?_
    obtain rfl := Option.some.inj hm
    exact WQ.ret2 _ _ rfl rfl rfl ⟨rfl, hb25⟩
  have hm := iteF hm hc28
  refine WP.skip ?_
  refine WQ.then_normal (hK2 _ _ _ ?_)
  refine WP.seq (fun K30 hK30 => ?_)
  refine WP.region ?_
  refine WL.runk 1 [0, 16] [(0, .string (bs s_0)), (16, .string (bs s_0))] (by kernel_rfl) ?_
  obtain ⟨x31, hx32, hm⟩ := bindE hm
  refine WL.call 50 #[.string (bs s_0), .int .i64 10, .int .i64 64] rfl rfl (by kernel_rfl) (c_50 n s_0 10 64 w24 hx32 (GL.below hG hb25)) ?_
  rintro _ w35 ⟨ev33, rfl, hev34, hE36⟩
  refine ⟨_, rfl, ?_⟩
  have hb38 : Ext w w35 := Ext.trans hb25 hE36
  have hL39 : w.heap.size ≤ w35.heap.size := Nat.le_trans hL26 hE36.size
  have hS40 : SH w35 w.heap.size [] := SH.ext hS27 hE36
  refine WL.runk 5 [0, 4, 5] [(0, .string (bs s_0)), (4, .int .i64 x31.1), (5, ev33)] (by kernel_rfl) ?_
  refine WL.nil ?_
  refine WQ.then_normal (hK30 _ _ _ ?_)
  refine WP.seq (fun K41 hK41 => ?_)
  refine WP.seq (fun K42 hK42 => ?_)
  obtain ⟨x52, hx53, hm⟩ := bindE hm
  refine WP.cut (fun env' w' => env' = [(4, .int .i64 x31.1), (27, .bool x52)] ∧ Ext w w' ∧ w.heap.size ≤ w'.heap.size ∧ SH w' w.heap.size []) ?_ ?_
  rotate_left
  · clear hx53
    rintro _ w63 ⟨rfl, hb64, hL65, hS66⟩
    refine WQ.then_normal (hK42 _ _ _ ?_)
    refine WP.cond x52 rfl rfl (fun hc67 => ?_) (fun hc67 => ?_)
    · have hm := iteT hm hc67
      refine WP.seq (fun K68 hK68 => ?_)
      refine WP.region ?_
      refine WL.runk 2 [2, 3] [(2, .int .i64 0), (3, .bool false)] (by kernel_rfl) ?_
      refine WL.nil ?_
      refine WQ.then_normal (hK68 _ _ _ ?_)
      refine WP.ret ?_
      refine WQ.then_ret ?_
      obtain rfl := Option.some.inj hm
      exact WQ.ret2 _ _ rfl rfl rfl ⟨rfl, hb64⟩
    have hm := iteF hm hc67
    refine WP.skip ?_
    refine WQ.then_normal (hK41 _ _ _ ?_)
    refine WP.seq (fun K69 hK69 => ?_)
    refine WP.region ?_
    refine WL.runk 3 [2, 3] [(2, .int .i64 x31.1), (3, .bool true)] (by kernel_rfl) ?_
    refine WL.nil ?_
    refine WQ.then_normal (hK69 _ _ _ ?_)
    refine WP.ret ?_
    obtain rfl := Option.some.inj hm
    exact WQ.ret2 _ _ rfl rfl rfl ⟨rfl, hb64⟩
  have hm := hx53; clear hx53
  refine WP.region ?_
  refine WL.runk 1 [0, 4, 20] [(0, .string (bs s_0)), (4, .int .i64 x31.1), (20, ev33)] (by kernel_rfl) ?_
  refine WL.st (.bool x31.2) (ST.errne (b := x31.2) hev34 (by kernel_rfl) rfl rfl) rfl rfl rfl ?_
  refine WL.runk 1 [0, 4, 22] [(0, .string (bs s_0)), (4, .int .i64 x31.1), (22, .bool x31.2)] (by kernel_rfl) ?_
  refine WL.case x31.2 [22] ⟨rfl, trivial⟩ (fun hc54 => ?_) (fun hc54 => ?_)
  · have hm := iteT hm hc54
    refine WL.runk 5 [4, 27] [(4, .int .i64 x31.1), (27, .bool true)] (by kernel_rfl) ?_
    refine WL.nil ?_
    obtain rfl := Option.some.inj hm
    exact WQ.post' ⟨rfl, hb38, hL39, hS40⟩ ⟨rfl, rfl, trivial⟩
  have hm := iteF hm hc54
  refine WL.runk 1 [0, 4, 22, 23] [(0, .string (bs s_0)), (4, .int .i64 x31.1), (22, .bool false), (23, .int .i64 x31.1)] (by kernel_rfl) ?_
  obtain ⟨x55, hx56, hm⟩ := bindE hm
  refine WL.call 23 #[.int .i64 x31.1] rfl rfl (by kernel_rfl) (c_23 n x31.1 w35 hx56 (GL.below (GL.low (j := 2) hG rfl) hb38)) ?_
  rintro _ w57 ⟨rfl, hE58⟩
  refine ⟨_, rfl, ?_⟩
  have hb60 : Ext w w57 := Ext.trans hb38 hE58
  have hL61 : w.heap.size ≤ w57.heap.size := Nat.le_trans hL39 hE58.size
  have hS62 : SH w57 w.heap.size [] := SH.ext hS40 hE58
  refine WL.runk 1 [4, 22, 24, 25] [(4, .int .i64 x31.1), (22, .bool false), (24, .string (bs x55)), (25, .string (bs s_0))] (by kernel_rfl) ?_
  refine WL.st (.bool (!(x55 == s_0))) (ST.strne (x := x55) (y := s_0) rfl rfl rfl) rfl rfl rfl ?_
  refine WL.runk 1 [4, 27] [(4, .int .i64 x31.1), (27, .bool (!(x55 == s_0)))] (by kernel_rfl) ?_
  refine WL.nil ?_
  obtain rfl := Option.some.inj hm
  exact WQ.post' ⟨rfl, hb60, hL61, hS62⟩ ⟨rfl, rfl, trivial⟩

theorem c_31 (n : Nat) (s_0 : List (List UInt8)) (a0' : Option Addr) (c0' : Nat) (v_1 : List UInt8) (w : World) {r : Int} (hm : m_slices_Index_string_string n s_0 v_1 = some r) (h0 : Rd fStr.ty w a0' s_0) (_hle0 : s_0.length ≤ c0') :
    CallV Tryd.prog 31 #[.slice a0' s_0.length c0', .string (bs v_1)] w (fun v w' => v = .int .i64 r ∧ Ext w w') := by
  unfold m_slices_Index_string_string at hm
  refine CallV.enter Tryd.func31 rfl (by kernel_rfl) Tryd.ntmps31 (env := [(0, .slice a0' s_0.length c0'), (1, .string (bs v_1))]) ⟨rfl, rfl, trivial⟩ ?_
  refine WP.seq (fun K1 hK1 => ?_)
  refine WP.region ?_
  refine WL.runk 1 [0, 1] [(0, .slice a0' s_0.length c0'), (1, .string (bs v_1))] (by kernel_rfl) ?_
  refine WL.nil ?_
  refine WQ.then_normal (hK1 _ _ _ ?_)
  refine WP.seq (fun K2 hK2 => ?_)
  refine WP.seq (fun K3 hK3 => ?_)
  refine WP.region ?_
  refine WL.runk 3 [0, 1, 7, 8] [(0, .slice a0' s_0.length c0'), (1, .string (bs v_1)), (7, .int .i64 (s_0.length : Int)), (8, .int .i64 0)] (by kernel_rfl) ?_
  refine WL.nil ?_
  refine WQ.then_normal (hK3 _ _ _ ?_)
  refine WP.block ?_
  obtain ⟨t15, ht16, hm⟩ := bindE hm
  have hmo10 := hm; clear hm
  refine WP.sub [(0, .slice a0' s_0.length c0'), (1, .string (bs v_1)), (7, .int .i64 (s_0.length : Int)), (8, .int .i64 0)] ⟨rfl, rfl, rfl, rfl, trivial⟩ ?_
  refine WP.loop (fun n' env' w' => ∃ (st4 : Int) , env' = [(0, .slice a0' s_0.length c0'), (1, .string (bs v_1)), (7, .int .i64 (s_0.length : Int)), (8, .int .i64 st4)] ∧ Ext w w' ∧ w.heap.size ≤ w'.heap.size ∧ SH w' w.heap.size [] ∧ loopN (m_slices_Index_string_string_l1 n s_0 v_1) n' st4 = some t15) n ⟨0, rfl, (Ext.refl w), (Nat.le_refl _), (SH.nil _ _), ht16⟩ ?_
  rintro n12 _ w5 ⟨st4, rfl, hb6, hL7, hS8, hl9⟩ K11 hK11
  obtain ⟨n13, s14, rfl, hm, hl9⟩ := loopN_some hl9
  unfold m_slices_Index_string_string_l1 at hm
  refine WP.seq (fun K17 hK17 => ?_)
  refine WP.region ?_
  refine WL.runk 1 [0, 1, 7, 8, 9] [(0, .slice a0' s_0.length c0'), (1, .string (bs v_1)), (7, .int .i64 (s_0.length : Int)), (8, .int .i64 st4), (9, .bool (decide (st4 < (s_0.length : Int))))] (by kernel_rfl) ?_
  refine WL.nil ?_
  refine WQ.then_normal (hK17 _ _ _ ?_)
  refine WP.seq (fun K18 hK18 => ?_)
  refine WP.cond (decide (st4 < (s_0.length : Int))) rfl rfl (fun hc19 => ?_) (fun hc19 => ?_)
  rotate_left
  · have hm := iteF hm hc19
    refine WP.exit ?_
    refine WQ.then_exit ?_
    refine WQ.then_exit ?_
    refine WQ.block_here ?_
    obtain rfl := Option.some.inj hm
    obtain rfl := afterN_done hl9
    have hm := hmo10
    refine WQ.then_normal (hK2 _ _ _ ?_)
    refine WP.seq (fun K27 hK27 => ?_)
    refine WP.region ?_
    refine WL.runk 1 [4] [(4, .int .i64 (-1))] (by kernel_rfl) ?_
    refine WL.nil ?_
    refine WQ.then_normal (hK27 _ _ _ ?_)
    refine WP.ret ?_
    obtain rfl := Option.some.inj hm
    exact WQ.ret1 _ rfl rfl ⟨rfl, hb6⟩
  have hm := iteT hm hc19
  refine WP.skip ?_
  refine WQ.then_normal (hK18 _ _ _ ?_)
  refine WP.seq (fun K20 hK20 => ?_)
  refine WP.block ?_
  refine WP.seq (fun K21 hK21 => ?_)
  refine WP.region ?_
  refine WL.runk 2 [0, 1, 5, 7, 8] [(0, .slice a0' s_0.length c0'), (1, .string (bs v_1)), (7, .int .i64 (s_0.length : Int)), (8, .int .i64 st4), (5, .int .i64 st4)] (by kernel_rfl) ?_
  refine WL.nil ?_
  refine WQ.then_normal (hK21 _ _ _ ?_)
  refine WP.seq (fun K22 hK22 => ?_)
  refine WP.region ?_
  refine WL.runk 3 [0, 1, 5, 7, 8, 11, 12, 13] [(0, .slice a0' s_0.length c0'), (1, .string (bs v_1)), (7, .int .i64 (s_0.length : Int)), (8, .int .i64 st4), (5, .int .i64 st4), (11, .string (bs v_1)), (12, .slice a0' s_0.length c0'), (13, .int .i64 st4)] (by kernel_rfl) ?_
  obtain ⟨x23, hx24, hm⟩ := bindE hm
  refine WL.st (.pointer (some (at_ a0' (Int.toNat st4 * 1)))) (ST.index (T := fStr.ty) (xs := s_0) (Rd.below h0 hb6) hx24 rfl rfl rfl Tryd.underlying48 (info9).1 (info9).2.1) rfl rfl rfl ?_
  refine WL.st (.string (bs x23)) (ST.load (cell_ext (Rd.flat (F := fStr) (Rd.below h0 hb6) hx24 0 rfl)) rfl rfl Tryd.underlying9 rfl) rfl rfl rfl ?_
  refine WL.st (.bool (v_1 == x23)) (ST.streq (x := v_1) (y := x23) rfl rfl rfl) rfl rfl rfl ?_
  refine WL.sub [(0, .slice a0' s_0.length c0'), (1, .string (bs v_1)), (7, .int .i64 (s_0.length : Int)), (8, .int .i64 st4), (5, .int .i64 st4), (16, .bool (v_1 == x23))] ⟨rfl, rfl, rfl, rfl, rfl, rfl, trivial⟩ ?_
  refine WL.nil ?_
  refine WQ.then_normal (hK22 _ _ _ ?_)
  refine WP.cond (v_1 == x23) rfl rfl (fun hc25 => ?_) (fun hc25 => ?_)
  rotate_left
  · have hm := iteF hm hc25
    refine WP.skip ?_
    refine WQ.block_normal ?_
    refine WQ.then_normal (hK20 _ _ _ ?_)
    refine WP.region ?_
    refine WL.runk 2 [0, 1, 7, 8] [(0, .slice a0' s_0.length c0'), (1, .string (bs v_1)), (7, .int .i64 (s_0.length : Int)), (8, .int .i64 (wI64 (st4 + 1)))] (by kernel_rfl) ?_
    refine WL.nil ?_
    obtain rfl := Option.some.inj hm
    exact WQ.round hK11 ⟨(wI64 (st4 + 1)), rfl, hb6, hL7, hS8, hl9⟩ (Nat.lt_succ_self _) ⟨rfl, rfl, rfl, rfl, trivial⟩
  have hm := iteT hm hc25
  refine WP.seq (fun K26 hK26 => ?_)
  refine WP.region ?_
  refine WL.runk 2 [4] [(4, .int .i64 st4)] (by kernel_rfl) ?_
  refine WL.nil ?_
  refine WQ.then_normal (hK26 _ _ _ ?_)
  refine WP.ret ?_
  refine WQ.block_ret ?_
  refine WQ.then_ret ?_
  refine WQ.then_ret ?_
  refine WQ.block_ret ?_
  refine WQ.then_ret ?_
  obtain rfl := Option.some.inj hm
  obtain rfl := afterN_done hl9
  have hm := hmo10
  obtain rfl := Option.some.inj hm
  exact WQ.ret1 _ rfl rfl ⟨rfl, hb6⟩

theorem c_10 (n : Nat) (s_0 : List UInt8) (w : World) {r : SChange × Bool} (hm : m_impl_ReadChange n s_0 = some r) (hG : GL 4 w) :
    CallV Tryd.prog 10 #[.string (bs s_0)] w (fun v w' => v = .tuple #[.agg #[.int .i64 r.1.Kind, .int .i64 r.1.Amount], .bool r.2] ∧ Ext w w') := by
  unfold m_impl_ReadChange at hm
  refine CallV.enter Tryd.func10 rfl (by kernel_rfl) Tryd.ntmps10 (env := [(0, .string (bs s_0))]) ⟨rfl, trivial⟩ ?_
  refine WP.seq (fun K1 hK1 => ?_)
  refine WP.region ?_
  refine WL.box 25 [.int .i64 0, .int .i64 0] 2 (by kernel_rfl) rfl rfl rfl rfl ?_
  intro b2 w3 hE4 hR5
  have hb7 : Ext w w3 := Ext.trans (Ext.refl w) hE4
  have hL8 : w.heap.size ≤ w3.heap.size := Nat.le_trans (Nat.le_refl _) hE4.size
  have hS9 : SH w3 w.heap.size [aBox 25 b2 [.int .i64 0, .int .i64 0]] := SH.add (SH.nil _ _) hE4 (Nat.le_refl _) hR5
  refine WL.runk 1 [0, 2] [(0, .string (bs s_0)), (2, .pointer (some ⟨b2, 0, none⟩))] (by kernel_rfl) ?_
  refine WL.nil ?_
  refine WQ.then_normal (hK1 _ _ _ ?_)
  refine WP.seq (fun K10 hK10 => ?_)
  refine WP.region ?_
  refine WL.runk 1 [0, 2, 11] [(0, .string (bs s_0)), (2, .pointer (some ⟨b2, 0, none⟩)), (11, .string (bs s_0))] (by kernel_rfl) ?_
  obtain ⟨x11, hx12, hm⟩ := bindE hm
  refine WL.call 28 #[.string (bs s_0), .string (bs [32])] rfl rfl (by kernel_rfl) (c_28 n s_0 [32] w3 hx12 (GL.below (GL.low (j := 1) hG rfl) hb7)) ?_
  rintro _ w13 ⟨rfl, hE14⟩
  refine ⟨_, rfl, ?_⟩
  have hb16 : Ext w w13 := Ext.trans hb7 hE14
  have hL17 : w.heap.size ≤ w13.heap.size := Nat.le_trans hL8 hE14.size
  have hS18 : SH w13 w.heap.size [aBox 25 b2 [.int .i64 0, .int .i64 0]] := SH.ext hS9 hE14
  refine WL.runk 7 [0, 2, 4, 5] [(0, .string (bs s_0)), (2, .pointer (some ⟨b2, 0, none⟩)), (4, .string (bs x11.1)), (5, .string (bs x11.2.1))] (by kernel_rfl) ?_
  refine WL.nil ?_
  refine WQ.then_normal (hK10 _ _ _ ?_)
  refine WP.seq (fun K19 hK19 => ?_)
  refine WP.region ?_
  refine WL.runk 1 [0, 2, 4, 17] [(0, .string (bs s_0)), (2, .pointer (some ⟨b2, 0, none⟩)), (4, .string (bs x11.1)), (17, .string (bs x11.2.1))] (by kernel_rfl) ?_
  obtain ⟨x20, hx21, hm⟩ := bindE hm
  refine WL.call 30 #[.string (bs x11.2.1), .string (bs [43])] rfl rfl (by kernel_rfl) (c_30 n x11.2.1 [43] w13 hx21 ) ?_
  rintro _ w22 ⟨rfl, hE23⟩
  refine ⟨_, rfl, ?_⟩
  have hb25 : Ext w w22 := Ext.trans hb16 hE23
  have hL26 : w.heap.size ≤ w22.heap.size := Nat.le_trans hL17 hE23.size
  have hS27 : SH w22 w.heap.size [aBox 25 b2 [.int .i64 0, .int .i64 0]] := SH.ext hS18 hE23
  obtain ⟨x28, hx29, hm⟩ := bindE hm
  refine WL.call 29 #[.string (bs x20)] rfl rfl (by kernel_rfl) (c_29 n x20 w22 hx29 (GL.below hG hb25)) ?_
  rintro _ w30 ⟨rfl, hE31⟩
  refine ⟨_, rfl, ?_⟩
  have hb33 : Ext w w30 := Ext.trans hb25 hE31
  have hL34 : w.heap.size ≤ w30.heap.size := Nat.le_trans hL26 hE31.size
  have hS35 : SH w30 w.heap.size [aBox 25 b2 [.int .i64 0, .int .i64 0]] := SH.ext hS27 hE31
  refine WL.runk 5 [0, 2, 4, 7, 8] [(0, .string (bs s_0)), (2, .pointer (some ⟨b2, 0, none⟩)), (4, .string (bs x11.1)), (7, .int .i64 x28.1), (8, .bool x28.2)] (by kernel_rfl) ?_
  refine WL.nil ?_
  refine WQ.then_normal (hK19 _ _ _ ?_)
  refine WP.seq (fun K36 hK36 => ?_)
  refine WP.region ?_
  refine WL.st (.slice (some ⟨0, 0, none⟩) v_changeNames.length 6) (ST.sliceG rfl rfl Tryd.underlying46 (info9).1) rfl rfl rfl ?_
  refine WL.runk 1 [0, 2, 7, 8, 22, 23] [(0, .string (bs s_0)), (2, .pointer (some ⟨b2, 0, none⟩)), (7, .int .i64 x28.1), (8, .bool x28.2), (22, .slice (some ⟨0, 0, none⟩) v_changeNames.length 6), (23, .string (bs x11.1))] (by kernel_rfl) ?_
  obtain ⟨x37, hx38, hm⟩ := bindE hm
  refine WL.call 31 #[.slice (some ⟨0, 0, none⟩) v_changeNames.length 6, .string (bs x11.1)] rfl rfl (by kernel_rfl) (c_31 n v_changeNames (some ⟨0, 0, none⟩) 6 x11.1 w30 hx38 (Rd.below (GL.v_changeNames hG rfl) hb33) (by decide)) ?_
  rintro _ w39 ⟨rfl, hE40⟩
  refine ⟨_, rfl, ?_⟩
  have hb42 : Ext w w39 := Ext.trans hb33 hE40
  have hL43 : w.heap.size ≤ w39.heap.size := Nat.le_trans hL34 hE40.size
  have hS44 : SH w39 w.heap.size [aBox 25 b2 [.int .i64 0, .int .i64 0]] := SH.ext hS35 hE40
  refine WL.runk 2 [0, 2, 8, 26] [(0, .string (bs s_0)), (2, .pointer (some ⟨b2, 0, none⟩)), (8, .bool x28.2), (26, .agg #[.int .i64 x37, .int .i64 x28.1])] (by kernel_rfl) ?_
  refine WL.box 25 [.int .i64 0, .int .i64 0] 9 (by kernel_rfl) rfl rfl rfl rfl ?_
  intro b45 w46 hE47 hR48
  have hb50 : Ext w w46 := Ext.trans hb42 hE47
  have hL51 : w.heap.size ≤ w46.heap.size := Nat.le_trans hL43 hE47.size
  have hS52 : SH w46 w.heap.size [aBox 25 b45 [.int .i64 0, .int .i64 0], aBox 25 b2 [.int .i64 0, .int .i64 0]] := SH.add hS44 hE47 hL43 hR48
  refine WL.boxStore 0 [.int .i64 x37, .int .i64 x28.1] [.int .i64 x37, .int .i64 x28.1] (SH.front 0 hS52) hL51 rfl rfl rfl rfl rfl rfl rfl (info25).1 (info25).2.1 rfl rfl rfl ?_
  intro w53 hB54 hS55
  have hb56 : Ext w w53 := Below.trans hb50 hB54
  have hL57 : w.heap.size ≤ w53.heap.size := Nat.le_trans hL51 hB54.size
  refine WL.sub [(0, .string (bs s_0)), (2, .pointer (some ⟨b2, 0, none⟩)), (8, .bool x28.2), (9, .pointer (some ⟨b45, 0, none⟩))] ⟨rfl, rfl, rfl, rfl, trivial⟩ ?_
  refine WL.nil ?_
  refine WQ.then_normal (hK36 _ _ _ ?_)
  refine WP.seq (fun K58 hK58 => ?_)
  refine WP.seq (fun K59 hK59 => ?_)
  obtain ⟨x69, hx70, hm⟩ := bindE hm
  refine WP.cut (fun env' w' => env' = [(2, .pointer (some ⟨b2, 0, none⟩)), (9, .pointer (some ⟨b45, 0, none⟩)), (34, .bool x69)] ∧ Ext w w' ∧ w.heap.size ≤ w'.heap.size ∧ SH w' w.heap.size [aBox 25 b45 [.int .i64 x37, .int .i64 x28.1], aBox 25 b2 [.int .i64 0, .int .i64 0]]) ?_ ?_
  · have hm := hx70; clear hx70
    refine WP.region ?_
    refine WL.runk 3 [0, 2, 9, 29] [(0, .string (bs s_0)), (2, .pointer (some ⟨b2, 0, none⟩)), (9, .pointer (some ⟨b45, 0, none⟩)), (29, .bool (!x28.2))] (by kernel_rfl) ?_
    refine WL.case (!x28.2) [29] ⟨rfl, trivial⟩ (fun hc71 => ?_) (fun hc71 => ?_)
    · have hm := iteT hm hc71
      refine WL.runk 5 [2, 9, 34] [(2, .pointer (some ⟨b2, 0, none⟩)), (9, .pointer (some ⟨b45, 0, none⟩)), (34, .bool true)] (by kernel_rfl) ?_
      refine WL.nil ?_
      obtain rfl := Option.some.inj hm
      exact WQ.post' ⟨rfl, hb56, hL57, hS55⟩ ⟨rfl, rfl, rfl, trivial⟩
    have hm := iteF hm hc71
    refine WL.st (.agg #[.int .i64 x37, .int .i64 x28.1]) (ST.loadAgg (vs := [.int .i64 x37, .int .i64 x28.1]) (fun j v hv => SH.boxPart (us := [.int .i64 x37, .int .i64 x28.1]) (SH.front 0 hS55) 0 rfl j v hv) rfl rfl rfl Tryd.underlying25 rfl (info25).1 (info25).2.1) rfl rfl rfl ?_
    obtain ⟨x72, hx73, hm⟩ := bindE hm
    refine WL.call 8 #[.agg #[.int .i64 x37, .int .i64 x28.1]] rfl rfl (by kernel_rfl) (c_8 n (SChange.mk x37 x28.1) w53 hx73 (GL.below (GL.low (j := 3) hG rfl) hb56)) ?_
    rintro _ w74 ⟨rfl, hE75⟩
    refine ⟨_, rfl, ?_⟩
    have hb77 : Ext w w74 := Ext.trans hb56 hE75
    have hL78 : w.heap.size ≤ w74.heap.size := Nat.le_trans hL57 hE75.size
    have hS79 : SH w74 w.heap.size [aBox 25 b45 [.int .i64 x37, .int .i64 x28.1], aBox 25 b2 [.int .i64 0, .int .i64 0]] := SH.ext hS55 hE75
    refine WL.runk 1 [2, 9, 29, 31, 32] [(2, .pointer (some ⟨b2, 0, none⟩)), (9, .pointer (some ⟨b45, 0, none⟩)), (29, .bool false), (31, .string (bs x72)), (32, .string (bs s_0))] (by kernel_rfl) ?_
    refine WL.st (.bool (!(x72 == s_0))) (ST.strne (x := x72) (y := s_0) rfl rfl rfl) rfl rfl rfl ?_
    refine WL.runk 1 [2, 9, 34] [(2, .pointer (some ⟨b2, 0, none⟩)), (9, .pointer (some ⟨b45, 0, none⟩)), (34, .bool (!(x72 == s_0)))] (by kernel_rfl) ?_
    refine WL.nil ?_
    obtain rfl := Option.some.inj hm
    exact WQ.post' ⟨rfl, hb77, hL78, hS79⟩ ⟨rfl, rfl, rfl, trivial⟩
  clear hx70
  rintro _ w80 ⟨rfl, hb81, hL82, hS83⟩
  refine WQ.then_normal (hK59 _ _ _ ?_)
  refine WP.cond x69 rfl rfl (fun hc84 => ?_) (fun hc84 => ?_)
  · have hm := iteT hm hc84
    refine WP.seq (fun K85 hK85 => ?_)
    refine WP.region ?_
    refine WL.runk 1 [2, 35] [(2, .pointer (some ⟨b2, 0, none⟩)), (35, .agg #[.int .i64 0, .int .i64 0])] (by kernel_rfl) ?_
    refine WL.boxStore 0 [.int .i64 0, .int .i64 0] [.int .i64 0, .int .i64 0] (SH.front 1 hS83) hL82 rfl rfl rfl rfl rfl rfl rfl (info25).1 (info25).2.1 rfl rfl rfl ?_
    intro w86 hB87 hS88
    have hb89 : Ext w w86 := Below.trans hb81 hB87
    have hL90 : w.heap.size ≤ w86.heap.size := Nat.le_trans hL82 hB87.size
    refine WL.runk 1 [2, 3] [(2, .pointer (some ⟨b2, 0, none⟩)), (3, .bool false)] (by kernel_rfl) ?_
    refine WL.nil ?_
    refine WQ.then_normal (hK85 _ _ _ ?_)
    refine WP.ret ?_
    refine WQ.then_ret ?_
    obtain rfl := Option.some.inj hm
    exact WQ.retv2 _ _ rfl (RVal.box (SH.front 0 hS88) rfl Tryd.underlying25 rfl (info25).1 (info25).2.1) (RVal.tmp rfl) ⟨rfl, hb89⟩
  have hm := iteF hm hc84
  refine WP.skip ?_
  refine WQ.then_normal (hK58 _ _ _ ?_)
  refine WP.seq (fun K91 hK91 => ?_)
  refine WP.region ?_
  refine WL.st (.agg #[.int .i64 x37, .int .i64 x28.1]) (ST.loadAgg (vs := [.int .i64 x37, .int .i64 x28.1]) (fun j v hv => SH.boxPart (us := [.int .i64 x37, .int .i64 x28.1]) (SH.front 0 hS83) 0 rfl j v hv) rfl rfl rfl Tryd.underlying25 rfl (info25).1 (info25).2.1) rfl rfl rfl ?_
  refine WL.boxStore 0 [.int .i64 x37, .int .i64 x28.1] [.int .i64 x37, .int .i64 x28.1] (SH.front 1 hS83) hL82 rfl rfl rfl rfl rfl rfl rfl (info25).1 (info25).2.1 rfl rfl rfl ?_
  intro w92 hB93 hS94
  have hb95 : Ext w w92 := Below.trans hb81 hB93
  have hL96 : w.heap.size ≤ w92.heap.size := Nat.le_trans hL82 hB93.size
  refine WL.runk 1 [2, 3] [(2, .pointer (some ⟨b2, 0, none⟩)), (3, .bool true)] (by kernel_rfl) ?_
  refine WL.nil ?_
  refine WQ.then_normal (hK91 _ _ _ ?_)
  refine WP.ret ?_
  obtain rfl := Option.some.inj hm
  exact WQ.retv2 _ _ rfl (RVal.box (SH.front 0 hS94) rfl Tryd.underlying25 rfl (info25).1 (info25).2.1) (RVal.tmp rfl) ⟨rfl, hb95⟩

theorem c_11 (n : Nat) (a_0 : SChange) (b_1 : SChange) (w : World) {r : Bool} (hm : m_laws_eqChange n a_0 b_1 = some r)  :
    CallV Tryd.prog 11 #[.agg #[.int .i64 a_0.Kind, .int .i64 a_0.Amount], .agg #[.int .i64 b_1.Kind, .int .i64 b_1.Amount]] w (fun v w' => v = .bool r ∧ Ext w w') := by
  unfold m_laws_eqChange at hm
  refine CallV.enter Tryd.func11 rfl (by kernel_rfl) Tryd.ntmps11 (env := [(0, .agg #[.int .i64 a_0.Kind, .int .i64 a_0.Amount]), (1, .agg #[.int .i64 b_1.Kind, .int .i64 b_1.Amount])]) ⟨rfl, rfl, trivial⟩ ?_
  refine WP.seq (fun K1 hK1 => ?_)
  refine WP.region ?_
  refine WL.box 25 [.int .i64 a_0.Kind, .int .i64 a_0.Amount] 2 (by kernel_rfl) rfl rfl rfl rfl ?_
  intro b2 w3 hE4 hR5
  have hb7 : Ext w w3 := Ext.trans (Ext.refl w) hE4
  have hL8 : w.heap.size ≤ w3.heap.size := Nat.le_trans (Nat.le_refl _) hE4.size
  have hS9 : SH w3 w.heap.size [aBox 25 b2 [.int .i64 a_0.Kind, .int .i64 a_0.Amount]] := SH.add (SH.nil _ _) hE4 (Nat.le_refl _) hR5
  refine WL.box 25 [.int .i64 b_1.Kind, .int .i64 b_1.Amount] 3 (by kernel_rfl) rfl rfl rfl rfl ?_
  intro b10 w11 hE12 hR13
  have hb15 : Ext w w11 := Ext.trans hb7 hE12
  have hL16 : w.heap.size ≤ w11.heap.size := Nat.le_trans hL8 hE12.size
  have hS17 : SH w11 w.heap.size [aBox 25 b10 [.int .i64 b_1.Kind, .int .i64 b_1.Amount], aBox 25 b2 [.int .i64 a_0.Kind, .int .i64 a_0.Amount]] := SH.add hS9 hE12 hL8 hR13
  refine WL.runk 1 [2, 3] [(2, .pointer (some ⟨b2, 0, none⟩)), (3, .pointer (some ⟨b10, 0, none⟩))] (by kernel_rfl) ?_
  refine WL.nil ?_
  refine WQ.then_normal (hK1 _ _ _ ?_)
  refine WP.seq (fun K18 hK18 => ?_)
  refine WP.seq (fun K19 hK19 => ?_)
  refine WP.region ?_
  refine WL.runk 1 [2, 3, 5] [(2, .pointer (some ⟨b2, 0, none⟩)), (3, .pointer (some ⟨b10, 0, none⟩)), (5, .pointer (some ⟨b2, 0, none⟩))] (by kernel_rfl) ?_
  refine WL.st (.int .i64 a_0.Kind) (ST.load (cell_ext (SH.boxAt (SH.front 1 hS17) 0 _ rfl)) rfl rfl Tryd.underlying2 rfl) rfl rfl rfl ?_
  refine WL.runk 1 [2, 3, 6, 7] [(2, .pointer (some ⟨b2, 0, none⟩)), (3, .pointer (some ⟨b10, 0, none⟩)), (6, .int .i64 a_0.Kind), (7, .pointer (some ⟨b10, 0, none⟩))] (by kernel_rfl) ?_
  refine WL.st (.int .i64 b_1.Kind) (ST.load (cell_ext (SH.boxAt (SH.front 0 hS17) 0 _ rfl)) rfl rfl Tryd.underlying2 rfl) rfl rfl rfl ?_
  refine WL.runk 1 [2, 3, 9] [(2, .pointer (some ⟨b2, 0, none⟩)), (3, .pointer (some ⟨b10, 0, none⟩)), (9, .bool (a_0.Kind != b_1.Kind))] (by kernel_rfl) ?_
  refine WL.nil ?_
  refine WQ.then_normal (hK19 _ _ _ ?_)
  refine WP.cond (a_0.Kind != b_1.Kind) rfl rfl (fun hc20 => ?_) (fun hc20 => ?_)
  · have hm := iteT hm hc20
    refine WP.seq (fun K21 hK21 => ?_)
    refine WP.region ?_
    refine WL.runk 1 [4] [(4, .bool false)] (by kernel_rfl) ?_
    refine WL.nil ?_
    refine WQ.then_normal (hK21 _ _ _ ?_)
    refine WP.ret ?_
    refine WQ.then_ret ?_
    obtain rfl := Option.some.inj hm
    exact WQ.ret1 _ rfl rfl ⟨rfl, hb15⟩
  have hm := iteF hm hc20
  refine WP.skip ?_
  refine WQ.then_normal (hK18 _ _ _ ?_)
  refine WP.seq (fun K22 hK22 => ?_)
  refine WP.seq (fun K23 hK23 => ?_)
  refine WP.region ?_
  refine WL.runk 1 [3, 10] [(3, .pointer (some ⟨b10, 0, none⟩)), (10, .pointer (some ⟨b2, 1, none⟩))] (by kernel_rfl) ?_
  refine WL.st (.int .i64 a_0.Amount) (ST.load (cell_ext (SH.boxAt (SH.front 1 hS17) 1 _ rfl)) rfl rfl Tryd.underlying2 rfl) rfl rfl rfl ?_
  refine WL.runk 1 [11, 12] [(11, .int .i64 a_0.Amount), (12, .pointer (some ⟨b10, 1, none⟩))] (by kernel_rfl) ?_
  refine WL.st (.int .i64 b_1.Amount) (ST.load (cell_ext (SH.boxAt (SH.front 0 hS17) 1 _ rfl)) rfl rfl Tryd.underlying2 rfl) rfl rfl rfl ?_
  refine WL.runk 1 [14] [(14, .bool (a_0.Amount != b_1.Amount))] (by kernel_rfl) ?_
  refine WL.nil ?_
  refine WQ.then_normal (hK23 _ _ _ ?_)
  refine WP.cond (a_0.Amount != b_1.Amount) rfl rfl (fun hc24 => ?_) (fun hc24 => ?_)
  · have hm := iteT hm hc24
    refine WP.seq (fun K25 hK25 => ?_)
    refine WP.region ?_
    refine WL.runk 1 [4] [(4, .bool false)] (by kernel_rfl) ?_
    refine WL.nil ?_
    refine WQ.then_normal (hK25 _ _ _ ?_)
    refine WP.ret ?_
    refine WQ.then_ret ?_
    obtain rfl := Option.some.inj hm
    exact WQ.ret1 _ rfl rfl ⟨rfl, hb15⟩
  have hm := iteF hm hc24
  refine WP.skip ?_
  refine WQ.then_normal (hK22 _ _ _ ?_)
  refine WP.seq (fun K26 hK26 => ?_)
  refine WP.region ?_
  refine WL.runk 1 [4] [(4, .bool true)] (by kernel_rfl) ?_
  refine WL.nil ?_
  refine WQ.then_normal (hK26 _ _ _ ?_)
  refine WP.ret ?_
  obtain rfl := Option.some.inj hm
  exact WQ.ret1 _ rfl rfl ⟨rfl, hb15⟩

theorem c_4 (n : Nat) (aS_0 : List UInt8) (w : World) {r : Bool} (hm : m_laws_FnExactReadChange n aS_0 = some r) (hG : GL 4 w) :
    CallV Tryd.prog 4 #[.string (bs aS_0)] w (fun v w' => v = .bool r ∧ Ext w w') := by
  unfold m_laws_FnExactReadChange at hm
  refine CallV.enter Tryd.func4 rfl (by kernel_rfl) Tryd.ntmps4 (env := [(0, .string (bs aS_0))]) ⟨rfl, trivial⟩ ?_
  refine WP.seq (fun K1 hK1 => ?_)
  refine WP.region ?_
  refine WL.runk 1 [0] [(0, .string (bs aS_0))] (by kernel_rfl) ?_
  refine WL.nil ?_
  refine WQ.then_normal (hK1 _ _ _ ?_)
  refine WP.seq (fun K2 hK2 => ?_)
  refine WP.seq (fun K3 hK3 => ?_)
  refine WP.region ?_
  refine WL.runk 3 [0, 9] [(0, .string (bs aS_0)), (9, .bool (decide ((aS_0.length : Int) > 1048576)))] (by kernel_rfl) ?_
  refine WL.nil ?_
  refine WQ.then_normal (hK3 _ _ _ ?_)
  refine WP.cond (decide ((aS_0.length : Int) > 1048576)) rfl rfl (fun hc4 => ?_) (fun hc4 => ?_)
  · have hm := iteT hm hc4
    refine WP.seq (fun K5 hK5 => ?_)
    refine WP.region ?_
    refine WL.runk 1 [2] [(2, .bool true)] (by kernel_rfl) ?_
    refine WL.nil ?_
    refine WQ.then_normal (hK5 _ _ _ ?_)
    refine WP.ret ?_
    refine WQ.then_ret ?_
    obtain rfl := Option.some.inj hm
    exact WQ.ret1 _ rfl rfl ⟨rfl, (Ext.refl w)⟩
  have hm := iteF hm hc4
  refine WP.skip ?_
  refine WQ.then_normal (hK2 _ _ _ ?_)
  refine WP.seq (fun K6 hK6 => ?_)
  refine WP.region ?_
  refine WL.runk 1 [0, 11] [(0, .string (bs aS_0)), (11, .string (bs aS_0))] (by kernel_rfl) ?_
  obtain ⟨x7, hx8, hm⟩ := bindE hm
  refine WL.call 9 #[.string (bs aS_0)] rfl rfl (by kernel_rfl) (c_9 n aS_0 w hx8 ) ?_
  rintro _ w9 ⟨rfl, hE10⟩
  refine ⟨_, rfl, ?_⟩
  have hb12 : Ext w w9 := Ext.trans (Ext.refl w) hE10
  have hL13 : w.heap.size ≤ w9.heap.size := Nat.le_trans (Nat.le_refl _) hE10.size
  have hS14 : SH w9 w.heap.size [] := SH.ext (SH.nil _ _) hE10
  refine WL.runk 3 [0, 13, 14] [(0, .string (bs aS_0)), (13, .agg #[.int .i64 x7.1.Kind, .int .i64 x7.1.Amount]), (14, .bool x7.2)] (by kernel_rfl) ?_
  refine WL.box 25 [.int .i64 0, .int .i64 0] 3 (by kernel_rfl) rfl rfl rfl rfl ?_
  intro b15 w16 hE17 hR18
  have hb20 : Ext w w16 := Ext.trans hb12 hE17
  have hL21 : w.heap.size ≤ w16.heap.size := Nat.le_trans hL13 hE17.size
  have hS22 : SH w16 w.heap.size [aBox 25 b15 [.int .i64 0, .int .i64 0]] := SH.add hS14 hE17 hL13 hR18
  refine WL.boxStore 0 [.int .i64 x7.1.Kind, .int .i64 x7.1.Amount] [.int .i64 x7.1.Kind, .int .i64 x7.1.Amount] (SH.front 0 hS22) hL21 rfl rfl rfl rfl rfl rfl rfl (info25).1 (info25).2.1 rfl rfl rfl ?_
  intro w23 hB24 hS25
  have hb26 : Ext w w23 := Below.trans hb20 hB24
  have hL27 : w.heap.size ≤ w23.heap.size := Nat.le_trans hL21 hB24.size
  refine WL.runk 1 [0, 3, 4] [(0, .string (bs aS_0)), (3, .pointer (some ⟨b15, 0, none⟩)), (4, .bool x7.2)] (by kernel_rfl) ?_
  refine WL.nil ?_
  refine WQ.then_normal (hK6 _ _ _ ?_)
  refine WP.seq (fun K28 hK28 => ?_)
  refine WP.region ?_
  refine WL.runk 1 [3, 4, 16] [(3, .pointer (some ⟨b15, 0, none⟩)), (4, .bool x7.2), (16, .string (bs aS_0))] (by kernel_rfl) ?_
  obtain ⟨x29, hx30, hm⟩ := bindE hm
  refine WL.call 10 #[.string (bs aS_0)] rfl rfl (by kernel_rfl) (c_10 n aS_0 w23 hx30 (GL.below hG hb26)) ?_
  rintro _ w31 ⟨rfl, hE32⟩
  refine ⟨_, rfl, ?_⟩
  have hb34 : Ext w w31 := Ext.trans hb26 hE32
  have hL35 : w.heap.size ≤ w31.heap.size := Nat.le_trans hL27 hE32.size
  have hS36 : SH w31 w.heap.size [aBox 25 b15 [.int .i64 x7.1.Kind, .int .i64 x7.1.Amount]] := SH.ext hS25 hE32
  refine WL.runk 3 [3, 4, 18, 19] [(3, .pointer (some ⟨b15, 0, none⟩)), (4, .bool x7.2), (18, .agg #[.int .i64 x29.1.Kind, .int .i64 x29.1.Amount]), (19, .bool x29.2)] (by kernel_rfl) ?_
  refine WL.box 25 [.int .i64 0, .int .i64 0] 5 (by kernel_rfl) rfl rfl rfl rfl ?_
  intro b37 w38 hE39 hR40
  have hb42 : Ext w w38 := Ext.trans hb34 hE39
  have hL43 : w.heap.size ≤ w38.heap.size := Nat.le_trans hL35 hE39.size
  have hS44 : SH w38 w.heap.size [aBox 25 b37 [.int .i64 0, .int .i64 0], aBox 25 b15 [.int .i64 x7.1.Kind, .int .i64 x7.1.Amount]] := SH.add hS36 hE39 hL35 hR40
  refine WL.boxStore 0 [.int .i64 x29.1.Kind, .int .i64 x29.1.Amount] [.int .i64 x29.1.Kind, .int .i64 x29.1.Amount] (SH.front 0 hS44) hL43 rfl rfl rfl rfl rfl rfl rfl (info25).1 (info25).2.1 rfl rfl rfl ?_
  intro w45 hB46 hS47
  have hb48 : Ext w w45 := Below.trans hb42 hB46
  have hL49 : w.heap.size ≤ w45.heap.size := Nat.le_trans hL43 hB46.size
  refine WL.runk 1 [3, 4, 5, 6] [(3, .pointer (some ⟨b15, 0, none⟩)), (4, .bool x7.2), (5, .pointer (some ⟨b37, 0, none⟩)), (6, .bool x29.2)] (by kernel_rfl) ?_
  refine WL.nil ?_
  refine WQ.then_normal (hK28 _ _ _ ?_)
  refine WP.seq (fun K50 hK50 => ?_)
  refine WP.seq (fun K51 hK51 => ?_)
  obtain ⟨x61, hx62, hm⟩ := bindE hm
  refine WP.cut (fun env' w' => env' = [(28, .bool x61)] ∧ Ext w w' ∧ w.heap.size ≤ w'.heap.size ∧ SH w' w.heap.size [aBox 25 b37 [.int .i64 x29.1.Kind, .int .i64 x29.1.Amount], aBox 25 b15 [.int .i64 x7.1.Kind, .int .i64 x7.1.Amount]]) ?_ ?_
  · have hm := hx62; clear hx62
    refine WP.region ?_
    refine WL.st (.agg #[.int .i64 x29.1.Kind, .int .i64 x29.1.Amount]) (ST.loadAgg (vs := [.int .i64 x29.1.Kind, .int .i64 x29.1.Amount]) (fun j v hv => SH.boxPart (us := [.int .i64 x29.1.Kind, .int .i64 x29.1.Amount]) (SH.front 0 hS47) 0 rfl j v hv) rfl rfl rfl Tryd.underlying25 rfl (info25).1 (info25).2.1) rfl rfl rfl ?_
    refine WL.st (.agg #[.int .i64 x7.1.Kind, .int .i64 x7.1.Amount]) (ST.loadAgg (vs := [.int .i64 x7.1.Kind, .int .i64 x7.1.Amount]) (fun j v hv => SH.boxPart (us := [.int .i64 x7.1.Kind, .int .i64 x7.1.Amount]) (SH.front 1 hS47) 0 rfl j v hv) rfl rfl rfl Tryd.underlying25 rfl (info25).1 (info25).2.1) rfl rfl rfl ?_
    obtain ⟨x63, hx64, hm⟩ := bindE hm
    refine WL.call 11 #[.agg #[.int .i64 x29.1.Kind, .int .i64 x29.1.Amount], .agg #[.int .i64 x7.1.Kind, .int .i64 x7.1.Amount]] rfl rfl (by kernel_rfl) (c_11 n x29.1 x7.1 w45 hx64 ) ?_
    rintro _ w65 ⟨rfl, hE66⟩
    refine ⟨_, rfl, ?_⟩
    have hb68 : Ext w w65 := Ext.trans hb48 hE66
    have hL69 : w.heap.size ≤ w65.heap.size := Nat.le_trans hL49 hE66.size
    have hS70 : SH w65 w.heap.size [aBox 25 b37 [.int .i64 x29.1.Kind, .int .i64 x29.1.Amount], aBox 25 b15 [.int .i64 x7.1.Kind, .int .i64 x7.1.Amount]] := SH.ext hS47 hE66
    refine WL.runk 2 [4, 6, 24] [(4, .bool x7.2), (6, .bool x29.2), (24, .bool (!x63))] (by kernel_rfl) ?_
    refine WL.case (!x63) [24] ⟨rfl, trivial⟩ (fun hc71 => ?_) (fun hc71 => ?_)
    · have hm := iteT hm hc71
      refine WL.runk 4 [28] [(28, .bool true)] (by kernel_rfl) ?_
      refine WL.nil ?_
      obtain rfl := Option.some.inj hm
      exact WQ.post' ⟨rfl, hb68, hL69, hS70⟩ ⟨rfl, trivial⟩
    have hm := iteF hm hc71
    refine WL.runk 4 [28] [(28, .bool (!(x29.2 == x7.2)))] (by kernel_rfl) ?_
    refine WL.nil ?_
    obtain rfl := Option.some.inj hm
    exact WQ.post' ⟨rfl, hb68, hL69, hS70⟩ ⟨rfl, trivial⟩
  clear hx62
  rintro _ w72 ⟨rfl, hb73, hL74, hS75⟩
  refine WQ.then_normal (hK51 _ _ _ ?_)
  refine WP.cond x61 rfl rfl (fun hc76 => ?_) (fun hc76 => ?_)
  · have hm := iteT hm hc76
    refine WP.seq (fun K77 hK77 => ?_)
    refine WP.region ?_
    refine WL.runk 1 [2] [(2, .bool false)] (by kernel_rfl) ?_
    refine WL.nil ?_
    refine WQ.then_normal (hK77 _ _ _ ?_)
    refine WP.ret ?_
    refine WQ.then_ret ?_
    obtain rfl := Option.some.inj hm
    exact WQ.ret1 _ rfl rfl ⟨rfl, hb73⟩
  have hm := iteF hm hc76
  refine WP.skip ?_
  refine WQ.then_normal (hK50 _ _ _ ?_)
  refine WP.seq (fun K78 hK78 => ?_)
  refine WP.region ?_
  refine WL.runk 1 [2] [(2, .bool true)] (by kernel_rfl) ?_
  refine WL.nil ?_
  refine WQ.then_normal (hK78 _ _ _ ?_)
  refine WP.ret ?_
  obtain rfl := Option.some.inj hm
  exact WQ.ret1 _ rfl rfl ⟨rfl, hb73⟩

end Go.Proofs.YtlplbjeegkkilaaDoor
