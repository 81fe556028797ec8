/- Each call does what its Lean function says. -/
import Derived.Test.YtlplbjeegkkilaaTi
import Derived.Test.YtlplbjeegkkilaaEq
import Derived.Test.YtlplbjeegkkilaaMo
import Derived.Test.YtlplbjeegkkilaaGu
set_option maxRecDepth 20000
set_option maxHeartbeats 40000000
namespace Go.Proofs.Ytlplbjeegkkilaa
open Go Go.Gv Go.RowKit

theorem c_52 (n : Nat) (kind_0 : Int) (w : World) {r : Int} (hm : m_spec_l22Most n kind_0 = some r)  :
    CallV Try.prog 52 #[.int .i64 kind_0] w (fun v w' => v = .int .i64 r ∧ Ext w w') := by
  unfold m_spec_l22Most at hm
  refine CallV.enter Try.func52 rfl (by kernel_rfl) Try.ntmps52 (env := [(0, .int .i64 kind_0)]) ⟨rfl, trivial⟩ ?_
  refine WP.seq (fun K1 hK1 => ?_)
  refine WP.region ?_
  refine WL.runk 1 [0] [(0, .int .i64 kind_0)] (by kernel_rfl) ?_
  refine WL.nil ?_
  refine WQ.then_normal (hK1 _ _ _ ?_)
  refine WP.seq (fun K2 hK2 => ?_)
  refine WP.seq (fun K3 hK3 => ?_)
  refine WP.region ?_
  refine WL.runk 1 [3] [(3, .int .i64 kind_0)] (by kernel_rfl) ?_
  refine WL.nil ?_
  refine WQ.then_normal (hK3 _ _ _ ?_)
  refine WP.block ?_
  refine WP.seq (fun K4 hK4 => ?_)
  refine WP.region ?_
  refine WL.runk 2 [3, 4] [(3, .int .i64 kind_0), (4, .bool (kind_0 == 1))] (by kernel_rfl) ?_
  refine WL.nil ?_
  refine WQ.then_normal (hK4 _ _ _ ?_)
  refine WP.cond (kind_0 == 1) rfl rfl (fun hc5 => ?_) (fun hc5 => ?_)
  · have hm := iteT hm hc5
    refine WP.seq (fun K6 hK6 => ?_)
    refine WP.region ?_
    refine WL.runk 1 [2] [(2, .int .i64 200)] (by kernel_rfl) ?_
    refine WL.nil ?_
    refine WQ.then_normal (hK6 _ _ _ ?_)
    refine WP.ret ?_
    refine WQ.block_ret ?_
    refine WQ.then_ret ?_
    obtain rfl := Option.some.inj hm
    exact WQ.ret1 _ rfl rfl ⟨rfl, (Ext.refl w)⟩
  have hm := iteF hm hc5
  refine WP.seq (fun K7 hK7 => ?_)
  refine WP.seq (fun K8 hK8 => ?_)
  refine WP.region ?_
  refine WL.runk 2 [3, 6] [(3, .int .i64 kind_0), (6, .bool (kind_0 == 2))] (by kernel_rfl) ?_
  refine WL.nil ?_
  refine WQ.then_normal (hK8 _ _ _ ?_)
  obtain ⟨x18, hx19, hm⟩ := bindE hm
  refine WP.cut (fun env' w' => env' = [(3, .int .i64 kind_0), (6, .bool x18)] ∧ Ext w w' ∧ w.heap.size ≤ w'.heap.size ∧ SH w' w.heap.size []) ?_ ?_
  · have hm := hx19; clear hx19
    refine WP.cond (kind_0 == 2) rfl rfl (fun hc9 => ?_) (fun hc9 => ?_)
    · have hm := iteT hm hc9
      refine WP.skip ?_
      obtain rfl := Option.some.inj hm
      exact WQ.post' ⟨rfl, (Ext.refl w), (Nat.le_refl _), (SH.nil _ _)⟩ ⟨rfl, rfl, trivial⟩
    have hm := iteF hm hc9
    refine WP.seq (fun K20 hK20 => ?_)
    refine WP.region ?_
    refine WL.runk 2 [3, 6] [(3, .int .i64 kind_0), (6, .bool (kind_0 == 3))] (by kernel_rfl) ?_
    refine WL.nil ?_
    refine WQ.then_normal (hK20 _ _ _ ?_)
    obtain ⟨x22, hx23, hm⟩ := bindE hm
    refine WP.cut (fun env' w' => env' = [(3, .int .i64 kind_0), (6, .bool x22)] ∧ Ext w w' ∧ w.heap.size ≤ w'.heap.size ∧ SH w' w.heap.size []) ?_ ?_
    rotate_left
    · clear hx23
      rintro _ w24 ⟨rfl, hb25, hL26, hS27⟩
      obtain rfl := Option.some.inj hm
      exact WQ.post' ⟨rfl, hb25, hL26, hS27⟩ ⟨rfl, rfl, trivial⟩
    have hm := hx23; clear hx23
    refine WP.cond (kind_0 == 3) rfl rfl (fun hc21 => ?_) (fun hc21 => ?_)
    · have hm := iteT hm hc21
      refine WP.skip ?_
      obtain rfl := Option.some.inj hm
      exact WQ.post' ⟨rfl, (Ext.refl w), (Nat.le_refl _), (SH.nil _ _)⟩ ⟨rfl, rfl, trivial⟩
    have hm := iteF hm hc21
    refine WP.region ?_
    refine WL.runk 2 [3, 6] [(3, .int .i64 kind_0), (6, .bool (kind_0 == 4))] (by kernel_rfl) ?_
    refine WL.nil ?_
    obtain rfl := Option.some.inj hm
    exact WQ.post' ⟨rfl, (Ext.refl w), (Nat.le_refl _), (SH.nil _ _)⟩ ⟨rfl, rfl, trivial⟩
  clear hx19
  rintro _ w28 ⟨rfl, hb29, hL30, hS31⟩
  refine WQ.then_normal (hK7 _ _ _ ?_)
  refine WP.cond x18 rfl rfl (fun hc32 => ?_) (fun hc32 => ?_)
  · have hm := iteT hm hc32
    refine WP.seq (fun K33 hK33 => ?_)
    refine WP.region ?_
    refine WL.runk 1 [2] [(2, .int .i64 300)] (by kernel_rfl) ?_
    refine WL.nil ?_
    refine WQ.then_normal (hK33 _ _ _ ?_)
    refine WP.ret ?_
    refine WQ.block_ret ?_
    refine WQ.then_ret ?_
    obtain rfl := Option.some.inj hm
    exact WQ.ret1 _ rfl rfl ⟨rfl, hb29⟩
  have hm := iteF hm hc32
  refine WP.seq (fun K34 hK34 => ?_)
  refine WP.region ?_
  refine WL.runk 2 [10] [(10, .bool (kind_0 == 5))] (by kernel_rfl) ?_
  refine WL.nil ?_
  refine WQ.then_normal (hK34 _ _ _ ?_)
  refine WP.cond (kind_0 == 5) rfl rfl (fun hc35 => ?_) (fun hc35 => ?_)
  · have hm := iteT hm hc35
    refine WP.seq (fun K36 hK36 => ?_)
    refine WP.region ?_
    refine WL.runk 1 [2] [(2, .int .i64 150)] (by kernel_rfl) ?_
    refine WL.nil ?_
    refine WQ.then_normal (hK36 _ _ _ ?_)
    refine WP.ret ?_
    refine WQ.block_ret ?_
    refine WQ.then_ret ?_
    obtain rfl := Option.some.inj hm
    exact WQ.ret1 _ rfl rfl ⟨rfl, hb29⟩
  have hm := iteF hm hc35
  refine WP.skip ?_
  refine WQ.block_normal ?_
  refine WQ.then_normal (hK2 _ _ _ ?_)
  refine WP.seq (fun K37 hK37 => ?_)
  refine WP.region ?_
  refine WL.runk 1 [2] [(2, .int .i64 (-1))] (by kernel_rfl) ?_
  refine WL.nil ?_
  refine WQ.then_normal (hK37 _ _ _ ?_)
  refine WP.ret ?_
  obtain rfl := Option.some.inj hm
  exact WQ.ret1 _ rfl rfl ⟨rfl, hb29⟩

theorem c_53 (n : Nat) (kind_0 : Int) (w : World) {r : Int} (hm : m_impl_mostChange n kind_0 = some r)  :
    CallV Try.prog 53 #[.int .i64 kind_0] w (fun v w' => v = .int .i64 r ∧ Ext w w') := by
  unfold m_impl_mostChange at hm
  refine CallV.enter Try.func53 rfl (by kernel_rfl) Try.ntmps53 (env := [(0, .int .i64 kind_0)]) ⟨rfl, trivial⟩ ?_
  refine WP.seq (fun K1 hK1 => ?_)
  refine WP.region ?_
  refine WL.runk 1 [0] [(0, .int .i64 kind_0)] (by kernel_rfl) ?_
  refine WL.nil ?_
  refine WQ.then_normal (hK1 _ _ _ ?_)
  refine WP.seq (fun K2 hK2 => ?_)
  refine WP.seq (fun K3 hK3 => ?_)
  refine WP.region ?_
  refine WL.runk 1 [3] [(3, .int .i64 kind_0)] (by kernel_rfl) ?_
  refine WL.nil ?_
  refine WQ.then_normal (hK3 _ _ _ ?_)
  refine WP.block ?_
  refine WP.seq (fun K4 hK4 => ?_)
  refine WP.region ?_
  refine WL.runk 2 [3, 4] [(3, .int .i64 kind_0), (4, .bool (kind_0 == 1))] (by kernel_rfl) ?_
  refine WL.nil ?_
  refine WQ.then_normal (hK4 _ _ _ ?_)
  refine WP.cond (kind_0 == 1) rfl rfl (fun hc5 => ?_) (fun hc5 => ?_)
  · have hm := iteT hm hc5
    refine WP.seq (fun K6 hK6 => ?_)
    refine WP.region ?_
    refine WL.runk 1 [2] [(2, .int .i64 200)] (by kernel_rfl) ?_
    refine WL.nil ?_
    refine WQ.then_normal (hK6 _ _ _ ?_)
    refine WP.ret ?_
    refine WQ.block_ret ?_
    refine WQ.then_ret ?_
    obtain rfl := Option.some.inj hm
    exact WQ.ret1 _ rfl rfl ⟨rfl, (Ext.refl w)⟩
  have hm := iteF hm hc5
  refine WP.seq (fun K7 hK7 => ?_)
  refine WP.seq (fun K8 hK8 => ?_)
  refine WP.region ?_
  refine WL.runk 2 [3, 6] [(3, .int .i64 kind_0), (6, .bool (kind_0 == 2))] (by kernel_rfl) ?_
  refine WL.nil ?_
  refine WQ.then_normal (hK8 _ _ _ ?_)
  obtain ⟨x18, hx19, hm⟩ := bindE hm
  refine WP.cut (fun env' w' => env' = [(3, .int .i64 kind_0), (6, .bool x18)] ∧ Ext w w' ∧ w.heap.size ≤ w'.heap.size ∧ SH w' w.heap.size []) ?_ ?_
  · have hm := hx19; clear hx19
    refine WP.cond (kind_0 == 2) rfl rfl (fun hc9 => ?_) (fun hc9 => ?_)
    · have hm := iteT hm hc9
      refine WP.skip ?_
      obtain rfl := Option.some.inj hm
      exact WQ.post' ⟨rfl, (Ext.refl w), (Nat.le_refl _), (SH.nil _ _)⟩ ⟨rfl, rfl, trivial⟩
    have hm := iteF hm hc9
    refine WP.seq (fun K20 hK20 => ?_)
    refine WP.region ?_
    refine WL.runk 2 [3, 6] [(3, .int .i64 kind_0), (6, .bool (kind_0 == 3))] (by kernel_rfl) ?_
    refine WL.nil ?_
    refine WQ.then_normal (hK20 _ _ _ ?_)
    obtain ⟨x22, hx23, hm⟩ := bindE hm
    refine WP.cut (fun env' w' => env' = [(3, .int .i64 kind_0), (6, .bool x22)] ∧ Ext w w' ∧ w.heap.size ≤ w'.heap.size ∧ SH w' w.heap.size []) ?_ ?_
    rotate_left
    · clear hx23
      rintro _ w24 ⟨rfl, hb25, hL26, hS27⟩
      obtain rfl := Option.some.inj hm
      exact WQ.post' ⟨rfl, hb25, hL26, hS27⟩ ⟨rfl, rfl, trivial⟩
    have hm := hx23; clear hx23
    refine WP.cond (kind_0 == 3) rfl rfl (fun hc21 => ?_) (fun hc21 => ?_)
    · have hm := iteT hm hc21
      refine WP.skip ?_
      obtain rfl := Option.some.inj hm
      exact WQ.post' ⟨rfl, (Ext.refl w), (Nat.le_refl _), (SH.nil _ _)⟩ ⟨rfl, rfl, trivial⟩
    have hm := iteF hm hc21
    refine WP.region ?_
    refine WL.runk 2 [3, 6] [(3, .int .i64 kind_0), (6, .bool (kind_0 == 4))] (by kernel_rfl) ?_
    refine WL.nil ?_
    obtain rfl := Option.some.inj hm
    exact WQ.post' ⟨rfl, (Ext.refl w), (Nat.le_refl _), (SH.nil _ _)⟩ ⟨rfl, rfl, trivial⟩
  clear hx19
  rintro _ w28 ⟨rfl, hb29, hL30, hS31⟩
  refine WQ.then_normal (hK7 _ _ _ ?_)
  refine WP.cond x18 rfl rfl (fun hc32 => ?_) (fun hc32 => ?_)
  · have hm := iteT hm hc32
    refine WP.seq (fun K33 hK33 => ?_)
    refine WP.region ?_
    refine WL.runk 1 [2] [(2, .int .i64 300)] (by kernel_rfl) ?_
    refine WL.nil ?_
    refine WQ.then_normal (hK33 _ _ _ ?_)
    refine WP.ret ?_
    refine WQ.block_ret ?_
    refine WQ.then_ret ?_
    obtain rfl := Option.some.inj hm
    exact WQ.ret1 _ rfl rfl ⟨rfl, hb29⟩
  have hm := iteF hm hc32
  refine WP.seq (fun K34 hK34 => ?_)
  refine WP.region ?_
  refine WL.runk 2 [10] [(10, .bool (kind_0 == 5))] (by kernel_rfl) ?_
  refine WL.nil ?_
  refine WQ.then_normal (hK34 _ _ _ ?_)
  refine WP.cond (kind_0 == 5) rfl rfl (fun hc35 => ?_) (fun hc35 => ?_)
  · have hm := iteT hm hc35
    refine WP.seq (fun K36 hK36 => ?_)
    refine WP.region ?_
    refine WL.runk 1 [2] [(2, .int .i64 150)] (by kernel_rfl) ?_
    refine WL.nil ?_
    refine WQ.then_normal (hK36 _ _ _ ?_)
    refine WP.ret ?_
    refine WQ.block_ret ?_
    refine WQ.then_ret ?_
    obtain rfl := Option.some.inj hm
    exact WQ.ret1 _ rfl rfl ⟨rfl, hb29⟩
  have hm := iteF hm hc35
  refine WP.skip ?_
  refine WQ.block_normal ?_
  refine WQ.then_normal (hK2 _ _ _ ?_)
  refine WP.seq (fun K37 hK37 => ?_)
  refine WP.region ?_
  refine WL.runk 1 [2] [(2, .int .i64 0)] (by kernel_rfl) ?_
  refine WL.nil ?_
  refine WQ.then_normal (hK37 _ _ _ ?_)
  refine WP.ret ?_
  obtain rfl := Option.some.inj hm
  exact WQ.ret1 _ rfl rfl ⟨rfl, hb29⟩

theorem c_16 (n : Nat) (a_0 : List SChange) (a0' : Option Addr) (c0' : Nat) (left_1 : Int) (w : World) {r : Int} (hm : m_laws_szChangeS n a_0 left_1 = some r) (_h0 : Rd fChange.ty w a0' a_0) (_hle0 : a_0.length ≤ c0') :
    CallV Try.prog 16 #[.slice a0' a_0.length c0', .int .i64 left_1] w (fun v w' => v = .int .i64 r ∧ Ext w w') := by
  unfold m_laws_szChangeS at hm
  refine CallV.enter Try.func16 rfl (by kernel_rfl) Try.ntmps16 (env := [(0, .slice a0' a_0.length c0'), (1, .int .i64 left_1)]) ⟨rfl, rfl, trivial⟩ ?_
  refine WP.seq (fun K1 hK1 => ?_)
  refine WP.region ?_
  refine WL.runk 1 [0, 1] [(0, .slice a0' a_0.length c0'), (1, .int .i64 left_1)] (by kernel_rfl) ?_
  refine WL.nil ?_
  refine WQ.then_normal (hK1 _ _ _ ?_)
  refine WP.seq (fun K2 hK2 => ?_)
  refine WP.region ?_
  refine WL.runk 5 [1] [(1, .int .i64 (wI64 (left_1 - (a_0.length : Int))))] (by kernel_rfl) ?_
  refine WL.nil ?_
  refine WQ.then_normal (hK2 _ _ _ ?_)
  refine WP.seq (fun K3 hK3 => ?_)
  refine WP.seq (fun K4 hK4 => ?_)
  refine WP.region ?_
  refine WL.runk 2 [1, 10] [(1, .int .i64 (wI64 (left_1 - (a_0.length : Int)))), (10, .bool (decide ((wI64 (left_1 - (a_0.length : Int))) < 0)))] (by kernel_rfl) ?_
  refine WL.nil ?_
  refine WQ.then_normal (hK4 _ _ _ ?_)
  refine WP.cond (decide ((wI64 (left_1 - (a_0.length : Int))) < 0)) rfl rfl (fun hc5 => ?_) (fun hc5 => ?_)
  · have hm := iteT hm hc5
    refine WP.seq (fun K6 hK6 => ?_)
    refine WP.region ?_
    refine WL.runk 1 [4] [(4, .int .i64 (-1))] (by kernel_rfl) ?_
    refine WL.nil ?_
    refine WQ.then_normal (hK6 _ _ _ ?_)
    refine WP.ret ?_
    refine WQ.then_ret ?_
    obtain rfl := Option.some.inj hm
    exact WQ.ret1 _ rfl rfl ⟨rfl, (Ext.refl w)⟩
  have hm := iteF hm hc5
  refine WP.skip ?_
  refine WQ.then_normal (hK3 _ _ _ ?_)
  refine WP.seq (fun K7 hK7 => ?_)
  refine WP.region ?_
  refine WL.runk 2 [4] [(4, .int .i64 (wI64 (left_1 - (a_0.length : Int))))] (by kernel_rfl) ?_
  refine WL.nil ?_
  refine WQ.then_normal (hK7 _ _ _ ?_)
  refine WP.ret ?_
  obtain rfl := Option.some.inj hm
  exact WQ.ret1 _ rfl rfl ⟨rfl, (Ext.refl w)⟩

theorem c_29 (n : Nat) (a_0 : SChange) (w : World) {r : SChange} (hm : m_laws_toChange n a_0 = some r)  :
    CallV Try.prog 29 #[.agg #[.int .i64 a_0.Kind, .int .i64 a_0.Amount]] w (fun v w' => v = .agg #[.int .i64 r.Kind, .int .i64 r.Amount] ∧ Ext w w') := by
  unfold m_laws_toChange at hm
  refine CallV.enter Try.func29 rfl (by kernel_rfl) Try.ntmps29 (env := [(0, .agg #[.int .i64 a_0.Kind, .int .i64 a_0.Amount])]) ⟨rfl, trivial⟩ ?_
  refine WP.seq (fun K1 hK1 => ?_)
  refine WP.region ?_
  refine WL.box 40 [.int .i64 a_0.Kind, .int .i64 a_0.Amount] 1 (by kernel_rfl) rfl rfl rfl rfl ?_
  intro b2 w3 hE4 hR5
  have hb7 : Ext w w3 := Ext.trans (Ext.refl w) hE4
  have hL8 : w.heap.size ≤ w3.heap.size := Nat.le_trans (Nat.le_refl _) hE4.size
  have hS9 : SH w3 w.heap.size [aBox 40 b2 [.int .i64 a_0.Kind, .int .i64 a_0.Amount]] := SH.add (SH.nil _ _) hE4 (Nat.le_refl _) hR5
  refine WL.box 42 [.int .i64 0, .int .i64 0] 2 (by kernel_rfl) rfl rfl rfl rfl ?_
  intro b10 w11 hE12 hR13
  have hb15 : Ext w w11 := Ext.trans hb7 hE12
  have hL16 : w.heap.size ≤ w11.heap.size := Nat.le_trans hL8 hE12.size
  have hS17 : SH w11 w.heap.size [aBox 42 b10 [.int .i64 0, .int .i64 0], aBox 40 b2 [.int .i64 a_0.Kind, .int .i64 a_0.Amount]] := SH.add hS9 hE12 hL8 hR13
  refine WL.sub [(1, .pointer (some ⟨b2, 0, none⟩)), (2, .pointer (some ⟨b10, 0, none⟩))] ⟨rfl, rfl, trivial⟩ ?_
  refine WL.nil ?_
  refine WQ.then_normal (hK1 _ _ _ ?_)
  refine WP.seq (fun K18 hK18 => ?_)
  refine WP.region ?_
  refine WL.box 42 [.int .i64 0, .int .i64 0] 3 (by kernel_rfl) rfl rfl rfl rfl ?_
  intro b19 w20 hE21 hR22
  have hb24 : Ext w w20 := Ext.trans hb15 hE21
  have hL25 : w.heap.size ≤ w20.heap.size := Nat.le_trans hL16 hE21.size
  have hS26 : SH w20 w.heap.size [aBox 42 b19 [.int .i64 0, .int .i64 0], aBox 42 b10 [.int .i64 0, .int .i64 0], aBox 40 b2 [.int .i64 a_0.Kind, .int .i64 a_0.Amount]] := SH.add hS17 hE21 hL16 hR22
  refine WL.sub [(1, .pointer (some ⟨b2, 0, none⟩)), (2, .pointer (some ⟨b10, 0, none⟩)), (3, .pointer (some ⟨b19, 0, none⟩))] ⟨rfl, rfl, rfl, trivial⟩ ?_
  refine WL.nil ?_
  refine WQ.then_normal (hK18 _ _ _ ?_)
  refine WP.seq (fun K27 hK27 => ?_)
  refine WP.region ?_
  refine WL.runk 1 [1, 2, 3, 4] [(1, .pointer (some ⟨b2, 0, none⟩)), (2, .pointer (some ⟨b10, 0, none⟩)), (3, .pointer (some ⟨b19, 0, none⟩)), (4, .pointer (some ⟨b2, 0, none⟩))] (by kernel_rfl) ?_
  refine WL.st (.int .i64 a_0.Kind) (ST.load (cell_ext (SH.boxAt (SH.front 2 hS26) 0 _ rfl)) rfl rfl Try.underlying2 rfl) rfl rfl rfl ?_
  refine WL.runk 1 [1, 2, 3, 5, 6] [(1, .pointer (some ⟨b2, 0, none⟩)), (2, .pointer (some ⟨b10, 0, none⟩)), (3, .pointer (some ⟨b19, 0, none⟩)), (5, .int .i64 a_0.Kind), (6, .pointer (some ⟨b19, 0, none⟩))] (by kernel_rfl) ?_
  refine WL.boxStore 0 [.int .i64 a_0.Kind] [.int .i64 a_0.Kind, .int .i64 0] (SH.front 0 hS26) hL25 rfl rfl rfl rfl rfl rfl rfl (info2).1 (info2).2.1 rfl rfl rfl ?_
  intro w28 hB29 hS30
  have hb31 : Ext w w28 := Below.trans hb24 hB29
  have hL32 : w.heap.size ≤ w28.heap.size := Nat.le_trans hL25 hB29.size
  refine WL.sub [(1, .pointer (some ⟨b2, 0, none⟩)), (2, .pointer (some ⟨b10, 0, none⟩)), (3, .pointer (some ⟨b19, 0, none⟩))] ⟨rfl, rfl, rfl, trivial⟩ ?_
  refine WL.nil ?_
  refine WQ.then_normal (hK27 _ _ _ ?_)
  refine WP.seq (fun K33 hK33 => ?_)
  refine WP.region ?_
  refine WL.runk 1 [2, 3, 7] [(2, .pointer (some ⟨b10, 0, none⟩)), (3, .pointer (some ⟨b19, 0, none⟩)), (7, .pointer (some ⟨b2, 1, none⟩))] (by kernel_rfl) ?_
  refine WL.st (.int .i64 a_0.Amount) (ST.load (cell_ext (SH.boxAt (SH.front 2 hS30) 1 _ rfl)) rfl rfl Try.underlying2 rfl) rfl rfl rfl ?_
  refine WL.runk 1 [2, 3, 8, 9] [(2, .pointer (some ⟨b10, 0, none⟩)), (3, .pointer (some ⟨b19, 0, none⟩)), (8, .int .i64 a_0.Amount), (9, .pointer (some ⟨b19, 1, none⟩))] (by kernel_rfl) ?_
  refine WL.boxStore 1 [.int .i64 a_0.Amount] [.int .i64 a_0.Kind, .int .i64 a_0.Amount] (SH.front 0 hS30) hL32 rfl rfl rfl rfl rfl rfl rfl (info2).1 (info2).2.1 rfl rfl rfl ?_
  intro w34 hB35 hS36
  have hb37 : Ext w w34 := Below.trans hb31 hB35
  have hL38 : w.heap.size ≤ w34.heap.size := Nat.le_trans hL32 hB35.size
  refine WL.sub [(2, .pointer (some ⟨b10, 0, none⟩)), (3, .pointer (some ⟨b19, 0, none⟩))] ⟨rfl, rfl, trivial⟩ ?_
  refine WL.nil ?_
  refine WQ.then_normal (hK33 _ _ _ ?_)
  refine WP.seq (fun K39 hK39 => ?_)
  refine WP.region ?_
  refine WL.st (.agg #[.int .i64 a_0.Kind, .int .i64 a_0.Amount]) (ST.loadAgg (vs := [.int .i64 a_0.Kind, .int .i64 a_0.Amount]) (fun j v hv => SH.boxPart (us := [.int .i64 a_0.Kind, .int .i64 a_0.Amount]) (SH.front 0 hS36) 0 rfl j v hv) rfl rfl rfl Try.underlying42 rfl (info42).1 (info42).2.1) rfl rfl rfl ?_
  refine WL.boxStore 0 [.int .i64 a_0.Kind, .int .i64 a_0.Amount] [.int .i64 a_0.Kind, .int .i64 a_0.Amount] (SH.front 1 hS36) hL38 rfl rfl rfl rfl rfl rfl rfl (info42).1 (info42).2.1 rfl rfl rfl ?_
  intro w40 hB41 hS42
  have hb43 : Ext w w40 := Below.trans hb37 hB41
  have hL44 : w.heap.size ≤ w40.heap.size := Nat.le_trans hL38 hB41.size
  refine WL.sub [(2, .pointer (some ⟨b10, 0, none⟩))] ⟨rfl, trivial⟩ ?_
  refine WL.nil ?_
  refine WQ.then_normal (hK39 _ _ _ ?_)
  refine WP.ret ?_
  obtain rfl := Option.some.inj hm
  exact WQ.retv1 _ rfl (RVal.box (SH.front 0 hS42) rfl Try.underlying42 rfl (info42).1 (info42).2.1) ⟨rfl, hb43⟩

theorem c_18 (n : Nat) (a_0 : List SChange) (a0' : Option Addr) (c0' : Nat) (w : World) {r : List SChange} (hm : m_laws_toChangeS n a_0 = some r) (h0 : Rd fChange.ty w a0' a_0) (_hle0 : a_0.length ≤ c0') :
    CallV Try.prog 18 #[.slice a0' a_0.length c0'] w (fun v w' => ∃ (ra0 : Option Addr) (rc0 : Nat), v = .slice ra0 r.length rc0 ∧ Ext w w' ∧ SH w' w.heap.size [aOwn fChange 42 ra0 rc0 r]) := by
  unfold m_laws_toChangeS at hm
  refine CallV.enter Try.func18 rfl (by kernel_rfl) Try.ntmps18 (env := [(0, .slice a0' a_0.length c0')]) ⟨rfl, trivial⟩ ?_
  refine WP.seq (fun K1 hK1 => ?_)
  refine WP.region ?_
  refine WL.runk 1 [0] [(0, .slice a0' a_0.length c0')] (by kernel_rfl) ?_
  refine WL.nil ?_
  refine WQ.then_normal (hK1 _ _ _ ?_)
  refine WP.seq (fun K2 hK2 => ?_)
  refine WP.region ?_
  refine WL.runk 2 [0, 6] [(0, .slice a0' a_0.length c0'), (6, .int .i64 (a_0.length : Int))] (by kernel_rfl) ?_
  obtain ⟨x3, hx4, hm⟩ := bindE hm
  refine WL.make fChange 7 hx4 rfl rfl rfl Try.underlying28 (info42).1 (info42).2.2.1 (info42).2.1 (info42).2.2.2 rfl rfl rfl rfl rfl ?_
  intro a5 c6 w7 hE8 hR9
  have hb11 : Ext w w7 := Ext.trans (Ext.refl w) hE8
  have hL12 : w.heap.size ≤ w7.heap.size := Nat.le_trans (Nat.le_refl _) hE8.size
  have hS13 : SH w7 w.heap.size [aOwn fChange 42 a5 c6 x3] := SH.add (SH.nil _ _) hE8 (Nat.le_refl _) hR9
  refine WL.runk 1 [0, 3] [(0, .slice a0' a_0.length c0'), (3, .slice a5 x3.length c6)] (by kernel_rfl) ?_
  refine WL.nil ?_
  refine WQ.then_normal (hK2 _ _ _ ?_)
  refine WP.seq (fun K14 hK14 => ?_)
  refine WP.seq (fun K15 hK15 => ?_)
  refine WP.region ?_
  refine WL.runk 1 [0, 3, 4] [(0, .slice a0' a_0.length c0'), (3, .slice a5 x3.length c6), (4, .int .i64 0)] (by kernel_rfl) ?_
  refine WL.nil ?_
  refine WQ.then_normal (hK15 _ _ _ ?_)
  refine WP.block ?_
  obtain ⟨t62, ht63, hm⟩ := bindE hm
  have hmo57 := hm; clear hm
  refine WP.sub [(0, .slice a0' a_0.length c0'), (3, .slice a5 x3.length c6), (4, .int .i64 0)] ⟨rfl, rfl, rfl, trivial⟩ ?_
  refine WP.loop (fun n' env' w' => ∃ (st51 : Int × List SChange) , env' = [(0, .slice a0' a_0.length c0'), (3, .slice a5 st51.2.length c6), (4, .int .i64 st51.1)] ∧ Ext w w' ∧ w.heap.size ≤ w'.heap.size ∧ SH w' w.heap.size [aOwn fChange 42 a5 c6 st51.2] ∧ loopN (m_laws_toChangeS_l1 n a_0) n' st51 = some t62) n ⟨(0, x3), rfl, hb11, hL12, hS13, ht63⟩ ?_
  rintro n59 _ w52 ⟨st51, rfl, hb53, hL54, hS55, hl56⟩ K58 hK58
  obtain ⟨n60, s61, rfl, hm, hl56⟩ := loopN_some hl56
  unfold m_laws_toChangeS_l1 at hm
  refine WP.seq (fun K64 hK64 => ?_)
  refine WP.seq (fun K65 hK65 => ?_)
  refine WP.region ?_
  refine WL.runk 4 [0, 3, 4, 11] [(0, .slice a0' a_0.length c0'), (3, .slice a5 st51.2.length c6), (4, .int .i64 st51.1), (11, .bool (decide (st51.1 < (a_0.length : Int))))] (by kernel_rfl) ?_
  refine WL.nil ?_
  refine WQ.then_normal (hK65 _ _ _ ?_)
  refine WP.cond (decide (st51.1 < (a_0.length : Int))) rfl rfl (fun hc66 => ?_) (fun hc66 => ?_)
  rotate_left
  · have hm := iteF hm hc66
    refine WP.exit ?_
    refine WQ.then_exit ?_
    refine WQ.then_exit ?_
    refine WQ.block_here ?_
    obtain rfl := Option.some.inj hm
    obtain rfl := afterN_done hl56
    have hm := hmo57
    refine WQ.then_normal (hK14 _ _ _ ?_)
    refine WP.seq (fun K85 hK85 => ?_)
    refine WP.region ?_
    refine WL.runk 2 [2] [(2, .slice a5 st51.2.length c6)] (by kernel_rfl) ?_
    refine WL.nil ?_
    refine WQ.then_normal (hK85 _ _ _ ?_)
    refine WP.ret ?_
    obtain rfl := Option.some.inj hm
    exact WQ.ret1 _ rfl rfl ⟨_, _, rfl, hb53, hS55⟩
  have hm := iteT hm hc66
  refine WP.skip ?_
  refine WQ.then_normal (hK64 _ _ _ ?_)
  refine WP.seq (fun K67 hK67 => ?_)
  refine WP.block ?_
  refine WP.region ?_
  refine WL.runk 4 [0, 3, 4, 14, 15, 16, 17] [(0, .slice a0' a_0.length c0'), (3, .slice a5 st51.2.length c6), (4, .int .i64 st51.1), (14, .slice a5 st51.2.length c6), (15, .int .i64 st51.1), (16, .slice a0' a_0.length c0'), (17, .int .i64 st51.1)] (by kernel_rfl) ?_
  obtain ⟨x68, hx69, hm⟩ := bindE hm
  refine WL.st (.pointer (some (at_ a0' (Int.toNat st51.1 * 2)))) (ST.index (T := fChange.ty) (xs := a_0) (Rd.below h0 hb53) hx69 rfl rfl rfl Try.underlying25 (info40).1 (info40).2.1) rfl rfl rfl ?_
  refine WL.st (.agg #[.int .i64 x68.Kind, .int .i64 x68.Amount]) (ST.loadAgg (vs := fChange.leaf x68) (fun j v hv => Rd.flatA (F := fChange) (Rd.below h0 hb53) hx69 j hv) rfl rfl rfl Try.underlying40 rfl (info40).1 (info40).2.1) rfl rfl rfl ?_
  obtain ⟨x70, hx71, hm⟩ := bindE hm
  refine WL.call 29 #[.agg #[.int .i64 x68.Kind, .int .i64 x68.Amount]] rfl rfl (by kernel_rfl) (c_29 n x68 w52 hx71 ) ?_
  rintro _ w72 ⟨rfl, hE73⟩
  refine ⟨_, rfl, ?_⟩
  have hb75 : Ext w w72 := Ext.trans hb53 hE73
  have hL76 : w.heap.size ≤ w72.heap.size := Nat.le_trans hL54 hE73.size
  have hS77 : SH w72 w.heap.size [aOwn fChange 42 a5 c6 st51.2] := SH.ext hS55 hE73
  obtain ⟨x78, hx79, hm⟩ := bindE hm
  refine WL.st (.pointer (some (at_ a5 (Int.toNat st51.1 * 2)))) (ST.index (T := fChange.ty) (xs := st51.2) (SH.rd (SH.front 0 hS77)) hx79 rfl rfl rfl Try.underlying28 (info42).1 (info42).2.1) rfl rfl rfl ?_
  refine WL.store (F := fChange) x70 0 [.int .i64 x70.Kind, .int .i64 x70.Amount] (SH.front 0 hS77) hL76 hx79 rfl rfl rfl rfl rfl rfl rfl (info42).1 (info42).2.1 rfl rfl rfl ?_
  intro w80 hB81 hS82
  have hb83 : Ext w w80 := Below.trans hb75 hB81
  have hL84 : w.heap.size ≤ w80.heap.size := Nat.le_trans hL76 hB81.size
  refine WL.sub [(0, .slice a0' a_0.length c0'), (3, .slice a5 ((st51.2.set (Int.toNat st51.1) x70).length) c6), (4, .int .i64 st51.1), (14, .slice a5 ((st51.2.set (Int.toNat st51.1) x70).length) c6), (15, .int .i64 st51.1), (16, .slice a0' a_0.length c0'), (17, .int .i64 st51.1), (18, .pointer (some (at_ a0' (Int.toNat st51.1 * 2)))), (19, .agg #[.int .i64 x68.Kind, .int .i64 x68.Amount]), (20, .agg #[.int .i64 x70.Kind, .int .i64 x70.Amount])] ⟨rfl, by first | (simp only [List.length_set]; done) | (simp only [List.length_set]; rfl), rfl, by first | (simp only [List.length_set]; done) | (simp only [List.length_set]; rfl), rfl, rfl, rfl, rfl, rfl, rfl, trivial⟩ ?_
  refine WL.sub [(0, .slice a0' a_0.length c0'), (3, .slice a5 ((st51.2.set (Int.toNat st51.1) x70).length) c6), (4, .int .i64 st51.1)] ⟨rfl, rfl, rfl, trivial⟩ ?_
  refine WL.nil ?_
  refine WQ.block_normal ?_
  refine WQ.then_normal (hK67 _ _ _ ?_)
  refine WP.region ?_
  refine WL.runk 3 [0, 3, 4] [(0, .slice a0' a_0.length c0'), (3, .slice a5 ((st51.2.set (Int.toNat st51.1) x70).length) c6), (4, .int .i64 (wI64 (st51.1 + 1)))] (by kernel_rfl) ?_
  refine WL.nil ?_
  obtain rfl := Option.some.inj hm
  exact WQ.round hK58 ⟨((wI64 (st51.1 + 1)), (st51.2.set (Int.toNat st51.1) x70)), rfl, hb83, hL84, hS82, hl56⟩ (Nat.lt_succ_self _) ⟨rfl, rfl, rfl, trivial⟩

theorem c_55 (n : Nat) (a_0 : SChange) (b_1 : SChange) (w : World) {r : Bool} (hm : m_laws_eqChange n a_0 b_1 = some r)  :
    CallV Try.prog 55 #[.agg #[.int .i64 a_0.Kind, .int .i64 a_0.Amount], .agg #[.int .i64 b_1.Kind, .int .i64 b_1.Amount]] w (fun v w' => v = .bool r ∧ Ext w w') := by
  unfold m_laws_eqChange at hm
  refine CallV.enter Try.func55 rfl (by kernel_rfl) Try.ntmps55 (env := [(0, .agg #[.int .i64 a_0.Kind, .int .i64 a_0.Amount]), (1, .agg #[.int .i64 b_1.Kind, .int .i64 b_1.Amount])]) ⟨rfl, rfl, trivial⟩ ?_
  refine WP.seq (fun K1 hK1 => ?_)
  refine WP.region ?_
  refine WL.box 42 [.int .i64 a_0.Kind, .int .i64 a_0.Amount] 2 (by kernel_rfl) rfl rfl rfl rfl ?_
  intro b2 w3 hE4 hR5
  have hb7 : Ext w w3 := Ext.trans (Ext.refl w) hE4
  have hL8 : w.heap.size ≤ w3.heap.size := Nat.le_trans (Nat.le_refl _) hE4.size
  have hS9 : SH w3 w.heap.size [aBox 42 b2 [.int .i64 a_0.Kind, .int .i64 a_0.Amount]] := SH.add (SH.nil _ _) hE4 (Nat.le_refl _) hR5
  refine WL.box 42 [.int .i64 b_1.Kind, .int .i64 b_1.Amount] 3 (by kernel_rfl) rfl rfl rfl rfl ?_
  intro b10 w11 hE12 hR13
  have hb15 : Ext w w11 := Ext.trans hb7 hE12
  have hL16 : w.heap.size ≤ w11.heap.size := Nat.le_trans hL8 hE12.size
  have hS17 : SH w11 w.heap.size [aBox 42 b10 [.int .i64 b_1.Kind, .int .i64 b_1.Amount], aBox 42 b2 [.int .i64 a_0.Kind, .int .i64 a_0.Amount]] := SH.add hS9 hE12 hL8 hR13
  refine WL.runk 1 [2, 3] [(2, .pointer (some ⟨b2, 0, none⟩)), (3, .pointer (some ⟨b10, 0, none⟩))] (by kernel_rfl) ?_
  refine WL.nil ?_
  refine WQ.then_normal (hK1 _ _ _ ?_)
  refine WP.seq (fun K18 hK18 => ?_)
  refine WP.seq (fun K19 hK19 => ?_)
  refine WP.region ?_
  refine WL.runk 1 [2, 3, 5] [(2, .pointer (some ⟨b2, 0, none⟩)), (3, .pointer (some ⟨b10, 0, none⟩)), (5, .pointer (some ⟨b2, 0, none⟩))] (by kernel_rfl) ?_
  refine WL.st (.int .i64 a_0.Kind) (ST.load (cell_ext (SH.boxAt (SH.front 1 hS17) 0 _ rfl)) rfl rfl Try.underlying2 rfl) rfl rfl rfl ?_
  refine WL.runk 1 [2, 3, 6, 7] [(2, .pointer (some ⟨b2, 0, none⟩)), (3, .pointer (some ⟨b10, 0, none⟩)), (6, .int .i64 a_0.Kind), (7, .pointer (some ⟨b10, 0, none⟩))] (by kernel_rfl) ?_
  refine WL.st (.int .i64 b_1.Kind) (ST.load (cell_ext (SH.boxAt (SH.front 0 hS17) 0 _ rfl)) rfl rfl Try.underlying2 rfl) rfl rfl rfl ?_
  refine WL.runk 1 [2, 3, 9] [(2, .pointer (some ⟨b2, 0, none⟩)), (3, .pointer (some ⟨b10, 0, none⟩)), (9, .bool (a_0.Kind != b_1.Kind))] (by kernel_rfl) ?_
  refine WL.nil ?_
  refine WQ.then_normal (hK19 _ _ _ ?_)
  refine WP.cond (a_0.Kind != b_1.Kind) rfl rfl (fun hc20 => ?_) (fun hc20 => ?_)
  · have hm := iteT hm hc20
    refine WP.seq (fun K21 hK21 => ?_)
    refine WP.region ?_
    refine WL.runk 1 [4] [(4, .bool false)] (by kernel_rfl) ?_
    refine WL.nil ?_
    refine WQ.then_normal (hK21 _ _ _ ?_)
    refine WP.ret ?_
    refine WQ.then_ret ?_
    obtain rfl := Option.some.inj hm
    exact WQ.ret1 _ rfl rfl ⟨rfl, hb15⟩
  have hm := iteF hm hc20
  refine WP.skip ?_
  refine WQ.then_normal (hK18 _ _ _ ?_)
  refine WP.seq (fun K22 hK22 => ?_)
  refine WP.seq (fun K23 hK23 => ?_)
  refine WP.region ?_
  refine WL.runk 1 [3, 10] [(3, .pointer (some ⟨b10, 0, none⟩)), (10, .pointer (some ⟨b2, 1, none⟩))] (by kernel_rfl) ?_
  refine WL.st (.int .i64 a_0.Amount) (ST.load (cell_ext (SH.boxAt (SH.front 1 hS17) 1 _ rfl)) rfl rfl Try.underlying2 rfl) rfl rfl rfl ?_
  refine WL.runk 1 [11, 12] [(11, .int .i64 a_0.Amount), (12, .pointer (some ⟨b10, 1, none⟩))] (by kernel_rfl) ?_
  refine WL.st (.int .i64 b_1.Amount) (ST.load (cell_ext (SH.boxAt (SH.front 0 hS17) 1 _ rfl)) rfl rfl Try.underlying2 rfl) rfl rfl rfl ?_
  refine WL.runk 1 [14] [(14, .bool (a_0.Amount != b_1.Amount))] (by kernel_rfl) ?_
  refine WL.nil ?_
  refine WQ.then_normal (hK23 _ _ _ ?_)
  refine WP.cond (a_0.Amount != b_1.Amount) rfl rfl (fun hc24 => ?_) (fun hc24 => ?_)
  · have hm := iteT hm hc24
    refine WP.seq (fun K25 hK25 => ?_)
    refine WP.region ?_
    refine WL.runk 1 [4] [(4, .bool false)] (by kernel_rfl) ?_
    refine WL.nil ?_
    refine WQ.then_normal (hK25 _ _ _ ?_)
    refine WP.ret ?_
    refine WQ.then_ret ?_
    obtain rfl := Option.some.inj hm
    exact WQ.ret1 _ rfl rfl ⟨rfl, hb15⟩
  have hm := iteF hm hc24
  refine WP.skip ?_
  refine WQ.then_normal (hK22 _ _ _ ?_)
  refine WP.seq (fun K26 hK26 => ?_)
  refine WP.region ?_
  refine WL.runk 1 [4] [(4, .bool true)] (by kernel_rfl) ?_
  refine WL.nil ?_
  refine WQ.then_normal (hK26 _ _ _ ?_)
  refine WP.ret ?_
  obtain rfl := Option.some.inj hm
  exact WQ.ret1 _ rfl rfl ⟨rfl, hb15⟩

theorem c_20 (n : Nat) (a_0 : List SChange) (a0' : Option Addr) (c0' : Nat) (b_1 : List SChange) (a1' : Option Addr) (c1' : Nat) (w : World) {r : Bool} (hm : m_laws_eqChangeS n a_0 b_1 = some r) (h0 : Rd fChange.ty w a0' a_0) (_hle0 : a_0.length ≤ c0') (h1 : Rd fChange.ty w a1' b_1) (_hle1 : b_1.length ≤ c1') :
    CallV Try.prog 20 #[.slice a0' a_0.length c0', .slice a1' b_1.length c1'] w (fun v w' => v = .bool r ∧ Ext w w') := by
  unfold m_laws_eqChangeS at hm
  refine CallV.enter Try.func20 rfl (by kernel_rfl) Try.ntmps20 (env := [(0, .slice a0' a_0.length c0'), (1, .slice a1' b_1.length c1')]) ⟨rfl, rfl, trivial⟩ ?_
  refine WP.seq (fun K1 hK1 => ?_)
  refine WP.region ?_
  refine WL.runk 1 [0, 1] [(0, .slice a0' a_0.length c0'), (1, .slice a1' b_1.length c1')] (by kernel_rfl) ?_
  refine WL.nil ?_
  refine WQ.then_normal (hK1 _ _ _ ?_)
  refine WP.seq (fun K2 hK2 => ?_)
  refine WP.seq (fun K3 hK3 => ?_)
  refine WP.region ?_
  refine WL.runk 5 [0, 1, 10] [(0, .slice a0' a_0.length c0'), (1, .slice a1' b_1.length c1'), (10, .bool ((a_0.length : Int) != (b_1.length : Int)))] (by kernel_rfl) ?_
  refine WL.nil ?_
  refine WQ.then_normal (hK3 _ _ _ ?_)
  refine WP.cond ((a_0.length : Int) != (b_1.length : Int)) rfl rfl (fun hc4 => ?_) (fun hc4 => ?_)
  · have hm := iteT hm hc4
    refine WP.seq (fun K5 hK5 => ?_)
    refine WP.region ?_
    refine WL.runk 1 [4] [(4, .bool false)] (by kernel_rfl) ?_
    refine WL.nil ?_
    refine WQ.then_normal (hK5 _ _ _ ?_)
    refine WP.ret ?_
    refine WQ.then_ret ?_
    obtain rfl := Option.some.inj hm
    exact WQ.ret1 _ rfl rfl ⟨rfl, (Ext.refl w)⟩
  have hm := iteF hm hc4
  refine WP.skip ?_
  refine WQ.then_normal (hK2 _ _ _ ?_)
  refine WP.seq (fun K6 hK6 => ?_)
  refine WP.seq (fun K7 hK7 => ?_)
  refine WP.region ?_
  refine WL.runk 1 [0, 1, 5] [(0, .slice a0' a_0.length c0'), (1, .slice a1' b_1.length c1'), (5, .int .i64 0)] (by kernel_rfl) ?_
  refine WL.nil ?_
  refine WQ.then_normal (hK7 _ _ _ ?_)
  refine WP.block ?_
  obtain ⟨t19, ht20, hm⟩ := bindE hm
  have hmo14 := hm; clear hm
  refine WP.sub [(0, .slice a0' a_0.length c0'), (1, .slice a1' b_1.length c1'), (5, .int .i64 0)] ⟨rfl, rfl, rfl, trivial⟩ ?_
  refine WP.loop (fun n' env' w' => ∃ (st8 : Int) , env' = [(0, .slice a0' a_0.length c0'), (1, .slice a1' b_1.length c1'), (5, .int .i64 st8)] ∧ Ext w w' ∧ w.heap.size ≤ w'.heap.size ∧ SH w' w.heap.size [] ∧ loopN (m_laws_eqChangeS_l1 n a_0 b_1) n' st8 = some t19) n ⟨0, rfl, (Ext.refl w), (Nat.le_refl _), (SH.nil _ _), ht20⟩ ?_
  rintro n16 _ w9 ⟨st8, rfl, hb10, hL11, hS12, hl13⟩ K15 hK15
  obtain ⟨n17, s18, rfl, hm, hl13⟩ := loopN_some hl13
  unfold m_laws_eqChangeS_l1 at hm
  refine WP.seq (fun K21 hK21 => ?_)
  refine WP.seq (fun K22 hK22 => ?_)
  refine WP.region ?_
  refine WL.runk 4 [0, 1, 5, 14] [(0, .slice a0' a_0.length c0'), (1, .slice a1' b_1.length c1'), (5, .int .i64 st8), (14, .bool (decide (st8 < (a_0.length : Int))))] (by kernel_rfl) ?_
  refine WL.nil ?_
  refine WQ.then_normal (hK22 _ _ _ ?_)
  refine WP.cond (decide (st8 < (a_0.length : Int))) rfl rfl (fun hc23 => ?_) (fun hc23 => ?_)
  rotate_left
  · have hm := iteF hm hc23
    refine WP.exit ?_
    refine WQ.then_exit ?_
    refine WQ.then_exit ?_
    refine WQ.block_here ?_
    obtain rfl := Option.some.inj hm
    obtain rfl := afterN_done hl13
    have hm := hmo14
    refine WQ.then_normal (hK6 _ _ _ ?_)
    refine WP.seq (fun K41 hK41 => ?_)
    refine WP.region ?_
    refine WL.runk 1 [4] [(4, .bool true)] (by kernel_rfl) ?_
    refine WL.nil ?_
    refine WQ.then_normal (hK41 _ _ _ ?_)
    refine WP.ret ?_
    obtain rfl := Option.some.inj hm
    exact WQ.ret1 _ rfl rfl ⟨rfl, hb10⟩
  have hm := iteT hm hc23
  refine WP.skip ?_
  refine WQ.then_normal (hK21 _ _ _ ?_)
  refine WP.seq (fun K24 hK24 => ?_)
  refine WP.block ?_
  refine WP.seq (fun K25 hK25 => ?_)
  refine WP.quiet (by kernel_rfl) (by kernel_rfl) ?_
  refine QL.step1v 17 (.slice a0' a_0.length c0') rfl (fun _ => by kernel_rfl) ?_
  refine QL.step1v 18 (.int .i64 st8) rfl (fun _ => by kernel_rfl) ?_
  refine QL.subk [0, 1, 5, 17, 18] [(0, .slice a0' a_0.length c0'), (1, .slice a1' b_1.length c1'), (5, .int .i64 st8), (17, .slice a0' a_0.length c0'), (18, .int .i64 st8)] (by kernel_rfl) ?_
  obtain ⟨x26, hx27, hm⟩ := bindE hm
  refine QL.st (.pointer (some (at_ a0' (Int.toNat st8 * 2)))) (ST.index (T := fChange.ty) (xs := a_0) (Rd.below h0 hb10) hx27 rfl rfl rfl Try.underlying28 (info42).1 (info42).2.1) rfl rfl rfl ?_
  refine QL.st (.agg #[.int .i64 x26.Kind, .int .i64 x26.Amount]) (ST.loadAgg (vs := fChange.leaf x26) (fun j v hv => Rd.flatA (F := fChange) (Rd.below h0 hb10) hx27 j hv) rfl rfl rfl Try.underlying42 rfl (info42).1 (info42).2.1) rfl rfl rfl ?_
  refine QL.step1v 21 (.slice a1' b_1.length c1') rfl (fun _ => by kernel_rfl) ?_
  refine QL.step1v 22 (.int .i64 st8) rfl (fun _ => by kernel_rfl) ?_
  refine QL.subk [0, 1, 5, 20, 21, 22] [(0, .slice a0' a_0.length c0'), (1, .slice a1' b_1.length c1'), (5, .int .i64 st8), (20, .agg #[.int .i64 x26.Kind, .int .i64 x26.Amount]), (21, .slice a1' b_1.length c1'), (22, .int .i64 st8)] (by kernel_rfl) ?_
  obtain ⟨x28, hx29, hm⟩ := bindE hm
  refine QL.st (.pointer (some (at_ a1' (Int.toNat st8 * 2)))) (ST.index (T := fChange.ty) (xs := b_1) (Rd.below h1 hb10) hx29 rfl rfl rfl Try.underlying28 (info42).1 (info42).2.1) rfl rfl rfl ?_
  refine QL.st (.agg #[.int .i64 x28.Kind, .int .i64 x28.Amount]) (ST.loadAgg (vs := fChange.leaf x28) (fun j v hv => Rd.flatA (F := fChange) (Rd.below h1 hb10) hx29 j hv) rfl rfl rfl Try.underlying42 rfl (info42).1 (info42).2.1) rfl rfl rfl ?_
  obtain ⟨x30, hx31, hm⟩ := bindE hm
  refine QL.call 55 #[.agg #[.int .i64 x26.Kind, .int .i64 x26.Amount], .agg #[.int .i64 x28.Kind, .int .i64 x28.Amount]] (.bool x30) (fun _ => by kernel_rfl) (fun w32 hE33 => c_55 n x26 x28 w32 hx31 ) rfl rfl rfl ?_
  refine QL.step1v 26 (.bool (!x30)) rfl (fun _ => by kernel_rfl) ?_
  refine QL.subk [0, 1, 5, 26] [(0, .slice a0' a_0.length c0'), (1, .slice a1' b_1.length c1'), (5, .int .i64 st8), (26, .bool (!x30))] (by kernel_rfl) ?_
  refine QL.nil ?_
  intro w34 hE35
  have hb36 : Ext w w34 := Ext.trans hb10 hE35
  have hL37 : w.heap.size ≤ w34.heap.size := Nat.le_trans hL11 hE35.size
  have hS38 : SH w34 w.heap.size [] := SH.ext hS12 hE35
  refine WQ.then_normal (hK25 _ _ _ ?_)
  refine WP.cond (!x30) rfl rfl (fun hc39 => ?_) (fun hc39 => ?_)
  rotate_left
  · have hm := iteF hm hc39
    refine WP.skip ?_
    refine WQ.block_normal ?_
    refine WQ.then_normal (hK24 _ _ _ ?_)
    refine WP.region ?_
    refine WL.runk 3 [0, 1, 5] [(0, .slice a0' a_0.length c0'), (1, .slice a1' b_1.length c1'), (5, .int .i64 (wI64 (st8 + 1)))] (by kernel_rfl) ?_
    refine WL.nil ?_
    obtain rfl := Option.some.inj hm
    exact WQ.round hK15 ⟨(wI64 (st8 + 1)), rfl, hb36, hL37, hS38, hl13⟩ (Nat.lt_succ_self _) ⟨rfl, rfl, rfl, trivial⟩
  have hm := iteT hm hc39
  refine WP.seq (fun K40 hK40 => ?_)
  refine WP.region ?_
  refine WL.runk 1 [4] [(4, .bool false)] (by kernel_rfl) ?_
  refine WL.nil ?_
  refine WQ.then_normal (hK40 _ _ _ ?_)
  refine WP.ret ?_
  refine WQ.block_ret ?_
  refine WQ.then_ret ?_
  refine WQ.then_ret ?_
  refine WQ.block_ret ?_
  refine WQ.then_ret ?_
  obtain rfl := Option.some.inj hm
  obtain rfl := afterN_done hl13
  have hm := hmo14
  obtain rfl := Option.some.inj hm
  exact WQ.ret1 _ rfl rfl ⟨rfl, hb36⟩

theorem c_64 (n : Nat) (n_0 : Int) (low_1 : Int) (high_2 : Int) (w : World) {r : Bool} (hm : m_spec_l00In n n_0 low_1 high_2 = some r)  :
    CallV Try.prog 64 #[.int .i64 n_0, .int .i64 low_1, .int .i64 high_2] w (fun v w' => v = .bool r ∧ Ext w w') := by
  unfold m_spec_l00In at hm
  refine CallV.enter Try.func64 rfl (by kernel_rfl) Try.ntmps64 (env := [(0, .int .i64 n_0), (1, .int .i64 low_1), (2, .int .i64 high_2)]) ⟨rfl, rfl, rfl, trivial⟩ ?_
  refine WP.seq (fun K1 hK1 => ?_)
  refine WP.region ?_
  refine WL.runk 1 [0, 1, 2] [(0, .int .i64 n_0), (1, .int .i64 low_1), (2, .int .i64 high_2)] (by kernel_rfl) ?_
  refine WL.nil ?_
  refine WQ.then_normal (hK1 _ _ _ ?_)
  refine WP.seq (fun K2 hK2 => ?_)
  obtain ⟨x4, hx5, hm⟩ := bindE hm
  refine WP.cut (fun env' w' => env' = [(6, .bool x4)] ∧ Ext w w' ∧ w.heap.size ≤ w'.heap.size ∧ SH w' w.heap.size []) ?_ ?_
  rotate_left
  · clear hx5
    rintro _ w7 ⟨rfl, hb8, hL9, hS10⟩
    refine WQ.then_normal (hK2 _ _ _ ?_)
    refine WP.ret ?_
    obtain rfl := Option.some.inj hm
    exact WQ.ret1 _ rfl rfl ⟨rfl, hb8⟩
  have hm := hx5; clear hx5
  refine WP.region ?_
  refine WL.runk 4 [0, 2, 10] [(0, .int .i64 n_0), (2, .int .i64 high_2), (10, .bool (decide (n_0 ≥ low_1)))] (by kernel_rfl) ?_
  refine WL.case (decide (n_0 ≥ low_1)) [10] ⟨rfl, trivial⟩ (fun hc6 => ?_) (fun hc6 => ?_)
  · have hm := iteT hm hc6
    refine WL.runk 5 [6] [(6, .bool (decide (n_0 ≤ high_2)))] (by kernel_rfl) ?_
    refine WL.nil ?_
    obtain rfl := Option.some.inj hm
    exact WQ.post' ⟨rfl, (Ext.refl w), (Nat.le_refl _), (SH.nil _ _)⟩ ⟨rfl, trivial⟩
  have hm := iteF hm hc6
  refine WL.runk 5 [6] [(6, .bool false)] (by kernel_rfl) ?_
  refine WL.nil ?_
  obtain rfl := Option.some.inj hm
  exact WQ.post' ⟨rfl, (Ext.refl w), (Nat.le_refl _), (SH.nil _ _)⟩ ⟨rfl, trivial⟩

theorem c_66 (n : Nat) (n_0 : Int) (low_1 : Int) (high_2 : Int) (w : World) {r : Bool} (hm : m_impl_within n n_0 low_1 high_2 = some r)  :
    CallV Try.prog 66 #[.int .i64 n_0, .int .i64 low_1, .int .i64 high_2] w (fun v w' => v = .bool r ∧ Ext w w') := by
  unfold m_impl_within at hm
  refine CallV.enter Try.func66 rfl (by kernel_rfl) Try.ntmps66 (env := [(0, .int .i64 n_0), (1, .int .i64 low_1), (2, .int .i64 high_2)]) ⟨rfl, rfl, rfl, trivial⟩ ?_
  refine WP.seq (fun K1 hK1 => ?_)
  refine WP.region ?_
  refine WL.runk 1 [0, 1, 2] [(0, .int .i64 n_0), (1, .int .i64 low_1), (2, .int .i64 high_2)] (by kernel_rfl) ?_
  refine WL.nil ?_
  refine WQ.then_normal (hK1 _ _ _ ?_)
  refine WP.seq (fun K2 hK2 => ?_)
  obtain ⟨x4, hx5, hm⟩ := bindE hm
  refine WP.cut (fun env' w' => env' = [(6, .bool x4)] ∧ Ext w w' ∧ w.heap.size ≤ w'.heap.size ∧ SH w' w.heap.size []) ?_ ?_
  rotate_left
  · clear hx5
    rintro _ w7 ⟨rfl, hb8, hL9, hS10⟩
    refine WQ.then_normal (hK2 _ _ _ ?_)
    refine WP.ret ?_
    obtain rfl := Option.some.inj hm
    exact WQ.ret1 _ rfl rfl ⟨rfl, hb8⟩
  have hm := hx5; clear hx5
  refine WP.region ?_
  refine WL.runk 4 [0, 2, 10] [(0, .int .i64 n_0), (2, .int .i64 high_2), (10, .bool (decide (n_0 ≥ low_1)))] (by kernel_rfl) ?_
  refine WL.case (decide (n_0 ≥ low_1)) [10] ⟨rfl, trivial⟩ (fun hc6 => ?_) (fun hc6 => ?_)
  · have hm := iteT hm hc6
    refine WL.runk 5 [6] [(6, .bool (decide (n_0 ≤ high_2)))] (by kernel_rfl) ?_
    refine WL.nil ?_
    obtain rfl := Option.some.inj hm
    exact WQ.post' ⟨rfl, (Ext.refl w), (Nat.le_refl _), (SH.nil _ _)⟩ ⟨rfl, trivial⟩
  have hm := iteF hm hc6
  refine WL.runk 5 [6] [(6, .bool false)] (by kernel_rfl) ?_
  refine WL.nil ?_
  obtain rfl := Option.some.inj hm
  exact WQ.post' ⟨rfl, (Ext.refl w), (Nat.le_refl _), (SH.nil _ _)⟩ ⟨rfl, trivial⟩

theorem c_63 (n : Nat) (c_0 : SChange) (w : World) {r : Bool} (hm : m_spec_l22One n c_0 = some r)  :
    CallV Try.prog 63 #[.agg #[.int .i64 c_0.Kind, .int .i64 c_0.Amount]] w (fun v w' => v = .bool r ∧ Ext w w') := by
  unfold m_spec_l22One at hm
  refine CallV.enter Try.func63 rfl (by kernel_rfl) Try.ntmps63 (env := [(0, .agg #[.int .i64 c_0.Kind, .int .i64 c_0.Amount])]) ⟨rfl, trivial⟩ ?_
  refine WP.seq (fun K1 hK1 => ?_)
  refine WP.region ?_
  refine WL.box 42 [.int .i64 c_0.Kind, .int .i64 c_0.Amount] 1 (by kernel_rfl) rfl rfl rfl rfl ?_
  intro b2 w3 hE4 hR5
  have hb7 : Ext w w3 := Ext.trans (Ext.refl w) hE4
  have hL8 : w.heap.size ≤ w3.heap.size := Nat.le_trans (Nat.le_refl _) hE4.size
  have hS9 : SH w3 w.heap.size [aBox 42 b2 [.int .i64 c_0.Kind, .int .i64 c_0.Amount]] := SH.add (SH.nil _ _) hE4 (Nat.le_refl _) hR5
  refine WL.runk 1 [1] [(1, .pointer (some ⟨b2, 0, none⟩))] (by kernel_rfl) ?_
  refine WL.nil ?_
  refine WQ.then_normal (hK1 _ _ _ ?_)
  refine WP.seq (fun K10 hK10 => ?_)
  refine WP.region ?_
  refine WL.runk 1 [1, 4] [(1, .pointer (some ⟨b2, 0, none⟩)), (4, .pointer (some ⟨b2, 0, none⟩))] (by kernel_rfl) ?_
  refine WL.st (.int .i64 c_0.Kind) (ST.load (cell_ext (SH.boxAt (SH.front 0 hS9) 0 _ rfl)) rfl rfl Try.underlying2 rfl) rfl rfl rfl ?_
  obtain ⟨x11, hx12, hm⟩ := bindE hm
  refine WL.call 52 #[.int .i64 c_0.Kind] rfl rfl (by kernel_rfl) (c_52 n c_0.Kind w3 hx12 ) ?_
  rintro _ w13 ⟨rfl, hE14⟩
  refine ⟨_, rfl, ?_⟩
  have hb16 : Ext w w13 := Ext.trans hb7 hE14
  have hL17 : w.heap.size ≤ w13.heap.size := Nat.le_trans hL8 hE14.size
  have hS18 : SH w13 w.heap.size [aBox 42 b2 [.int .i64 c_0.Kind, .int .i64 c_0.Amount]] := SH.ext hS9 hE14
  refine WL.runk 1 [1, 3] [(1, .pointer (some ⟨b2, 0, none⟩)), (3, .int .i64 x11)] (by kernel_rfl) ?_
  refine WL.nil ?_
  refine WQ.then_normal (hK10 _ _ _ ?_)
  refine WP.seq (fun K19 hK19 => ?_)
  obtain ⟨x29, hx30, hm⟩ := bindE hm
  refine WP.cut (fun env' w' => env' = [(2, .bool x29)] ∧ Ext w w' ∧ w.heap.size ≤ w'.heap.size ∧ SH w' w.heap.size [aBox 42 b2 [.int .i64 c_0.Kind, .int .i64 c_0.Amount]]) ?_ ?_
  rotate_left
  · clear hx30
    rintro _ w40 ⟨rfl, hb41, hL42, hS43⟩
    refine WQ.then_normal (hK19 _ _ _ ?_)
    refine WP.ret ?_
    obtain rfl := Option.some.inj hm
    exact WQ.ret1 _ rfl rfl ⟨rfl, hb41⟩
  have hm := hx30; clear hx30
  refine WP.region ?_
  refine WL.runk 1 [1, 3, 7] [(1, .pointer (some ⟨b2, 0, none⟩)), (3, .int .i64 x11), (7, .pointer (some ⟨b2, 1, none⟩))] (by kernel_rfl) ?_
  refine WL.st (.int .i64 c_0.Amount) (ST.load (cell_ext (SH.boxAt (SH.front 0 hS18) 1 _ rfl)) rfl rfl Try.underlying2 rfl) rfl rfl rfl ?_
  refine WL.runk 2 [1, 3, 10] [(1, .pointer (some ⟨b2, 0, none⟩)), (3, .int .i64 x11), (10, .bool (c_0.Amount != 0))] (by kernel_rfl) ?_
  refine WL.case (c_0.Amount != 0) [10] ⟨rfl, trivial⟩ (fun hc31 => ?_) (fun hc31 => ?_)
  rotate_left
  · have hm := iteF hm hc31
    refine WL.runk 8 [2] [(2, .bool false)] (by kernel_rfl) ?_
    refine WL.nil ?_
    obtain rfl := Option.some.inj hm
    exact WQ.post' ⟨rfl, hb16, hL17, hS18⟩ ⟨rfl, trivial⟩
  have hm := iteT hm hc31
  refine WL.runk 1 [3, 10, 11] [(3, .int .i64 x11), (10, .bool true), (11, .pointer (some ⟨b2, 1, none⟩))] (by kernel_rfl) ?_
  refine WL.st (.int .i64 c_0.Amount) (ST.load (cell_ext (SH.boxAt (SH.front 0 hS18) 1 _ rfl)) rfl rfl Try.underlying2 rfl) rfl rfl rfl ?_
  refine WL.runk 3 [10, 12, 14, 15] [(10, .bool true), (12, .int .i64 c_0.Amount), (14, .int .i64 (wI64 (0 - x11))), (15, .int .i64 x11)] (by kernel_rfl) ?_
  obtain ⟨x32, hx33, hm⟩ := bindE hm
  refine WL.call 64 #[.int .i64 c_0.Amount, .int .i64 (wI64 (0 - x11)), .int .i64 x11] rfl rfl (by kernel_rfl) (c_64 n c_0.Amount (wI64 (0 - x11)) x11 w13 hx33 ) ?_
  rintro _ w34 ⟨rfl, hE35⟩
  refine ⟨_, rfl, ?_⟩
  have hb37 : Ext w w34 := Ext.trans hb16 hE35
  have hL38 : w.heap.size ≤ w34.heap.size := Nat.le_trans hL17 hE35.size
  have hS39 : SH w34 w.heap.size [aBox 42 b2 [.int .i64 c_0.Kind, .int .i64 c_0.Amount]] := SH.ext hS18 hE35
  refine WL.runk 2 [2] [(2, .bool x32)] (by kernel_rfl) ?_
  refine WL.nil ?_
  obtain rfl := Option.some.inj hm
  exact WQ.post' ⟨rfl, hb37, hL38, hS39⟩ ⟨rfl, trivial⟩

theorem c_59 (n : Nat) (list_0 : List SChange) (a0' : Option Addr) (c0' : Nat) (w : World) {r : Bool} (hm : m_spec_l22Ok n list_0 = some r) (h0 : Rd fChange.ty w a0' list_0) (_hle0 : list_0.length ≤ c0') :
    CallV Try.prog 59 #[.slice a0' list_0.length c0'] w (fun v w' => v = .bool r ∧ Ext w w') := by
  unfold m_spec_l22Ok at hm
  refine CallV.enter Try.func59 rfl (by kernel_rfl) Try.ntmps59 (env := [(0, .slice a0' list_0.length c0')]) ⟨rfl, trivial⟩ ?_
  refine WP.seq (fun K1 hK1 => ?_)
  refine WP.region ?_
  refine WL.runk 1 [0] [(0, .slice a0' list_0.length c0')] (by kernel_rfl) ?_
  refine WL.nil ?_
  refine WQ.then_normal (hK1 _ _ _ ?_)
  refine WP.seq (fun K2 hK2 => ?_)
  refine WP.seq (fun K3 hK3 => ?_)
  refine WP.region ?_
  refine WL.runk 1 [0, 3] [(0, .slice a0' list_0.length c0'), (3, .int .i64 0)] (by kernel_rfl) ?_
  refine WL.nil ?_
  refine WQ.then_normal (hK3 _ _ _ ?_)
  refine WP.block ?_
  obtain ⟨t15, ht16, hm⟩ := bindE hm
  have hmo10 := hm; clear hm
  refine WP.sub [(0, .slice a0' list_0.length c0'), (3, .int .i64 0)] ⟨rfl, rfl, trivial⟩ ?_
  refine WP.loop (fun n' env' w' => ∃ (st4 : Int) , env' = [(0, .slice a0' list_0.length c0'), (3, .int .i64 st4)] ∧ Ext w w' ∧ w.heap.size ≤ w'.heap.size ∧ SH w' w.heap.size [] ∧ loopN (m_spec_l22Ok_l1 n list_0) n' st4 = some t15) n ⟨0, rfl, (Ext.refl w), (Nat.le_refl _), (SH.nil _ _), ht16⟩ ?_
  rintro n12 _ w5 ⟨st4, rfl, hb6, hL7, hS8, hl9⟩ K11 hK11
  obtain ⟨n13, s14, rfl, hm, hl9⟩ := loopN_some hl9
  unfold m_spec_l22Ok_l1 at hm
  refine WP.seq (fun K17 hK17 => ?_)
  refine WP.seq (fun K18 hK18 => ?_)
  refine WP.region ?_
  refine WL.runk 4 [0, 3, 7] [(0, .slice a0' list_0.length c0'), (3, .int .i64 st4), (7, .bool (decide (st4 < (list_0.length : Int))))] (by kernel_rfl) ?_
  refine WL.nil ?_
  refine WQ.then_normal (hK18 _ _ _ ?_)
  refine WP.cond (decide (st4 < (list_0.length : Int))) rfl rfl (fun hc19 => ?_) (fun hc19 => ?_)
  rotate_left
  · have hm := iteF hm hc19
    refine WP.exit ?_
    refine WQ.then_exit ?_
    refine WQ.then_exit ?_
    refine WQ.block_here ?_
    obtain rfl := Option.some.inj hm
    obtain rfl := afterN_done hl9
    have hm := hmo10
    refine WQ.then_normal (hK2 _ _ _ ?_)
    refine WP.seq (fun K34 hK34 => ?_)
    refine WP.region ?_
    refine WL.runk 4 [2] [(2, .bool (decide ((list_0.length : Int) ≤ 20)))] (by kernel_rfl) ?_
    refine WL.nil ?_
    refine WQ.then_normal (hK34 _ _ _ ?_)
    refine WP.ret ?_
    obtain rfl := Option.some.inj hm
    exact WQ.ret1 _ rfl rfl ⟨rfl, hb6⟩
  have hm := iteT hm hc19
  refine WP.skip ?_
  refine WQ.then_normal (hK17 _ _ _ ?_)
  refine WP.seq (fun K20 hK20 => ?_)
  refine WP.block ?_
  refine WP.seq (fun K21 hK21 => ?_)
  refine WP.region ?_
  refine WL.runk 2 [0, 3, 10, 11] [(0, .slice a0' list_0.length c0'), (3, .int .i64 st4), (10, .slice a0' list_0.length c0'), (11, .int .i64 st4)] (by kernel_rfl) ?_
  obtain ⟨x22, hx23, hm⟩ := bindE hm
  refine WL.st (.pointer (some (at_ a0' (Int.toNat st4 * 2)))) (ST.index (T := fChange.ty) (xs := list_0) (Rd.below h0 hb6) hx23 rfl rfl rfl Try.underlying28 (info42).1 (info42).2.1) rfl rfl rfl ?_
  refine WL.st (.agg #[.int .i64 x22.Kind, .int .i64 x22.Amount]) (ST.loadAgg (vs := fChange.leaf x22) (fun j v hv => Rd.flatA (F := fChange) (Rd.below h0 hb6) hx23 j hv) rfl rfl rfl Try.underlying42 rfl (info42).1 (info42).2.1) rfl rfl rfl ?_
  obtain ⟨x24, hx25, hm⟩ := bindE hm
  refine WL.call 63 #[.agg #[.int .i64 x22.Kind, .int .i64 x22.Amount]] rfl rfl (by kernel_rfl) (c_63 n x22 w5 hx25 ) ?_
  rintro _ w26 ⟨rfl, hE27⟩
  refine ⟨_, rfl, ?_⟩
  have hb29 : Ext w w26 := Ext.trans hb6 hE27
  have hL30 : w.heap.size ≤ w26.heap.size := Nat.le_trans hL7 hE27.size
  have hS31 : SH w26 w.heap.size [] := SH.ext hS8 hE27
  refine WL.runk 1 [0, 3, 15] [(0, .slice a0' list_0.length c0'), (3, .int .i64 st4), (15, .bool (!x24))] (by kernel_rfl) ?_
  refine WL.nil ?_
  refine WQ.then_normal (hK21 _ _ _ ?_)
  refine WP.cond (!x24) rfl rfl (fun hc32 => ?_) (fun hc32 => ?_)
  rotate_left
  · have hm := iteF hm hc32
    refine WP.skip ?_
    refine WQ.block_normal ?_
    refine WQ.then_normal (hK20 _ _ _ ?_)
    refine WP.region ?_
    refine WL.runk 3 [0, 3] [(0, .slice a0' list_0.length c0'), (3, .int .i64 (wI64 (st4 + 1)))] (by kernel_rfl) ?_
    refine WL.nil ?_
    obtain rfl := Option.some.inj hm
    exact WQ.round hK11 ⟨(wI64 (st4 + 1)), rfl, hb29, hL30, hS31, hl9⟩ (Nat.lt_succ_self _) ⟨rfl, rfl, trivial⟩
  have hm := iteT hm hc32
  refine WP.seq (fun K33 hK33 => ?_)
  refine WP.region ?_
  refine WL.runk 1 [2] [(2, .bool false)] (by kernel_rfl) ?_
  refine WL.nil ?_
  refine WQ.then_normal (hK33 _ _ _ ?_)
  refine WP.ret ?_
  refine WQ.block_ret ?_
  refine WQ.then_ret ?_
  refine WQ.then_ret ?_
  refine WQ.block_ret ?_
  refine WQ.then_ret ?_
  obtain rfl := Option.some.inj hm
  obtain rfl := afterN_done hl9
  have hm := hmo10
  obtain rfl := Option.some.inj hm
  exact WQ.ret1 _ rfl rfl ⟨rfl, hb29⟩

theorem c_62 (n : Nat) (c_0 : SChange) (w : World) {r : Bool} (hm : m_impl_validChange n c_0 = some r)  :
    CallV Try.prog 62 #[.agg #[.int .i64 c_0.Kind, .int .i64 c_0.Amount]] w (fun v w' => v = .bool r ∧ Ext w w') := by
  unfold m_impl_validChange at hm
  refine CallV.enter Try.func62 rfl (by kernel_rfl) Try.ntmps62 (env := [(0, .agg #[.int .i64 c_0.Kind, .int .i64 c_0.Amount])]) ⟨rfl, trivial⟩ ?_
  refine WP.seq (fun K1 hK1 => ?_)
  refine WP.region ?_
  refine WL.box 42 [.int .i64 c_0.Kind, .int .i64 c_0.Amount] 1 (by kernel_rfl) rfl rfl rfl rfl ?_
  intro b2 w3 hE4 hR5
  have hb7 : Ext w w3 := Ext.trans (Ext.refl w) hE4
  have hL8 : w.heap.size ≤ w3.heap.size := Nat.le_trans (Nat.le_refl _) hE4.size
  have hS9 : SH w3 w.heap.size [aBox 42 b2 [.int .i64 c_0.Kind, .int .i64 c_0.Amount]] := SH.add (SH.nil _ _) hE4 (Nat.le_refl _) hR5
  refine WL.runk 1 [1] [(1, .pointer (some ⟨b2, 0, none⟩))] (by kernel_rfl) ?_
  refine WL.nil ?_
  refine WQ.then_normal (hK1 _ _ _ ?_)
  refine WP.seq (fun K10 hK10 => ?_)
  refine WP.region ?_
  refine WL.runk 1 [1, 4] [(1, .pointer (some ⟨b2, 0, none⟩)), (4, .pointer (some ⟨b2, 0, none⟩))] (by kernel_rfl) ?_
  refine WL.st (.int .i64 c_0.Kind) (ST.load (cell_ext (SH.boxAt (SH.front 0 hS9) 0 _ rfl)) rfl rfl Try.underlying2 rfl) rfl rfl rfl ?_
  obtain ⟨x11, hx12, hm⟩ := bindE hm
  refine WL.call 53 #[.int .i64 c_0.Kind] rfl rfl (by kernel_rfl) (c_53 n c_0.Kind w3 hx12 ) ?_
  rintro _ w13 ⟨rfl, hE14⟩
  refine ⟨_, rfl, ?_⟩
  have hb16 : Ext w w13 := Ext.trans hb7 hE14
  have hL17 : w.heap.size ≤ w13.heap.size := Nat.le_trans hL8 hE14.size
  have hS18 : SH w13 w.heap.size [aBox 42 b2 [.int .i64 c_0.Kind, .int .i64 c_0.Amount]] := SH.ext hS9 hE14
  refine WL.runk 1 [1, 3] [(1, .pointer (some ⟨b2, 0, none⟩)), (3, .int .i64 x11)] (by kernel_rfl) ?_
  refine WL.nil ?_
  refine WQ.then_normal (hK10 _ _ _ ?_)
  refine WP.seq (fun K19 hK19 => ?_)
  obtain ⟨x30, hx31, hm⟩ := bindE hm
  refine WP.cut (fun env' w' => env' = [(2, .bool x30)] ∧ Ext w w' ∧ w.heap.size ≤ w'.heap.size ∧ SH w' w.heap.size [aBox 42 b2 [.int .i64 c_0.Kind, .int .i64 c_0.Amount]]) ?_ ?_
  rotate_left
  · clear hx31
    rintro _ w42 ⟨rfl, hb43, hL44, hS45⟩
    refine WQ.then_normal (hK19 _ _ _ ?_)
    refine WP.ret ?_
    obtain rfl := Option.some.inj hm
    exact WQ.ret1 _ rfl rfl ⟨rfl, hb43⟩
  have hm := hx31; clear hx31
  refine WP.region ?_
  refine WL.runk 3 [1, 3, 9] [(1, .pointer (some ⟨b2, 0, none⟩)), (3, .int .i64 x11), (9, .bool (decide (x11 > 0)))] (by kernel_rfl) ?_
  refine WL.case (decide (x11 > 0)) [9] ⟨rfl, trivial⟩ (fun hc32 => ?_) (fun hc32 => ?_)
  rotate_left
  · have hm := iteF hm hc32
    refine WL.runk 13 [2] [(2, .bool false)] (by kernel_rfl) ?_
    refine WL.nil ?_
    obtain rfl := Option.some.inj hm
    exact WQ.post' ⟨rfl, hb16, hL17, hS18⟩ ⟨rfl, trivial⟩
  have hm := iteT hm hc32
  refine WL.runk 1 [1, 3, 9, 10] [(1, .pointer (some ⟨b2, 0, none⟩)), (3, .int .i64 x11), (9, .bool true), (10, .pointer (some ⟨b2, 1, none⟩))] (by kernel_rfl) ?_
  refine WL.st (.int .i64 c_0.Amount) (ST.load (cell_ext (SH.boxAt (SH.front 0 hS18) 1 _ rfl)) rfl rfl Try.underlying2 rfl) rfl rfl rfl ?_
  refine WL.runk 3 [1, 3, 14] [(1, .pointer (some ⟨b2, 0, none⟩)), (3, .int .i64 x11), (14, .bool (c_0.Amount != 0))] (by kernel_rfl) ?_
  refine WL.case (c_0.Amount != 0) [14] ⟨rfl, trivial⟩ (fun hc33 => ?_) (fun hc33 => ?_)
  rotate_left
  · have hm := iteF hm hc33
    refine WL.runk 8 [2] [(2, .bool false)] (by kernel_rfl) ?_
    refine WL.nil ?_
    obtain rfl := Option.some.inj hm
    exact WQ.post' ⟨rfl, hb16, hL17, hS18⟩ ⟨rfl, trivial⟩
  have hm := iteT hm hc33
  refine WL.runk 1 [3, 14, 15] [(3, .int .i64 x11), (14, .bool true), (15, .pointer (some ⟨b2, 1, none⟩))] (by kernel_rfl) ?_
  refine WL.st (.int .i64 c_0.Amount) (ST.load (cell_ext (SH.boxAt (SH.front 0 hS18) 1 _ rfl)) rfl rfl Try.underlying2 rfl) rfl rfl rfl ?_
  refine WL.runk 3 [14, 16, 18, 19] [(14, .bool true), (16, .int .i64 c_0.Amount), (18, .int .i64 (wI64 (0 - x11))), (19, .int .i64 x11)] (by kernel_rfl) ?_
  obtain ⟨x34, hx35, hm⟩ := bindE hm
  refine WL.call 66 #[.int .i64 c_0.Amount, .int .i64 (wI64 (0 - x11)), .int .i64 x11] rfl rfl (by kernel_rfl) (c_66 n c_0.Amount (wI64 (0 - x11)) x11 w13 hx35 ) ?_
  rintro _ w36 ⟨rfl, hE37⟩
  refine ⟨_, rfl, ?_⟩
  have hb39 : Ext w w36 := Ext.trans hb16 hE37
  have hL40 : w.heap.size ≤ w36.heap.size := Nat.le_trans hL17 hE37.size
  have hS41 : SH w36 w.heap.size [aBox 42 b2 [.int .i64 c_0.Kind, .int .i64 c_0.Amount]] := SH.ext hS18 hE37
  refine WL.runk 2 [2] [(2, .bool x34)] (by kernel_rfl) ?_
  refine WL.nil ?_
  obtain rfl := Option.some.inj hm
  exact WQ.post' ⟨rfl, hb39, hL40, hS41⟩ ⟨rfl, trivial⟩

theorem c_61 (n : Nat) (c_0 : SChange) (w : World) {r : Bool} (hm : m_impl_ValidChanges_1 n c_0 = some r)  :
    CallV Try.prog 61 #[.agg #[.int .i64 c_0.Kind, .int .i64 c_0.Amount]] w (fun v w' => v = .bool r ∧ Ext w w') := by
  unfold m_impl_ValidChanges_1 at hm
  refine CallV.enter Try.func61 rfl (by kernel_rfl) Try.ntmps61 (env := [(0, .agg #[.int .i64 c_0.Kind, .int .i64 c_0.Amount])]) ⟨rfl, trivial⟩ ?_
  refine WP.seq (fun K1 hK1 => ?_)
  refine WP.region ?_
  refine WL.box 42 [.int .i64 c_0.Kind, .int .i64 c_0.Amount] 1 (by kernel_rfl) rfl rfl rfl rfl ?_
  intro b2 w3 hE4 hR5
  have hb7 : Ext w w3 := Ext.trans (Ext.refl w) hE4
  have hL8 : w.heap.size ≤ w3.heap.size := Nat.le_trans (Nat.le_refl _) hE4.size
  have hS9 : SH w3 w.heap.size [aBox 42 b2 [.int .i64 c_0.Kind, .int .i64 c_0.Amount]] := SH.add (SH.nil _ _) hE4 (Nat.le_refl _) hR5
  refine WL.runk 1 [1] [(1, .pointer (some ⟨b2, 0, none⟩))] (by kernel_rfl) ?_
  refine WL.nil ?_
  refine WQ.then_normal (hK1 _ _ _ ?_)
  refine WP.seq (fun K10 hK10 => ?_)
  refine WP.region ?_
  refine WL.st (.agg #[.int .i64 c_0.Kind, .int .i64 c_0.Amount]) (ST.loadAgg (vs := [.int .i64 c_0.Kind, .int .i64 c_0.Amount]) (fun j v hv => SH.boxPart (us := [.int .i64 c_0.Kind, .int .i64 c_0.Amount]) (SH.front 0 hS9) 0 rfl j v hv) rfl rfl rfl Try.underlying42 rfl (info42).1 (info42).2.1) rfl rfl rfl ?_
  obtain ⟨x11, hx12, hm⟩ := bindE hm
  refine WL.call 62 #[.agg #[.int .i64 c_0.Kind, .int .i64 c_0.Amount]] rfl rfl (by kernel_rfl) (c_62 n c_0 w3 hx12 ) ?_
  rintro _ w13 ⟨rfl, hE14⟩
  refine ⟨_, rfl, ?_⟩
  have hb16 : Ext w w13 := Ext.trans hb7 hE14
  have hL17 : w.heap.size ≤ w13.heap.size := Nat.le_trans hL8 hE14.size
  have hS18 : SH w13 w.heap.size [aBox 42 b2 [.int .i64 c_0.Kind, .int .i64 c_0.Amount]] := SH.ext hS9 hE14
  refine WL.runk 2 [2] [(2, .bool (!x11))] (by kernel_rfl) ?_
  refine WL.nil ?_
  refine WQ.then_normal (hK10 _ _ _ ?_)
  refine WP.ret ?_
  obtain rfl := Option.some.inj hm
  exact WQ.ret1 _ rfl rfl ⟨rfl, hb16⟩

theorem c_68_61 (n : Nat) (s_0 : List SChange) (a0' : Option Addr) (c0' : Nat) (w : World) {r : Int} (hm : m_slices_IndexFunc_impl_Change_impl_Change_f61 n s_0 = some r) (h0 : Rd fChange.ty w a0' s_0) (_hle0 : s_0.length ≤ c0') :
    CallV Try.prog 68 #[.slice a0' s_0.length c0', .func (.func 61) #[] #[]] w (fun v w' => v = .int .i64 r ∧ Ext w w') := by
  unfold m_slices_IndexFunc_impl_Change_impl_Change_f61 at hm
  refine CallV.enter Try.func68 rfl (by kernel_rfl) Try.ntmps68 (env := [(0, .slice a0' s_0.length c0'), (1, .func (.func 61) #[] #[])]) ⟨rfl, rfl, trivial⟩ ?_
  refine WP.seq (fun K1 hK1 => ?_)
  refine WP.region ?_
  refine WL.runk 1 [0, 1] [(0, .slice a0' s_0.length c0'), (1, .func (.func 61) #[] #[])] (by kernel_rfl) ?_
  refine WL.nil ?_
  refine WQ.then_normal (hK1 _ _ _ ?_)
  refine WP.seq (fun K2 hK2 => ?_)
  refine WP.seq (fun K3 hK3 => ?_)
  refine WP.region ?_
  refine WL.runk 3 [0, 1, 7, 8] [(0, .slice a0' s_0.length c0'), (1, .func (.func 61) #[] #[]), (7, .int .i64 (s_0.length : Int)), (8, .int .i64 0)] (by kernel_rfl) ?_
  refine WL.nil ?_
  refine WQ.then_normal (hK3 _ _ _ ?_)
  refine WP.block ?_
  obtain ⟨t15, ht16, hm⟩ := bindE hm
  have hmo10 := hm; clear hm
  refine WP.sub [(0, .slice a0' s_0.length c0'), (1, .func (.func 61) #[] #[]), (7, .int .i64 (s_0.length : Int)), (8, .int .i64 0)] ⟨rfl, rfl, rfl, rfl, trivial⟩ ?_
  refine WP.loop (fun n' env' w' => ∃ (st4 : Int) , env' = [(0, .slice a0' s_0.length c0'), (1, .func (.func 61) #[] #[]), (7, .int .i64 (s_0.length : Int)), (8, .int .i64 st4)] ∧ Ext w w' ∧ w.heap.size ≤ w'.heap.size ∧ SH w' w.heap.size [] ∧ loopN (m_slices_IndexFunc_impl_Change_impl_Change_f61_l1 n s_0) n' st4 = some t15) n ⟨0, rfl, (Ext.refl w), (Nat.le_refl _), (SH.nil _ _), ht16⟩ ?_
  rintro n12 _ w5 ⟨st4, rfl, hb6, hL7, hS8, hl9⟩ K11 hK11
  obtain ⟨n13, s14, rfl, hm, hl9⟩ := loopN_some hl9
  unfold m_slices_IndexFunc_impl_Change_impl_Change_f61_l1 at hm
  refine WP.seq (fun K17 hK17 => ?_)
  refine WP.region ?_
  refine WL.runk 1 [0, 1, 7, 8, 9] [(0, .slice a0' s_0.length c0'), (1, .func (.func 61) #[] #[]), (7, .int .i64 (s_0.length : Int)), (8, .int .i64 st4), (9, .bool (decide (st4 < (s_0.length : Int))))] (by kernel_rfl) ?_
  refine WL.nil ?_
  refine WQ.then_normal (hK17 _ _ _ ?_)
  refine WP.seq (fun K18 hK18 => ?_)
  refine WP.cond (decide (st4 < (s_0.length : Int))) rfl rfl (fun hc19 => ?_) (fun hc19 => ?_)
  rotate_left
  · have hm := iteF hm hc19
    refine WP.exit ?_
    refine WQ.then_exit ?_
    refine WQ.then_exit ?_
    refine WQ.block_here ?_
    obtain rfl := Option.some.inj hm
    obtain rfl := afterN_done hl9
    have hm := hmo10
    refine WQ.then_normal (hK2 _ _ _ ?_)
    refine WP.seq (fun K35 hK35 => ?_)
    refine WP.region ?_
    refine WL.runk 1 [4] [(4, .int .i64 (-1))] (by kernel_rfl) ?_
    refine WL.nil ?_
    refine WQ.then_normal (hK35 _ _ _ ?_)
    refine WP.ret ?_
    obtain rfl := Option.some.inj hm
    exact WQ.ret1 _ rfl rfl ⟨rfl, hb6⟩
  have hm := iteT hm hc19
  refine WP.skip ?_
  refine WQ.then_normal (hK18 _ _ _ ?_)
  refine WP.seq (fun K20 hK20 => ?_)
  refine WP.block ?_
  refine WP.seq (fun K21 hK21 => ?_)
  refine WP.region ?_
  refine WL.runk 2 [0, 1, 5, 7, 8] [(0, .slice a0' s_0.length c0'), (1, .func (.func 61) #[] #[]), (7, .int .i64 (s_0.length : Int)), (8, .int .i64 st4), (5, .int .i64 st4)] (by kernel_rfl) ?_
  refine WL.nil ?_
  refine WQ.then_normal (hK21 _ _ _ ?_)
  refine WP.seq (fun K22 hK22 => ?_)
  refine WP.region ?_
  refine WL.runk 3 [0, 1, 5, 7, 8, 11, 12, 13] [(0, .slice a0' s_0.length c0'), (1, .func (.func 61) #[] #[]), (7, .int .i64 (s_0.length : Int)), (8, .int .i64 st4), (5, .int .i64 st4), (11, .func (.func 61) #[] #[]), (12, .slice a0' s_0.length c0'), (13, .int .i64 st4)] (by kernel_rfl) ?_
  obtain ⟨x23, hx24, hm⟩ := bindE hm
  refine WL.st (.pointer (some (at_ a0' (Int.toNat st4 * 2)))) (ST.index (T := fChange.ty) (xs := s_0) (Rd.below h0 hb6) hx24 rfl rfl rfl Try.underlying28 (info42).1 (info42).2.1) rfl rfl rfl ?_
  refine WL.st (.agg #[.int .i64 x23.Kind, .int .i64 x23.Amount]) (ST.loadAgg (vs := fChange.leaf x23) (fun j v hv => Rd.flatA (F := fChange) (Rd.below h0 hb6) hx24 j hv) rfl rfl rfl Try.underlying42 rfl (info42).1 (info42).2.1) rfl rfl rfl ?_
  obtain ⟨x25, hx26, hm⟩ := bindE hm
  refine WL.call 61 #[.agg #[.int .i64 x23.Kind, .int .i64 x23.Amount]] rfl rfl (by kernel_rfl) (c_61 n x23 w5 hx26 ) ?_
  rintro _ w27 ⟨rfl, hE28⟩
  refine ⟨_, rfl, ?_⟩
  have hb30 : Ext w w27 := Ext.trans hb6 hE28
  have hL31 : w.heap.size ≤ w27.heap.size := Nat.le_trans hL7 hE28.size
  have hS32 : SH w27 w.heap.size [] := SH.ext hS8 hE28
  refine WL.sub [(0, .slice a0' s_0.length c0'), (1, .func (.func 61) #[] #[]), (7, .int .i64 (s_0.length : Int)), (8, .int .i64 st4), (5, .int .i64 st4), (16, .bool x25)] ⟨rfl, rfl, rfl, rfl, rfl, rfl, trivial⟩ ?_
  refine WL.nil ?_
  refine WQ.then_normal (hK22 _ _ _ ?_)
  refine WP.cond x25 rfl rfl (fun hc33 => ?_) (fun hc33 => ?_)
  rotate_left
  · have hm := iteF hm hc33
    refine WP.skip ?_
    refine WQ.block_normal ?_
    refine WQ.then_normal (hK20 _ _ _ ?_)
    refine WP.region ?_
    refine WL.runk 2 [0, 1, 7, 8] [(0, .slice a0' s_0.length c0'), (1, .func (.func 61) #[] #[]), (7, .int .i64 (s_0.length : Int)), (8, .int .i64 (wI64 (st4 + 1)))] (by kernel_rfl) ?_
    refine WL.nil ?_
    obtain rfl := Option.some.inj hm
    exact WQ.round hK11 ⟨(wI64 (st4 + 1)), rfl, hb30, hL31, hS32, hl9⟩ (Nat.lt_succ_self _) ⟨rfl, rfl, rfl, rfl, trivial⟩
  have hm := iteT hm hc33
  refine WP.seq (fun K34 hK34 => ?_)
  refine WP.region ?_
  refine WL.runk 2 [4] [(4, .int .i64 st4)] (by kernel_rfl) ?_
  refine WL.nil ?_
  refine WQ.then_normal (hK34 _ _ _ ?_)
  refine WP.ret ?_
  refine WQ.block_ret ?_
  refine WQ.then_ret ?_
  refine WQ.then_ret ?_
  refine WQ.block_ret ?_
  refine WQ.then_ret ?_
  obtain rfl := Option.some.inj hm
  obtain rfl := afterN_done hl9
  have hm := hmo10
  obtain rfl := Option.some.inj hm
  exact WQ.ret1 _ rfl rfl ⟨rfl, hb30⟩

theorem c_60_61 (n : Nat) (s_0 : List SChange) (a0' : Option Addr) (c0' : Nat) (w : World) {r : Bool} (hm : m_slices_ContainsFunc_impl_Change_impl_Change_f61 n s_0 = some r) (h0 : Rd fChange.ty w a0' s_0) (hle0 : s_0.length ≤ c0') :
    CallV Try.prog 60 #[.slice a0' s_0.length c0', .func (.func 61) #[] #[]] w (fun v w' => v = .bool r ∧ Ext w w') := by
  unfold m_slices_ContainsFunc_impl_Change_impl_Change_f61 at hm
  refine CallV.enter Try.func60 rfl (by kernel_rfl) Try.ntmps60 (env := [(0, .slice a0' s_0.length c0'), (1, .func (.func 61) #[] #[])]) ⟨rfl, rfl, trivial⟩ ?_
  refine WP.seq (fun K1 hK1 => ?_)
  refine WP.region ?_
  refine WL.runk 1 [0, 1] [(0, .slice a0' s_0.length c0'), (1, .func (.func 61) #[] #[])] (by kernel_rfl) ?_
  refine WL.nil ?_
  refine WQ.then_normal (hK1 _ _ _ ?_)
  refine WP.seq (fun K2 hK2 => ?_)
  refine WP.region ?_
  refine WL.runk 2 [5, 6] [(5, .slice a0' s_0.length c0'), (6, .func (.func 61) #[] #[])] (by kernel_rfl) ?_
  obtain ⟨x3, hx4, hm⟩ := bindE hm
  refine WL.call 68 #[.slice a0' s_0.length c0', .func (.func 61) #[] #[]] rfl rfl (by kernel_rfl) (c_68_61 n s_0 a0' c0' w hx4 (Rd.below h0 (Ext.refl w)) hle0) ?_
  rintro _ w5 ⟨rfl, hE6⟩
  refine ⟨_, rfl, ?_⟩
  have hb8 : Ext w w5 := Ext.trans (Ext.refl w) hE6
  have hL9 : w.heap.size ≤ w5.heap.size := Nat.le_trans (Nat.le_refl _) hE6.size
  have hS10 : SH w5 w.heap.size [] := SH.ext (SH.nil _ _) hE6
  refine WL.runk 2 [4] [(4, .bool (decide (x3 ≥ 0)))] (by kernel_rfl) ?_
  refine WL.nil ?_
  refine WQ.then_normal (hK2 _ _ _ ?_)
  refine WP.ret ?_
  obtain rfl := Option.some.inj hm
  exact WQ.ret1 _ rfl rfl ⟨rfl, hb8⟩

theorem c_27 (n : Nat) (list_0 : List SChange) (a0' : Option Addr) (c0' : Nat) (w : World) {r : Bool} (hm : m_impl_ValidChanges n list_0 = some r) (h0 : Rd fChange.ty w a0' list_0) (hle0 : list_0.length ≤ c0') :
    CallV Try.prog 27 #[.slice a0' list_0.length c0'] w (fun v w' => v = .bool r ∧ Ext w w') := by
  unfold m_impl_ValidChanges at hm
  refine CallV.enter Try.func27 rfl (by kernel_rfl) Try.ntmps27 (env := [(0, .slice a0' list_0.length c0')]) ⟨rfl, trivial⟩ ?_
  refine WP.seq (fun K1 hK1 => ?_)
  refine WP.region ?_
  refine WL.runk 1 [0] [(0, .slice a0' list_0.length c0')] (by kernel_rfl) ?_
  refine WL.nil ?_
  refine WQ.then_normal (hK1 _ _ _ ?_)
  refine WP.seq (fun K2 hK2 => ?_)
  obtain ⟨x12, hx13, hm⟩ := bindE hm
  refine WP.cut (fun env' w' => env' = [(2, .bool x12)] ∧ Ext w w' ∧ w.heap.size ≤ w'.heap.size ∧ SH w' w.heap.size []) ?_ ?_
  rotate_left
  · clear hx13
    rintro _ w23 ⟨rfl, hb24, hL25, hS26⟩
    refine WQ.then_normal (hK2 _ _ _ ?_)
    refine WP.ret ?_
    obtain rfl := Option.some.inj hm
    exact WQ.ret1 _ rfl rfl ⟨rfl, hb24⟩
  have hm := hx13; clear hx13
  refine WP.region ?_
  refine WL.runk 4 [0, 6] [(0, .slice a0' list_0.length c0'), (6, .bool (decide ((list_0.length : Int) ≤ 20)))] (by kernel_rfl) ?_
  refine WL.case (decide ((list_0.length : Int) ≤ 20)) [6] ⟨rfl, trivial⟩ (fun hc14 => ?_) (fun hc14 => ?_)
  rotate_left
  · have hm := iteF hm hc14
    refine WL.runk 5 [2] [(2, .bool false)] (by kernel_rfl) ?_
    refine WL.nil ?_
    obtain rfl := Option.some.inj hm
    exact WQ.post' ⟨rfl, (Ext.refl w), (Nat.le_refl _), (SH.nil _ _)⟩ ⟨rfl, trivial⟩
  have hm := iteT hm hc14
  refine WL.runk 1 [6, 7] [(6, .bool true), (7, .slice a0' list_0.length c0')] (by kernel_rfl) ?_
  obtain ⟨x15, hx16, hm⟩ := bindE hm
  refine WL.call 60 #[.slice a0' list_0.length c0', .func (.func 61) #[] #[]] rfl rfl (by kernel_rfl) (c_60_61 n list_0 a0' c0' w hx16 (Rd.below h0 (Ext.refl w)) hle0) ?_
  rintro _ w17 ⟨rfl, hE18⟩
  refine ⟨_, rfl, ?_⟩
  have hb20 : Ext w w17 := Ext.trans (Ext.refl w) hE18
  have hL21 : w.heap.size ≤ w17.heap.size := Nat.le_trans (Nat.le_refl _) hE18.size
  have hS22 : SH w17 w.heap.size [] := SH.ext (SH.nil _ _) hE18
  refine WL.runk 3 [2] [(2, .bool (!x15))] (by kernel_rfl) ?_
  refine WL.nil ?_
  obtain rfl := Option.some.inj hm
  exact WQ.post' ⟨rfl, hb20, hL21, hS22⟩ ⟨rfl, trivial⟩

theorem c_39 (n : Nat) (list_0 : List SChange) (a0' : Option Addr) (c0' : Nat) (w : World) {r : List SChange × Int} (hm : m_spec_UndoChanges n list_0 = some r) (h0 : Rd fChange.ty w a0' list_0) (hle0 : list_0.length ≤ c0') :
    CallV Try.prog 39 #[.slice a0' list_0.length c0'] w (fun v w' => ∃ (ra0 : Option Addr) (rc0 : Nat), v = .tuple #[.slice ra0 r.1.length rc0, .int .i64 r.2] ∧ Ext w w' ∧ SH w' w.heap.size [aOwn fChange 42 ra0 rc0 r.1]) := by
  unfold m_spec_UndoChanges at hm
  refine CallV.enter Try.func39 rfl (by kernel_rfl) Try.ntmps39 (env := [(0, .slice a0' list_0.length c0')]) ⟨rfl, trivial⟩ ?_
  refine WP.seq (fun K1 hK1 => ?_)
  refine WP.region ?_
  refine WL.runk 2 [0] [(0, .slice a0' list_0.length c0')] (by kernel_rfl) ?_
  refine WL.nil ?_
  refine WQ.then_normal (hK1 _ _ _ ?_)
  refine WP.seq (fun K2 hK2 => ?_)
  refine WP.seq (fun K3 hK3 => ?_)
  refine WP.region ?_
  refine WL.runk 1 [0, 6] [(0, .slice a0' list_0.length c0'), (6, .slice a0' list_0.length c0')] (by kernel_rfl) ?_
  obtain ⟨x4, hx5, hm⟩ := bindE hm
  refine WL.call 59 #[.slice a0' list_0.length c0'] rfl rfl (by kernel_rfl) (c_59 n list_0 a0' c0' w hx5 (Rd.below h0 (Ext.refl w)) hle0) ?_
  rintro _ w6 ⟨rfl, hE7⟩
  refine ⟨_, rfl, ?_⟩
  have hb9 : Ext w w6 := Ext.trans (Ext.refl w) hE7
  have hL10 : w.heap.size ≤ w6.heap.size := Nat.le_trans (Nat.le_refl _) hE7.size
  have hS11 : SH w6 w.heap.size [] := SH.ext (SH.nil _ _) hE7
  refine WL.runk 1 [0, 8] [(0, .slice a0' list_0.length c0'), (8, .bool (!x4))] (by kernel_rfl) ?_
  refine WL.nil ?_
  refine WQ.then_normal (hK3 _ _ _ ?_)
  refine WP.cond (!x4) rfl rfl (fun hc12 => ?_) (fun hc12 => ?_)
  · have hm := iteT hm hc12
    refine WP.seq (fun K13 hK13 => ?_)
    refine WP.region ?_
    refine WL.runk 2 [2, 3] [(2, .slice none 0 0), (3, .int .i64 1)] (by kernel_rfl) ?_
    refine WL.nil ?_
    refine WQ.then_normal (hK13 _ _ _ ?_)
    refine WP.ret ?_
    refine WQ.then_ret ?_
    obtain rfl := Option.some.inj hm
    have hS15 : SH w6 w.heap.size [aOwn fChange 42 none 0 ([] : List SChange)] := SH.nilOwn hS11
    exact WQ.ret2 _ _ rfl rfl rfl ⟨_, _, rfl, hb9, hS15⟩
  have hm := iteF hm hc12
  refine WP.skip ?_
  refine WQ.then_normal (hK2 _ _ _ ?_)
  refine WP.seq (fun K16 hK16 => ?_)
  refine WP.region ?_
  refine WL.row fChange 42 ([] : List SChange) 0 #[] 9 (by kernel_rfl) rfl rfl rfl rfl rfl rfl rfl ?_
  intro a17 c18 w19 hE20 hR21
  have hb23 : Ext w w19 := Ext.trans hb9 hE20
  have hL24 : w.heap.size ≤ w19.heap.size := Nat.le_trans hL10 hE20.size
  have hS25 : SH w19 w.heap.size [aOwn fChange 42 a17 c18 ([] : List SChange)] := SH.add hS11 hE20 hL10 hR21
  refine WL.runk 1 [0, 4] [(0, .slice a0' list_0.length c0'), (4, .slice a17 (([] : List SChange).length) c18)] (by kernel_rfl) ?_
  refine WL.nil ?_
  refine WQ.then_normal (hK16 _ _ _ ?_)
  refine WP.seq (fun K26 hK26 => ?_)
  refine WP.seq (fun K27 hK27 => ?_)
  refine WP.region ?_
  refine WL.runk 4 [0, 4, 5] [(0, .slice a0' list_0.length c0'), (4, .slice a17 (([] : List SChange).length) c18), (5, .int .i64 (wI64 ((list_0.length : Int) - 1)))] (by kernel_rfl) ?_
  refine WL.nil ?_
  refine WQ.then_normal (hK27 _ _ _ ?_)
  refine WP.block ?_
  obtain ⟨t42, ht43, hm⟩ := bindE hm
  have hmo37 := hm; clear hm
  refine WP.sub [(0, .slice a0' list_0.length c0'), (4, .slice a17 (([] : List SChange).length) c18), (5, .int .i64 (wI64 ((list_0.length : Int) - 1)))] ⟨rfl, rfl, rfl, trivial⟩ ?_
  refine WP.loop (fun n' env' w' => ∃ (st28 : List SChange × Int) (a29 : Option Addr) (c30 : Nat), env' = [(0, .slice a0' list_0.length c0'), (4, .slice a29 st28.1.length c30), (5, .int .i64 st28.2)] ∧ Ext w w' ∧ w.heap.size ≤ w'.heap.size ∧ SH w' w.heap.size [aOwn fChange 42 a29 c30 st28.1] ∧ loopN (m_spec_UndoChanges_l1 n list_0) n' st28 = some t42) n ⟨(([] : List SChange), (wI64 ((list_0.length : Int) - 1))), _, _, rfl, hb23, hL24, hS25, ht43⟩ ?_
  rintro n39 _ w32 ⟨st28, a29, c30, rfl, hb33, hL34, hS35, hl36⟩ K38 hK38
  obtain ⟨n40, s41, rfl, hm, hl36⟩ := loopN_some hl36
  unfold m_spec_UndoChanges_l1 at hm
  refine WP.seq (fun K44 hK44 => ?_)
  refine WP.seq (fun K45 hK45 => ?_)
  refine WP.region ?_
  refine WL.runk 2 [0, 4, 5, 14] [(0, .slice a0' list_0.length c0'), (4, .slice a29 st28.1.length c30), (5, .int .i64 st28.2), (14, .bool (decide (st28.2 ≥ 0)))] (by kernel_rfl) ?_
  refine WL.nil ?_
  refine WQ.then_normal (hK45 _ _ _ ?_)
  refine WP.cond (decide (st28.2 ≥ 0)) rfl rfl (fun hc46 => ?_) (fun hc46 => ?_)
  rotate_left
  · have hm := iteF hm hc46
    refine WP.exit ?_
    refine WQ.then_exit ?_
    refine WQ.then_exit ?_
    refine WQ.block_here ?_
    obtain rfl := Option.some.inj hm
    obtain rfl := afterN_done hl36
    have hm := hmo37
    refine WQ.then_normal (hK26 _ _ _ ?_)
    refine WP.seq (fun K80 hK80 => ?_)
    refine WP.region ?_
    refine WL.runk 3 [2, 3] [(2, .slice a29 st28.1.length c30), (3, .int .i64 0)] (by kernel_rfl) ?_
    refine WL.nil ?_
    refine WQ.then_normal (hK80 _ _ _ ?_)
    refine WP.ret ?_
    obtain rfl := Option.some.inj hm
    exact WQ.ret2 _ _ rfl rfl rfl ⟨_, _, rfl, hb33, hS35⟩
  have hm := iteT hm hc46
  refine WP.skip ?_
  refine WQ.then_normal (hK44 _ _ _ ?_)
  refine WP.seq (fun K47 hK47 => ?_)
  refine WP.block ?_
  refine WP.open (n := 16) (by kernel_rfl) rfl (fun w48 hE49 => ?_)
  have hb50 : Ext w w48 := Ext.trans hb33 hE49
  have hL51 : w.heap.size ≤ w48.heap.size := Nat.le_trans hL34 hE49.size
  have hS52 : SH w48 w.heap.size [aOwn fChange 42 a29 c30 st28.1] := SH.ext hS35 hE49
  refine WA.pre (i := 0) (D' := [0]) [(0, .slice a0' list_0.length c0'), (4, .slice a29 st28.1.length c30), (5, .int .i64 st28.2), (14, .bool (decide (st28.2 ≥ 0))), (17, .slice a29 st28.1.length c30)] rfl (by kernel_rfl) rfl (fun _ => by kernel_rfl) rfl ?_
  refine WA.quiet (f' := 3) (D' := [0, 1, 2, 3, 4, 5, 6, 7, 8, 9, 10, 11, 12]) [1, 2, 3, 4, 5, 6, 7, 8, 9, 10, 11, 12] rfl rfl (by kernel_rfl) ?_
  refine QL.step1v 18 (.slice a0' list_0.length c0') rfl (fun _ => by kernel_rfl) ?_
  refine QL.step1v 19 (.int .i64 st28.2) rfl (fun _ => by kernel_rfl) ?_
  refine QL.subk [0, 4, 5, 17, 18, 19] [(0, .slice a0' list_0.length c0'), (4, .slice a29 st28.1.length c30), (5, .int .i64 st28.2), (17, .slice a29 st28.1.length c30), (18, .slice a0' list_0.length c0'), (19, .int .i64 st28.2)] (by kernel_rfl) ?_
  obtain ⟨x53, hx54, hm⟩ := bindE hm
  refine QL.st (.pointer (some (at_ a0' (Int.toNat st28.2 * 2)))) (ST.index (T := fChange.ty) (xs := list_0) (Rd.below h0 hb50) hx54 rfl rfl rfl Try.underlying28 (info42).1 (info42).2.1) rfl rfl rfl ?_
  refine QL.step1v 21 (.pointer (some (at_ a0' (Int.toNat st28.2 * 2)))) rfl (fun _ => by kernel_rfl) ?_
  refine QL.subk [0, 4, 5, 17, 21] [(0, .slice a0' list_0.length c0'), (4, .slice a29 st28.1.length c30), (5, .int .i64 st28.2), (17, .slice a29 st28.1.length c30), (21, .pointer (some (at_ a0' (Int.toNat st28.2 * 2))))] (by kernel_rfl) ?_
  refine QL.st (.int .i64 x53.Kind) (ST.load (cell_ext (Rd.flat (F := fChange) (Rd.below h0 hb50) hx54 0 rfl)) rfl rfl Try.underlying2 rfl) rfl rfl rfl ?_
  refine QL.step1v 23 (.slice a0' list_0.length c0') rfl (fun _ => by kernel_rfl) ?_
  refine QL.step1v 24 (.int .i64 st28.2) rfl (fun _ => by kernel_rfl) ?_
  refine QL.subk [0, 4, 5, 17, 22, 23, 24] [(0, .slice a0' list_0.length c0'), (4, .slice a29 st28.1.length c30), (5, .int .i64 st28.2), (17, .slice a29 st28.1.length c30), (22, .int .i64 x53.Kind), (23, .slice a0' list_0.length c0'), (24, .int .i64 st28.2)] (by kernel_rfl) ?_
  obtain ⟨x55, hx56, hm⟩ := bindE hm
  refine QL.st (.pointer (some (at_ a0' (Int.toNat st28.2 * 2)))) (ST.index (T := fChange.ty) (xs := list_0) (Rd.below h0 hb50) hx56 rfl rfl rfl Try.underlying28 (info42).1 (info42).2.1) rfl rfl rfl ?_
  refine QL.step1v 26 (.pointer (some (at_ a0' (Int.toNat st28.2 * 2 + 1)))) rfl (fun _ => by kernel_rfl) ?_
  refine QL.subk [0, 4, 5, 17, 22, 26] [(0, .slice a0' list_0.length c0'), (4, .slice a29 st28.1.length c30), (5, .int .i64 st28.2), (17, .slice a29 st28.1.length c30), (22, .int .i64 x53.Kind), (26, .pointer (some (at_ a0' (Int.toNat st28.2 * 2 + 1))))] (by kernel_rfl) ?_
  refine QL.st (.int .i64 x55.Amount) (ST.load (cell_ext (Rd.flat (F := fChange) (Rd.below h0 hb50) hx56 1 rfl)) rfl rfl Try.underlying2 rfl) rfl rfl rfl ?_
  refine QL.step1v 28 (.int .i64 (wI64 (0 - x55.Amount))) rfl (fun _ => by kernel_rfl) ?_
  refine QL.step1v 29 (.agg #[.int .i64 x53.Kind, .int .i64 (wI64 (0 - x55.Amount))]) rfl (fun _ => by kernel_rfl) ?_
  refine QL.subk [0, 4, 5, 17, 29] [(0, .slice a0' list_0.length c0'), (4, .slice a29 st28.1.length c30), (5, .int .i64 st28.2), (17, .slice a29 st28.1.length c30), (29, .agg #[.int .i64 x53.Kind, .int .i64 (wI64 (0 - x55.Amount))])] (by kernel_rfl) ?_
  refine QL.nil ?_
  intro w57 hE58
  have hb59 : Ext w w57 := Ext.trans hb50 hE58
  have hL60 : w.heap.size ≤ w57.heap.size := Nat.le_trans hL51 hE58.size
  have hS61 : SH w57 w.heap.size [aOwn fChange 42 a29 c30 st28.1] := SH.ext hS52 hE58
  refine WA.one (i := 13) (D' := [0, 1, 2, 3, 4, 5, 6, 7, 8, 9, 10, 11, 12, 13]) rfl rfl (by kernel_rfl) ?_
  refine WL.row fChange 42 ([(SChange.mk x53.Kind (wI64 (0 - x55.Amount)))] : List SChange) 1 #[.int .i64 x53.Kind, .int .i64 (wI64 (0 - x55.Amount))] 30 (by kernel_rfl) rfl rfl rfl rfl rfl rfl rfl ?_
  intro a62 c63 w64 hE65 hR66
  have hb68 : Ext w w64 := Ext.trans hb59 hE65
  have hL69 : w.heap.size ≤ w64.heap.size := Nat.le_trans hL60 hE65.size
  have hS70 : SH w64 w.heap.size [aOwn fChange 42 a62 c63 ([(SChange.mk x53.Kind (wI64 (0 - x55.Amount)))] : List SChange), aOwn fChange 42 a29 c30 st28.1] := SH.add hS61 hE65 hL60 hR66
  refine WL.sub [(0, .slice a0' list_0.length c0'), (4, .slice a29 st28.1.length c30), (5, .int .i64 st28.2), (17, .slice a29 st28.1.length c30), (30, .slice a62 (([(SChange.mk x53.Kind (wI64 (0 - x55.Amount)))] : List SChange).length) c63)] ⟨rfl, rfl, rfl, rfl, rfl, trivial⟩ ?_
  refine WL.nil ?_
  refine WA.one (i := 14) (D' := [0, 1, 2, 3, 4, 5, 6, 7, 8, 9, 10, 11, 12, 13, 14]) rfl rfl (by kernel_rfl) ?_
  obtain ⟨x71, hx72, hm⟩ := bindE hm
  refine WL.append (F := fChange) (xs := st28.1) (ys := ([(SChange.mk x53.Kind (wI64 (0 - x55.Amount)))] : List SChange)) 31 (SH.front 1 hS70) hL69 (SH.rd (SH.front 0 hS70)) hx72 rfl rfl rfl Try.underlying28 (info42).1 (info42).2.2.1 (info42).2.1 (info42).2.2.2 rfl rfl rfl rfl rfl ?_
  intro a73 c74 w75 hB76 hS77
  have hb78 : Ext w w75 := Below.trans hb68 hB76
  have hL79 : w.heap.size ≤ w75.heap.size := Nat.le_trans hL69 hB76.size
  refine WL.sub [(0, .slice a0' list_0.length c0'), (4, .slice a29 st28.1.length c30), (5, .int .i64 st28.2), (31, .slice a73 x71.length c74)] ⟨rfl, rfl, rfl, rfl, trivial⟩ ?_
  refine WL.nil ?_
  refine WA.one (i := 15) (D' := [0, 1, 2, 3, 4, 5, 6, 7, 8, 9, 10, 11, 12, 13, 14, 15]) rfl rfl (by kernel_rfl) ?_
  refine WL.runk 1 [0, 4, 5] [(0, .slice a0' list_0.length c0'), (4, .slice a73 x71.length c74), (5, .int .i64 st28.2)] (by kernel_rfl) ?_
  refine WL.nil ?_
  refine WA.done (by kernel_rfl) ?_
  refine WQ.block_normal ?_
  refine WQ.then_normal (hK47 _ _ _ ?_)
  refine WP.region ?_
  refine WL.runk 3 [0, 4, 5] [(0, .slice a0' list_0.length c0'), (4, .slice a73 x71.length c74), (5, .int .i64 (wI64 (st28.2 - 1)))] (by kernel_rfl) ?_
  refine WL.nil ?_
  obtain rfl := Option.some.inj hm
  exact WQ.round hK38 ⟨(x71, (wI64 (st28.2 - 1))), _, _, rfl, hb78, hL79, (SH.take 1 hS77), hl36⟩ (Nat.lt_succ_self _) ⟨rfl, rfl, rfl, trivial⟩


theorem back_73 (a : Option Addr) (n c : Nat) (w : World) : CallV Try.prog 73 #[.slice a n c] w (fun v w' => ∃ b, v = .func (.func 85) #[] #[.pointer (some ⟨b, 0, none⟩)] ∧ Ext w w' ∧ SH w' w.heap.size [aBox 28 b [.slice a n c]]) := by
  refine CallV.enter Try.func73 rfl (by kernel_rfl) Try.ntmps73 (env := [(0, .slice a n c)]) ⟨rfl, trivial⟩ ?_
  refine WP.seq (fun K1 hK1 => ?_)
  refine WP.region ?_
  refine WL.box 28 [.slice a n c] 1 (by kernel_rfl) rfl rfl rfl rfl ?_
  intro b w1 hE1 hS1
  refine WL.runk 1 [1] [(1, .pointer (some ⟨b, 0, none⟩))] (by kernel_rfl) ?_
  refine WL.nil ?_
  refine WQ.then_normal (hK1 _ _ _ ?_)
  refine WP.seq (fun K2 hK2 => ?_)
  refine WP.region ?_
  refine WL.runk 2 [2] [(2, .func (.func 85) #[] #[.pointer (some ⟨b, 0, none⟩)])] (by kernel_rfl) ?_
  refine WL.nil ?_
  refine WQ.then_normal (hK2 _ _ _ ?_)
  refine WP.ret ?_
  exact WQ.ret1 _ rfl rfl ⟨b, rfl, hE1, hS1⟩

theorem stops_85 {xs : List SChange} {a : Option Addr} {c b : Nat} {w w0 : World} (hb : w.heap[b]? = some (.cells #[.slice a xs.length c] 28 (0, 0))) (hR : Rd fChange.ty w0 a xs) (hE : Ext w0 w) (hlen : xs.length ≤ 4294967296) :
    SeqStopsK Fence.wide 7 Try.prog 85 #[.pointer (some ⟨b, 0, none⟩)] (fun x : Int × SChange => #[.int .i64 x.1, .agg #[.int .i64 x.2.Kind, .int .i64 x.2.Amount]]) (fun X Y => Below w0.heap.size X Y ∧ Y.heap[b]? = X.heap[b]?)
      (fun ys => ys.map (·.2) = xs.reverse) (fun _ => True) xs.length w := by
  intro l J Jx W hW hJ hJx hY hj
  have hbl : b < w.heap.size := (Array.getElem?_eq_some_iff.1 hb).1
  have hbW := (hW.block b hbl).trans hb
  have hEW : Ext w0 W := Ext.trans hE hW
  have hcell : ∀ w1 : World, w1.heap[b]? = W.heap[b]? → w1.cell? ⟨b, 0, none⟩ = some (.slice a xs.length c) := fun w1 h => by simp only [World.cell?, h, hbW]; rfl
  have hw0 : wI64 ((xs.length : Int) - 1) = (xs.length : Int) - 1 := by show IntKind.i64.wrap _ = _; rw [IntKind.wrap_i64]; omega
  refine callsIn_wide.2 (Calls.mono (CallV.enter Try.func85 rfl (by kernel_rfl) Try.ntmps85 (env := [(0, .func (.yield l) #[] #[]), (1, .pointer (some ⟨b, 0, none⟩))])
    (R := fun _ w' => (∃ ys : List (Int × SChange), ys.map (·.2) = xs.reverse ∧ J ys w') ∨ (∃ pre, True ∧ Jx pre w')) ⟨rfl, rfl, trivial⟩ ?_) ?_)
  · refine WP.seq (fun K1 hK1 => ?_)
    refine WP.region ?_
    refine WL.st (.slice a xs.length c) (ST.load (cell_ext (hcell W rfl)) rfl rfl Try.underlying28 rfl) rfl rfl rfl ?_
    refine WL.runk 3 [0, 1, 3] [(0, .func (.yield l) #[] #[]), (1, .pointer (some ⟨b, 0, none⟩)), (3, .int .i64 (wI64 ((xs.length : Int) - 1)))] (by kernel_rfl) ?_
    refine WL.nil ?_
    refine WQ.then_normal (hK1 _ _ _ ?_)
    rw [hw0]
    refine WP.block ?_
    refine WP.loop (fun m env' w' => ∃ (pre : List (Int × SChange)) (k : Nat), k ≤ xs.length ∧ m = xs.length - k ∧ env' = [(0, .func (.yield l) #[] #[]), (1, .pointer (some ⟨b, 0, none⟩)), (3, .int .i64 ((xs.length : Int) - 1 - (k : Int)))] ∧
      pre.map (·.2) = xs.reverse.take k ∧ pre.length = k ∧ J pre w' ∧ Below w0.heap.size W w' ∧ w'.heap[b]? = W.heap[b]?) xs.length ⟨[], 0, Nat.zero_le _, by simp, by simp, by simp, rfl, hj, Below.refl _ _, rfl⟩ ?_
    rintro m _ w1 ⟨pre, k, hk, rfl, rfl, hpre, hpl, hJ1, hB1, hb1⟩ K2 hK2
    obtain ⟨i, hi⟩ : ∃ i : Int, i = (xs.length : Int) - 1 - (k : Int) := ⟨_, rfl⟩
    rw [← hi]
    refine WP.seq (fun K3 hK3 => ?_)
    refine WP.seq (fun K4 hK4 => ?_)
    refine WP.region ?_
    refine WL.runk 2 [0, 1, 3, 8] [(0, .func (.yield l) #[] #[]), (1, .pointer (some ⟨b, 0, none⟩)), (3, .int .i64 i), (8, .bool (decide (i ≥ 0)))] (by kernel_rfl) ?_
    refine WL.nil ?_
    refine WQ.then_normal (hK4 _ _ _ ?_)
    refine WP.cond (decide (i ≥ 0)) rfl rfl (fun hc => ?_) (fun hc => ?_)
    · have hi0 : 0 ≤ i := of_decide_eq_true hc
      have hkl : k < xs.length := by omega
      have hit : i.toNat = xs.length - 1 - k := by omega
      refine WP.skip ?_
      refine WQ.then_normal (hK3 _ _ _ ?_)
      obtain ⟨x, hx0⟩ : ∃ x, xs[xs.length - 1 - k]? = some x := ⟨_, List.getElem?_eq_getElem (by omega)⟩
      have hx : idx xs i = some x := by unfold idx; rw [if_pos hi0, hit]; exact hx0
      have hxr : xs.reverse[k]? = some x := by rw [List.getElem?_reverse hkl]; exact hx0
      have hE1 : Ext w0 w1 := Below.trans hEW hB1
      have hR1 : Rd fChange.ty w1 a xs := Rd.below hR hE1
      obtain ⟨fn, tmps, assign, body, hy, hRd⟩ := hY pre (i, x) w1 hJ1 (by omega)
      dsimp only at hy
      refine WP.seq (fun K5 hK5 => ?_)
      refine WP.block ?_
      refine WP.seq (fun K6 hK6 => ?_)
      refine WP.regionIn 7 ?_
      refine WLI.of 6 (.inl rfl) (fun _ _ h => by obtain ⟨v, h, _⟩ := h; cases h) (by kernel_rfl) ?_
      refine WL.runk 2 [0, 1, 3, 11, 12] [(0, .func (.yield l) #[] #[]), (1, .pointer (some ⟨b, 0, none⟩)), (3, .int .i64 i), (11, .func (.yield l) #[] #[]), (12, .int .i64 i)] (by kernel_rfl) ?_
      refine WL.st (.slice a xs.length c) (ST.load (cell_ext (hcell w1 hb1)) rfl rfl Try.underlying28 rfl) rfl rfl rfl ?_
      refine WL.runk 1 [0, 1, 3, 11, 12, 13, 14] [(0, .func (.yield l) #[] #[]), (1, .pointer (some ⟨b, 0, none⟩)), (3, .int .i64 i), (11, .func (.yield l) #[] #[]), (12, .int .i64 i), (13, .slice a xs.length c), (14, .int .i64 i)] (by kernel_rfl) ?_
      refine WL.st (.pointer (some (at_ a (Int.toNat i * 2)))) (ST.index (T := fChange.ty) (xs := xs) hR1 hx rfl rfl rfl Try.underlying28 (info42).1 (info42).2.1) rfl rfl rfl ?_
      refine WL.st (.agg #[.int .i64 x.Kind, .int .i64 x.Amount]) (ST.loadAgg (vs := fChange.leaf x) (fun j v hv => Rd.flatA (F := fChange) hR1 hx j hv) rfl rfl rfl Try.underlying42 rfl (info42).1 (info42).2.1) rfl rfl rfl ?_
      refine WL.nil ?_
      refine WLI.back ?_
      refine WLI.round (.inl rfl) rfl rfl rfl (run_yieldCall rfl rfl rfl rfl hy) hRd ?_
      rintro e w2 (⟨rfl, hJ2, hKp⟩ | ⟨rfl, hJx2⟩)
      · refine ⟨_, _, rfl, rfl, ?_⟩
        refine WLI.of 1 (.inl rfl) (fun _ _ h => by obtain ⟨v, h, _⟩ := h; cases h) (by kernel_rfl) ?_
        refine WL.runk 1 [0, 1, 3, 18] [(0, .func (.yield l) #[] #[]), (1, .pointer (some ⟨b, 0, none⟩)), (3, .int .i64 i), (18, .bool false)] (by kernel_rfl) ?_
        refine WL.nil ?_
        refine WLI.back ?_
        refine WLI.nil ?_
        refine WQ.then_normal (hK6 _ _ _ ?_)
        refine WP.cond false rfl rfl (fun h => by cases h) (fun _ => ?_)
        refine WP.skip ?_
        refine WQ.block_normal ?_
        refine WQ.then_normal (hK5 _ _ _ ?_)
        refine WP.region ?_
        refine WL.runk 3 [0, 1, 3] [(0, .func (.yield l) #[] #[]), (1, .pointer (some ⟨b, 0, none⟩)), (3, .int .i64 (wI64 (i - 1)))] (by kernel_rfl) ?_
        refine WL.nil ?_
        have hwi : wI64 (i - 1) = (xs.length : Int) - 1 - ((k + 1 : Nat) : Int) := by show IntKind.i64.wrap _ = _; rw [IntKind.wrap_i64]; omega
        refine WQ.then_normal (hK2 (xs.length - (k + 1)) _ _ (by omega) ⟨pre ++ [(i, x)], k + 1, hkl, rfl, by rw [hwi], ?_, by simp [hpl], hJ2, Below.trans hB1 hKp.1, hKp.2.trans hb1⟩)
        rw [List.map_append, hpre, List.take_add_one, hxr]
        rfl
      · refine ⟨_, _, rfl, rfl, ?_⟩
        refine WLI.of 1 (.inl rfl) (fun _ _ h => by obtain ⟨v, h, _⟩ := h; cases h) (by kernel_rfl) ?_
        refine WL.runk 1 [18] [(18, .bool true)] (by kernel_rfl) ?_
        refine WL.nil ?_
        refine WLI.back ?_
        refine WLI.nil ?_
        refine WQ.then_normal (hK6 _ _ _ ?_)
        refine WP.cond true rfl rfl (fun _ => ?_) (fun h => by cases h)
        refine WP.ret ?_
        refine WQ.block_ret (WQ.then_ret (WQ.then_ret (WQ.block_ret ?_)))
        exact WQ.ret0 rfl (.inr ⟨_, trivial, hJx2⟩)
    · have hi0 : ¬ 0 ≤ i := of_decide_eq_false hc
      have hkl : k = xs.length := by omega
      refine WP.exit ?_
      refine WQ.then_exit (WQ.then_exit (WQ.block_here ?_))
      refine WQ.end0 rfl (.inl ⟨pre, ?_, hJ1⟩)
      rw [hpre, hkl, ← List.length_reverse]; exact List.take_length
  · rintro e w' ⟨v, rfl, h⟩
    exact ⟨⟨v, rfl⟩, h⟩

theorem c_40 (n : Nat) (list_0 : List SChange) (a0' : Option Addr) (c0' : Nat) (w : World) {r : List SChange × Int} (hm : m_impl_UndoChanges n list_0 = some r) (h0 : Rd fChange.ty w a0' list_0) (hle0 : list_0.length ≤ c0') :
    CallV Try.prog 40 #[.slice a0' list_0.length c0'] w (fun v w' => ∃ (ra0 : Option Addr) (rc0 : Nat), v = .tuple #[.slice ra0 r.1.length rc0, .int .i64 r.2] ∧ Ext w w' ∧ SH w' w.heap.size [aOwn fChange 42 ra0 rc0 r.1]) := by
  unfold m_impl_UndoChanges at hm
  refine CallV.enterM Try.func40 rfl (by kernel_rfl) Try.ntmps40 (env := [(0, .slice a0' list_0.length c0')]) ⟨rfl, trivial⟩ ?_
  refine WP.seq (fun K1 hK1 => ?_)
  refine WP.region ?_
  refine WL.runk 2 [0] [(0, .slice a0' list_0.length c0')] (by kernel_rfl) ?_
  refine WL.nil ?_
  refine WQ.then_normal (hK1 _ _ _ ?_)
  refine WP.seq (fun K2 hK2 => ?_)
  refine WP.seq (fun K3 hK3 => ?_)
  refine WP.region ?_
  refine WL.runk 1 [0, 7] [(0, .slice a0' list_0.length c0'), (7, .slice a0' list_0.length c0')] (by kernel_rfl) ?_
  obtain ⟨x4, hx5, hm⟩ := bindE hm
  refine WL.call 27 #[.slice a0' list_0.length c0'] rfl rfl (by kernel_rfl) (c_27 n list_0 a0' c0' w hx5 (Rd.below h0 (Ext.refl w)) hle0) ?_
  rintro _ w6 ⟨rfl, hE7⟩
  refine ⟨_, rfl, ?_⟩
  have hb9 : Ext w w6 := Ext.trans (Ext.refl w) hE7
  have hL10 : w.heap.size ≤ w6.heap.size := Nat.le_trans (Nat.le_refl _) hE7.size
  have hS11 : SH w6 w.heap.size [] := SH.ext (SH.nil _ _) hE7
  refine WL.runk 1 [0, 9] [(0, .slice a0' list_0.length c0'), (9, .bool (!x4))] (by kernel_rfl) ?_
  refine WL.nil ?_
  refine WQ.then_normal (hK3 _ _ _ ?_)
  refine WP.cond (!x4) rfl rfl (fun hc12 => ?_) (fun hc12 => ?_)
  · have hm := iteT hm hc12
    refine WP.seq (fun K13 hK13 => ?_)
    refine WP.region ?_
    refine WL.runk 2 [2, 3] [(2, .slice none 0 0), (3, .int .i64 1)] (by kernel_rfl) ?_
    refine WL.nil ?_
    refine WQ.then_normal (hK13 _ _ _ ?_)
    refine WP.ret ?_
    refine WQ.then_ret ?_
    obtain rfl := Option.some.inj hm
    have hS15 : SH w6 w.heap.size [aOwn fChange 42 none 0 ([] : List SChange)] := SH.nilOwn hS11
    exact WQ.ret2M _ _ rfl rfl rfl ⟨_, _, rfl, hb9, hS15⟩
  have hm := iteF hm hc12
  split at hm
  case isFalse => cases hm
  rename_i hlen
  obtain rfl := Option.some.inj hm
  obtain ⟨f, hf⟩ : ∃ f : List (Int × SChange) → List SChange, f = fun pre => pre.map fun x => SChange.mk x.2.Kind (wI64 (0 - x.2.Amount)) := ⟨_, rfl⟩
  have hf0 : f [] = [] := by rw [hf]; rfl
  have hf1 : ∀ pre x, f (pre ++ [x]) = f pre ++ [SChange.mk x.2.Kind (wI64 (0 - x.2.Amount))] := fun pre x => by rw [hf]; simp
  have hfl : ∀ pre, (f pre).length = pre.length := fun pre => by rw [hf]; simp
  refine WP.skip ?_
  refine WQ.then_normal (hK2 _ _ _ ?_)
  refine WP.seq (fun K16 hK16 => ?_)
  refine WP.region ?_
  refine WL.row fChange 42 ([] : List SChange) 0 #[] 10 (by kernel_rfl) rfl rfl rfl rfl rfl rfl rfl ?_
  intro a17 c18 w19 hE20 hR21
  have hb23 : Ext w w19 := Ext.trans hb9 hE20
  have hL24 : w.heap.size ≤ w19.heap.size := Nat.le_trans hL10 hE20.size
  have hS25 : SH w19 w.heap.size [aOwn fChange 42 a17 c18 ([] : List SChange)] := SH.add hS11 hE20 hL10 hR21
  refine WL.box 28 [.slice none 0 0] 4 (by kernel_rfl) rfl rfl rfl rfl ?_
  intro bO w1 hE1 hR1
  have hb1 : Ext w w1 := Ext.trans hb23 hE1
  have hL1 : w.heap.size ≤ w1.heap.size := Nat.le_trans hL24 hE1.size
  have hS1 := SH.add hS25 hE1 hL24 hR1
  refine WL.boxStore 0 [.slice a17 (([] : List SChange).length) c18] [.slice a17 (([] : List SChange).length) c18] hS1 hL1 rfl rfl rfl rfl rfl rfl rfl (info28).1 (info28).2.1 rfl rfl rfl ?_
  intro w2 hB2 hS2
  have hb2 : Ext w w2 := Below.trans hb1 hB2
  have hL2 : w.heap.size ≤ w2.heap.size := Nat.le_trans hL1 hB2.size
  refine WL.sub [(0, .slice a0' list_0.length c0'), (4, .pointer (some ⟨bO, 0, none⟩))] ⟨rfl, rfl, trivial⟩ ?_
  refine WL.nil ?_
  refine WQ.then_normal (hK16 _ _ _ ?_)
  refine WP.seqM (fun K26 hK26 => ?_)
  refine WP.seq (fun K27 hK27 => ?_)
  refine WP.region ?_
  refine WL.runk 1 [0, 4, 11] [(0, .slice a0' list_0.length c0'), (4, .pointer (some ⟨bO, 0, none⟩)), (11, .slice a0' list_0.length c0')] (by kernel_rfl) ?_
  refine WL.call 73 #[.slice a0' list_0.length c0'] rfl rfl (by kernel_rfl) (back_73 a0' list_0.length c0' w2) ?_
  rintro _ w3 ⟨bS, rfl, hE3, hR3⟩
  refine ⟨_, rfl, ?_⟩
  have hb3 : Ext w w3 := Ext.trans hb2 hE3
  have hL3 : w.heap.size ≤ w3.heap.size := Nat.le_trans hL2 hE3.size
  have hS3 := SH.add hS2 hE3 hL2 hR3
  refine WL.sub [(4, .pointer (some ⟨bO, 0, none⟩)), (12, .func (.func 85) #[] #[.pointer (some ⟨bS, 0, none⟩)])] ⟨rfl, rfl, trivial⟩ ?_
  refine WL.nil ?_
  refine WQ.then_normal (hK27 _ _ _ ?_)
  refine WP.block ?_
  have hbS : w3.heap[bS]? = some (.cells #[.slice a0' list_0.length c0'] 28 (0, 0)) := (SH.boxHeap hS3).2.2
  have hbSl : bS < w3.heap.size := (SH.boxHeap hS3).2.1
  refine WP.range2 (α := Int × SChange) (t := 12) (p1 := 13) (p2 := 14) (gf := 85) (M := list_0.length) (lb := #[.pointer (some ⟨bS, 0, none⟩)]) (v1 := fun x => .int .i64 x.1) (v2 := fun x => .agg #[.int .i64 x.2.Kind, .int .i64 x.2.Amount])
    (Kp := fun X Y => Below w.heap.size X Y ∧ Y.heap[bS]? = X.heap[bS]?) (S := fun ys => ys.map (·.2) = list_0.reverse)
    rfl (enter_own Try.func85 (by kernel_rfl) rfl) (stops_85 hbS h0 hb3 hlen) (fun h k => ⟨Below.trans h.1 k.1, k.2.trans h.2⟩) (fun W l o o' hl h1 h2 h3 => ⟨belowK_b (w := w3) hL3 W l o o' hl h1 h2 h3, World.putObj_heap_other (by omega)⟩)
    (fun pre W => ∃ (a : Option Addr) (c : Nat), Ext w W ∧ SH W w.heap.size [aBox 28 bO [.slice a (f pre).length c], aOwn fChange 42 a c (f pre), aBox 28 bS [.slice a0' list_0.length c0']]) ?_ ?_
    (fun x env' W => ∃ (bC : Nat) (v : Value), env' = [(4, .pointer (some ⟨bO, 0, none⟩)), (6, .pointer (some ⟨bC, 0, none⟩))] ∧ W.heap[bO]? = some (.cells #[v] 28 (0, 0)) ∧ W.heap[bC]? = some (.cells #[.int .i64 x.2.Kind, .int .i64 x.2.Amount] 42 (0, 0)) ∧
      w.heap.size ≤ bC ∧ bC ≠ bO ∧ bC ≠ bS ∧ v.ownBlock ≠ some bC) ?_ rfl rfl ?_ ?_ ?_
  · rintro pre X Y row ⟨a, c, hE, hS⟩ hg hr
    exact ⟨a, c, hE.grown hg hE.size (fun k e => Nat.le_trans hL3 (hr k e).1), SH.grownBy hS (allCons .boxN (allCons .ownN (allCons .boxN allNil))) hg (fun r e => (hr r e).2)⟩
  · refine ⟨a17, c18, hb3, ?_⟩
    rw [hf0]
    exact SH.front 1 (SH.front 2 (SH.front 1 hS3))
  · rintro x e s X Y row ⟨bC, v, rfl, hO, hC, hq⟩ hg hr
    exact ⟨bC, v, rfl, (grownBy_keeps_cells hg (fun r e => (hr r e).2) hO rfl).trans hO, (grownBy_keeps_cells hg (fun r e => (hr r e).2) hC rfl).trans hC, hq⟩
  · rintro l pre x W Q ⟨a, c, hE, hS⟩ hQ hK
    have hL : w.heap.size ≤ W.heap.size := hE.size
    have hSk := SH.keep hS (allCons .boxN (allCons .ownN (allCons .boxN allNil)))
    refine WI.region ?_
    refine WLI.of 2 (.inr ⟨l, rfl⟩) hQ (by kernel_rfl) ?_
    refine WL.box 42 [.int .i64 0, .int .i64 0] 6 (by kernel_rfl) rfl rfl rfl rfl ?_
    intro bC w4 hE4 hR4
    have hL4 : w.heap.size ≤ w4.heap.size := Nat.le_trans hL hE4.size
    have hS4 := SH.add hSk hE4 hL hR4
    refine WL.boxStore 0 [.int .i64 x.2.Kind, .int .i64 x.2.Amount] [.int .i64 x.2.Kind, .int .i64 x.2.Amount] hS4 hL4 rfl rfl rfl rfl rfl rfl rfl (info42).1 (info42).2.1 rfl rfl rfl ?_
    intro w5 hB5 hS5
    have hB : Below w.heap.size W w5 := Below.trans (Below.mono hE4 hL) hB5
    refine WL.sub [(4, .pointer (some ⟨bO, 0, none⟩)), (6, .pointer (some ⟨bC, 0, none⟩))] ⟨rfl, rfl, trivial⟩ ?_
    refine WL.nil ?_
    refine WLI.back ?_
    refine WLI.nil ?_
    refine hK _ w5 (SH.kept (SH.front 1 hS5) hB.size hL3) ⟨hB, ?_⟩ ⟨a, c, Below.trans hE hB, SH.drop (SH.drop hS5)⟩ ⟨bC, _, rfl, (SH.boxHeap (SH.front 2 hS5)).2.2, (SH.boxHeap hS5).2.2, (SH.boxHeap hS5).1, ?_, ?_, ?_⟩
    · exact (SH.boxHeap (SH.front 4 hS5)).2.2.trans (SH.boxHeap (SH.front 2 hS)).2.2.symm
    · exact (SH.boxNe (SH.front 2 hS5)).symm
    · exact SH.boxNe (SH.front 1 (SH.front 4 hS5))
    · exact SH.boxOff (SH.front 1 (SH.front 3 hS5))
  · rintro l pre x _ W ⟨a, c, hE, hS⟩ ⟨bC, v, rfl, hO, hC, hBC, hn1, hn2, hn3⟩ hlt
    have hL : w.heap.size ≤ W.heap.size := hE.size
    obtain rfl : v = .slice a (f pre).length c := by
      have := (SH.boxHeap hS).2.2
      rw [hO] at this
      simpa using this
    have hS1 : SH W w.heap.size [aBox 42 bC [.int .i64 x.2.Kind, .int .i64 x.2.Amount], aBox 28 bO [.slice a (f pre).length c], aOwn fChange 42 a c (f pre), aBox 28 bS [.slice a0' list_0.length c0']] :=
      SH.insBox hS (allCons (.box fun _ e => hn1 e.symm) (allCons (.own fun g cur ea _ e => hn3 (by rw [ea, ← e]; rfl)) (allCons (.box fun _ e => hn2 e.symm) allNil))) hBC hC
    have hS2 := SH.keep hS1 (allCons .boxN (allCons .boxN (allCons .ownN (allCons .boxN allNil))))
    refine WI.block (WI.region ?_)
    refine WLI.of 10 (.inr ⟨l, rfl⟩) (fun _ _ h => h) (by kernel_rfl) ?_
    refine WL.st (.slice a (f pre).length c) (ST.load (cell_ext (SH.boxAt (SH.front 2 hS2) 0 _ rfl)) rfl rfl Try.underlying28 rfl) rfl rfl rfl ?_
    refine WL.runk 1 [4, 6, 15, 16] [(4, .pointer (some ⟨bO, 0, none⟩)), (6, .pointer (some ⟨bC, 0, none⟩)), (15, .slice a (f pre).length c), (16, .pointer (some ⟨bC, 0, none⟩))] (by kernel_rfl) ?_
    refine WL.st (.int .i64 x.2.Kind) (ST.load (cell_ext (SH.boxAt (SH.front 1 hS2) 0 _ rfl)) rfl rfl Try.underlying2 rfl) rfl rfl rfl ?_
    refine WL.runk 1 [4, 15, 17, 18] [(4, .pointer (some ⟨bO, 0, none⟩)), (15, .slice a (f pre).length c), (17, .int .i64 x.2.Kind), (18, .pointer (some ⟨bC, 1, none⟩))] (by kernel_rfl) ?_
    refine WL.st (.int .i64 x.2.Amount) (ST.load (cell_ext (SH.boxAt (SH.front 1 hS2) 1 _ rfl)) rfl rfl Try.underlying2 rfl) rfl rfl rfl ?_
    refine WL.runk 2 [4, 15, 21] [(4, .pointer (some ⟨bO, 0, none⟩)), (15, .slice a (f pre).length c), (21, .agg #[.int .i64 x.2.Kind, .int .i64 (wI64 (0 - x.2.Amount))])] (by kernel_rfl) ?_
    refine WL.row fChange 42 ([SChange.mk x.2.Kind (wI64 (0 - x.2.Amount))] : List SChange) 1 #[.int .i64 x.2.Kind, .int .i64 (wI64 (0 - x.2.Amount))] 22 (by kernel_rfl) rfl rfl rfl rfl rfl rfl rfl ?_
    intro a2 c2 w4 hE4 hR4
    have hL4 : w.heap.size ≤ w4.heap.size := Nat.le_trans hL hE4.size
    have hS4 := SH.add hS2 hE4 hL hR4
    have happ : app (f pre) [SChange.mk x.2.Kind (wI64 (0 - x.2.Amount))] = some (f (pre ++ [x])) := by
      unfold app big; rw [if_pos (by rw [hfl]; simp; omega), hf1]
    refine WL.append (F := fChange) (xs := f pre) (ys := [SChange.mk x.2.Kind (wI64 (0 - x.2.Amount))]) 23 (SH.front 4 hS4) hL4 (SH.rd hS4) happ rfl rfl rfl Try.underlying28 (info42).1 (info42).2.2.1 (info42).2.1 (info42).2.2.2 rfl rfl rfl rfl rfl ?_
    intro a5 c5 w5 hB5 hS5
    have hL5 : w.heap.size ≤ w5.heap.size := Nat.le_trans hL4 hB5.size
    refine WL.boxStore 0 [.slice a5 (f (pre ++ [x])).length c5] [.slice a5 (f (pre ++ [x])).length c5] (SH.front 4 hS5) hL5 rfl rfl rfl rfl rfl rfl rfl (info28).1 (info28).2.1 rfl rfl rfl ?_
    intro w6 hB6 hS6
    have hB : Below w.heap.size W w6 := Below.trans (Below.trans (Below.mono hE4 hL) hB5) hB6
    refine WL.nil ?_
    refine WLI.back ?_
    refine WLI.nil ?_
    intro fr hs
    refine ⟨SH.kept (SH.front 3 hS6) hB.size hL3, ⟨hB, ?_⟩, a5, c5, Below.trans hE hB, SH.cutOut 2 3 hS6⟩
    exact (SH.boxHeap (SH.front 5 hS6)).2.2.trans (SH.boxHeap (SH.front 2 hS)).2.2.symm
  · rintro D ys W fr hD hys ⟨a, c, hE, hS⟩ hd hs
    refine hK26 _ _ _ ((?_ : WPd Try.prog _ _ _ _ [(4, .pointer (some ⟨bO, 0, none⟩)), (12, .func (.func 85) #[] #[.pointer (some ⟨bS, 0, none⟩)])] W) fr hs)
    refine WPd.seqR ?_
    refine WL.st (.slice a (f ys).length c) (ST.load (cell_ext (SH.boxAt hS 0 _ rfl)) rfl rfl Try.underlying28 rfl) rfl rfl rfl ?_
    refine WL.runk 2 [2, 3] [(2, .slice a (f ys).length c), (3, .int .i64 0)] (by kernel_rfl) ?_
    refine WL.nil ?_
    refine WPd.back ?_
    refine WPd.ret (fun fr hs => ?_)
    have hfy : f ys = list_0.reverse.map fun c => SChange.mk c.Kind (wI64 (0 - c.Amount)) := by rw [hf, ← hys, List.map_map]; rfl
    have hg := grownBy_putObj' W D (.deferred none)
    have hS2 := SH.grownBy hS (allCons .boxN (allCons .ownN (allCons .boxN allNil))) hg (fun r e => by cases e; exact ⟨_, hd, rfl⟩)
    refine ret2_mark hs (.slice a (f ys).length c) (.int .i64 0) rfl rfl rfl hd ⟨a, c, by rw [hfy], hE.grown hg hE.size (fun k e => by cases e; omega), ?_⟩
    rw [hfy] at hS2
    exact SH.one (SH.front 1 hS2)

theorem c_41 (n : Nat) (a_0 : List SChange) (a0' : Option Addr) (c0' : Nat) (k_1 : Int) (w : World) (w0 : World) (B : Nat) (L : List Asrt) {r : Int × List SChange} (hm : m_laws_markChangeS n a_0 k_1 = some r) (_hE0 : Ext w0 w) (_hW : w0.heap.size ≤ B) (hL : B ≤ w.heap.size) (hS : SH w B (aOwn fChange 42 a0' c0' a_0 :: L)) :
    CallV Try.prog 41 #[.slice a0' a_0.length c0', .int .i64 k_1] w (fun v w' => v = .int .i64 r.1 ∧ Below B w w' ∧ SH w' B (aOwn fChange 42 a0' c0' r.2 :: L) ∧ r.2.length = a_0.length) := by
  unfold m_laws_markChangeS at hm
  refine CallV.enter Try.func41 rfl (by kernel_rfl) Try.ntmps41 (env := [(0, .slice a0' a_0.length c0'), (1, .int .i64 k_1)]) ⟨rfl, rfl, trivial⟩ ?_
  refine WP.seq (fun K1 hK1 => ?_)
  refine WP.region ?_
  refine WL.runk 1 [0, 1] [(0, .slice a0' a_0.length c0'), (1, .int .i64 k_1)] (by kernel_rfl) ?_
  refine WL.nil ?_
  refine WQ.then_normal (hK1 _ _ _ ?_)
  refine WP.seq (fun K2 hK2 => ?_)
  refine WP.seq (fun K3 hK3 => ?_)
  refine WP.region ?_
  refine WL.runk 1 [0, 1, 5] [(0, .slice a0' a_0.length c0'), (1, .int .i64 k_1), (5, .int .i64 0)] (by kernel_rfl) ?_
  refine WL.nil ?_
  refine WQ.then_normal (hK3 _ _ _ ?_)
  refine WP.block ?_
  obtain ⟨t52, ht53, hm⟩ := bindE hm
  have hmo47 := hm; clear hm
  refine WP.sub [(0, .slice a0' a_0.length c0'), (1, .int .i64 k_1), (5, .int .i64 0)] ⟨rfl, rfl, rfl, trivial⟩ ?_
  refine WP.loop (fun n' env' w' => ∃ (st41 : Int × Int × List SChange) , env' = [(0, .slice a0' st41.2.2.length c0'), (1, .int .i64 st41.1), (5, .int .i64 st41.2.1)] ∧ Below B w w' ∧ B ≤ w'.heap.size ∧ SH w' B (aOwn fChange 42 a0' c0' st41.2.2 :: L) ∧ st41.2.2.length = a_0.length ∧ loopN (m_laws_markChangeS_l1 n) n' st41 = some t52) n ⟨(k_1, 0, a_0), rfl, (Below.refl _ _), hL, hS, rfl, ht53⟩ ?_
  rintro n49 _ w42 ⟨st41, rfl, hb43, hL44, hS45, hn54, hl46⟩ K48 hK48
  obtain ⟨n50, s51, rfl, hm, hl46⟩ := loopN_some hl46
  unfold m_laws_markChangeS_l1 at hm
  refine WP.seq (fun K55 hK55 => ?_)
  refine WP.seq (fun K56 hK56 => ?_)
  refine WP.region ?_
  refine WL.runk 4 [0, 1, 5, 9] [(0, .slice a0' st41.2.2.length c0'), (1, .int .i64 st41.1), (5, .int .i64 st41.2.1), (9, .bool (decide (st41.2.1 < (st41.2.2.length : Int))))] (by kernel_rfl) ?_
  refine WL.nil ?_
  refine WQ.then_normal (hK56 _ _ _ ?_)
  refine WP.cond (decide (st41.2.1 < (st41.2.2.length : Int))) rfl rfl (fun hc57 => ?_) (fun hc57 => ?_)
  rotate_left
  · have hm := iteF hm hc57
    refine WP.exit ?_
    refine WQ.then_exit ?_
    refine WQ.then_exit ?_
    refine WQ.block_here ?_
    obtain rfl := Option.some.inj hm
    obtain rfl := afterN_done hl46
    have hm := hmo47
    refine WQ.then_normal (hK2 _ _ _ ?_)
    refine WP.seq (fun K78 hK78 => ?_)
    refine WP.region ?_
    refine WL.runk 2 [4] [(4, .int .i64 st41.1)] (by kernel_rfl) ?_
    refine WL.nil ?_
    refine WQ.then_normal (hK78 _ _ _ ?_)
    refine WP.ret ?_
    obtain rfl := Option.some.inj hm
    exact WQ.ret1 _ rfl rfl ⟨rfl, hb43, hS45, hn54⟩
  have hm := iteT hm hc57
  refine WP.skip ?_
  refine WQ.then_normal (hK55 _ _ _ ?_)
  refine WP.seq (fun K58 hK58 => ?_)
  refine WP.block ?_
  refine WP.seq (fun K59 hK59 => ?_)
  refine WP.region ?_
  refine WL.runk 3 [0, 1, 5, 12, 13, 14] [(0, .slice a0' st41.2.2.length c0'), (1, .int .i64 st41.1), (5, .int .i64 st41.2.1), (12, .slice a0' st41.2.2.length c0'), (13, .int .i64 st41.2.1), (14, .int .i64 st41.1)] (by kernel_rfl) ?_
  obtain ⟨x60, hx61, hm⟩ := bindE hm
  refine WL.st (.pointer (some (at_ a0' (Int.toNat st41.2.1 * 2)))) (ST.index (T := fChange.ty) (xs := st41.2.2) (SH.rd (SH.front 0 hS45)) hx61 rfl rfl rfl Try.underlying28 (info42).1 (info42).2.1) rfl rfl rfl ?_
  refine WL.runk 1 [0, 1, 5, 14, 16] [(0, .slice a0' st41.2.2.length c0'), (1, .int .i64 st41.1), (5, .int .i64 st41.2.1), (14, .int .i64 st41.1), (16, .pointer (some (at_ a0' (Int.toNat st41.2.1 * 2))))] (by kernel_rfl) ?_
  refine WL.store (F := fChange) (SChange.mk st41.1 x60.Amount) 0 [.int .i64 st41.1] (SH.front 0 hS45) hL44 hx61 rfl rfl rfl rfl rfl rfl rfl (info2).1 (info2).2.1 rfl rfl rfl ?_
  intro w62 hB63 hS64
  have hb65 : Below B w w62 := Below.trans hb43 hB63
  have hL66 : B ≤ w62.heap.size := Nat.le_trans hL44 hB63.size
  refine WL.sub [(0, .slice a0' ((st41.2.2.set (Int.toNat st41.2.1) (SChange.mk st41.1 x60.Amount)).length) c0'), (1, .int .i64 st41.1), (5, .int .i64 st41.2.1), (14, .int .i64 st41.1)] ⟨by first | (simp only [List.length_set]; done) | (simp only [List.length_set]; rfl), rfl, rfl, rfl, trivial⟩ ?_
  have hn67 : (st41.2.2.set (Int.toNat st41.2.1) (SChange.mk st41.1 x60.Amount)).length = a_0.length := List.length_set.trans hn54
  refine WL.sub [(0, .slice a0' ((st41.2.2.set (Int.toNat st41.2.1) (SChange.mk st41.1 x60.Amount)).length) c0'), (1, .int .i64 st41.1), (5, .int .i64 st41.2.1)] ⟨rfl, rfl, rfl, trivial⟩ ?_
  refine WL.nil ?_
  refine WQ.then_normal (hK59 _ _ _ ?_)
  refine WP.seq (fun K68 hK68 => ?_)
  refine WP.region ?_
  refine WL.runk 3 [0, 1, 5] [(0, .slice a0' ((st41.2.2.set (Int.toNat st41.2.1) (SChange.mk st41.1 x60.Amount)).length) c0'), (1, .int .i64 (wI64 (st41.1 + 1))), (5, .int .i64 st41.2.1)] (by kernel_rfl) ?_
  refine WL.nil ?_
  refine WQ.then_normal (hK68 _ _ _ ?_)
  refine WP.seq (fun K69 hK69 => ?_)
  refine WP.region ?_
  refine WL.runk 3 [0, 1, 5, 19, 20, 21] [(0, .slice a0' ((st41.2.2.set (Int.toNat st41.2.1) (SChange.mk st41.1 x60.Amount)).length) c0'), (1, .int .i64 (wI64 (st41.1 + 1))), (5, .int .i64 st41.2.1), (19, .slice a0' ((st41.2.2.set (Int.toNat st41.2.1) (SChange.mk st41.1 x60.Amount)).length) c0'), (20, .int .i64 st41.2.1), (21, .int .i64 (wI64 (st41.1 + 1)))] (by kernel_rfl) ?_
  obtain ⟨x70, hx71, hm⟩ := bindE hm
  refine WL.st (.pointer (some (at_ a0' (Int.toNat st41.2.1 * 2)))) (ST.index (T := fChange.ty) (xs := (st41.2.2.set (Int.toNat st41.2.1) (SChange.mk st41.1 x60.Amount))) (SH.rd (SH.front 0 hS64)) hx71 rfl rfl rfl Try.underlying28 (info42).1 (info42).2.1) rfl rfl rfl ?_
  refine WL.runk 1 [0, 1, 5, 21, 23] [(0, .slice a0' ((st41.2.2.set (Int.toNat st41.2.1) (SChange.mk st41.1 x60.Amount)).length) c0'), (1, .int .i64 (wI64 (st41.1 + 1))), (5, .int .i64 st41.2.1), (21, .int .i64 (wI64 (st41.1 + 1))), (23, .pointer (some (at_ a0' (Int.toNat st41.2.1 * 2 + 1))))] (by kernel_rfl) ?_
  refine WL.store (F := fChange) (SChange.mk x70.Kind (wI64 (st41.1 + 1))) 1 [.int .i64 (wI64 (st41.1 + 1))] (SH.front 0 hS64) hL66 hx71 rfl rfl rfl rfl rfl rfl rfl (info2).1 (info2).2.1 rfl rfl rfl ?_
  intro w72 hB73 hS74
  have hb75 : Below B w w72 := Below.trans hb65 hB73
  have hL76 : B ≤ w72.heap.size := Nat.le_trans hL66 hB73.size
  refine WL.sub [(0, .slice a0' (((st41.2.2.set (Int.toNat st41.2.1) (SChange.mk st41.1 x60.Amount)).set (Int.toNat st41.2.1) (SChange.mk x70.Kind (wI64 (st41.1 + 1)))).length) c0'), (1, .int .i64 (wI64 (st41.1 + 1))), (5, .int .i64 st41.2.1), (21, .int .i64 (wI64 (st41.1 + 1)))] ⟨by first | (simp only [List.length_set]; done) | (simp only [List.length_set]; rfl), rfl, rfl, rfl, trivial⟩ ?_
  have hn77 : ((st41.2.2.set (Int.toNat st41.2.1) (SChange.mk st41.1 x60.Amount)).set (Int.toNat st41.2.1) (SChange.mk x70.Kind (wI64 (st41.1 + 1)))).length = a_0.length := List.length_set.trans hn67
  refine WL.sub [(0, .slice a0' (((st41.2.2.set (Int.toNat st41.2.1) (SChange.mk st41.1 x60.Amount)).set (Int.toNat st41.2.1) (SChange.mk x70.Kind (wI64 (st41.1 + 1)))).length) c0'), (1, .int .i64 (wI64 (st41.1 + 1))), (5, .int .i64 st41.2.1)] ⟨rfl, rfl, rfl, trivial⟩ ?_
  refine WL.nil ?_
  refine WQ.then_normal (hK69 _ _ _ ?_)
  refine WP.region ?_
  refine WL.runk 3 [0, 1, 5] [(0, .slice a0' (((st41.2.2.set (Int.toNat st41.2.1) (SChange.mk st41.1 x60.Amount)).set (Int.toNat st41.2.1) (SChange.mk x70.Kind (wI64 (st41.1 + 1)))).length) c0'), (1, .int .i64 (wI64 ((wI64 (st41.1 + 1)) + 1))), (5, .int .i64 st41.2.1)] (by kernel_rfl) ?_
  refine WL.nil ?_
  refine WQ.block_normal ?_
  refine WQ.then_normal (hK58 _ _ _ ?_)
  refine WP.region ?_
  refine WL.runk 3 [0, 1, 5] [(0, .slice a0' (((st41.2.2.set (Int.toNat st41.2.1) (SChange.mk st41.1 x60.Amount)).set (Int.toNat st41.2.1) (SChange.mk x70.Kind (wI64 (st41.1 + 1)))).length) c0'), (1, .int .i64 (wI64 ((wI64 (st41.1 + 1)) + 1))), (5, .int .i64 (wI64 (st41.2.1 + 1)))] (by kernel_rfl) ?_
  refine WL.nil ?_
  obtain rfl := Option.some.inj hm
  exact WQ.round hK48 ⟨((wI64 ((wI64 (st41.1 + 1)) + 1)), (wI64 (st41.2.1 + 1)), ((st41.2.2.set (Int.toNat st41.2.1) (SChange.mk st41.1 x60.Amount)).set (Int.toNat st41.2.1) (SChange.mk x70.Kind (wI64 (st41.1 + 1))))), rfl, hb75, hL76, hS74, hn77, hl46⟩ (Nat.lt_succ_self _) ⟨rfl, rfl, rfl, trivial⟩

theorem c_42 (n : Nat) (a_0 : List SChange) (a0' : Option Addr) (c0' : Nat) (k_1 : Int) (w : World) {r : Int} (hm : m_laws_heldChangeS n a_0 k_1 = some r) (h0 : Rd fChange.ty w a0' a_0) (_hle0 : a_0.length ≤ c0') :
    CallV Try.prog 42 #[.slice a0' a_0.length c0', .int .i64 k_1] w (fun v w' => v = .int .i64 r ∧ Ext w w') := by
  unfold m_laws_heldChangeS at hm
  refine CallV.enter Try.func42 rfl (by kernel_rfl) Try.ntmps42 (env := [(0, .slice a0' a_0.length c0'), (1, .int .i64 k_1)]) ⟨rfl, rfl, trivial⟩ ?_
  refine WP.seq (fun K1 hK1 => ?_)
  refine WP.region ?_
  refine WL.runk 1 [0, 1] [(0, .slice a0' a_0.length c0'), (1, .int .i64 k_1)] (by kernel_rfl) ?_
  refine WL.nil ?_
  refine WQ.then_normal (hK1 _ _ _ ?_)
  refine WP.seq (fun K2 hK2 => ?_)
  refine WP.seq (fun K3 hK3 => ?_)
  refine WP.region ?_
  refine WL.runk 1 [0, 1, 5] [(0, .slice a0' a_0.length c0'), (1, .int .i64 k_1), (5, .int .i64 0)] (by kernel_rfl) ?_
  refine WL.nil ?_
  refine WQ.then_normal (hK3 _ _ _ ?_)
  refine WP.block ?_
  obtain ⟨t15, ht16, hm⟩ := bindE hm
  have hmo10 := hm; clear hm
  refine WP.sub [(0, .slice a0' a_0.length c0'), (1, .int .i64 k_1), (5, .int .i64 0)] ⟨rfl, rfl, rfl, trivial⟩ ?_
  refine WP.loop (fun n' env' w' => ∃ (st4 : Int × Int) , env' = [(0, .slice a0' a_0.length c0'), (1, .int .i64 st4.1), (5, .int .i64 st4.2)] ∧ Ext w w' ∧ w.heap.size ≤ w'.heap.size ∧ SH w' w.heap.size [] ∧ loopN (m_laws_heldChangeS_l1 n a_0) n' st4 = some t15) n ⟨(k_1, 0), rfl, (Ext.refl w), (Nat.le_refl _), (SH.nil _ _), ht16⟩ ?_
  rintro n12 _ w5 ⟨st4, rfl, hb6, hL7, hS8, hl9⟩ K11 hK11
  obtain ⟨n13, s14, rfl, hm, hl9⟩ := loopN_some hl9
  unfold m_laws_heldChangeS_l1 at hm
  refine WP.seq (fun K17 hK17 => ?_)
  refine WP.seq (fun K18 hK18 => ?_)
  refine WP.region ?_
  refine WL.runk 4 [0, 1, 5, 9] [(0, .slice a0' a_0.length c0'), (1, .int .i64 st4.1), (5, .int .i64 st4.2), (9, .bool (decide (st4.2 < (a_0.length : Int))))] (by kernel_rfl) ?_
  refine WL.nil ?_
  refine WQ.then_normal (hK18 _ _ _ ?_)
  refine WP.cond (decide (st4.2 < (a_0.length : Int))) rfl rfl (fun hc19 => ?_) (fun hc19 => ?_)
  rotate_left
  · have hm := iteF hm hc19
    refine WP.exit ?_
    refine WQ.then_exit ?_
    refine WQ.then_exit ?_
    refine WQ.block_here ?_
    obtain rfl := Option.some.inj hm
    obtain rfl := afterN_done hl9
    have hm := hmo10
    refine WQ.then_normal (hK2 _ _ _ ?_)
    refine WP.seq (fun K34 hK34 => ?_)
    refine WP.region ?_
    refine WL.runk 2 [4] [(4, .int .i64 st4.1)] (by kernel_rfl) ?_
    refine WL.nil ?_
    refine WQ.then_normal (hK34 _ _ _ ?_)
    refine WP.ret ?_
    obtain rfl := Option.some.inj hm
    exact WQ.ret1 _ rfl rfl ⟨rfl, hb6⟩
  have hm := iteT hm hc19
  refine WP.skip ?_
  refine WQ.then_normal (hK17 _ _ _ ?_)
  refine WP.seq (fun K20 hK20 => ?_)
  refine WP.block ?_
  refine WP.seq (fun K21 hK21 => ?_)
  refine WP.seq (fun K22 hK22 => ?_)
  refine WP.region ?_
  refine WL.runk 2 [0, 1, 5, 12, 13] [(0, .slice a0' a_0.length c0'), (1, .int .i64 st4.1), (5, .int .i64 st4.2), (12, .slice a0' a_0.length c0'), (13, .int .i64 st4.2)] (by kernel_rfl) ?_
  obtain ⟨x23, hx24, hm⟩ := bindE hm
  refine WL.st (.pointer (some (at_ a0' (Int.toNat st4.2 * 2)))) (ST.index (T := fChange.ty) (xs := a_0) (Rd.below h0 hb6) hx24 rfl rfl rfl Try.underlying28 (info42).1 (info42).2.1) rfl rfl rfl ?_
  refine WL.runk 1 [0, 1, 5, 15] [(0, .slice a0' a_0.length c0'), (1, .int .i64 st4.1), (5, .int .i64 st4.2), (15, .pointer (some (at_ a0' (Int.toNat st4.2 * 2))))] (by kernel_rfl) ?_
  refine WL.st (.int .i64 x23.Kind) (ST.load (cell_ext (Rd.flat (F := fChange) (Rd.below h0 hb6) hx24 0 rfl)) rfl rfl Try.underlying2 rfl) rfl rfl rfl ?_
  refine WL.runk 2 [0, 1, 5, 18] [(0, .slice a0' a_0.length c0'), (1, .int .i64 st4.1), (5, .int .i64 st4.2), (18, .bool (x23.Kind != st4.1))] (by kernel_rfl) ?_
  refine WL.nil ?_
  refine WQ.then_normal (hK22 _ _ _ ?_)
  refine WP.cond (x23.Kind != st4.1) rfl rfl (fun hc25 => ?_) (fun hc25 => ?_)
  · have hm := iteT hm hc25
    refine WP.seq (fun K26 hK26 => ?_)
    refine WP.region ?_
    refine WL.runk 1 [4] [(4, .int .i64 (-1))] (by kernel_rfl) ?_
    refine WL.nil ?_
    refine WQ.then_normal (hK26 _ _ _ ?_)
    refine WP.ret ?_
    refine WQ.then_ret ?_
    refine WQ.block_ret ?_
    refine WQ.then_ret ?_
    refine WQ.then_ret ?_
    refine WQ.block_ret ?_
    refine WQ.then_ret ?_
    obtain rfl := Option.some.inj hm
    obtain rfl := afterN_done hl9
    have hm := hmo10
    obtain rfl := Option.some.inj hm
    exact WQ.ret1 _ rfl rfl ⟨rfl, hb6⟩
  have hm := iteF hm hc25
  refine WP.skip ?_
  refine WQ.then_normal (hK21 _ _ _ ?_)
  refine WP.seq (fun K27 hK27 => ?_)
  refine WP.region ?_
  refine WL.runk 3 [0, 1, 5] [(0, .slice a0' a_0.length c0'), (1, .int .i64 (wI64 (st4.1 + 1))), (5, .int .i64 st4.2)] (by kernel_rfl) ?_
  refine WL.nil ?_
  refine WQ.then_normal (hK27 _ _ _ ?_)
  refine WP.seq (fun K28 hK28 => ?_)
  refine WP.seq (fun K29 hK29 => ?_)
  refine WP.region ?_
  refine WL.runk 2 [0, 1, 5, 21, 22] [(0, .slice a0' a_0.length c0'), (1, .int .i64 (wI64 (st4.1 + 1))), (5, .int .i64 st4.2), (21, .slice a0' a_0.length c0'), (22, .int .i64 st4.2)] (by kernel_rfl) ?_
  obtain ⟨x30, hx31, hm⟩ := bindE hm
  refine WL.st (.pointer (some (at_ a0' (Int.toNat st4.2 * 2)))) (ST.index (T := fChange.ty) (xs := a_0) (Rd.below h0 hb6) hx31 rfl rfl rfl Try.underlying28 (info42).1 (info42).2.1) rfl rfl rfl ?_
  refine WL.runk 1 [0, 1, 5, 24] [(0, .slice a0' a_0.length c0'), (1, .int .i64 (wI64 (st4.1 + 1))), (5, .int .i64 st4.2), (24, .pointer (some (at_ a0' (Int.toNat st4.2 * 2 + 1))))] (by kernel_rfl) ?_
  refine WL.st (.int .i64 x30.Amount) (ST.load (cell_ext (Rd.flat (F := fChange) (Rd.below h0 hb6) hx31 1 rfl)) rfl rfl Try.underlying2 rfl) rfl rfl rfl ?_
  refine WL.runk 2 [0, 1, 5, 27] [(0, .slice a0' a_0.length c0'), (1, .int .i64 (wI64 (st4.1 + 1))), (5, .int .i64 st4.2), (27, .bool (x30.Amount != (wI64 (st4.1 + 1))))] (by kernel_rfl) ?_
  refine WL.nil ?_
  refine WQ.then_normal (hK29 _ _ _ ?_)
  refine WP.cond (x30.Amount != (wI64 (st4.1 + 1))) rfl rfl (fun hc32 => ?_) (fun hc32 => ?_)
  rotate_left
  · have hm := iteF hm hc32
    refine WP.skip ?_
    refine WQ.then_normal (hK28 _ _ _ ?_)
    refine WP.region ?_
    refine WL.runk 3 [0, 1, 5] [(0, .slice a0' a_0.length c0'), (1, .int .i64 (wI64 ((wI64 (st4.1 + 1)) + 1))), (5, .int .i64 st4.2)] (by kernel_rfl) ?_
    refine WL.nil ?_
    refine WQ.block_normal ?_
    refine WQ.then_normal (hK20 _ _ _ ?_)
    refine WP.region ?_
    refine WL.runk 3 [0, 1, 5] [(0, .slice a0' a_0.length c0'), (1, .int .i64 (wI64 ((wI64 (st4.1 + 1)) + 1))), (5, .int .i64 (wI64 (st4.2 + 1)))] (by kernel_rfl) ?_
    refine WL.nil ?_
    obtain rfl := Option.some.inj hm
    exact WQ.round hK11 ⟨((wI64 ((wI64 (st4.1 + 1)) + 1)), (wI64 (st4.2 + 1))), rfl, hb6, hL7, hS8, hl9⟩ (Nat.lt_succ_self _) ⟨rfl, rfl, rfl, trivial⟩
  have hm := iteT hm hc32
  refine WP.seq (fun K33 hK33 => ?_)
  refine WP.region ?_
  refine WL.runk 1 [4] [(4, .int .i64 (-1))] (by kernel_rfl) ?_
  refine WL.nil ?_
  refine WQ.then_normal (hK33 _ _ _ ?_)
  refine WP.ret ?_
  refine WQ.then_ret ?_
  refine WQ.block_ret ?_
  refine WQ.then_ret ?_
  refine WQ.then_ret ?_
  refine WQ.block_ret ?_
  refine WQ.then_ret ?_
  obtain rfl := Option.some.inj hm
  obtain rfl := afterN_done hl9
  have hm := hmo10
  obtain rfl := Option.some.inj hm
  exact WQ.ret1 _ rfl rfl ⟨rfl, hb6⟩

theorem c_10 (n : Nat) (aList_0 : List SChange) (a0' : Option Addr) (c0' : Nat) (w : World) {r : Bool} (hm : m_laws_FnExactUndoChanges n aList_0 = some r) (h0 : Rd fChange.ty w a0' aList_0) (hle0 : aList_0.length ≤ c0') :
    CallV Try.prog 10 #[.slice a0' aList_0.length c0'] w (fun v w' => v = .bool r ∧ Ext w w') := by
  unfold m_laws_FnExactUndoChanges at hm
  refine CallV.enter Try.func10 rfl (by kernel_rfl) Try.ntmps10 (env := [(0, .slice a0' aList_0.length c0')]) ⟨rfl, trivial⟩ ?_
  refine WP.seq (fun K1 hK1 => ?_)
  refine WP.region ?_
  refine WL.runk 1 [0] [(0, .slice a0' aList_0.length c0')] (by kernel_rfl) ?_
  refine WL.nil ?_
  refine WQ.then_normal (hK1 _ _ _ ?_)
  refine WP.seq (fun K2 hK2 => ?_)
  refine WP.region ?_
  refine WL.runk 1 [0, 3] [(0, .slice a0' aList_0.length c0'), (3, .int .i64 1048576)] (by kernel_rfl) ?_
  refine WL.nil ?_
  refine WQ.then_normal (hK2 _ _ _ ?_)
  refine WP.seq (fun K3 hK3 => ?_)
  refine WP.region ?_
  refine WL.runk 2 [0, 14, 15] [(0, .slice a0' aList_0.length c0'), (14, .slice a0' aList_0.length c0'), (15, .int .i64 1048576)] (by kernel_rfl) ?_
  obtain ⟨x4, hx5, hm⟩ := bindE hm
  refine WL.call 16 #[.slice a0' aList_0.length c0', .int .i64 1048576] rfl rfl (by kernel_rfl) (c_16 n aList_0 a0' c0' 1048576 w hx5 (Rd.below h0 (Ext.refl w)) hle0) ?_
  rintro _ w6 ⟨rfl, hE7⟩
  refine ⟨_, rfl, ?_⟩
  have hb9 : Ext w w6 := Ext.trans (Ext.refl w) hE7
  have hL10 : w.heap.size ≤ w6.heap.size := Nat.le_trans (Nat.le_refl _) hE7.size
  have hS11 : SH w6 w.heap.size [] := SH.ext (SH.nil _ _) hE7
  refine WL.runk 1 [0, 3] [(0, .slice a0' aList_0.length c0'), (3, .int .i64 x4)] (by kernel_rfl) ?_
  refine WL.nil ?_
  refine WQ.then_normal (hK3 _ _ _ ?_)
  refine WP.seq (fun K12 hK12 => ?_)
  refine WP.seq (fun K13 hK13 => ?_)
  refine WP.region ?_
  refine WL.runk 2 [0, 18] [(0, .slice a0' aList_0.length c0'), (18, .bool (decide (x4 < 0)))] (by kernel_rfl) ?_
  refine WL.nil ?_
  refine WQ.then_normal (hK13 _ _ _ ?_)
  refine WP.cond (decide (x4 < 0)) rfl rfl (fun hc14 => ?_) (fun hc14 => ?_)
  · have hm := iteT hm hc14
    refine WP.seq (fun K15 hK15 => ?_)
    refine WP.region ?_
    refine WL.runk 1 [2] [(2, .bool true)] (by kernel_rfl) ?_
    refine WL.nil ?_
    refine WQ.then_normal (hK15 _ _ _ ?_)
    refine WP.ret ?_
    refine WQ.then_ret ?_
    obtain rfl := Option.some.inj hm
    exact WQ.ret1 _ rfl rfl ⟨rfl, hb9⟩
  have hm := iteF hm hc14
  refine WP.skip ?_
  refine WQ.then_normal (hK12 _ _ _ ?_)
  refine WP.seq (fun K16 hK16 => ?_)
  refine WP.region ?_
  refine WL.runk 1 [0, 20] [(0, .slice a0' aList_0.length c0'), (20, .slice a0' aList_0.length c0')] (by kernel_rfl) ?_
  obtain ⟨x17, hx18, hm⟩ := bindE hm
  refine WL.call 18 #[.slice a0' aList_0.length c0'] rfl rfl (by kernel_rfl) (c_18 n aList_0 a0' c0' w6 hx18 (Rd.below h0 hb9) hle0) ?_
  rintro _ w22 ⟨a19, c20, rfl, hE23, hR24⟩
  refine ⟨_, rfl, ?_⟩
  have hb25 : Ext w w22 := Ext.trans hb9 hE23
  have hL26 : w.heap.size ≤ w22.heap.size := Nat.le_trans hL10 hE23.size
  have hS27 : SH w22 w.heap.size [aOwn fChange 42 a19 c20 x17] := SH.add hS11 hE23 hL10 hR24
  obtain ⟨x28, hx29, hm⟩ := bindE hm
  refine WL.call 39 #[.slice a19 x17.length c20] rfl rfl (by kernel_rfl) (c_39 n x17 a19 c20 w22 hx29 (SH.rd (SH.front 0 hS27)) (SH.le (SH.front 0 hS27)).1) ?_
  rintro _ w33 ⟨a30, c31, rfl, hE34, hR35⟩
  refine ⟨_, rfl, ?_⟩
  have hb36 : Ext w w33 := Ext.trans hb25 hE34
  have hL37 : w.heap.size ≤ w33.heap.size := Nat.le_trans hL26 hE34.size
  have hS38 : SH w33 w.heap.size [aOwn fChange 42 a30 c31 x28.1, aOwn fChange 42 a19 c20 x17] := SH.add hS27 hE34 hL26 hR35
  refine WL.runk 5 [0, 4, 5] [(0, .slice a0' aList_0.length c0'), (4, .slice a30 x28.1.length c31), (5, .int .i64 x28.2)] (by kernel_rfl) ?_
  refine WL.nil ?_
  refine WQ.then_normal (hK16 _ _ _ ?_)
  refine WP.seq (fun K39 hK39 => ?_)
  refine WP.region ?_
  refine WL.runk 1 [0, 4, 5, 25] [(0, .slice a0' aList_0.length c0'), (4, .slice a30 x28.1.length c31), (5, .int .i64 x28.2), (25, .slice a0' aList_0.length c0')] (by kernel_rfl) ?_
  obtain ⟨x40, hx41, hm⟩ := bindE hm
  refine WL.call 18 #[.slice a0' aList_0.length c0'] rfl rfl (by kernel_rfl) (c_18 n aList_0 a0' c0' w33 hx41 (Rd.below h0 hb36) hle0) ?_
  rintro _ w45 ⟨a42, c43, rfl, hE46, hR47⟩
  refine ⟨_, rfl, ?_⟩
  have hb48 : Ext w w45 := Ext.trans hb36 hE46
  have hL49 : w.heap.size ≤ w45.heap.size := Nat.le_trans hL37 hE46.size
  have hS50 : SH w45 w.heap.size [aOwn fChange 42 a42 c43 x40, aOwn fChange 42 a30 c31 x28.1, aOwn fChange 42 a19 c20 x17] := SH.add hS38 hE46 hL37 hR47
  refine WL.runk 1 [0, 4, 5, 6] [(0, .slice a0' aList_0.length c0'), (4, .slice a30 x28.1.length c31), (5, .int .i64 x28.2), (6, .slice a42 x40.length c43)] (by kernel_rfl) ?_
  refine WL.nil ?_
  refine WQ.then_normal (hK39 _ _ _ ?_)
  refine WP.seq (fun K51 hK51 => ?_)
  refine WP.region ?_
  refine WL.runk 1 [0, 4, 5, 6, 28] [(0, .slice a0' aList_0.length c0'), (4, .slice a30 x28.1.length c31), (5, .int .i64 x28.2), (6, .slice a42 x40.length c43), (28, .slice a42 x40.length c43)] (by kernel_rfl) ?_
  obtain ⟨x52, hx53, hm⟩ := bindE hm
  refine WL.call 40 #[.slice a42 x40.length c43] rfl rfl (by kernel_rfl) (c_40 n x40 a42 c43 w45 hx53 (SH.rd (SH.front 0 hS50)) (SH.le (SH.front 0 hS50)).1) ?_
  rintro _ w57 ⟨a54, c55, rfl, hE58, hR59⟩
  refine ⟨_, rfl, ?_⟩
  have hb60 : Ext w w57 := Ext.trans hb48 hE58
  have hL61 : w.heap.size ≤ w57.heap.size := Nat.le_trans hL49 hE58.size
  have hS62 : SH w57 w.heap.size [aOwn fChange 42 a54 c55 x52.1, aOwn fChange 42 a42 c43 x40, aOwn fChange 42 a30 c31 x28.1, aOwn fChange 42 a19 c20 x17] := SH.add hS50 hE58 hL49 hR59
  refine WL.runk 5 [0, 4, 5, 6, 7, 8] [(0, .slice a0' aList_0.length c0'), (4, .slice a30 x28.1.length c31), (5, .int .i64 x28.2), (6, .slice a42 x40.length c43), (7, .slice a54 x52.1.length c55), (8, .int .i64 x52.2)] (by kernel_rfl) ?_
  refine WL.nil ?_
  refine WQ.then_normal (hK51 _ _ _ ?_)
  refine WP.seq (fun K63 hK63 => ?_)
  refine WP.seq (fun K64 hK64 => ?_)
  obtain ⟨x74, hx75, hm⟩ := bindE hm
  refine WP.cut (fun env' w' => env' = [(0, .slice a0' aList_0.length c0'), (4, .slice a30 x28.1.length c31), (5, .int .i64 x28.2), (6, .slice a42 x40.length c43), (7, .slice a54 x52.1.length c55), (8, .int .i64 x52.2), (40, .bool x74)] ∧ Ext w w' ∧ w.heap.size ≤ w'.heap.size ∧ SH w' w.heap.size [aOwn fChange 42 a54 c55 x52.1, aOwn fChange 42 a42 c43 x40, aOwn fChange 42 a30 c31 x28.1]) ?_ ?_
  · have hm := hx75; clear hx75
    refine WP.region ?_
    refine WL.runk 2 [0, 4, 5, 6, 7, 8, 32, 33] [(0, .slice a0' aList_0.length c0'), (4, .slice a30 x28.1.length c31), (5, .int .i64 x28.2), (6, .slice a42 x40.length c43), (7, .slice a54 x52.1.length c55), (8, .int .i64 x52.2), (32, .slice a54 x52.1.length c55), (33, .slice a30 x28.1.length c31)] (by kernel_rfl) ?_
    obtain ⟨x76, hx77, hm⟩ := bindE hm
    refine WL.call 20 #[.slice a54 x52.1.length c55, .slice a30 x28.1.length c31] rfl rfl (by kernel_rfl) (c_20 n x52.1 a54 c55 x28.1 a30 c31 w57 hx77 (SH.rd (SH.front 0 hS62)) (SH.le (SH.front 0 hS62)).1 (SH.rd (SH.front 2 hS62)) (SH.le (SH.front 2 hS62)).1) ?_
    rintro _ w78 ⟨rfl, hE79⟩
    refine ⟨_, rfl, ?_⟩
    have hb81 : Ext w w78 := Ext.trans hb60 hE79
    have hL82 : w.heap.size ≤ w78.heap.size := Nat.le_trans hL61 hE79.size
    have hS83 : SH w78 w.heap.size [aOwn fChange 42 a54 c55 x52.1, aOwn fChange 42 a42 c43 x40, aOwn fChange 42 a30 c31 x28.1, aOwn fChange 42 a19 c20 x17] := SH.ext hS62 hE79
    refine WL.runk 2 [0, 4, 5, 6, 7, 8, 36] [(0, .slice a0' aList_0.length c0'), (4, .slice a30 x28.1.length c31), (5, .int .i64 x28.2), (6, .slice a42 x40.length c43), (7, .slice a54 x52.1.length c55), (8, .int .i64 x52.2), (36, .bool (!x76))] (by kernel_rfl) ?_
    refine WL.case (!x76) [36] ⟨rfl, trivial⟩ (fun hc84 => ?_) (fun hc84 => ?_)
    · have hm := iteT hm hc84
      refine WL.runk 4 [0, 4, 5, 6, 7, 8, 40] [(0, .slice a0' aList_0.length c0'), (4, .slice a30 x28.1.length c31), (5, .int .i64 x28.2), (6, .slice a42 x40.length c43), (7, .slice a54 x52.1.length c55), (8, .int .i64 x52.2), (40, .bool true)] (by kernel_rfl) ?_
      refine WL.nil ?_
      obtain rfl := Option.some.inj hm
      exact WQ.post' ⟨rfl, hb81, hL82, (SH.take 3 (SH.front 2 (SH.front 2 (SH.front 2 hS83))))⟩ ⟨rfl, rfl, rfl, rfl, rfl, rfl, rfl, trivial⟩
    have hm := iteF hm hc84
    refine WL.runk 4 [0, 4, 5, 6, 7, 8, 40] [(0, .slice a0' aList_0.length c0'), (4, .slice a30 x28.1.length c31), (5, .int .i64 x28.2), (6, .slice a42 x40.length c43), (7, .slice a54 x52.1.length c55), (8, .int .i64 x52.2), (40, .bool (x52.2 != x28.2))] (by kernel_rfl) ?_
    refine WL.nil ?_
    obtain rfl := Option.some.inj hm
    exact WQ.post' ⟨rfl, hb81, hL82, (SH.take 3 (SH.front 2 (SH.front 2 (SH.front 2 hS83))))⟩ ⟨rfl, rfl, rfl, rfl, rfl, rfl, rfl, trivial⟩
  clear hx75
  rintro _ w85 ⟨rfl, hb86, hL87, hS88⟩
  refine WQ.then_normal (hK64 _ _ _ ?_)
  refine WP.cond x74 rfl rfl (fun hc89 => ?_) (fun hc89 => ?_)
  · have hm := iteT hm hc89
    refine WP.seq (fun K90 hK90 => ?_)
    refine WP.region ?_
    refine WL.runk 1 [2] [(2, .bool false)] (by kernel_rfl) ?_
    refine WL.nil ?_
    refine WQ.then_normal (hK90 _ _ _ ?_)
    refine WP.ret ?_
    refine WQ.then_ret ?_
    obtain rfl := Option.some.inj hm
    exact WQ.ret1 _ rfl rfl ⟨rfl, hb86⟩
  have hm := iteF hm hc89
  refine WP.skip ?_
  refine WQ.then_normal (hK63 _ _ _ ?_)
  refine WP.seq (fun K91 hK91 => ?_)
  refine WP.seq (fun K92 hK92 => ?_)
  refine WP.region ?_
  refine WL.runk 2 [0, 4, 5, 6, 7, 8, 41, 42] [(0, .slice a0' aList_0.length c0'), (4, .slice a30 x28.1.length c31), (5, .int .i64 x28.2), (6, .slice a42 x40.length c43), (7, .slice a54 x52.1.length c55), (8, .int .i64 x52.2), (41, .slice a42 x40.length c43), (42, .slice a0' aList_0.length c0')] (by kernel_rfl) ?_
  obtain ⟨x93, hx94, hm⟩ := bindE hm
  refine WL.call 18 #[.slice a0' aList_0.length c0'] rfl rfl (by kernel_rfl) (c_18 n aList_0 a0' c0' w85 hx94 (Rd.below h0 hb86) hle0) ?_
  rintro _ w98 ⟨a95, c96, rfl, hE99, hR100⟩
  refine ⟨_, rfl, ?_⟩
  have hb101 : Ext w w98 := Ext.trans hb86 hE99
  have hL102 : w.heap.size ≤ w98.heap.size := Nat.le_trans hL87 hE99.size
  have hS103 : SH w98 w.heap.size [aOwn fChange 42 a95 c96 x93, aOwn fChange 42 a54 c55 x52.1, aOwn fChange 42 a42 c43 x40, aOwn fChange 42 a30 c31 x28.1] := SH.add hS88 hE99 hL87 hR100
  obtain ⟨x104, hx105, hm⟩ := bindE hm
  refine WL.call 20 #[.slice a42 x40.length c43, .slice a95 x93.length c96] rfl rfl (by kernel_rfl) (c_20 n x40 a42 c43 x93 a95 c96 w98 hx105 (SH.rd (SH.front 2 hS103)) (SH.le (SH.front 2 hS103)).1 (SH.rd (SH.front 0 hS103)) (SH.le (SH.front 0 hS103)).1) ?_
  rintro _ w106 ⟨rfl, hE107⟩
  refine ⟨_, rfl, ?_⟩
  have hb109 : Ext w w106 := Ext.trans hb101 hE107
  have hL110 : w.heap.size ≤ w106.heap.size := Nat.le_trans hL102 hE107.size
  have hS111 : SH w106 w.heap.size [aOwn fChange 42 a95 c96 x93, aOwn fChange 42 a54 c55 x52.1, aOwn fChange 42 a42 c43 x40, aOwn fChange 42 a30 c31 x28.1] := SH.ext hS103 hE107
  refine WL.runk 1 [0, 4, 5, 6, 7, 8, 45] [(0, .slice a0' aList_0.length c0'), (4, .slice a30 x28.1.length c31), (5, .int .i64 x28.2), (6, .slice a42 x40.length c43), (7, .slice a54 x52.1.length c55), (8, .int .i64 x52.2), (45, .bool (!x104))] (by kernel_rfl) ?_
  refine WL.nil ?_
  refine WQ.then_normal (hK92 _ _ _ ?_)
  refine WP.cond (!x104) rfl rfl (fun hc112 => ?_) (fun hc112 => ?_)
  · have hm := iteT hm hc112
    refine WP.seq (fun K113 hK113 => ?_)
    refine WP.region ?_
    refine WL.runk 1 [2] [(2, .bool false)] (by kernel_rfl) ?_
    refine WL.nil ?_
    refine WQ.then_normal (hK113 _ _ _ ?_)
    refine WP.ret ?_
    refine WQ.then_ret ?_
    obtain rfl := Option.some.inj hm
    exact WQ.ret1 _ rfl rfl ⟨rfl, hb109⟩
  have hm := iteF hm hc112
  refine WP.skip ?_
  refine WQ.then_normal (hK91 _ _ _ ?_)
  refine WP.seq (fun K114 hK114 => ?_)
  refine WP.region ?_
  refine WL.runk 1 [0, 4, 5, 6, 7, 8, 9] [(0, .slice a0' aList_0.length c0'), (4, .slice a30 x28.1.length c31), (5, .int .i64 x28.2), (6, .slice a42 x40.length c43), (7, .slice a54 x52.1.length c55), (8, .int .i64 x52.2), (9, .int .i64 1)] (by kernel_rfl) ?_
  refine WL.nil ?_
  refine WQ.then_normal (hK114 _ _ _ ?_)
  refine WP.seq (fun K115 hK115 => ?_)
  refine WP.region ?_
  refine WL.runk 2 [0, 4, 5, 7, 8, 46, 47] [(0, .slice a0' aList_0.length c0'), (4, .slice a30 x28.1.length c31), (5, .int .i64 x28.2), (7, .slice a54 x52.1.length c55), (8, .int .i64 x52.2), (46, .slice a42 x40.length c43), (47, .int .i64 1)] (by kernel_rfl) ?_
  obtain ⟨x116, hx117, hm⟩ := bindE hm
  refine WL.call 41 #[.slice a42 x40.length c43, .int .i64 1] rfl rfl (by kernel_rfl) (c_41 n x40 a42 c43 1 w106 w w.heap.size [aOwn fChange 42 a95 c96 x93, aOwn fChange 42 a54 c55 x52.1, aOwn fChange 42 a30 c31 x28.1] hx117 hb109 (Nat.le_refl _) hL110  (SH.front 3 (SH.front 2 (SH.front 2 (SH.front 3 hS111))))) ?_
  rintro _ w118 ⟨rfl, hB122, hS121, hlen123⟩
  refine ⟨_, rfl, ?_⟩
  have hb124 : Ext w w118 := Below.trans hb109 hB122
  have hL125 : w.heap.size ≤ w118.heap.size := Nat.le_trans hL110 hB122.size
  refine WL.sub [(0, .slice a0' aList_0.length c0'), (4, .slice a30 x28.1.length c31), (5, .int .i64 x28.2), (7, .slice a54 x52.1.length c55), (8, .int .i64 x52.2), (46, .slice a42 x116.2.length c43), (47, .int .i64 1), (48, .int .i64 x116.1)] ⟨rfl, rfl, rfl, rfl, rfl, by rw [hlen123]; rfl, rfl, rfl, trivial⟩ ?_
  refine WL.runk 1 [0, 4, 5, 7, 8, 9] [(0, .slice a0' aList_0.length c0'), (4, .slice a30 x28.1.length c31), (5, .int .i64 x28.2), (7, .slice a54 x52.1.length c55), (8, .int .i64 x52.2), (9, .int .i64 x116.1)] (by kernel_rfl) ?_
  refine WL.nil ?_
  refine WQ.then_normal (hK115 _ _ _ ?_)
  refine WP.seq (fun K126 hK126 => ?_)
  refine WP.seq (fun K127 hK127 => ?_)
  obtain ⟨x138, hx139, hm⟩ := bindE hm
  refine WP.cut (fun env' w' => env' = [(0, .slice a0' aList_0.length c0'), (4, .slice a30 x28.1.length c31), (5, .int .i64 x28.2), (7, .slice a54 x52.1.length c55), (61, .bool x138)] ∧ Ext w w' ∧ w.heap.size ≤ w'.heap.size ∧ SH w' w.heap.size [aOwn fChange 42 a54 c55 x52.1, aOwn fChange 42 a30 c31 x28.1]) ?_ ?_
  · have hm := hx139; clear hx139
    refine WP.region ?_
    refine WL.runk 3 [0, 4, 5, 7, 8, 51] [(0, .slice a0' aList_0.length c0'), (4, .slice a30 x28.1.length c31), (5, .int .i64 x28.2), (7, .slice a54 x52.1.length c55), (8, .int .i64 x52.2), (51, .bool (decide (x116.1 < 0)))] (by kernel_rfl) ?_
    refine WL.case (decide (x116.1 < 0)) [51] ⟨rfl, trivial⟩ (fun hc140 => ?_) (fun hc140 => ?_)
    · have hm := iteT hm hc140
      refine WL.runk 10 [0, 4, 5, 7, 61] [(0, .slice a0' aList_0.length c0'), (4, .slice a30 x28.1.length c31), (5, .int .i64 x28.2), (7, .slice a54 x52.1.length c55), (61, .bool true)] (by kernel_rfl) ?_
      refine WL.nil ?_
      obtain rfl := Option.some.inj hm
      exact WQ.post' ⟨rfl, hb124, hL125, (SH.take 2 (SH.front 3 (SH.front 3 hS121)))⟩ ⟨rfl, rfl, rfl, rfl, rfl, trivial⟩
    have hm := iteF hm hc140
    refine WL.runk 2 [0, 4, 5, 7, 8, 51, 52, 53] [(0, .slice a0' aList_0.length c0'), (4, .slice a30 x28.1.length c31), (5, .int .i64 x28.2), (7, .slice a54 x52.1.length c55), (8, .int .i64 x52.2), (51, .bool false), (52, .slice a54 x52.1.length c55), (53, .slice a30 x28.1.length c31)] (by kernel_rfl) ?_
    obtain ⟨x141, hx142, hm⟩ := bindE hm
    refine WL.call 20 #[.slice a54 x52.1.length c55, .slice a30 x28.1.length c31] rfl rfl (by kernel_rfl) (c_20 n x52.1 a54 c55 x28.1 a30 c31 w118 hx142 (SH.rd (SH.front 2 hS121)) (SH.le (SH.front 2 hS121)).1 (SH.rd (SH.front 3 hS121)) (SH.le (SH.front 3 hS121)).1) ?_
    rintro _ w143 ⟨rfl, hE144⟩
    refine ⟨_, rfl, ?_⟩
    have hb146 : Ext w w143 := Ext.trans hb124 hE144
    have hL147 : w.heap.size ≤ w143.heap.size := Nat.le_trans hL125 hE144.size
    have hS148 : SH w143 w.heap.size [aOwn fChange 42 a42 c43 x116.2, aOwn fChange 42 a95 c96 x93, aOwn fChange 42 a54 c55 x52.1, aOwn fChange 42 a30 c31 x28.1] := SH.ext hS121 hE144
    refine WL.runk 3 [0, 4, 5, 7, 8, 57] [(0, .slice a0' aList_0.length c0'), (4, .slice a30 x28.1.length c31), (5, .int .i64 x28.2), (7, .slice a54 x52.1.length c55), (8, .int .i64 x52.2), (57, .bool (!x141))] (by kernel_rfl) ?_
    refine WL.case (!x141) [57] ⟨rfl, trivial⟩ (fun hc149 => ?_) (fun hc149 => ?_)
    · have hm := iteT hm hc149
      refine WL.runk 4 [0, 4, 5, 7, 61] [(0, .slice a0' aList_0.length c0'), (4, .slice a30 x28.1.length c31), (5, .int .i64 x28.2), (7, .slice a54 x52.1.length c55), (61, .bool true)] (by kernel_rfl) ?_
      refine WL.nil ?_
      obtain rfl := Option.some.inj hm
      exact WQ.post' ⟨rfl, hb146, hL147, (SH.take 2 (SH.front 3 (SH.front 3 hS148)))⟩ ⟨rfl, rfl, rfl, rfl, rfl, trivial⟩
    have hm := iteF hm hc149
    refine WL.runk 4 [0, 4, 5, 7, 61] [(0, .slice a0' aList_0.length c0'), (4, .slice a30 x28.1.length c31), (5, .int .i64 x28.2), (7, .slice a54 x52.1.length c55), (61, .bool (x52.2 != x28.2))] (by kernel_rfl) ?_
    refine WL.nil ?_
    obtain rfl := Option.some.inj hm
    exact WQ.post' ⟨rfl, hb146, hL147, (SH.take 2 (SH.front 3 (SH.front 3 hS148)))⟩ ⟨rfl, rfl, rfl, rfl, rfl, trivial⟩
  clear hx139
  rintro _ w150 ⟨rfl, hb151, hL152, hS153⟩
  refine WQ.then_normal (hK127 _ _ _ ?_)
  refine WP.cond x138 rfl rfl (fun hc154 => ?_) (fun hc154 => ?_)
  · have hm := iteT hm hc154
    refine WP.seq (fun K155 hK155 => ?_)
    refine WP.region ?_
    refine WL.runk 1 [2] [(2, .bool false)] (by kernel_rfl) ?_
    refine WL.nil ?_
    refine WQ.then_normal (hK155 _ _ _ ?_)
    refine WP.ret ?_
    refine WQ.then_ret ?_
    obtain rfl := Option.some.inj hm
    exact WQ.ret1 _ rfl rfl ⟨rfl, hb151⟩
  have hm := iteF hm hc154
  refine WP.skip ?_
  refine WQ.then_normal (hK126 _ _ _ ?_)
  refine WP.seq (fun K156 hK156 => ?_)
  refine WP.region ?_
  refine WL.runk 1 [0, 4, 5, 7, 10] [(0, .slice a0' aList_0.length c0'), (4, .slice a30 x28.1.length c31), (5, .int .i64 x28.2), (7, .slice a54 x52.1.length c55), (10, .int .i64 1)] (by kernel_rfl) ?_
  refine WL.nil ?_
  refine WQ.then_normal (hK156 _ _ _ ?_)
  refine WP.seq (fun K157 hK157 => ?_)
  refine WP.region ?_
  refine WL.runk 2 [0, 4, 5, 7, 62, 63] [(0, .slice a0' aList_0.length c0'), (4, .slice a30 x28.1.length c31), (5, .int .i64 x28.2), (7, .slice a54 x52.1.length c55), (62, .slice a54 x52.1.length c55), (63, .int .i64 1)] (by kernel_rfl) ?_
  obtain ⟨x158, hx159, hm⟩ := bindE hm
  refine WL.call 41 #[.slice a54 x52.1.length c55, .int .i64 1] rfl rfl (by kernel_rfl) (c_41 n x52.1 a54 c55 1 w150 w w.heap.size [aOwn fChange 42 a30 c31 x28.1] hx159 hb151 (Nat.le_refl _) hL152  hS153) ?_
  rintro _ w160 ⟨rfl, hB164, hS163, hlen165⟩
  refine ⟨_, rfl, ?_⟩
  have hb166 : Ext w w160 := Below.trans hb151 hB164
  have hL167 : w.heap.size ≤ w160.heap.size := Nat.le_trans hL152 hB164.size
  refine WL.sub [(0, .slice a0' aList_0.length c0'), (4, .slice a30 x28.1.length c31), (5, .int .i64 x28.2), (7, .slice a54 x158.2.length c55), (62, .slice a54 x158.2.length c55), (63, .int .i64 1), (64, .int .i64 x158.1)] ⟨rfl, rfl, rfl, by rw [hlen165]; rfl, by rw [hlen165]; rfl, rfl, rfl, trivial⟩ ?_
  refine WL.runk 1 [0, 4, 5, 7, 10] [(0, .slice a0' aList_0.length c0'), (4, .slice a30 x28.1.length c31), (5, .int .i64 x28.2), (7, .slice a54 x158.2.length c55), (10, .int .i64 x158.1)] (by kernel_rfl) ?_
  refine WL.nil ?_
  refine WQ.then_normal (hK157 _ _ _ ?_)
  refine WP.seq (fun K168 hK168 => ?_)
  refine WP.region ?_
  refine WL.runk 1 [0, 4, 5, 7, 10, 11] [(0, .slice a0' aList_0.length c0'), (4, .slice a30 x28.1.length c31), (5, .int .i64 x28.2), (7, .slice a54 x158.2.length c55), (10, .int .i64 x158.1), (11, .int .i64 1)] (by kernel_rfl) ?_
  refine WL.nil ?_
  refine WQ.then_normal (hK168 _ _ _ ?_)
  refine WP.seq (fun K169 hK169 => ?_)
  refine WP.region ?_
  refine WL.runk 2 [0, 4, 5, 7, 10, 65, 66] [(0, .slice a0' aList_0.length c0'), (4, .slice a30 x28.1.length c31), (5, .int .i64 x28.2), (7, .slice a54 x158.2.length c55), (10, .int .i64 x158.1), (65, .slice a54 x158.2.length c55), (66, .int .i64 1)] (by kernel_rfl) ?_
  obtain ⟨x170, hx171, hm⟩ := bindE hm
  refine WL.call 42 #[.slice a54 x158.2.length c55, .int .i64 1] rfl rfl (by kernel_rfl) (c_42 n x158.2 a54 c55 1 w160 hx171 (SH.rd (SH.front 0 hS163)) (SH.le (SH.front 0 hS163)).1) ?_
  rintro _ w172 ⟨rfl, hE173⟩
  refine ⟨_, rfl, ?_⟩
  have hb175 : Ext w w172 := Ext.trans hb166 hE173
  have hL176 : w.heap.size ≤ w172.heap.size := Nat.le_trans hL167 hE173.size
  have hS177 : SH w172 w.heap.size [aOwn fChange 42 a54 c55 x158.2, aOwn fChange 42 a30 c31 x28.1] := SH.ext hS163 hE173
  refine WL.runk 1 [0, 4, 5, 7, 10, 11] [(0, .slice a0' aList_0.length c0'), (4, .slice a30 x28.1.length c31), (5, .int .i64 x28.2), (7, .slice a54 x158.2.length c55), (10, .int .i64 x158.1), (11, .int .i64 x170)] (by kernel_rfl) ?_
  refine WL.nil ?_
  refine WQ.then_normal (hK169 _ _ _ ?_)
  refine WP.seq (fun K178 hK178 => ?_)
  refine WP.seq (fun K179 hK179 => ?_)
  refine WP.region ?_
  refine WL.runk 2 [0, 4, 5, 7, 10, 11, 69] [(0, .slice a0' aList_0.length c0'), (4, .slice a30 x28.1.length c31), (5, .int .i64 x28.2), (7, .slice a54 x158.2.length c55), (10, .int .i64 x158.1), (11, .int .i64 x170), (69, .bool (decide (x170 < 0)))] (by kernel_rfl) ?_
  refine WL.nil ?_
  refine WQ.then_normal (hK179 _ _ _ ?_)
  refine WP.cond (decide (x170 < 0)) rfl rfl (fun hc180 => ?_) (fun hc180 => ?_)
  · have hm := iteT hm hc180
    refine WP.seq (fun K181 hK181 => ?_)
    refine WP.region ?_
    refine WL.runk 1 [2] [(2, .bool false)] (by kernel_rfl) ?_
    refine WL.nil ?_
    refine WQ.then_normal (hK181 _ _ _ ?_)
    refine WP.ret ?_
    refine WQ.then_ret ?_
    obtain rfl := Option.some.inj hm
    exact WQ.ret1 _ rfl rfl ⟨rfl, hb175⟩
  have hm := iteF hm hc180
  refine WP.skip ?_
  refine WQ.then_normal (hK178 _ _ _ ?_)
  refine WP.seq (fun K182 hK182 => ?_)
  refine WP.seq (fun K183 hK183 => ?_)
  refine WP.region ?_
  refine WL.runk 3 [0, 4, 5, 7, 10, 72] [(0, .slice a0' aList_0.length c0'), (4, .slice a30 x28.1.length c31), (5, .int .i64 x28.2), (7, .slice a54 x158.2.length c55), (10, .int .i64 x158.1), (72, .bool (x170 != x158.1))] (by kernel_rfl) ?_
  refine WL.nil ?_
  refine WQ.then_normal (hK183 _ _ _ ?_)
  refine WP.cond (x170 != x158.1) rfl rfl (fun hc184 => ?_) (fun hc184 => ?_)
  · have hm := iteT hm hc184
    refine WP.seq (fun K185 hK185 => ?_)
    refine WP.region ?_
    refine WL.runk 1 [2] [(2, .bool false)] (by kernel_rfl) ?_
    refine WL.nil ?_
    refine WQ.then_normal (hK185 _ _ _ ?_)
    refine WP.ret ?_
    refine WQ.then_ret ?_
    obtain rfl := Option.some.inj hm
    exact WQ.ret1 _ rfl rfl ⟨rfl, hb175⟩
  have hm := iteF hm hc184
  refine WP.skip ?_
  refine WQ.then_normal (hK182 _ _ _ ?_)
  refine WP.seq (fun K186 hK186 => ?_)
  refine WP.region ?_
  refine WL.runk 1 [4, 5, 7, 10, 74] [(4, .slice a30 x28.1.length c31), (5, .int .i64 x28.2), (7, .slice a54 x158.2.length c55), (10, .int .i64 x158.1), (74, .slice a0' aList_0.length c0')] (by kernel_rfl) ?_
  obtain ⟨x187, hx188, hm⟩ := bindE hm
  refine WL.call 18 #[.slice a0' aList_0.length c0'] rfl rfl (by kernel_rfl) (c_18 n aList_0 a0' c0' w172 hx188 (Rd.below h0 hb175) hle0) ?_
  rintro _ w192 ⟨a189, c190, rfl, hE193, hR194⟩
  refine ⟨_, rfl, ?_⟩
  have hb195 : Ext w w192 := Ext.trans hb175 hE193
  have hL196 : w.heap.size ≤ w192.heap.size := Nat.le_trans hL176 hE193.size
  have hS197 : SH w192 w.heap.size [aOwn fChange 42 a189 c190 x187, aOwn fChange 42 a54 c55 x158.2, aOwn fChange 42 a30 c31 x28.1] := SH.add hS177 hE193 hL176 hR194
  obtain ⟨x198, hx199, hm⟩ := bindE hm
  refine WL.call 40 #[.slice a189 x187.length c190] rfl rfl (by kernel_rfl) (c_40 n x187 a189 c190 w192 hx199 (SH.rd (SH.front 0 hS197)) (SH.le (SH.front 0 hS197)).1) ?_
  rintro _ w203 ⟨a200, c201, rfl, hE204, hR205⟩
  refine ⟨_, rfl, ?_⟩
  have hb206 : Ext w w203 := Ext.trans hb195 hE204
  have hL207 : w.heap.size ≤ w203.heap.size := Nat.le_trans hL196 hE204.size
  have hS208 : SH w203 w.heap.size [aOwn fChange 42 a200 c201 x198.1, aOwn fChange 42 a189 c190 x187, aOwn fChange 42 a54 c55 x158.2, aOwn fChange 42 a30 c31 x28.1] := SH.add hS197 hE204 hL196 hR205
  refine WL.runk 5 [4, 5, 7, 10, 12, 13] [(4, .slice a30 x28.1.length c31), (5, .int .i64 x28.2), (7, .slice a54 x158.2.length c55), (10, .int .i64 x158.1), (12, .slice a200 x198.1.length c201), (13, .int .i64 x198.2)] (by kernel_rfl) ?_
  refine WL.nil ?_
  refine WQ.then_normal (hK186 _ _ _ ?_)
  refine WP.seq (fun K209 hK209 => ?_)
  refine WP.seq (fun K210 hK210 => ?_)
  obtain ⟨x220, hx221, hm⟩ := bindE hm
  refine WP.cut (fun env' w' => env' = [(7, .slice a54 x158.2.length c55), (10, .int .i64 x158.1), (87, .bool x220)] ∧ Ext w w' ∧ w.heap.size ≤ w'.heap.size ∧ SH w' w.heap.size [aOwn fChange 42 a54 c55 x158.2]) ?_ ?_
  · have hm := hx221; clear hx221
    refine WP.region ?_
    refine WL.runk 2 [5, 7, 10, 13, 79, 80] [(5, .int .i64 x28.2), (7, .slice a54 x158.2.length c55), (10, .int .i64 x158.1), (13, .int .i64 x198.2), (79, .slice a200 x198.1.length c201), (80, .slice a30 x28.1.length c31)] (by kernel_rfl) ?_
    obtain ⟨x222, hx223, hm⟩ := bindE hm
    refine WL.call 20 #[.slice a200 x198.1.length c201, .slice a30 x28.1.length c31] rfl rfl (by kernel_rfl) (c_20 n x198.1 a200 c201 x28.1 a30 c31 w203 hx223 (SH.rd (SH.front 0 hS208)) (SH.le (SH.front 0 hS208)).1 (SH.rd (SH.front 3 hS208)) (SH.le (SH.front 3 hS208)).1) ?_
    rintro _ w224 ⟨rfl, hE225⟩
    refine ⟨_, rfl, ?_⟩
    have hb227 : Ext w w224 := Ext.trans hb206 hE225
    have hL228 : w.heap.size ≤ w224.heap.size := Nat.le_trans hL207 hE225.size
    have hS229 : SH w224 w.heap.size [aOwn fChange 42 a200 c201 x198.1, aOwn fChange 42 a189 c190 x187, aOwn fChange 42 a54 c55 x158.2, aOwn fChange 42 a30 c31 x28.1] := SH.ext hS208 hE225
    refine WL.runk 2 [5, 7, 10, 13, 83] [(5, .int .i64 x28.2), (7, .slice a54 x158.2.length c55), (10, .int .i64 x158.1), (13, .int .i64 x198.2), (83, .bool (!x222))] (by kernel_rfl) ?_
    refine WL.case (!x222) [83] ⟨rfl, trivial⟩ (fun hc230 => ?_) (fun hc230 => ?_)
    · have hm := iteT hm hc230
      refine WL.runk 4 [7, 10, 87] [(7, .slice a54 x158.2.length c55), (10, .int .i64 x158.1), (87, .bool true)] (by kernel_rfl) ?_
      refine WL.nil ?_
      obtain rfl := Option.some.inj hm
      exact WQ.post' ⟨rfl, hb227, hL228, (SH.take 1 (SH.front 2 hS229))⟩ ⟨rfl, rfl, rfl, trivial⟩
    have hm := iteF hm hc230
    refine WL.runk 4 [7, 10, 87] [(7, .slice a54 x158.2.length c55), (10, .int .i64 x158.1), (87, .bool (x198.2 != x28.2))] (by kernel_rfl) ?_
    refine WL.nil ?_
    obtain rfl := Option.some.inj hm
    exact WQ.post' ⟨rfl, hb227, hL228, (SH.take 1 (SH.front 2 hS229))⟩ ⟨rfl, rfl, rfl, trivial⟩
  clear hx221
  rintro _ w231 ⟨rfl, hb232, hL233, hS234⟩
  refine WQ.then_normal (hK210 _ _ _ ?_)
  refine WP.cond x220 rfl rfl (fun hc235 => ?_) (fun hc235 => ?_)
  · have hm := iteT hm hc235
    refine WP.seq (fun K236 hK236 => ?_)
    refine WP.region ?_
    refine WL.runk 1 [2] [(2, .bool false)] (by kernel_rfl) ?_
    refine WL.nil ?_
    refine WQ.then_normal (hK236 _ _ _ ?_)
    refine WP.ret ?_
    refine WQ.then_ret ?_
    obtain rfl := Option.some.inj hm
    exact WQ.ret1 _ rfl rfl ⟨rfl, hb232⟩
  have hm := iteF hm hc235
  refine WP.skip ?_
  refine WQ.then_normal (hK209 _ _ _ ?_)
  refine WP.seq (fun K237 hK237 => ?_)
  refine WP.region ?_
  refine WL.runk 1 [7, 10, 11] [(7, .slice a54 x158.2.length c55), (10, .int .i64 x158.1), (11, .int .i64 1)] (by kernel_rfl) ?_
  refine WL.nil ?_
  refine WQ.then_normal (hK237 _ _ _ ?_)
  refine WP.seq (fun K238 hK238 => ?_)
  refine WP.region ?_
  refine WL.runk 2 [10, 88, 89] [(10, .int .i64 x158.1), (88, .slice a54 x158.2.length c55), (89, .int .i64 1)] (by kernel_rfl) ?_
  obtain ⟨x239, hx240, hm⟩ := bindE hm
  refine WL.call 42 #[.slice a54 x158.2.length c55, .int .i64 1] rfl rfl (by kernel_rfl) (c_42 n x158.2 a54 c55 1 w231 hx240 (SH.rd (SH.front 0 hS234)) (SH.le (SH.front 0 hS234)).1) ?_
  rintro _ w241 ⟨rfl, hE242⟩
  refine ⟨_, rfl, ?_⟩
  have hb244 : Ext w w241 := Ext.trans hb232 hE242
  have hL245 : w.heap.size ≤ w241.heap.size := Nat.le_trans hL233 hE242.size
  have hS246 : SH w241 w.heap.size [aOwn fChange 42 a54 c55 x158.2] := SH.ext hS234 hE242
  refine WL.runk 1 [10, 11] [(10, .int .i64 x158.1), (11, .int .i64 x239)] (by kernel_rfl) ?_
  refine WL.nil ?_
  refine WQ.then_normal (hK238 _ _ _ ?_)
  refine WP.seq (fun K247 hK247 => ?_)
  refine WP.seq (fun K248 hK248 => ?_)
  refine WP.region ?_
  refine WL.runk 2 [10, 11, 92] [(10, .int .i64 x158.1), (11, .int .i64 x239), (92, .bool (decide (x239 < 0)))] (by kernel_rfl) ?_
  refine WL.nil ?_
  refine WQ.then_normal (hK248 _ _ _ ?_)
  refine WP.cond (decide (x239 < 0)) rfl rfl (fun hc249 => ?_) (fun hc249 => ?_)
  · have hm := iteT hm hc249
    refine WP.seq (fun K250 hK250 => ?_)
    refine WP.region ?_
    refine WL.runk 1 [2] [(2, .bool false)] (by kernel_rfl) ?_
    refine WL.nil ?_
    refine WQ.then_normal (hK250 _ _ _ ?_)
    refine WP.ret ?_
    refine WQ.then_ret ?_
    obtain rfl := Option.some.inj hm
    exact WQ.ret1 _ rfl rfl ⟨rfl, hb244⟩
  have hm := iteF hm hc249
  refine WP.skip ?_
  refine WQ.then_normal (hK247 _ _ _ ?_)
  refine WP.seq (fun K251 hK251 => ?_)
  refine WP.seq (fun K252 hK252 => ?_)
  refine WP.region ?_
  refine WL.runk 3 [95] [(95, .bool (x239 != x158.1))] (by kernel_rfl) ?_
  refine WL.nil ?_
  refine WQ.then_normal (hK252 _ _ _ ?_)
  refine WP.cond (x239 != x158.1) rfl rfl (fun hc253 => ?_) (fun hc253 => ?_)
  · have hm := iteT hm hc253
    refine WP.seq (fun K254 hK254 => ?_)
    refine WP.region ?_
    refine WL.runk 1 [2] [(2, .bool false)] (by kernel_rfl) ?_
    refine WL.nil ?_
    refine WQ.then_normal (hK254 _ _ _ ?_)
    refine WP.ret ?_
    refine WQ.then_ret ?_
    obtain rfl := Option.some.inj hm
    exact WQ.ret1 _ rfl rfl ⟨rfl, hb244⟩
  have hm := iteF hm hc253
  refine WP.skip ?_
  refine WQ.then_normal (hK251 _ _ _ ?_)
  refine WP.seq (fun K255 hK255 => ?_)
  refine WP.region ?_
  refine WL.runk 1 [2] [(2, .bool true)] (by kernel_rfl) ?_
  refine WL.nil ?_
  refine WQ.then_normal (hK255 _ _ _ ?_)
  refine WP.ret ?_
  obtain rfl := Option.some.inj hm
  exact WQ.ret1 _ rfl rfl ⟨rfl, hb244⟩

end Go.Proofs.Ytlplbjeegkkilaa
