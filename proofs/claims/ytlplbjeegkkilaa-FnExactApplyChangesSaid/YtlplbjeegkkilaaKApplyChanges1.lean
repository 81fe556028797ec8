/- Each call does what its Lean function says. -/
import Derived.Test.YtlplbjeegkkilaaTi
import Derived.Test.YtlplbjeegkkilaaEq
import Derived.Test.YtlplbjeegkkilaaMo
set_option maxRecDepth 20000
set_option maxHeartbeats 4000000
namespace Go.Proofs.Ytlplbjeegkkilaa
open Go Go.Gv Go.RowKit

theorem c_52 (n : Nat) (kind_0 : Int) (w : World) {r : Int} (hm : m_spec_l22Most n kind_0 = some r)  :
    CallV Try.prog 52 #[.int .i64 kind_0] w (fun v w' => v = .int .i64 r ∧ Ext w w') := by
  unfold m_spec_l22Most at hm
  refine CallV.enter Try.func52 rfl (by kernel_rfl) Try.ntmps52 (env := [(0, .int .i64 kind_0)]) ⟨rfl, trivial⟩ ?_
  refine WP.seq (fun K1 hK1 => ?_)
  refine WP.region ?_
  refine WL.runk 1 [0] [(0, .int .i64 kind_0)] (by kernel_rfl) ?_
  refine WL.nil ?_
  refine WQ.then_normal (hK1 _ _ _ ?_)
  refine WP.seq (fun K2 hK2 => ?_)
  refine WP.seq (fun K3 hK3 => ?_)
  refine WP.region ?_
  refine WL.runk 1 [3] [(3, .int .i64 kind_0)] (by kernel_rfl) ?_
  refine WL.nil ?_
  refine WQ.then_normal (hK3 _ _ _ ?_)
  refine WP.block ?_
  refine WP.seq (fun K4 hK4 => ?_)
  refine WP.region ?_
  refine WL.runk 2 [3, 4] [(3, .int .i64 kind_0), (4, .bool (kind_0 == 1))] (by kernel_rfl) ?_
  refine WL.nil ?_
  refine WQ.then_normal (hK4 _ _ _ ?_)
  refine WP.cond (kind_0 == 1) rfl rfl (fun hc5 => ?_) (fun hc5 => ?_)
  · have hm := iteT hm hc5
    refine WP.seq (fun K6 hK6 => ?_)
    refine WP.region ?_
    refine WL.runk 1 [2] [(2, .int .i64 200)] (by kernel_rfl) ?_
    refine WL.nil ?_
    refine WQ.then_normal (hK6 _ _ _ ?_)
    refine WP.ret ?_
    refine WQ.block_ret ?_
    refine WQ.then_ret ?_
    obtain rfl := Option.some.inj hm
    exact WQ.ret1 _ rfl rfl ⟨rfl, (Ext.refl w)⟩
  have hm := iteF hm hc5
  refine WP.seq (fun K7 hK7 => ?_)
  refine WP.seq (fun K8 hK8 => ?_)
  refine WP.region ?_
  refine WL.runk 2 [3, 6] [(3, .int .i64 kind_0), (6, .bool (kind_0 == 2))] (by kernel_rfl) ?_
  refine WL.nil ?_
  refine WQ.then_normal (hK8 _ _ _ ?_)
  obtain ⟨x18, hx19, hm⟩ := bindE hm
  refine WP.cut (fun env' w' => env' = [(3, .int .i64 kind_0), (6, .bool x18)] ∧ Ext w w' ∧ w.heap.size ≤ w'.heap.size ∧ SH w' w.heap.size []) ?_ ?_
  · have hm := hx19; clear hx19
    refine WP.cond (kind_0 == 2) rfl rfl (fun hc9 => ?_) (fun hc9 => ?_)
    · have hm := iteT hm hc9
      refine WP.skip ?_
      obtain rfl := Option.some.inj hm
      exact WQ.post' ⟨rfl, (Ext.refl w), (Nat.le_refl _), (SH.nil _ _)⟩ ⟨rfl, rfl, trivial⟩
    have hm := iteF hm hc9
    refine WP.seq (fun K20 hK20 => ?_)
    refine WP.region ?_
    refine WL.runk 2 [3, 6] [(3, .int .i64 kind_0), (6, .bool (kind_0 == 3))] (by kernel_rfl) ?_
    refine WL.nil ?_
    refine WQ.then_normal (hK20 _ _ _ ?_)
    obtain ⟨x22, hx23, hm⟩ := bindE hm
    refine WP.cut (fun env' w' => env' = [(3, .int .i64 kind_0), (6, .bool x22)] ∧ Ext w w' ∧ w.heap.size ≤ w'.heap.size ∧ SH w' w.heap.size []) ?_ ?_
    rotate_left
    · clear hx23
      rintro _ w24 ⟨rfl, hb25, hL26, hS27⟩
      obtain rfl := Option.some.inj hm
      exact WQ.post' ⟨rfl, hb25, hL26, hS27⟩ ⟨rfl, rfl, trivial⟩
    have hm := hx23; clear hx23
    refine WP.cond (kind_0 == 3) rfl rfl (fun hc21 => ?_) (fun hc21 => ?_)
    · have hm := iteT hm hc21
      refine WP.skip ?_
      obtain rfl := Option.some.inj hm
      exact WQ.post' ⟨rfl, (Ext.refl w), (Nat.le_refl _), (SH.nil _ _)⟩ ⟨rfl, rfl, trivial⟩
    have hm := iteF hm hc21
    refine WP.region ?_
    refine WL.runk 2 [3, 6] [(3, .int .i64 kind_0), (6, .bool (kind_0 == 4))] (by kernel_rfl) ?_
    refine WL.nil ?_
    obtain rfl := Option.some.inj hm
    exact WQ.post' ⟨rfl, (Ext.refl w), (Nat.le_refl _), (SH.nil _ _)⟩ ⟨rfl, rfl, trivial⟩
  clear hx19
  rintro _ w28 ⟨rfl, hb29, hL30, hS31⟩
  refine WQ.then_normal (hK7 _ _ _ ?_)
  refine WP.cond x18 rfl rfl (fun hc32 => ?_) (fun hc32 => ?_)
  · have hm := iteT hm hc32
    refine WP.seq (fun K33 hK33 => ?_)
    refine WP.region ?_
    refine WL.runk 1 [2] [(2, .int .i64 300)] (by kernel_rfl) ?_
    refine WL.nil ?_
    refine WQ.then_normal (hK33 _ _ _ ?_)
    refine WP.ret ?_
    refine WQ.block_ret ?_
    refine WQ.then_ret ?_
    obtain rfl := Option.some.inj hm
    exact WQ.ret1 _ rfl rfl ⟨rfl, hb29⟩
  have hm := iteF hm hc32
  refine WP.seq (fun K34 hK34 => ?_)
  refine WP.region ?_
  refine WL.runk 2 [10] [(10, .bool (kind_0 == 5))] (by kernel_rfl) ?_
  refine WL.nil ?_
  refine WQ.then_normal (hK34 _ _ _ ?_)
  refine WP.cond (kind_0 == 5) rfl rfl (fun hc35 => ?_) (fun hc35 => ?_)
  · have hm := iteT hm hc35
    refine WP.seq (fun K36 hK36 => ?_)
    refine WP.region ?_
    refine WL.runk 1 [2] [(2, .int .i64 150)] (by kernel_rfl) ?_
    refine WL.nil ?_
    refine WQ.then_normal (hK36 _ _ _ ?_)
    refine WP.ret ?_
    refine WQ.block_ret ?_
    refine WQ.then_ret ?_
    obtain rfl := Option.some.inj hm
    exact WQ.ret1 _ rfl rfl ⟨rfl, hb29⟩
  have hm := iteF hm hc35
  refine WP.skip ?_
  refine WQ.block_normal ?_
  refine WQ.then_normal (hK2 _ _ _ ?_)
  refine WP.seq (fun K37 hK37 => ?_)
  refine WP.region ?_
  refine WL.runk 1 [2] [(2, .int .i64 (-1))] (by kernel_rfl) ?_
  refine WL.nil ?_
  refine WQ.then_normal (hK37 _ _ _ ?_)
  refine WP.ret ?_
  obtain rfl := Option.some.inj hm
  exact WQ.ret1 _ rfl rfl ⟨rfl, hb29⟩

theorem c_53 (n : Nat) (kind_0 : Int) (w : World) {r : Int} (hm : m_impl_mostChange n kind_0 = some r)  :
    CallV Try.prog 53 #[.int .i64 kind_0] w (fun v w' => v = .int .i64 r ∧ Ext w w') := by
  unfold m_impl_mostChange at hm
  refine CallV.enter Try.func53 rfl (by kernel_rfl) Try.ntmps53 (env := [(0, .int .i64 kind_0)]) ⟨rfl, trivial⟩ ?_
  refine WP.seq (fun K1 hK1 => ?_)
  refine WP.region ?_
  refine WL.runk 1 [0] [(0, .int .i64 kind_0)] (by kernel_rfl) ?_
  refine WL.nil ?_
  refine WQ.then_normal (hK1 _ _ _ ?_)
  refine WP.seq (fun K2 hK2 => ?_)
  refine WP.seq (fun K3 hK3 => ?_)
  refine WP.region ?_
  refine WL.runk 1 [3] [(3, .int .i64 kind_0)] (by kernel_rfl) ?_
  refine WL.nil ?_
  refine WQ.then_normal (hK3 _ _ _ ?_)
  refine WP.block ?_
  refine WP.seq (fun K4 hK4 => ?_)
  refine WP.region ?_
  refine WL.runk 2 [3, 4] [(3, .int .i64 kind_0), (4, .bool (kind_0 == 1))] (by kernel_rfl) ?_
  refine WL.nil ?_
  refine WQ.then_normal (hK4 _ _ _ ?_)
  refine WP.cond (kind_0 == 1) rfl rfl (fun hc5 => ?_) (fun hc5 => ?_)
  · have hm := iteT hm hc5
    refine WP.seq (fun K6 hK6 => ?_)
    refine WP.region ?_
    refine WL.runk 1 [2] [(2, .int .i64 200)] (by kernel_rfl) ?_
    refine WL.nil ?_
    refine WQ.then_normal (hK6 _ _ _ ?_)
    refine WP.ret ?_
    refine WQ.block_ret ?_
    refine WQ.then_ret ?_
    obtain rfl := Option.some.inj hm
    exact WQ.ret1 _ rfl rfl ⟨rfl, (Ext.refl w)⟩
  have hm := iteF hm hc5
  refine WP.seq (fun K7 hK7 => ?_)
  refine WP.seq (fun K8 hK8 => ?_)
  refine WP.region ?_
  refine WL.runk 2 [3, 6] [(3, .int .i64 kind_0), (6, .bool (kind_0 == 2))] (by kernel_rfl) ?_
  refine WL.nil ?_
  refine WQ.then_normal (hK8 _ _ _ ?_)
  obtain ⟨x18, hx19, hm⟩ := bindE hm
  refine WP.cut (fun env' w' => env' = [(3, .int .i64 kind_0), (6, .bool x18)] ∧ Ext w w' ∧ w.heap.size ≤ w'.heap.size ∧ SH w' w.heap.size []) ?_ ?_
  · have hm := hx19; clear hx19
    refine WP.cond (kind_0 == 2) rfl rfl (fun hc9 => ?_) (fun hc9 => ?_)
    · have hm := iteT hm hc9
      refine WP.skip ?_
      obtain rfl := Option.some.inj hm
      exact WQ.post' ⟨rfl, (Ext.refl w), (Nat.le_refl _), (SH.nil _ _)⟩ ⟨rfl, rfl, trivial⟩
    have hm := iteF hm hc9
    refine WP.seq (fun K20 hK20 => ?_)
    refine WP.region ?_
    refine WL.runk 2 [3, 6] [(3, .int .i64 kind_0), (6, .bool (kind_0 == 3))] (by kernel_rfl) ?_
    refine WL.nil ?_
    refine WQ.then_normal (hK20 _ _ _ ?_)
    obtain ⟨x22, hx23, hm⟩ := bindE hm
    refine WP.cut (fun env' w' => env' = [(3, .int .i64 kind_0), (6, .bool x22)] ∧ Ext w w' ∧ w.heap.size ≤ w'.heap.size ∧ SH w' w.heap.size []) ?_ ?_
    rotate_left
    · clear hx23
      rintro _ w24 ⟨rfl, hb25, hL26, hS27⟩
      obtain rfl := Option.some.inj hm
      exact WQ.post' ⟨rfl, hb25, hL26, hS27⟩ ⟨rfl, rfl, trivial⟩
    have hm := hx23; clear hx23
    refine WP.cond (kind_0 == 3) rfl rfl (fun hc21 => ?_) (fun hc21 => ?_)
    · have hm := iteT hm hc21
      refine WP.skip ?_
      obtain rfl := Option.some.inj hm
      exact WQ.post' ⟨rfl, (Ext.refl w), (Nat.le_refl _), (SH.nil _ _)⟩ ⟨rfl, rfl, trivial⟩
    have hm := iteF hm hc21
    refine WP.region ?_
    refine WL.runk 2 [3, 6] [(3, .int .i64 kind_0), (6, .bool (kind_0 == 4))] (by kernel_rfl) ?_
    refine WL.nil ?_
    obtain rfl := Option.some.inj hm
    exact WQ.post' ⟨rfl, (Ext.refl w), (Nat.le_refl _), (SH.nil _ _)⟩ ⟨rfl, rfl, trivial⟩
  clear hx19
  rintro _ w28 ⟨rfl, hb29, hL30, hS31⟩
  refine WQ.then_normal (hK7 _ _ _ ?_)
  refine WP.cond x18 rfl rfl (fun hc32 => ?_) (fun hc32 => ?_)
  · have hm := iteT hm hc32
    refine WP.seq (fun K33 hK33 => ?_)
    refine WP.region ?_
    refine WL.runk 1 [2] [(2, .int .i64 300)] (by kernel_rfl) ?_
    refine WL.nil ?_
    refine WQ.then_normal (hK33 _ _ _ ?_)
    refine WP.ret ?_
    refine WQ.block_ret ?_
    refine WQ.then_ret ?_
    obtain rfl := Option.some.inj hm
    exact WQ.ret1 _ rfl rfl ⟨rfl, hb29⟩
  have hm := iteF hm hc32
  refine WP.seq (fun K34 hK34 => ?_)
  refine WP.region ?_
  refine WL.runk 2 [10] [(10, .bool (kind_0 == 5))] (by kernel_rfl) ?_
  refine WL.nil ?_
  refine WQ.then_normal (hK34 _ _ _ ?_)
  refine WP.cond (kind_0 == 5) rfl rfl (fun hc35 => ?_) (fun hc35 => ?_)
  · have hm := iteT hm hc35
    refine WP.seq (fun K36 hK36 => ?_)
    refine WP.region ?_
    refine WL.runk 1 [2] [(2, .int .i64 150)] (by kernel_rfl) ?_
    refine WL.nil ?_
    refine WQ.then_normal (hK36 _ _ _ ?_)
    refine WP.ret ?_
    refine WQ.block_ret ?_
    refine WQ.then_ret ?_
    obtain rfl := Option.some.inj hm
    exact WQ.ret1 _ rfl rfl ⟨rfl, hb29⟩
  have hm := iteF hm hc35
  refine WP.skip ?_
  refine WQ.block_normal ?_
  refine WQ.then_normal (hK2 _ _ _ ?_)
  refine WP.seq (fun K37 hK37 => ?_)
  refine WP.region ?_
  refine WL.runk 1 [2] [(2, .int .i64 0)] (by kernel_rfl) ?_
  refine WL.nil ?_
  refine WQ.then_normal (hK37 _ _ _ ?_)
  refine WP.ret ?_
  obtain rfl := Option.some.inj hm
  exact WQ.ret1 _ rfl rfl ⟨rfl, hb29⟩

theorem c_16 (n : Nat) (a_0 : List SChange) (a0' : Option Addr) (c0' : Nat) (left_1 : Int) (w : World) {r : Int} (hm : m_laws_szChangeS n a_0 left_1 = some r) (_h0 : Rd fChange.ty w a0' a_0) (_hle0 : a_0.length ≤ c0') :
    CallV Try.prog 16 #[.slice a0' a_0.length c0', .int .i64 left_1] w (fun v w' => v = .int .i64 r ∧ Ext w w') := by
  unfold m_laws_szChangeS at hm
  refine CallV.enter Try.func16 rfl (by kernel_rfl) Try.ntmps16 (env := [(0, .slice a0' a_0.length c0'), (1, .int .i64 left_1)]) ⟨rfl, rfl, trivial⟩ ?_
  refine WP.seq (fun K1 hK1 => ?_)
  refine WP.region ?_
  refine WL.runk 1 [0, 1] [(0, .slice a0' a_0.length c0'), (1, .int .i64 left_1)] (by kernel_rfl) ?_
  refine WL.nil ?_
  refine WQ.then_normal (hK1 _ _ _ ?_)
  refine WP.seq (fun K2 hK2 => ?_)
  refine WP.region ?_
  refine WL.runk 5 [1] [(1, .int .i64 (wI64 (left_1 - (a_0.length : Int))))] (by kernel_rfl) ?_
  refine WL.nil ?_
  refine WQ.then_normal (hK2 _ _ _ ?_)
  refine WP.seq (fun K3 hK3 => ?_)
  refine WP.seq (fun K4 hK4 => ?_)
  refine WP.region ?_
  refine WL.runk 2 [1, 10] [(1, .int .i64 (wI64 (left_1 - (a_0.length : Int)))), (10, .bool (decide ((wI64 (left_1 - (a_0.length : Int))) < 0)))] (by kernel_rfl) ?_
  refine WL.nil ?_
  refine WQ.then_normal (hK4 _ _ _ ?_)
  refine WP.cond (decide ((wI64 (left_1 - (a_0.length : Int))) < 0)) rfl rfl (fun hc5 => ?_) (fun hc5 => ?_)
  · have hm := iteT hm hc5
    refine WP.seq (fun K6 hK6 => ?_)
    refine WP.region ?_
    refine WL.runk 1 [4] [(4, .int .i64 (-1))] (by kernel_rfl) ?_
    refine WL.nil ?_
    refine WQ.then_normal (hK6 _ _ _ ?_)
    refine WP.ret ?_
    refine WQ.then_ret ?_
    obtain rfl := Option.some.inj hm
    exact WQ.ret1 _ rfl rfl ⟨rfl, (Ext.refl w)⟩
  have hm := iteF hm hc5
  refine WP.skip ?_
  refine WQ.then_normal (hK3 _ _ _ ?_)
  refine WP.seq (fun K7 hK7 => ?_)
  refine WP.region ?_
  refine WL.runk 2 [4] [(4, .int .i64 (wI64 (left_1 - (a_0.length : Int))))] (by kernel_rfl) ?_
  refine WL.nil ?_
  refine WQ.then_normal (hK7 _ _ _ ?_)
  refine WP.ret ?_
  obtain rfl := Option.some.inj hm
  exact WQ.ret1 _ rfl rfl ⟨rfl, (Ext.refl w)⟩

theorem c_29 (n : Nat) (a_0 : SChange) (w : World) {r : SChange} (hm : m_laws_toChange n a_0 = some r)  :
    CallV Try.prog 29 #[.agg #[.int .i64 a_0.Kind, .int .i64 a_0.Amount]] w (fun v w' => v = .agg #[.int .i64 r.Kind, .int .i64 r.Amount] ∧ Ext w w') := by
  unfold m_laws_toChange at hm
  refine CallV.enter Try.func29 rfl (by kernel_rfl) Try.ntmps29 (env := [(0, .agg #[.int .i64 a_0.Kind, .int .i64 a_0.Amount])]) ⟨rfl, trivial⟩ ?_
  refine WP.seq (fun K1 hK1 => ?_)
  refine WP.region ?_
  refine WL.box 40 [.int .i64 a_0.Kind, .int .i64 a_0.Amount] 1 (by kernel_rfl) rfl rfl rfl rfl ?_
  intro b2 w3 hE4 hR5
  have hb7 : Ext w w3 := Ext.trans (Ext.refl w) hE4
  have hL8 : w.heap.size ≤ w3.heap.size := Nat.le_trans (Nat.le_refl _) hE4.size
  have hS9 : SH w3 w.heap.size [aBox 40 b2 [.int .i64 a_0.Kind, .int .i64 a_0.Amount]] := SH.add (SH.nil _ _) hE4 (Nat.le_refl _) hR5
  refine WL.box 42 [.int .i64 0, .int .i64 0] 2 (by kernel_rfl) rfl rfl rfl rfl ?_
  intro b10 w11 hE12 hR13
  have hb15 : Ext w w11 := Ext.trans hb7 hE12
  have hL16 : w.heap.size ≤ w11.heap.size := Nat.le_trans hL8 hE12.size
  have hS17 : SH w11 w.heap.size [aBox 42 b10 [.int .i64 0, .int .i64 0], aBox 40 b2 [.int .i64 a_0.Kind, .int .i64 a_0.Amount]] := SH.add hS9 hE12 hL8 hR13
  refine WL.sub [(1, .pointer (some ⟨b2, 0, none⟩)), (2, .pointer (some ⟨b10, 0, none⟩))] ⟨rfl, rfl, trivial⟩ ?_
  refine WL.nil ?_
  refine WQ.then_normal (hK1 _ _ _ ?_)
  refine WP.seq (fun K18 hK18 => ?_)
  refine WP.region ?_
  refine WL.box 42 [.int .i64 0, .int .i64 0] 3 (by kernel_rfl) rfl rfl rfl rfl ?_
  intro b19 w20 hE21 hR22
  have hb24 : Ext w w20 := Ext.trans hb15 hE21
  have hL25 : w.heap.size ≤ w20.heap.size := Nat.le_trans hL16 hE21.size
  have hS26 : SH w20 w.heap.size [aBox 42 b19 [.int .i64 0, .int .i64 0], aBox 42 b10 [.int .i64 0, .int .i64 0], aBox 40 b2 [.int .i64 a_0.Kind, .int .i64 a_0.Amount]] := SH.add hS17 hE21 hL16 hR22
  refine WL.sub [(1, .pointer (some ⟨b2, 0, none⟩)), (2, .pointer (some ⟨b10, 0, none⟩)), (3, .pointer (some ⟨b19, 0, none⟩))] ⟨rfl, rfl, rfl, trivial⟩ ?_
  refine WL.nil ?_
  refine WQ.then_normal (hK18 _ _ _ ?_)
  refine WP.seq (fun K27 hK27 => ?_)
  refine WP.region ?_
  refine WL.runk 1 [1, 2, 3, 4] [(1, .pointer (some ⟨b2, 0, none⟩)), (2, .pointer (some ⟨b10, 0, none⟩)), (3, .pointer (some ⟨b19, 0, none⟩)), (4, .pointer (some ⟨b2, 0, none⟩))] (by kernel_rfl) ?_
  refine WL.st (.int .i64 a_0.Kind) (ST.load (cell_ext (SH.boxAt (SH.front 2 hS26) 0 _ rfl)) rfl rfl Try.underlying2 rfl) rfl rfl rfl ?_
  refine WL.runk 1 [1, 2, 3, 5, 6] [(1, .pointer (some ⟨b2, 0, none⟩)), (2, .pointer (some ⟨b10, 0, none⟩)), (3, .pointer (some ⟨b19, 0, none⟩)), (5, .int .i64 a_0.Kind), (6, .pointer (some ⟨b19, 0, none⟩))] (by kernel_rfl) ?_
  refine WL.boxStore 0 [.int .i64 a_0.Kind] [.int .i64 a_0.Kind, .int .i64 0] (SH.front 0 hS26) hL25 rfl rfl rfl rfl rfl rfl rfl (info2).1 (info2).2.1 rfl rfl rfl ?_
  intro w28 hB29 hS30
  have hb31 : Ext w w28 := Below.trans hb24 hB29
  have hL32 : w.heap.size ≤ w28.heap.size := Nat.le_trans hL25 hB29.size
  refine WL.sub [(1, .pointer (some ⟨b2, 0, none⟩)), (2, .pointer (some ⟨b10, 0, none⟩)), (3, .pointer (some ⟨b19, 0, none⟩))] ⟨rfl, rfl, rfl, trivial⟩ ?_
  refine WL.nil ?_
  refine WQ.then_normal (hK27 _ _ _ ?_)
  refine WP.seq (fun K33 hK33 => ?_)
  refine WP.region ?_
  refine WL.runk 1 [2, 3, 7] [(2, .pointer (some ⟨b10, 0, none⟩)), (3, .pointer (some ⟨b19, 0, none⟩)), (7, .pointer (some ⟨b2, 1, none⟩))] (by kernel_rfl) ?_
  refine WL.st (.int .i64 a_0.Amount) (ST.load (cell_ext (SH.boxAt (SH.front 2 hS30) 1 _ rfl)) rfl rfl Try.underlying2 rfl) rfl rfl rfl ?_
  refine WL.runk 1 [2, 3, 8, 9] [(2, .pointer (some ⟨b10, 0, none⟩)), (3, .pointer (some ⟨b19, 0, none⟩)), (8, .int .i64 a_0.Amount), (9, .pointer (some ⟨b19, 1, none⟩))] (by kernel_rfl) ?_
  refine WL.boxStore 1 [.int .i64 a_0.Amount] [.int .i64 a_0.Kind, .int .i64 a_0.Amount] (SH.front 0 hS30) hL32 rfl rfl rfl rfl rfl rfl rfl (info2).1 (info2).2.1 rfl rfl rfl ?_
  intro w34 hB35 hS36
  have hb37 : Ext w w34 := Below.trans hb31 hB35
  have hL38 : w.heap.size ≤ w34.heap.size := Nat.le_trans hL32 hB35.size
  refine WL.sub [(2, .pointer (some ⟨b10, 0, none⟩)), (3, .pointer (some ⟨b19, 0, none⟩))] ⟨rfl, rfl, trivial⟩ ?_
  refine WL.nil ?_
  refine WQ.then_normal (hK33 _ _ _ ?_)
  refine WP.seq (fun K39 hK39 => ?_)
  refine WP.region ?_
  refine WL.st (.agg #[.int .i64 a_0.Kind, .int .i64 a_0.Amount]) (ST.loadAgg (vs := [.int .i64 a_0.Kind, .int .i64 a_0.Amount]) (fun j v hv => SH.boxPart (us := [.int .i64 a_0.Kind, .int .i64 a_0.Amount]) (SH.front 0 hS36) 0 rfl j v hv) rfl rfl rfl Try.underlying42 rfl (info42).1 (info42).2.1) rfl rfl rfl ?_
  refine WL.boxStore 0 [.int .i64 a_0.Kind, .int .i64 a_0.Amount] [.int .i64 a_0.Kind, .int .i64 a_0.Amount] (SH.front 1 hS36) hL38 rfl rfl rfl rfl rfl rfl rfl (info42).1 (info42).2.1 rfl rfl rfl ?_
  intro w40 hB41 hS42
  have hb43 : Ext w w40 := Below.trans hb37 hB41
  have hL44 : w.heap.size ≤ w40.heap.size := Nat.le_trans hL38 hB41.size
  refine WL.sub [(2, .pointer (some ⟨b10, 0, none⟩))] ⟨rfl, trivial⟩ ?_
  refine WL.nil ?_
  refine WQ.then_normal (hK39 _ _ _ ?_)
  refine WP.ret ?_
  obtain rfl := Option.some.inj hm
  exact WQ.retv1 _ rfl (RVal.box (SH.front 0 hS42) rfl Try.underlying42 rfl (info42).1 (info42).2.1) ⟨rfl, hb43⟩

theorem c_18 (n : Nat) (a_0 : List SChange) (a0' : Option Addr) (c0' : Nat) (w : World) {r : List SChange} (hm : m_laws_toChangeS n a_0 = some r) (h0 : Rd fChange.ty w a0' a_0) (_hle0 : a_0.length ≤ c0') :
    CallV Try.prog 18 #[.slice a0' a_0.length c0'] w (fun v w' => ∃ (ra0 : Option Addr) (rc0 : Nat), v = .slice ra0 r.length rc0 ∧ Ext w w' ∧ SH w' w.heap.size [aOwn fChange 42 ra0 rc0 r]) := by
  unfold m_laws_toChangeS at hm
  refine CallV.enter Try.func18 rfl (by kernel_rfl) Try.ntmps18 (env := [(0, .slice a0' a_0.length c0')]) ⟨rfl, trivial⟩ ?_
  refine WP.seq (fun K1 hK1 => ?_)
  refine WP.region ?_
  refine WL.runk 1 [0] [(0, .slice a0' a_0.length c0')] (by kernel_rfl) ?_
  refine WL.nil ?_
  refine WQ.then_normal (hK1 _ _ _ ?_)
  refine WP.seq (fun K2 hK2 => ?_)
  refine WP.region ?_
  refine WL.runk 2 [0, 6] [(0, .slice a0' a_0.length c0'), (6, .int .i64 (a_0.length : Int))] (by kernel_rfl) ?_
  obtain ⟨x3, hx4, hm⟩ := bindE hm
  refine WL.make fChange 7 hx4 rfl rfl rfl Try.underlying28 (info42).1 (info42).2.2.1 (info42).2.1 (info42).2.2.2 rfl rfl rfl rfl rfl ?_
  intro a5 c6 w7 hE8 hR9
  have hb11 : Ext w w7 := Ext.trans (Ext.refl w) hE8
  have hL12 : w.heap.size ≤ w7.heap.size := Nat.le_trans (Nat.le_refl _) hE8.size
  have hS13 : SH w7 w.heap.size [aOwn fChange 42 a5 c6 x3] := SH.add (SH.nil _ _) hE8 (Nat.le_refl _) hR9
  refine WL.runk 1 [0, 3] [(0, .slice a0' a_0.length c0'), (3, .slice a5 x3.length c6)] (by kernel_rfl) ?_
  refine WL.nil ?_
  refine WQ.then_normal (hK2 _ _ _ ?_)
  refine WP.seq (fun K14 hK14 => ?_)
  refine WP.seq (fun K15 hK15 => ?_)
  refine WP.region ?_
  refine WL.runk 1 [0, 3, 4] [(0, .slice a0' a_0.length c0'), (3, .slice a5 x3.length c6), (4, .int .i64 0)] (by kernel_rfl) ?_
  refine WL.nil ?_
  refine WQ.then_normal (hK15 _ _ _ ?_)
  refine WP.block ?_
  obtain ⟨t62, ht63, hm⟩ := bindE hm
  have hmo57 := hm; clear hm
  refine WP.sub [(0, .slice a0' a_0.length c0'), (3, .slice a5 x3.length c6), (4, .int .i64 0)] ⟨rfl, rfl, rfl, trivial⟩ ?_
  refine WP.loop (fun n' env' w' => ∃ (st51 : Int × List SChange) , env' = [(0, .slice a0' a_0.length c0'), (3, .slice a5 st51.2.length c6), (4, .int .i64 st51.1)] ∧ Ext w w' ∧ w.heap.size ≤ w'.heap.size ∧ SH w' w.heap.size [aOwn fChange 42 a5 c6 st51.2] ∧ loopN (m_laws_toChangeS_l1 n a_0) n' st51 = some t62) n ⟨(0, x3), rfl, hb11, hL12, hS13, ht63⟩ ?_
  rintro n59 _ w52 ⟨st51, rfl, hb53, hL54, hS55, hl56⟩ K58 hK58
  obtain ⟨n60, s61, rfl, hm, hl56⟩ := loopN_some hl56
  unfold m_laws_toChangeS_l1 at hm
  refine WP.seq (fun K64 hK64 => ?_)
  refine WP.seq (fun K65 hK65 => ?_)
  refine WP.region ?_
  refine WL.runk 4 [0, 3, 4, 11] [(0, .slice a0' a_0.length c0'), (3, .slice a5 st51.2.length c6), (4, .int .i64 st51.1), (11, .bool (decide (st51.1 < (a_0.length : Int))))] (by kernel_rfl) ?_
  refine WL.nil ?_
  refine WQ.then_normal (hK65 _ _ _ ?_)
  refine WP.cond (decide (st51.1 < (a_0.length : Int))) rfl rfl (fun hc66 => ?_) (fun hc66 => ?_)
  rotate_left
  · have hm := iteF hm hc66
    refine WP.exit ?_
    refine WQ.then_exit ?_
    refine WQ.then_exit ?_
    refine WQ.block_here ?_
    obtain rfl := Option.some.inj hm
    obtain rfl := afterN_done hl56
    have hm := hmo57
    refine WQ.then_normal (hK14 _ _ _ ?_)
    refine WP.seq (fun K85 hK85 => ?_)
    refine WP.region ?_
    refine WL.runk 2 [2] [(2, .slice a5 st51.2.length c6)] (by kernel_rfl) ?_
    refine WL.nil ?_
    refine WQ.then_normal (hK85 _ _ _ ?_)
    refine WP.ret ?_
    obtain rfl := Option.some.inj hm
    exact WQ.ret1 _ rfl rfl ⟨_, _, rfl, hb53, hS55⟩
  have hm := iteT hm hc66
  refine WP.skip ?_
  refine WQ.then_normal (hK64 _ _ _ ?_)
  refine WP.seq (fun K67 hK67 => ?_)
  refine WP.block ?_
  refine WP.region ?_
  refine WL.runk 4 [0, 3, 4, 14, 15, 16, 17] [(0, .slice a0' a_0.length c0'), (3, .slice a5 st51.2.length c6), (4, .int .i64 st51.1), (14, .slice a5 st51.2.length c6), (15, .int .i64 st51.1), (16, .slice a0' a_0.length c0'), (17, .int .i64 st51.1)] (by kernel_rfl) ?_
  obtain ⟨x68, hx69, hm⟩ := bindE hm
  refine WL.st (.pointer (some (at_ a0' (Int.toNat st51.1 * 2)))) (ST.index (T := fChange.ty) (xs := a_0) (Rd.below h0 hb53) hx69 rfl rfl rfl Try.underlying25 (info40).1 (info40).2.1) rfl rfl rfl ?_
  refine WL.st (.agg #[.int .i64 x68.Kind, .int .i64 x68.Amount]) (ST.loadAgg (vs := fChange.leaf x68) (fun j v hv => Rd.flatA (F := fChange) (Rd.below h0 hb53) hx69 j hv) rfl rfl rfl Try.underlying40 rfl (info40).1 (info40).2.1) rfl rfl rfl ?_
  obtain ⟨x70, hx71, hm⟩ := bindE hm
  refine WL.call 29 #[.agg #[.int .i64 x68.Kind, .int .i64 x68.Amount]] rfl rfl (by kernel_rfl) (c_29 n x68 w52 hx71 ) ?_
  rintro _ w72 ⟨rfl, hE73⟩
  refine ⟨_, rfl, ?_⟩
  have hb75 : Ext w w72 := Ext.trans hb53 hE73
  have hL76 : w.heap.size ≤ w72.heap.size := Nat.le_trans hL54 hE73.size
  have hS77 : SH w72 w.heap.size [aOwn fChange 42 a5 c6 st51.2] := SH.ext hS55 hE73
  obtain ⟨x78, hx79, hm⟩ := bindE hm
  refine WL.st (.pointer (some (at_ a5 (Int.toNat st51.1 * 2)))) (ST.index (T := fChange.ty) (xs := st51.2) (SH.rd (SH.front 0 hS77)) hx79 rfl rfl rfl Try.underlying28 (info42).1 (info42).2.1) rfl rfl rfl ?_
  refine WL.store (F := fChange) x70 0 [.int .i64 x70.Kind, .int .i64 x70.Amount] (SH.front 0 hS77) hL76 hx79 rfl rfl rfl rfl rfl rfl rfl (info42).1 (info42).2.1 rfl rfl rfl ?_
  intro w80 hB81 hS82
  have hb83 : Ext w w80 := Below.trans hb75 hB81
  have hL84 : w.heap.size ≤ w80.heap.size := Nat.le_trans hL76 hB81.size
  refine WL.sub [(0, .slice a0' a_0.length c0'), (3, .slice a5 ((st51.2.set (Int.toNat st51.1) x70).length) c6), (4, .int .i64 st51.1), (14, .slice a5 ((st51.2.set (Int.toNat st51.1) x70).length) c6), (15, .int .i64 st51.1), (16, .slice a0' a_0.length c0'), (17, .int .i64 st51.1), (18, .pointer (some (at_ a0' (Int.toNat st51.1 * 2)))), (19, .agg #[.int .i64 x68.Kind, .int .i64 x68.Amount]), (20, .agg #[.int .i64 x70.Kind, .int .i64 x70.Amount])] ⟨rfl, by first | (simp only [List.length_set]; done) | (simp only [List.length_set]; rfl), rfl, by first | (simp only [List.length_set]; done) | (simp only [List.length_set]; rfl), rfl, rfl, rfl, rfl, rfl, rfl, trivial⟩ ?_
  refine WL.sub [(0, .slice a0' a_0.length c0'), (3, .slice a5 ((st51.2.set (Int.toNat st51.1) x70).length) c6), (4, .int .i64 st51.1)] ⟨rfl, rfl, rfl, trivial⟩ ?_
  refine WL.nil ?_
  refine WQ.block_normal ?_
  refine WQ.then_normal (hK67 _ _ _ ?_)
  refine WP.region ?_
  refine WL.runk 3 [0, 3, 4] [(0, .slice a0' a_0.length c0'), (3, .slice a5 ((st51.2.set (Int.toNat st51.1) x70).length) c6), (4, .int .i64 (wI64 (st51.1 + 1)))] (by kernel_rfl) ?_
  refine WL.nil ?_
  obtain rfl := Option.some.inj hm
  exact WQ.round hK58 ⟨((wI64 (st51.1 + 1)), (st51.2.set (Int.toNat st51.1) x70)), rfl, hb83, hL84, hS82, hl56⟩ (Nat.lt_succ_self _) ⟨rfl, rfl, rfl, trivial⟩

theorem c_55 (n : Nat) (a_0 : SChange) (b_1 : SChange) (w : World) {r : Bool} (hm : m_laws_eqChange n a_0 b_1 = some r)  :
    CallV Try.prog 55 #[.agg #[.int .i64 a_0.Kind, .int .i64 a_0.Amount], .agg #[.int .i64 b_1.Kind, .int .i64 b_1.Amount]] w (fun v w' => v = .bool r ∧ Ext w w') := by
  unfold m_laws_eqChange at hm
  refine CallV.enter Try.func55 rfl (by kernel_rfl) Try.ntmps55 (env := [(0, .agg #[.int .i64 a_0.Kind, .int .i64 a_0.Amount]), (1, .agg #[.int .i64 b_1.Kind, .int .i64 b_1.Amount])]) ⟨rfl, rfl, trivial⟩ ?_
  refine WP.seq (fun K1 hK1 => ?_)
  refine WP.region ?_
  refine WL.box 42 [.int .i64 a_0.Kind, .int .i64 a_0.Amount] 2 (by kernel_rfl) rfl rfl rfl rfl ?_
  intro b2 w3 hE4 hR5
  have hb7 : Ext w w3 := Ext.trans (Ext.refl w) hE4
  have hL8 : w.heap.size ≤ w3.heap.size := Nat.le_trans (Nat.le_refl _) hE4.size
  have hS9 : SH w3 w.heap.size [aBox 42 b2 [.int .i64 a_0.Kind, .int .i64 a_0.Amount]] := SH.add (SH.nil _ _) hE4 (Nat.le_refl _) hR5
  refine WL.box 42 [.int .i64 b_1.Kind, .int .i64 b_1.Amount] 3 (by kernel_rfl) rfl rfl rfl rfl ?_
  intro b10 w11 hE12 hR13
  have hb15 : Ext w w11 := Ext.trans hb7 hE12
  have hL16 : w.heap.size ≤ w11.heap.size := Nat.le_trans hL8 hE12.size
  have hS17 : SH w11 w.heap.size [aBox 42 b10 [.int .i64 b_1.Kind, .int .i64 b_1.Amount], aBox 42 b2 [.int .i64 a_0.Kind, .int .i64 a_0.Amount]] := SH.add hS9 hE12 hL8 hR13
  refine WL.runk 1 [2, 3] [(2, .pointer (some ⟨b2, 0, none⟩)), (3, .pointer (some ⟨b10, 0, none⟩))] (by kernel_rfl) ?_
  refine WL.nil ?_
  refine WQ.then_normal (hK1 _ _ _ ?_)
  refine WP.seq (fun K18 hK18 => ?_)
  refine WP.seq (fun K19 hK19 => ?_)
  refine WP.region ?_
  refine WL.runk 1 [2, 3, 5] [(2, .pointer (some ⟨b2, 0, none⟩)), (3, .pointer (some ⟨b10, 0, none⟩)), (5, .pointer (some ⟨b2, 0, none⟩))] (by kernel_rfl) ?_
  refine WL.st (.int .i64 a_0.Kind) (ST.load (cell_ext (SH.boxAt (SH.front 1 hS17) 0 _ rfl)) rfl rfl Try.underlying2 rfl) rfl rfl rfl ?_
  refine WL.runk 1 [2, 3, 6, 7] [(2, .pointer (some ⟨b2, 0, none⟩)), (3, .pointer (some ⟨b10, 0, none⟩)), (6, .int .i64 a_0.Kind), (7, .pointer (some ⟨b10, 0, none⟩))] (by kernel_rfl) ?_
  refine WL.st (.int .i64 b_1.Kind) (ST.load (cell_ext (SH.boxAt (SH.front 0 hS17) 0 _ rfl)) rfl rfl Try.underlying2 rfl) rfl rfl rfl ?_
  refine WL.runk 1 [2, 3, 9] [(2, .pointer (some ⟨b2, 0, none⟩)), (3, .pointer (some ⟨b10, 0, none⟩)), (9, .bool (a_0.Kind != b_1.Kind))] (by kernel_rfl) ?_
  refine WL.nil ?_
  refine WQ.then_normal (hK19 _ _ _ ?_)
  refine WP.cond (a_0.Kind != b_1.Kind) rfl rfl (fun hc20 => ?_) (fun hc20 => ?_)
  · have hm := iteT hm hc20
    refine WP.seq (fun K21 hK21 => ?_)
    refine WP.region ?_
    refine WL.runk 1 [4] [(4, .bool false)] (by kernel_rfl) ?_
    refine WL.nil ?_
    refine WQ.then_normal (hK21 _ _ _ ?_)
    refine WP.ret ?_
    refine WQ.then_ret ?_
    obtain rfl := Option.some.inj hm
    exact WQ.ret1 _ rfl rfl ⟨rfl, hb15⟩
  have hm := iteF hm hc20
  refine WP.skip ?_
  refine WQ.then_normal (hK18 _ _ _ ?_)
  refine WP.seq (fun K22 hK22 => ?_)
  refine WP.seq (fun K23 hK23 => ?_)
  refine WP.region ?_
  refine WL.runk 1 [3, 10] [(3, .pointer (some ⟨b10, 0, none⟩)), (10, .pointer (some ⟨b2, 1, none⟩))] (by kernel_rfl) ?_
  refine WL.st (.int .i64 a_0.Amount) (ST.load (cell_ext (SH.boxAt (SH.front 1 hS17) 1 _ rfl)) rfl rfl Try.underlying2 rfl) rfl rfl rfl ?_
  refine WL.runk 1 [11, 12] [(11, .int .i64 a_0.Amount), (12, .pointer (some ⟨b10, 1, none⟩))] (by kernel_rfl) ?_
  refine WL.st (.int .i64 b_1.Amount) (ST.load (cell_ext (SH.boxAt (SH.front 0 hS17) 1 _ rfl)) rfl rfl Try.underlying2 rfl) rfl rfl rfl ?_
  refine WL.runk 1 [14] [(14, .bool (a_0.Amount != b_1.Amount))] (by kernel_rfl) ?_
  refine WL.nil ?_
  refine WQ.then_normal (hK23 _ _ _ ?_)
  refine WP.cond (a_0.Amount != b_1.Amount) rfl rfl (fun hc24 => ?_) (fun hc24 => ?_)
  · have hm := iteT hm hc24
    refine WP.seq (fun K25 hK25 => ?_)
    refine WP.region ?_
    refine WL.runk 1 [4] [(4, .bool false)] (by kernel_rfl) ?_
    refine WL.nil ?_
    refine WQ.then_normal (hK25 _ _ _ ?_)
    refine WP.ret ?_
    refine WQ.then_ret ?_
    obtain rfl := Option.some.inj hm
    exact WQ.ret1 _ rfl rfl ⟨rfl, hb15⟩
  have hm := iteF hm hc24
  refine WP.skip ?_
  refine WQ.then_normal (hK22 _ _ _ ?_)
  refine WP.seq (fun K26 hK26 => ?_)
  refine WP.region ?_
  refine WL.runk 1 [4] [(4, .bool true)] (by kernel_rfl) ?_
  refine WL.nil ?_
  refine WQ.then_normal (hK26 _ _ _ ?_)
  refine WP.ret ?_
  obtain rfl := Option.some.inj hm
  exact WQ.ret1 _ rfl rfl ⟨rfl, hb15⟩

theorem c_20 (n : Nat) (a_0 : List SChange) (a0' : Option Addr) (c0' : Nat) (b_1 : List SChange) (a1' : Option Addr) (c1' : Nat) (w : World) {r : Bool} (hm : m_laws_eqChangeS n a_0 b_1 = some r) (h0 : Rd fChange.ty w a0' a_0) (_hle0 : a_0.length ≤ c0') (h1 : Rd fChange.ty w a1' b_1) (_hle1 : b_1.length ≤ c1') :
    CallV Try.prog 20 #[.slice a0' a_0.length c0', .slice a1' b_1.length c1'] w (fun v w' => v = .bool r ∧ Ext w w') := by
  unfold m_laws_eqChangeS at hm
  refine CallV.enter Try.func20 rfl (by kernel_rfl) Try.ntmps20 (env := [(0, .slice a0' a_0.length c0'), (1, .slice a1' b_1.length c1')]) ⟨rfl, rfl, trivial⟩ ?_
  refine WP.seq (fun K1 hK1 => ?_)
  refine WP.region ?_
  refine WL.runk 1 [0, 1] [(0, .slice a0' a_0.length c0'), (1, .slice a1' b_1.length c1')] (by kernel_rfl) ?_
  refine WL.nil ?_
  refine WQ.then_normal (hK1 _ _ _ ?_)
  refine WP.seq (fun K2 hK2 => ?_)
  refine WP.seq (fun K3 hK3 => ?_)
  refine WP.region ?_
  refine WL.runk 5 [0, 1, 10] [(0, .slice a0' a_0.length c0'), (1, .slice a1' b_1.length c1'), (10, .bool ((a_0.length : Int) != (b_1.length : Int)))] (by kernel_rfl) ?_
  refine WL.nil ?_
  refine WQ.then_normal (hK3 _ _ _ ?_)
  refine WP.cond ((a_0.length : Int) != (b_1.length : Int)) rfl rfl (fun hc4 => ?_) (fun hc4 => ?_)
  · have hm := iteT hm hc4
    refine WP.seq (fun K5 hK5 => ?_)
    refine WP.region ?_
    refine WL.runk 1 [4] [(4, .bool false)] (by kernel_rfl) ?_
    refine WL.nil ?_
    refine WQ.then_normal (hK5 _ _ _ ?_)
    refine WP.ret ?_
    refine WQ.then_ret ?_
    obtain rfl := Option.some.inj hm
    exact WQ.ret1 _ rfl rfl ⟨rfl, (Ext.refl w)⟩
  have hm := iteF hm hc4
  refine WP.skip ?_
  refine WQ.then_normal (hK2 _ _ _ ?_)
  refine WP.seq (fun K6 hK6 => ?_)
  refine WP.seq (fun K7 hK7 => ?_)
  refine WP.region ?_
  refine WL.runk 1 [0, 1, 5] [(0, .slice a0' a_0.length c0'), (1, .slice a1' b_1.length c1'), (5, .int .i64 0)] (by kernel_rfl) ?_
  refine WL.nil ?_
  refine WQ.then_normal (hK7 _ _ _ ?_)
  refine WP.block ?_
  obtain ⟨t19, ht20, hm⟩ := bindE hm
  have hmo14 := hm; clear hm
  refine WP.sub [(0, .slice a0' a_0.length c0'), (1, .slice a1' b_1.length c1'), (5, .int .i64 0)] ⟨rfl, rfl, rfl, trivial⟩ ?_
  refine WP.loop (fun n' env' w' => ∃ (st8 : Int) , env' = [(0, .slice a0' a_0.length c0'), (1, .slice a1' b_1.length c1'), (5, .int .i64 st8)] ∧ Ext w w' ∧ w.heap.size ≤ w'.heap.size ∧ SH w' w.heap.size [] ∧ loopN (m_laws_eqChangeS_l1 n a_0 b_1) n' st8 = some t19) n ⟨0, rfl, (Ext.refl w), (Nat.le_refl _), (SH.nil _ _), ht20⟩ ?_
  rintro n16 _ w9 ⟨st8, rfl, hb10, hL11, hS12, hl13⟩ K15 hK15
  obtain ⟨n17, s18, rfl, hm, hl13⟩ := loopN_some hl13
  unfold m_laws_eqChangeS_l1 at hm
  refine WP.seq (fun K21 hK21 => ?_)
  refine WP.seq (fun K22 hK22 => ?_)
  refine WP.region ?_
  refine WL.runk 4 [0, 1, 5, 14] [(0, .slice a0' a_0.length c0'), (1, .slice a1' b_1.length c1'), (5, .int .i64 st8), (14, .bool (decide (st8 < (a_0.length : Int))))] (by kernel_rfl) ?_
  refine WL.nil ?_
  refine WQ.then_normal (hK22 _ _ _ ?_)
  refine WP.cond (decide (st8 < (a_0.length : Int))) rfl rfl (fun hc23 => ?_) (fun hc23 => ?_)
  rotate_left
  · have hm := iteF hm hc23
    refine WP.exit ?_
    refine WQ.then_exit ?_
    refine WQ.then_exit ?_
    refine WQ.block_here ?_
    obtain rfl := Option.some.inj hm
    obtain rfl := afterN_done hl13
    have hm := hmo14
    refine WQ.then_normal (hK6 _ _ _ ?_)
    refine WP.seq (fun K41 hK41 => ?_)
    refine WP.region ?_
    refine WL.runk 1 [4] [(4, .bool true)] (by kernel_rfl) ?_
    refine WL.nil ?_
    refine WQ.then_normal (hK41 _ _ _ ?_)
    refine WP.ret ?_
    obtain rfl := Option.some.inj hm
    exact WQ.ret1 _ rfl rfl ⟨rfl, hb10⟩
  have hm := iteT hm hc23
  refine WP.skip ?_
  refine WQ.then_normal (hK21 _ _ _ ?_)
  refine WP.seq (fun K24 hK24 => ?_)
  refine WP.block ?_
  refine WP.seq (fun K25 hK25 => ?_)
  refine WP.quiet (by kernel_rfl) (by kernel_rfl) ?_
  refine QL.step1v 17 (.slice a0' a_0.length c0') rfl (fun _ => by kernel_rfl) ?_
  refine QL.step1v 18 (.int .i64 st8) rfl (fun _ => by kernel_rfl) ?_
  refine QL.sub [(0, .slice a0' a_0.length c0'), (1, .slice a1' b_1.length c1'), (5, .int .i64 st8), (17, .slice a0' a_0.length c0'), (18, .int .i64 st8)] ⟨rfl, rfl, rfl, rfl, rfl, trivial⟩ ?_
  obtain ⟨x26, hx27, hm⟩ := bindE hm
  refine QL.st (.pointer (some (at_ a0' (Int.toNat st8 * 2)))) (ST.index (T := fChange.ty) (xs := a_0) (Rd.below h0 hb10) hx27 rfl rfl rfl Try.underlying28 (info42).1 (info42).2.1) rfl rfl rfl ?_
  refine QL.st (.agg #[.int .i64 x26.Kind, .int .i64 x26.Amount]) (ST.loadAgg (vs := fChange.leaf x26) (fun j v hv => Rd.flatA (F := fChange) (Rd.below h0 hb10) hx27 j hv) rfl rfl rfl Try.underlying42 rfl (info42).1 (info42).2.1) rfl rfl rfl ?_
  refine QL.step1v 21 (.slice a1' b_1.length c1') rfl (fun _ => by kernel_rfl) ?_
  refine QL.step1v 22 (.int .i64 st8) rfl (fun _ => by kernel_rfl) ?_
  refine QL.sub [(0, .slice a0' a_0.length c0'), (1, .slice a1' b_1.length c1'), (5, .int .i64 st8), (20, .agg #[.int .i64 x26.Kind, .int .i64 x26.Amount]), (21, .slice a1' b_1.length c1'), (22, .int .i64 st8)] ⟨rfl, rfl, rfl, rfl, rfl, rfl, trivial⟩ ?_
  obtain ⟨x28, hx29, hm⟩ := bindE hm
  refine QL.st (.pointer (some (at_ a1' (Int.toNat st8 * 2)))) (ST.index (T := fChange.ty) (xs := b_1) (Rd.below h1 hb10) hx29 rfl rfl rfl Try.underlying28 (info42).1 (info42).2.1) rfl rfl rfl ?_
  refine QL.st (.agg #[.int .i64 x28.Kind, .int .i64 x28.Amount]) (ST.loadAgg (vs := fChange.leaf x28) (fun j v hv => Rd.flatA (F := fChange) (Rd.below h1 hb10) hx29 j hv) rfl rfl rfl Try.underlying42 rfl (info42).1 (info42).2.1) rfl rfl rfl ?_
  obtain ⟨x30, hx31, hm⟩ := bindE hm
  refine QL.call 55 #[.agg #[.int .i64 x26.Kind, .int .i64 x26.Amount], .agg #[.int .i64 x28.Kind, .int .i64 x28.Amount]] (.bool x30) (fun _ => by kernel_rfl) (fun w32 hE33 => c_55 n x26 x28 w32 hx31 ) rfl rfl rfl ?_
  refine QL.step1v 26 (.bool (!x30)) rfl (fun _ => by kernel_rfl) ?_
  refine QL.sub [(0, .slice a0' a_0.length c0'), (1, .slice a1' b_1.length c1'), (5, .int .i64 st8), (26, .bool (!x30))] ⟨rfl, rfl, rfl, rfl, trivial⟩ ?_
  refine QL.nil ?_
  intro w34 hE35
  have hb36 : Ext w w34 := Ext.trans hb10 hE35
  have hL37 : w.heap.size ≤ w34.heap.size := Nat.le_trans hL11 hE35.size
  have hS38 : SH w34 w.heap.size [] := SH.ext hS12 hE35
  refine WQ.then_normal (hK25 _ _ _ ?_)
  refine WP.cond (!x30) rfl rfl (fun hc39 => ?_) (fun hc39 => ?_)
  rotate_left
  · have hm := iteF hm hc39
    refine WP.skip ?_
    refine WQ.block_normal ?_
    refine WQ.then_normal (hK24 _ _ _ ?_)
    refine WP.region ?_
    refine WL.runk 3 [0, 1, 5] [(0, .slice a0' a_0.length c0'), (1, .slice a1' b_1.length c1'), (5, .int .i64 (wI64 (st8 + 1)))] (by kernel_rfl) ?_
    refine WL.nil ?_
    obtain rfl := Option.some.inj hm
    exact WQ.round hK15 ⟨(wI64 (st8 + 1)), rfl, hb36, hL37, hS38, hl13⟩ (Nat.lt_succ_self _) ⟨rfl, rfl, rfl, trivial⟩
  have hm := iteT hm hc39
  refine WP.seq (fun K40 hK40 => ?_)
  refine WP.region ?_
  refine WL.runk 1 [4] [(4, .bool false)] (by kernel_rfl) ?_
  refine WL.nil ?_
  refine WQ.then_normal (hK40 _ _ _ ?_)
  refine WP.ret ?_
  refine WQ.block_ret ?_
  refine WQ.then_ret ?_
  refine WQ.then_ret ?_
  refine WQ.block_ret ?_
  refine WQ.then_ret ?_
  obtain rfl := Option.some.inj hm
  obtain rfl := afterN_done hl13
  have hm := hmo14
  obtain rfl := Option.some.inj hm
  exact WQ.ret1 _ rfl rfl ⟨rfl, hb36⟩

theorem c_64 (n : Nat) (n_0 : Int) (low_1 : Int) (high_2 : Int) (w : World) {r : Bool} (hm : m_spec_l00In n n_0 low_1 high_2 = some r)  :
    CallV Try.prog 64 #[.int .i64 n_0, .int .i64 low_1, .int .i64 high_2] w (fun v w' => v = .bool r ∧ Ext w w') := by
  unfold m_spec_l00In at hm
  refine CallV.enter Try.func64 rfl (by kernel_rfl) Try.ntmps64 (env := [(0, .int .i64 n_0), (1, .int .i64 low_1), (2, .int .i64 high_2)]) ⟨rfl, rfl, rfl, trivial⟩ ?_
  refine WP.seq (fun K1 hK1 => ?_)
  refine WP.region ?_
  refine WL.runk 1 [0, 1, 2] [(0, .int .i64 n_0), (1, .int .i64 low_1), (2, .int .i64 high_2)] (by kernel_rfl) ?_
  refine WL.nil ?_
  refine WQ.then_normal (hK1 _ _ _ ?_)
  refine WP.seq (fun K2 hK2 => ?_)
  obtain ⟨x4, hx5, hm⟩ := bindE hm
  refine WP.cut (fun env' w' => env' = [(6, .bool x4)] ∧ Ext w w' ∧ w.heap.size ≤ w'.heap.size ∧ SH w' w.heap.size []) ?_ ?_
  rotate_left
  · clear hx5
    rintro _ w7 ⟨rfl, hb8, hL9, hS10⟩
    refine WQ.then_normal (hK2 _ _ _ ?_)
    refine WP.ret ?_
    obtain rfl := Option.some.inj hm
    exact WQ.ret1 _ rfl rfl ⟨rfl, hb8⟩
  have hm := hx5; clear hx5
  refine WP.region ?_
  refine WL.runk 4 [0, 2, 10] [(0, .int .i64 n_0), (2, .int .i64 high_2), (10, .bool (decide (n_0 ≥ low_1)))] (by kernel_rfl) ?_
  refine WL.case (decide (n_0 ≥ low_1)) [10] ⟨rfl, trivial⟩ (fun hc6 => ?_) (fun hc6 => ?_)
  · have hm := iteT hm hc6
    refine WL.runk 5 [6] [(6, .bool (decide (n_0 ≤ high_2)))] (by kernel_rfl) ?_
    refine WL.nil ?_
    obtain rfl := Option.some.inj hm
    exact WQ.post' ⟨rfl, (Ext.refl w), (Nat.le_refl _), (SH.nil _ _)⟩ ⟨rfl, trivial⟩
  have hm := iteF hm hc6
  refine WL.runk 5 [6] [(6, .bool false)] (by kernel_rfl) ?_
  refine WL.nil ?_
  obtain rfl := Option.some.inj hm
  exact WQ.post' ⟨rfl, (Ext.refl w), (Nat.le_refl _), (SH.nil _ _)⟩ ⟨rfl, trivial⟩

theorem c_66 (n : Nat) (n_0 : Int) (low_1 : Int) (high_2 : Int) (w : World) {r : Bool} (hm : m_impl_within n n_0 low_1 high_2 = some r)  :
    CallV Try.prog 66 #[.int .i64 n_0, .int .i64 low_1, .int .i64 high_2] w (fun v w' => v = .bool r ∧ Ext w w') := by
  unfold m_impl_within at hm
  refine CallV.enter Try.func66 rfl (by kernel_rfl) Try.ntmps66 (env := [(0, .int .i64 n_0), (1, .int .i64 low_1), (2, .int .i64 high_2)]) ⟨rfl, rfl, rfl, trivial⟩ ?_
  refine WP.seq (fun K1 hK1 => ?_)
  refine WP.region ?_
  refine WL.runk 1 [0, 1, 2] [(0, .int .i64 n_0), (1, .int .i64 low_1), (2, .int .i64 high_2)] (by kernel_rfl) ?_
  refine WL.nil ?_
  refine WQ.then_normal (hK1 _ _ _ ?_)
  refine WP.seq (fun K2 hK2 => ?_)
  obtain ⟨x4, hx5, hm⟩ := bindE hm
  refine WP.cut (fun env' w' => env' = [(6, .bool x4)] ∧ Ext w w' ∧ w.heap.size ≤ w'.heap.size ∧ SH w' w.heap.size []) ?_ ?_
  rotate_left
  · clear hx5
    rintro _ w7 ⟨rfl, hb8, hL9, hS10⟩
    refine WQ.then_normal (hK2 _ _ _ ?_)
    refine WP.ret ?_
    obtain rfl := Option.some.inj hm
    exact WQ.ret1 _ rfl rfl ⟨rfl, hb8⟩
  have hm := hx5; clear hx5
  refine WP.region ?_
  refine WL.runk 4 [0, 2, 10] [(0, .int .i64 n_0), (2, .int .i64 high_2), (10, .bool (decide (n_0 ≥ low_1)))] (by kernel_rfl) ?_
  refine WL.case (decide (n_0 ≥ low_1)) [10] ⟨rfl, trivial⟩ (fun hc6 => ?_) (fun hc6 => ?_)
  · have hm := iteT hm hc6
    refine WL.runk 5 [6] [(6, .bool (decide (n_0 ≤ high_2)))] (by kernel_rfl) ?_
    refine WL.nil ?_
    obtain rfl := Option.some.inj hm
    exact WQ.post' ⟨rfl, (Ext.refl w), (Nat.le_refl _), (SH.nil _ _)⟩ ⟨rfl, trivial⟩
  have hm := iteF hm hc6
  refine WL.runk 5 [6] [(6, .bool false)] (by kernel_rfl) ?_
  refine WL.nil ?_
  obtain rfl := Option.some.inj hm
  exact WQ.post' ⟨rfl, (Ext.refl w), (Nat.le_refl _), (SH.nil _ _)⟩ ⟨rfl, trivial⟩

theorem c_82 (n : Nat) (n_0 : Int) (cap_1 : Int) (b1' o1' : Nat) (cap_2 : Int) (b2' o2' : Nat) (w : World) {r : Bool} (hm : m_impl_outside_1 n n_0 cap_1 cap_2 = some r) (h1 : RdB w b1' o1' [.int .i64 cap_1]) (h2 : RdB w b2' o2' [.int .i64 cap_2]) :
    CallV Try.prog 82 #[.int .i64 n_0, .pointer (some ⟨b1', o1', none⟩), .pointer (some ⟨b2', o2', none⟩)] w (fun v w' => v = .bool r ∧ Ext w w') := by
  unfold m_impl_outside_1 at hm
  refine CallV.enter Try.func82 rfl (by kernel_rfl) Try.ntmps82 (env := [(0, .int .i64 n_0), (1, .pointer (some ⟨b1', o1', none⟩)), (2, .pointer (some ⟨b2', o2', none⟩))]) ⟨rfl, rfl, rfl, trivial⟩ ?_
  refine WP.seq (fun K1 hK1 => ?_)
  refine WP.region ?_
  refine WL.runk 1 [0, 1, 2] [(0, .int .i64 n_0), (1, .pointer (some ⟨b1', o1', none⟩)), (2, .pointer (some ⟨b2', o2', none⟩))] (by kernel_rfl) ?_
  refine WL.nil ?_
  refine WQ.then_normal (hK1 _ _ _ ?_)
  refine WP.seq (fun K2 hK2 => ?_)
  refine WP.region ?_
  refine WL.runk 1 [1, 2, 5] [(1, .pointer (some ⟨b1', o1', none⟩)), (2, .pointer (some ⟨b2', o2', none⟩)), (5, .int .i64 n_0)] (by kernel_rfl) ?_
  refine WL.st (.int .i64 cap_1) (ST.load (cell_ext (RdB.at (RdB.below h1 (Ext.refl w)) 0 _ rfl)) rfl rfl Try.underlying2 rfl) rfl rfl rfl ?_
  refine WL.st (.int .i64 cap_2) (ST.load (cell_ext (RdB.at (RdB.below h2 (Ext.refl w)) 0 _ rfl)) rfl rfl Try.underlying2 rfl) rfl rfl rfl ?_
  obtain ⟨x3, hx4, hm⟩ := bindE hm
  refine WL.call 66 #[.int .i64 n_0, .int .i64 cap_1, .int .i64 cap_2] rfl rfl (by kernel_rfl) (c_66 n n_0 cap_1 cap_2 w hx4 ) ?_
  rintro _ w5 ⟨rfl, hE6⟩
  refine ⟨_, rfl, ?_⟩
  have hb8 : Ext w w5 := Ext.trans (Ext.refl w) hE6
  have hL9 : w.heap.size ≤ w5.heap.size := Nat.le_trans (Nat.le_refl _) hE6.size
  have hS10 : SH w5 w.heap.size [] := SH.ext (SH.nil _ _) hE6
  refine WL.runk 2 [4] [(4, .bool (!x3))] (by kernel_rfl) ?_
  refine WL.nil ?_
  refine WQ.then_normal (hK2 _ _ _ ?_)
  refine WP.ret ?_
  obtain rfl := Option.some.inj hm
  exact WQ.ret1 _ rfl rfl ⟨rfl, hb8⟩

theorem c_92_82 (n : Nat) (s_0 : List Int) (a0' : Option Addr) (c0' : Nat) (cap_1_0 : Int) (b1_0' o1_0' : Nat) (cap_1_1 : Int) (b1_1' o1_1' : Nat) (w : World) {r : Int} (hm : m_slices_IndexFunc_int64_int64_f82 n s_0 cap_1_0 cap_1_1 = some r) (h0 : Rd fInt.ty w a0' s_0) (_hle0 : s_0.length ≤ c0') (h1_0 : RdB w b1_0' o1_0' [.int .i64 cap_1_0]) (h1_1 : RdB w b1_1' o1_1' [.int .i64 cap_1_1]) :
    CallV Try.prog 92 #[.slice a0' s_0.length c0', .func (.func 82) #[] #[.pointer (some ⟨b1_0', o1_0', none⟩), .pointer (some ⟨b1_1', o1_1', none⟩)]] w (fun v w' => v = .int .i64 r ∧ Ext w w') := by
  unfold m_slices_IndexFunc_int64_int64_f82 at hm
  refine CallV.enter Try.func92 rfl (by kernel_rfl) Try.ntmps92 (env := [(0, .slice a0' s_0.length c0'), (1, .func (.func 82) #[] #[.pointer (some ⟨b1_0', o1_0', none⟩), .pointer (some ⟨b1_1', o1_1', none⟩)])]) ⟨rfl, rfl, trivial⟩ ?_
  refine WP.seq (fun K1 hK1 => ?_)
  refine WP.region ?_
  refine WL.runk 1 [0, 1] [(0, .slice a0' s_0.length c0'), (1, .func (.func 82) #[] #[.pointer (some ⟨b1_0', o1_0', none⟩), .pointer (some ⟨b1_1', o1_1', none⟩)])] (by kernel_rfl) ?_
  refine WL.nil ?_
  refine WQ.then_normal (hK1 _ _ _ ?_)
  refine WP.seq (fun K2 hK2 => ?_)
  refine WP.seq (fun K3 hK3 => ?_)
  refine WP.region ?_
  refine WL.runk 3 [0, 1, 7, 8] [(0, .slice a0' s_0.length c0'), (1, .func (.func 82) #[] #[.pointer (some ⟨b1_0', o1_0', none⟩), .pointer (some ⟨b1_1', o1_1', none⟩)]), (7, .int .i64 (s_0.length : Int)), (8, .int .i64 0)] (by kernel_rfl) ?_
  refine WL.nil ?_
  refine WQ.then_normal (hK3 _ _ _ ?_)
  refine WP.block ?_
  obtain ⟨t15, ht16, hm⟩ := bindE hm
  have hmo10 := hm; clear hm
  refine WP.sub [(0, .slice a0' s_0.length c0'), (1, .func (.func 82) #[] #[.pointer (some ⟨b1_0', o1_0', none⟩), .pointer (some ⟨b1_1', o1_1', none⟩)]), (7, .int .i64 (s_0.length : Int)), (8, .int .i64 0)] ⟨rfl, rfl, rfl, rfl, trivial⟩ ?_
  refine WP.loop (fun n' env' w' => ∃ (st4 : Int) , env' = [(0, .slice a0' s_0.length c0'), (1, .func (.func 82) #[] #[.pointer (some ⟨b1_0', o1_0', none⟩), .pointer (some ⟨b1_1', o1_1', none⟩)]), (7, .int .i64 (s_0.length : Int)), (8, .int .i64 st4)] ∧ Ext w w' ∧ w.heap.size ≤ w'.heap.size ∧ SH w' w.heap.size [] ∧ loopN (m_slices_IndexFunc_int64_int64_f82_l1 n s_0 cap_1_0 cap_1_1) n' st4 = some t15) n ⟨0, rfl, (Ext.refl w), (Nat.le_refl _), (SH.nil _ _), ht16⟩ ?_
  rintro n12 _ w5 ⟨st4, rfl, hb6, hL7, hS8, hl9⟩ K11 hK11
  obtain ⟨n13, s14, rfl, hm, hl9⟩ := loopN_some hl9
  unfold m_slices_IndexFunc_int64_int64_f82_l1 at hm
  refine WP.seq (fun K17 hK17 => ?_)
  refine WP.region ?_
  refine WL.runk 1 [0, 1, 7, 8, 9] [(0, .slice a0' s_0.length c0'), (1, .func (.func 82) #[] #[.pointer (some ⟨b1_0', o1_0', none⟩), .pointer (some ⟨b1_1', o1_1', none⟩)]), (7, .int .i64 (s_0.length : Int)), (8, .int .i64 st4), (9, .bool (decide (st4 < (s_0.length : Int))))] (by kernel_rfl) ?_
  refine WL.nil ?_
  refine WQ.then_normal (hK17 _ _ _ ?_)
  refine WP.seq (fun K18 hK18 => ?_)
  refine WP.cond (decide (st4 < (s_0.length : Int))) rfl rfl (fun hc19 => ?_) (fun hc19 => ?_)
  rotate_left
  · have hm := iteF hm hc19
    refine WP.exit ?_
    refine WQ.then_exit ?_
    refine WQ.then_exit ?_
    refine WQ.block_here ?_
    obtain rfl := Option.some.inj hm
    obtain rfl := afterN_done hl9
    have hm := hmo10
    refine WQ.then_normal (hK2 _ _ _ ?_)
    refine WP.seq (fun K35 hK35 => ?_)
    refine WP.region ?_
    refine WL.runk 1 [4] [(4, .int .i64 (-1))] (by kernel_rfl) ?_
    refine WL.nil ?_
    refine WQ.then_normal (hK35 _ _ _ ?_)
    refine WP.ret ?_
    obtain rfl := Option.some.inj hm
    exact WQ.ret1 _ rfl rfl ⟨rfl, hb6⟩
  have hm := iteT hm hc19
  refine WP.skip ?_
  refine WQ.then_normal (hK18 _ _ _ ?_)
  refine WP.seq (fun K20 hK20 => ?_)
  refine WP.block ?_
  refine WP.seq (fun K21 hK21 => ?_)
  refine WP.region ?_
  refine WL.runk 2 [0, 1, 5, 7, 8] [(0, .slice a0' s_0.length c0'), (1, .func (.func 82) #[] #[.pointer (some ⟨b1_0', o1_0', none⟩), .pointer (some ⟨b1_1', o1_1', none⟩)]), (7, .int .i64 (s_0.length : Int)), (8, .int .i64 st4), (5, .int .i64 st4)] (by kernel_rfl) ?_
  refine WL.nil ?_
  refine WQ.then_normal (hK21 _ _ _ ?_)
  refine WP.seq (fun K22 hK22 => ?_)
  refine WP.region ?_
  refine WL.runk 3 [0, 1, 5, 7, 8, 11, 12, 13] [(0, .slice a0' s_0.length c0'), (1, .func (.func 82) #[] #[.pointer (some ⟨b1_0', o1_0', none⟩), .pointer (some ⟨b1_1', o1_1', none⟩)]), (7, .int .i64 (s_0.length : Int)), (8, .int .i64 st4), (5, .int .i64 st4), (11, .func (.func 82) #[] #[.pointer (some ⟨b1_0', o1_0', none⟩), .pointer (some ⟨b1_1', o1_1', none⟩)]), (12, .slice a0' s_0.length c0'), (13, .int .i64 st4)] (by kernel_rfl) ?_
  obtain ⟨x23, hx24, hm⟩ := bindE hm
  refine WL.st (.pointer (some (at_ a0' (Int.toNat st4 * 1)))) (ST.index (T := fInt.ty) (xs := s_0) (Rd.below h0 hb6) hx24 rfl rfl rfl Try.underlying31 (info2).1 (info2).2.1) rfl rfl rfl ?_
  refine WL.st (.int .i64 x23) (ST.load (cell_ext (Rd.flat (F := fInt) (Rd.below h0 hb6) hx24 0 rfl)) rfl rfl Try.underlying2 rfl) rfl rfl rfl ?_
  obtain ⟨x25, hx26, hm⟩ := bindE hm
  refine WL.call 82 #[.int .i64 x23, .pointer (some ⟨b1_0', o1_0', none⟩), .pointer (some ⟨b1_1', o1_1', none⟩)] rfl rfl (by kernel_rfl) (c_82 n x23 cap_1_0 b1_0' o1_0' cap_1_1 b1_1' o1_1' w5 hx26 (RdB.below h1_0 hb6) (RdB.below h1_1 hb6)) ?_
  rintro _ w27 ⟨rfl, hE28⟩
  refine ⟨_, rfl, ?_⟩
  have hb30 : Ext w w27 := Ext.trans hb6 hE28
  have hL31 : w.heap.size ≤ w27.heap.size := Nat.le_trans hL7 hE28.size
  have hS32 : SH w27 w.heap.size [] := SH.ext hS8 hE28
  refine WL.sub [(0, .slice a0' s_0.length c0'), (1, .func (.func 82) #[] #[.pointer (some ⟨b1_0', o1_0', none⟩), .pointer (some ⟨b1_1', o1_1', none⟩)]), (7, .int .i64 (s_0.length : Int)), (8, .int .i64 st4), (5, .int .i64 st4), (16, .bool x25)] ⟨rfl, rfl, rfl, rfl, rfl, rfl, trivial⟩ ?_
  refine WL.nil ?_
  refine WQ.then_normal (hK22 _ _ _ ?_)
  refine WP.cond x25 rfl rfl (fun hc33 => ?_) (fun hc33 => ?_)
  rotate_left
  · have hm := iteF hm hc33
    refine WP.skip ?_
    refine WQ.block_normal ?_
    refine WQ.then_normal (hK20 _ _ _ ?_)
    refine WP.region ?_
    refine WL.runk 2 [0, 1, 7, 8] [(0, .slice a0' s_0.length c0'), (1, .func (.func 82) #[] #[.pointer (some ⟨b1_0', o1_0', none⟩), .pointer (some ⟨b1_1', o1_1', none⟩)]), (7, .int .i64 (s_0.length : Int)), (8, .int .i64 (wI64 (st4 + 1)))] (by kernel_rfl) ?_
    refine WL.nil ?_
    obtain rfl := Option.some.inj hm
    exact WQ.round hK11 ⟨(wI64 (st4 + 1)), rfl, hb30, hL31, hS32, hl9⟩ (Nat.lt_succ_self _) ⟨rfl, rfl, rfl, rfl, trivial⟩
  have hm := iteT hm hc33
  refine WP.seq (fun K34 hK34 => ?_)
  refine WP.region ?_
  refine WL.runk 2 [4] [(4, .int .i64 st4)] (by kernel_rfl) ?_
  refine WL.nil ?_
  refine WQ.then_normal (hK34 _ _ _ ?_)
  refine WP.ret ?_
  refine WQ.block_ret ?_
  refine WQ.then_ret ?_
  refine WQ.then_ret ?_
  refine WQ.block_ret ?_
  refine WQ.then_ret ?_
  obtain rfl := Option.some.inj hm
  obtain rfl := afterN_done hl9
  have hm := hmo10
  obtain rfl := Option.some.inj hm
  exact WQ.ret1 _ rfl rfl ⟨rfl, hb30⟩

theorem c_81_82 (n : Nat) (s_0 : List Int) (a0' : Option Addr) (c0' : Nat) (cap_1_0 : Int) (b1_0' o1_0' : Nat) (cap_1_1 : Int) (b1_1' o1_1' : Nat) (w : World) {r : Bool} (hm : m_slices_ContainsFunc_int64_int64_f82 n s_0 cap_1_0 cap_1_1 = some r) (h0 : Rd fInt.ty w a0' s_0) (hle0 : s_0.length ≤ c0') (h1_0 : RdB w b1_0' o1_0' [.int .i64 cap_1_0]) (h1_1 : RdB w b1_1' o1_1' [.int .i64 cap_1_1]) :
    CallV Try.prog 81 #[.slice a0' s_0.length c0', .func (.func 82) #[] #[.pointer (some ⟨b1_0', o1_0', none⟩), .pointer (some ⟨b1_1', o1_1', none⟩)]] w (fun v w' => v = .bool r ∧ Ext w w') := by
  unfold m_slices_ContainsFunc_int64_int64_f82 at hm
  refine CallV.enter Try.func81 rfl (by kernel_rfl) Try.ntmps81 (env := [(0, .slice a0' s_0.length c0'), (1, .func (.func 82) #[] #[.pointer (some ⟨b1_0', o1_0', none⟩), .pointer (some ⟨b1_1', o1_1', none⟩)])]) ⟨rfl, rfl, trivial⟩ ?_
  refine WP.seq (fun K1 hK1 => ?_)
  refine WP.region ?_
  refine WL.runk 1 [0, 1] [(0, .slice a0' s_0.length c0'), (1, .func (.func 82) #[] #[.pointer (some ⟨b1_0', o1_0', none⟩), .pointer (some ⟨b1_1', o1_1', none⟩)])] (by kernel_rfl) ?_
  refine WL.nil ?_
  refine WQ.then_normal (hK1 _ _ _ ?_)
  refine WP.seq (fun K2 hK2 => ?_)
  refine WP.region ?_
  refine WL.runk 2 [5, 6] [(5, .slice a0' s_0.length c0'), (6, .func (.func 82) #[] #[.pointer (some ⟨b1_0', o1_0', none⟩), .pointer (some ⟨b1_1', o1_1', none⟩)])] (by kernel_rfl) ?_
  obtain ⟨x3, hx4, hm⟩ := bindE hm
  refine WL.call 92 #[.slice a0' s_0.length c0', .func (.func 82) #[] #[.pointer (some ⟨b1_0', o1_0', none⟩), .pointer (some ⟨b1_1', o1_1', none⟩)]] rfl rfl (by kernel_rfl) (c_92_82 n s_0 a0' c0' cap_1_0 b1_0' o1_0' cap_1_1 b1_1' o1_1' w hx4 (Rd.below h0 (Ext.refl w)) hle0 (RdB.below h1_0 (Ext.refl w)) (RdB.below h1_1 (Ext.refl w))) ?_
  rintro _ w5 ⟨rfl, hE6⟩
  refine ⟨_, rfl, ?_⟩
  have hb8 : Ext w w5 := Ext.trans (Ext.refl w) hE6
  have hL9 : w.heap.size ≤ w5.heap.size := Nat.le_trans (Nat.le_refl _) hE6.size
  have hS10 : SH w5 w.heap.size [] := SH.ext (SH.nil _ _) hE6
  refine WL.runk 2 [4] [(4, .bool (decide (x3 ≥ 0)))] (by kernel_rfl) ?_
  refine WL.nil ?_
  refine WQ.then_normal (hK2 _ _ _ ?_)
  refine WP.ret ?_
  obtain rfl := Option.some.inj hm
  exact WQ.ret1 _ rfl rfl ⟨rfl, hb8⟩

theorem c_58 (n : Nat) (list_0 : List Int) (a0' : Option Addr) (c0' : Nat) (low_1 : Int) (high_2 : Int) (w : World) {r : Bool} (hm : m_impl_outside n list_0 low_1 high_2 = some r) (h0 : Rd fInt.ty w a0' list_0) (hle0 : list_0.length ≤ c0') :
    CallV Try.prog 58 #[.slice a0' list_0.length c0', .int .i64 low_1, .int .i64 high_2] w (fun v w' => v = .bool r ∧ Ext w w') := by
  unfold m_impl_outside at hm
  refine CallV.enter Try.func58 rfl (by kernel_rfl) Try.ntmps58 (env := [(0, .slice a0' list_0.length c0'), (1, .int .i64 low_1), (2, .int .i64 high_2)]) ⟨rfl, rfl, rfl, trivial⟩ ?_
  refine WP.seq (fun K1 hK1 => ?_)
  refine WP.region ?_
  refine WL.box 2 [.int .i64 low_1] 4 (by kernel_rfl) rfl rfl rfl rfl ?_
  intro b2 w3 hE4 hR5
  have hb7 : Ext w w3 := Ext.trans (Ext.refl w) hE4
  have hL8 : w.heap.size ≤ w3.heap.size := Nat.le_trans (Nat.le_refl _) hE4.size
  have hS9 : SH w3 w.heap.size [aBox 2 b2 [.int .i64 low_1]] := SH.add (SH.nil _ _) hE4 (Nat.le_refl _) hR5
  refine WL.box 2 [.int .i64 high_2] 5 (by kernel_rfl) rfl rfl rfl rfl ?_
  intro b10 w11 hE12 hR13
  have hb15 : Ext w w11 := Ext.trans hb7 hE12
  have hL16 : w.heap.size ≤ w11.heap.size := Nat.le_trans hL8 hE12.size
  have hS17 : SH w11 w.heap.size [aBox 2 b10 [.int .i64 high_2], aBox 2 b2 [.int .i64 low_1]] := SH.add hS9 hE12 hL8 hR13
  refine WL.runk 1 [0, 4, 5] [(0, .slice a0' list_0.length c0'), (4, .pointer (some ⟨b2, 0, none⟩)), (5, .pointer (some ⟨b10, 0, none⟩))] (by kernel_rfl) ?_
  refine WL.nil ?_
  refine WQ.then_normal (hK1 _ _ _ ?_)
  refine WP.seq (fun K18 hK18 => ?_)
  refine WP.region ?_
  refine WL.runk 2 [7, 8] [(7, .slice a0' list_0.length c0'), (8, .func (.func 82) #[] #[.pointer (some ⟨b2, 0, none⟩), .pointer (some ⟨b10, 0, none⟩)])] (by kernel_rfl) ?_
  obtain ⟨x19, hx20, hm⟩ := bindE hm
  refine WL.call 81 #[.slice a0' list_0.length c0', .func (.func 82) #[] #[.pointer (some ⟨b2, 0, none⟩), .pointer (some ⟨b10, 0, none⟩)]] rfl rfl (by kernel_rfl) (c_81_82 n list_0 a0' c0' low_1 b2 0 high_2 b10 0 w11 hx20 (Rd.below h0 hb15) hle0 (SH.boxRd (SH.front 1 hS17)) (SH.boxRd (SH.front 0 hS17))) ?_
  rintro _ w21 ⟨rfl, hE22⟩
  refine ⟨_, rfl, ?_⟩
  have hb24 : Ext w w21 := Ext.trans hb15 hE22
  have hL25 : w.heap.size ≤ w21.heap.size := Nat.le_trans hL16 hE22.size
  have hS26 : SH w21 w.heap.size [aBox 2 b10 [.int .i64 high_2], aBox 2 b2 [.int .i64 low_1]] := SH.ext hS17 hE22
  refine WL.runk 1 [6] [(6, .bool x19)] (by kernel_rfl) ?_
  refine WL.nil ?_
  refine WQ.then_normal (hK18 _ _ _ ?_)
  refine WP.ret ?_
  obtain rfl := Option.some.inj hm
  exact WQ.ret1 _ rfl rfl ⟨rfl, hb24⟩

theorem c_63 (n : Nat) (c_0 : SChange) (w : World) {r : Bool} (hm : m_spec_l22One n c_0 = some r)  :
    CallV Try.prog 63 #[.agg #[.int .i64 c_0.Kind, .int .i64 c_0.Amount]] w (fun v w' => v = .bool r ∧ Ext w w') := by
  unfold m_spec_l22One at hm
  refine CallV.enter Try.func63 rfl (by kernel_rfl) Try.ntmps63 (env := [(0, .agg #[.int .i64 c_0.Kind, .int .i64 c_0.Amount])]) ⟨rfl, trivial⟩ ?_
  refine WP.seq (fun K1 hK1 => ?_)
  refine WP.region ?_
  refine WL.box 42 [.int .i64 c_0.Kind, .int .i64 c_0.Amount] 1 (by kernel_rfl) rfl rfl rfl rfl ?_
  intro b2 w3 hE4 hR5
  have hb7 : Ext w w3 := Ext.trans (Ext.refl w) hE4
  have hL8 : w.heap.size ≤ w3.heap.size := Nat.le_trans (Nat.le_refl _) hE4.size
  have hS9 : SH w3 w.heap.size [aBox 42 b2 [.int .i64 c_0.Kind, .int .i64 c_0.Amount]] := SH.add (SH.nil _ _) hE4 (Nat.le_refl _) hR5
  refine WL.runk 1 [1] [(1, .pointer (some ⟨b2, 0, none⟩))] (by kernel_rfl) ?_
  refine WL.nil ?_
  refine WQ.then_normal (hK1 _ _ _ ?_)
  refine WP.seq (fun K10 hK10 => ?_)
  refine WP.region ?_
  refine WL.runk 1 [1, 4] [(1, .pointer (some ⟨b2, 0, none⟩)), (4, .pointer (some ⟨b2, 0, none⟩))] (by kernel_rfl) ?_
  refine WL.st (.int .i64 c_0.Kind) (ST.load (cell_ext (SH.boxAt (SH.front 0 hS9) 0 _ rfl)) rfl rfl Try.underlying2 rfl) rfl rfl rfl ?_
  obtain ⟨x11, hx12, hm⟩ := bindE hm
  refine WL.call 52 #[.int .i64 c_0.Kind] rfl rfl (by kernel_rfl) (c_52 n c_0.Kind w3 hx12 ) ?_
  rintro _ w13 ⟨rfl, hE14⟩
  refine ⟨_, rfl, ?_⟩
  have hb16 : Ext w w13 := Ext.trans hb7 hE14
  have hL17 : w.heap.size ≤ w13.heap.size := Nat.le_trans hL8 hE14.size
  have hS18 : SH w13 w.heap.size [aBox 42 b2 [.int .i64 c_0.Kind, .int .i64 c_0.Amount]] := SH.ext hS9 hE14
  refine WL.runk 1 [1, 3] [(1, .pointer (some ⟨b2, 0, none⟩)), (3, .int .i64 x11)] (by kernel_rfl) ?_
  refine WL.nil ?_
  refine WQ.then_normal (hK10 _ _ _ ?_)
  refine WP.seq (fun K19 hK19 => ?_)
  obtain ⟨x29, hx30, hm⟩ := bindE hm
  refine WP.cut (fun env' w' => env' = [(2, .bool x29)] ∧ Ext w w' ∧ w.heap.size ≤ w'.heap.size ∧ SH w' w.heap.size [aBox 42 b2 [.int .i64 c_0.Kind, .int .i64 c_0.Amount]]) ?_ ?_
  rotate_left
  · clear hx30
    rintro _ w40 ⟨rfl, hb41, hL42, hS43⟩
    refine WQ.then_normal (hK19 _ _ _ ?_)
    refine WP.ret ?_
    obtain rfl := Option.some.inj hm
    exact WQ.ret1 _ rfl rfl ⟨rfl, hb41⟩
  have hm := hx30; clear hx30
  refine WP.region ?_
  refine WL.runk 1 [1, 3, 7] [(1, .pointer (some ⟨b2, 0, none⟩)), (3, .int .i64 x11), (7, .pointer (some ⟨b2, 1, none⟩))] (by kernel_rfl) ?_
  refine WL.st (.int .i64 c_0.Amount) (ST.load (cell_ext (SH.boxAt (SH.front 0 hS18) 1 _ rfl)) rfl rfl Try.underlying2 rfl) rfl rfl rfl ?_
  refine WL.runk 2 [1, 3, 10] [(1, .pointer (some ⟨b2, 0, none⟩)), (3, .int .i64 x11), (10, .bool (c_0.Amount != 0))] (by kernel_rfl) ?_
  refine WL.case (c_0.Amount != 0) [10] ⟨rfl, trivial⟩ (fun hc31 => ?_) (fun hc31 => ?_)
  rotate_left
  · have hm := iteF hm hc31
    refine WL.runk 8 [2] [(2, .bool false)] (by kernel_rfl) ?_
    refine WL.nil ?_
    obtain rfl := Option.some.inj hm
    exact WQ.post' ⟨rfl, hb16, hL17, hS18⟩ ⟨rfl, trivial⟩
  have hm := iteT hm hc31
  refine WL.runk 1 [3, 10, 11] [(3, .int .i64 x11), (10, .bool true), (11, .pointer (some ⟨b2, 1, none⟩))] (by kernel_rfl) ?_
  refine WL.st (.int .i64 c_0.Amount) (ST.load (cell_ext (SH.boxAt (SH.front 0 hS18) 1 _ rfl)) rfl rfl Try.underlying2 rfl) rfl rfl rfl ?_
  refine WL.runk 3 [10, 12, 14, 15] [(10, .bool true), (12, .int .i64 c_0.Amount), (14, .int .i64 (wI64 (0 - x11))), (15, .int .i64 x11)] (by kernel_rfl) ?_
  obtain ⟨x32, hx33, hm⟩ := bindE hm
  refine WL.call 64 #[.int .i64 c_0.Amount, .int .i64 (wI64 (0 - x11)), .int .i64 x11] rfl rfl (by kernel_rfl) (c_64 n c_0.Amount (wI64 (0 - x11)) x11 w13 hx33 ) ?_
  rintro _ w34 ⟨rfl, hE35⟩
  refine ⟨_, rfl, ?_⟩
  have hb37 : Ext w w34 := Ext.trans hb16 hE35
  have hL38 : w.heap.size ≤ w34.heap.size := Nat.le_trans hL17 hE35.size
  have hS39 : SH w34 w.heap.size [aBox 42 b2 [.int .i64 c_0.Kind, .int .i64 c_0.Amount]] := SH.ext hS18 hE35
  refine WL.runk 2 [2] [(2, .bool x32)] (by kernel_rfl) ?_
  refine WL.nil ?_
  obtain rfl := Option.some.inj hm
  exact WQ.post' ⟨rfl, hb37, hL38, hS39⟩ ⟨rfl, trivial⟩

theorem c_59 (n : Nat) (list_0 : List SChange) (a0' : Option Addr) (c0' : Nat) (w : World) {r : Bool} (hm : m_spec_l22Ok n list_0 = some r) (h0 : Rd fChange.ty w a0' list_0) (_hle0 : list_0.length ≤ c0') :
    CallV Try.prog 59 #[.slice a0' list_0.length c0'] w (fun v w' => v = .bool r ∧ Ext w w') := by
  unfold m_spec_l22Ok at hm
  refine CallV.enter Try.func59 rfl (by kernel_rfl) Try.ntmps59 (env := [(0, .slice a0' list_0.length c0')]) ⟨rfl, trivial⟩ ?_
  refine WP.seq (fun K1 hK1 => ?_)
  refine WP.region ?_
  refine WL.runk 1 [0] [(0, .slice a0' list_0.length c0')] (by kernel_rfl) ?_
  refine WL.nil ?_
  refine WQ.then_normal (hK1 _ _ _ ?_)
  refine WP.seq (fun K2 hK2 => ?_)
  refine WP.seq (fun K3 hK3 => ?_)
  refine WP.region ?_
  refine WL.runk 1 [0, 3] [(0, .slice a0' list_0.length c0'), (3, .int .i64 0)] (by kernel_rfl) ?_
  refine WL.nil ?_
  refine WQ.then_normal (hK3 _ _ _ ?_)
  refine WP.block ?_
  obtain ⟨t15, ht16, hm⟩ := bindE hm
  have hmo10 := hm; clear hm
  refine WP.sub [(0, .slice a0' list_0.length c0'), (3, .int .i64 0)] ⟨rfl, rfl, trivial⟩ ?_
  refine WP.loop (fun n' env' w' => ∃ (st4 : Int) , env' = [(0, .slice a0' list_0.length c0'), (3, .int .i64 st4)] ∧ Ext w w' ∧ w.heap.size ≤ w'.heap.size ∧ SH w' w.heap.size [] ∧ loopN (m_spec_l22Ok_l1 n list_0) n' st4 = some t15) n ⟨0, rfl, (Ext.refl w), (Nat.le_refl _), (SH.nil _ _), ht16⟩ ?_
  rintro n12 _ w5 ⟨st4, rfl, hb6, hL7, hS8, hl9⟩ K11 hK11
  obtain ⟨n13, s14, rfl, hm, hl9⟩ := loopN_some hl9
  unfold m_spec_l22Ok_l1 at hm
  refine WP.seq (fun K17 hK17 => ?_)
  refine WP.seq (fun K18 hK18 => ?_)
  refine WP.region ?_
  refine WL.runk 4 [0, 3, 7] [(0, .slice a0' list_0.length c0'), (3, .int .i64 st4), (7, .bool (decide (st4 < (list_0.length : Int))))] (by kernel_rfl) ?_
  refine WL.nil ?_
  refine WQ.then_normal (hK18 _ _ _ ?_)
  refine WP.cond (decide (st4 < (list_0.length : Int))) rfl rfl (fun hc19 => ?_) (fun hc19 => ?_)
  rotate_left
  · have hm := iteF hm hc19
    refine WP.exit ?_
    refine WQ.then_exit ?_
    refine WQ.then_exit ?_
    refine WQ.block_here ?_
    obtain rfl := Option.some.inj hm
    obtain rfl := afterN_done hl9
    have hm := hmo10
    refine WQ.then_normal (hK2 _ _ _ ?_)
    refine WP.seq (fun K34 hK34 => ?_)
    refine WP.region ?_
    refine WL.runk 4 [2] [(2, .bool (decide ((list_0.length : Int) ≤ 20)))] (by kernel_rfl) ?_
    refine WL.nil ?_
    refine WQ.then_normal (hK34 _ _ _ ?_)
    refine WP.ret ?_
    obtain rfl := Option.some.inj hm
    exact WQ.ret1 _ rfl rfl ⟨rfl, hb6⟩
  have hm := iteT hm hc19
  refine WP.skip ?_
  refine WQ.then_normal (hK17 _ _ _ ?_)
  refine WP.seq (fun K20 hK20 => ?_)
  refine WP.block ?_
  refine WP.seq (fun K21 hK21 => ?_)
  refine WP.region ?_
  refine WL.runk 2 [0, 3, 10, 11] [(0, .slice a0' list_0.length c0'), (3, .int .i64 st4), (10, .slice a0' list_0.length c0'), (11, .int .i64 st4)] (by kernel_rfl) ?_
  obtain ⟨x22, hx23, hm⟩ := bindE hm
  refine WL.st (.pointer (some (at_ a0' (Int.toNat st4 * 2)))) (ST.index (T := fChange.ty) (xs := list_0) (Rd.below h0 hb6) hx23 rfl rfl rfl Try.underlying28 (info42).1 (info42).2.1) rfl rfl rfl ?_
  refine WL.st (.agg #[.int .i64 x22.Kind, .int .i64 x22.Amount]) (ST.loadAgg (vs := fChange.leaf x22) (fun j v hv => Rd.flatA (F := fChange) (Rd.below h0 hb6) hx23 j hv) rfl rfl rfl Try.underlying42 rfl (info42).1 (info42).2.1) rfl rfl rfl ?_
  obtain ⟨x24, hx25, hm⟩ := bindE hm
  refine WL.call 63 #[.agg #[.int .i64 x22.Kind, .int .i64 x22.Amount]] rfl rfl (by kernel_rfl) (c_63 n x22 w5 hx25 ) ?_
  rintro _ w26 ⟨rfl, hE27⟩
  refine ⟨_, rfl, ?_⟩
  have hb29 : Ext w w26 := Ext.trans hb6 hE27
  have hL30 : w.heap.size ≤ w26.heap.size := Nat.le_trans hL7 hE27.size
  have hS31 : SH w26 w.heap.size [] := SH.ext hS8 hE27
  refine WL.runk 1 [0, 3, 15] [(0, .slice a0' list_0.length c0'), (3, .int .i64 st4), (15, .bool (!x24))] (by kernel_rfl) ?_
  refine WL.nil ?_
  refine WQ.then_normal (hK21 _ _ _ ?_)
  refine WP.cond (!x24) rfl rfl (fun hc32 => ?_) (fun hc32 => ?_)
  rotate_left
  · have hm := iteF hm hc32
    refine WP.skip ?_
    refine WQ.block_normal ?_
    refine WQ.then_normal (hK20 _ _ _ ?_)
    refine WP.region ?_
    refine WL.runk 3 [0, 3] [(0, .slice a0' list_0.length c0'), (3, .int .i64 (wI64 (st4 + 1)))] (by kernel_rfl) ?_
    refine WL.nil ?_
    obtain rfl := Option.some.inj hm
    exact WQ.round hK11 ⟨(wI64 (st4 + 1)), rfl, hb29, hL30, hS31, hl9⟩ (Nat.lt_succ_self _) ⟨rfl, rfl, trivial⟩
  have hm := iteT hm hc32
  refine WP.seq (fun K33 hK33 => ?_)
  refine WP.region ?_
  refine WL.runk 1 [2] [(2, .bool false)] (by kernel_rfl) ?_
  refine WL.nil ?_
  refine WQ.then_normal (hK33 _ _ _ ?_)
  refine WP.ret ?_
  refine WQ.block_ret ?_
  refine WQ.then_ret ?_
  refine WQ.then_ret ?_
  refine WQ.block_ret ?_
  refine WQ.then_ret ?_
  obtain rfl := Option.some.inj hm
  obtain rfl := afterN_done hl9
  have hm := hmo10
  obtain rfl := Option.some.inj hm
  exact WQ.ret1 _ rfl rfl ⟨rfl, hb29⟩

theorem c_62 (n : Nat) (c_0 : SChange) (w : World) {r : Bool} (hm : m_impl_validChange n c_0 = some r)  :
    CallV Try.prog 62 #[.agg #[.int .i64 c_0.Kind, .int .i64 c_0.Amount]] w (fun v w' => v = .bool r ∧ Ext w w') := by
  unfold m_impl_validChange at hm
  refine CallV.enter Try.func62 rfl (by kernel_rfl) Try.ntmps62 (env := [(0, .agg #[.int .i64 c_0.Kind, .int .i64 c_0.Amount])]) ⟨rfl, trivial⟩ ?_
  refine WP.seq (fun K1 hK1 => ?_)
  refine WP.region ?_
  refine WL.box 42 [.int .i64 c_0.Kind, .int .i64 c_0.Amount] 1 (by kernel_rfl) rfl rfl rfl rfl ?_
  intro b2 w3 hE4 hR5
  have hb7 : Ext w w3 := Ext.trans (Ext.refl w) hE4
  have hL8 : w.heap.size ≤ w3.heap.size := Nat.le_trans (Nat.le_refl _) hE4.size
  have hS9 : SH w3 w.heap.size [aBox 42 b2 [.int .i64 c_0.Kind, .int .i64 c_0.Amount]] := SH.add (SH.nil _ _) hE4 (Nat.le_refl _) hR5
  refine WL.runk 1 [1] [(1, .pointer (some ⟨b2, 0, none⟩))] (by kernel_rfl) ?_
  refine WL.nil ?_
  refine WQ.then_normal (hK1 _ _ _ ?_)
  refine WP.seq (fun K10 hK10 => ?_)
  refine WP.region ?_
  refine WL.runk 1 [1, 4] [(1, .pointer (some ⟨b2, 0, none⟩)), (4, .pointer (some ⟨b2, 0, none⟩))] (by kernel_rfl) ?_
  refine WL.st (.int .i64 c_0.Kind) (ST.load (cell_ext (SH.boxAt (SH.front 0 hS9) 0 _ rfl)) rfl rfl Try.underlying2 rfl) rfl rfl rfl ?_
  obtain ⟨x11, hx12, hm⟩ := bindE hm
  refine WL.call 53 #[.int .i64 c_0.Kind] rfl rfl (by kernel_rfl) (c_53 n c_0.Kind w3 hx12 ) ?_
  rintro _ w13 ⟨rfl, hE14⟩
  refine ⟨_, rfl, ?_⟩
  have hb16 : Ext w w13 := Ext.trans hb7 hE14
  have hL17 : w.heap.size ≤ w13.heap.size := Nat.le_trans hL8 hE14.size
  have hS18 : SH w13 w.heap.size [aBox 42 b2 [.int .i64 c_0.Kind, .int .i64 c_0.Amount]] := SH.ext hS9 hE14
  refine WL.runk 1 [1, 3] [(1, .pointer (some ⟨b2, 0, none⟩)), (3, .int .i64 x11)] (by kernel_rfl) ?_
  refine WL.nil ?_
  refine WQ.then_normal (hK10 _ _ _ ?_)
  refine WP.seq (fun K19 hK19 => ?_)
  obtain ⟨x30, hx31, hm⟩ := bindE hm
  refine WP.cut (fun env' w' => env' = [(2, .bool x30)] ∧ Ext w w' ∧ w.heap.size ≤ w'.heap.size ∧ SH w' w.heap.size [aBox 42 b2 [.int .i64 c_0.Kind, .int .i64 c_0.Amount]]) ?_ ?_
  rotate_left
  · clear hx31
    rintro _ w42 ⟨rfl, hb43, hL44, hS45⟩
    refine WQ.then_normal (hK19 _ _ _ ?_)
    refine WP.ret ?_
    obtain rfl := Option.some.inj hm
    exact WQ.ret1 _ rfl rfl ⟨rfl, hb43⟩
  have hm := hx31; clear hx31
  refine WP.region ?_
  refine WL.runk 3 [1, 3, 9] [(1, .pointer (some ⟨b2, 0, none⟩)), (3, .int .i64 x11), (9, .bool (decide (x11 > 0)))] (by kernel_rfl) ?_
  refine WL.case (decide (x11 > 0)) [9] ⟨rfl, trivial⟩ (fun hc32 => ?_) (fun hc32 => ?_)
  rotate_left
  · have hm := iteF hm hc32
    refine WL.runk 13 [2] [(2, .bool false)] (by kernel_rfl) ?_
    refine WL.nil ?_
    obtain rfl := Option.some.inj hm
    exact WQ.post' ⟨rfl, hb16, hL17, hS18⟩ ⟨rfl, trivial⟩
  have hm := iteT hm hc32
  refine WL.runk 1 [1, 3, 9, 10] [(1, .pointer (some ⟨b2, 0, none⟩)), (3, .int .i64 x11), (9, .bool true), (10, .pointer (some ⟨b2, 1, none⟩))] (by kernel_rfl) ?_
  refine WL.st (.int .i64 c_0.Amount) (ST.load (cell_ext (SH.boxAt (SH.front 0 hS18) 1 _ rfl)) rfl rfl Try.underlying2 rfl) rfl rfl rfl ?_
  refine WL.runk 3 [1, 3, 14] [(1, .pointer (some ⟨b2, 0, none⟩)), (3, .int .i64 x11), (14, .bool (c_0.Amount != 0))] (by kernel_rfl) ?_
  refine WL.case (c_0.Amount != 0) [14] ⟨rfl, trivial⟩ (fun hc33 => ?_) (fun hc33 => ?_)
  rotate_left
  · have hm := iteF hm hc33
    refine WL.runk 8 [2] [(2, .bool false)] (by kernel_rfl) ?_
    refine WL.nil ?_
    obtain rfl := Option.some.inj hm
    exact WQ.post' ⟨rfl, hb16, hL17, hS18⟩ ⟨rfl, trivial⟩
  have hm := iteT hm hc33
  refine WL.runk 1 [3, 14, 15] [(3, .int .i64 x11), (14, .bool true), (15, .pointer (some ⟨b2, 1, none⟩))] (by kernel_rfl) ?_
  refine WL.st (.int .i64 c_0.Amount) (ST.load (cell_ext (SH.boxAt (SH.front 0 hS18) 1 _ rfl)) rfl rfl Try.underlying2 rfl) rfl rfl rfl ?_
  refine WL.runk 3 [14, 16, 18, 19] [(14, .bool true), (16, .int .i64 c_0.Amount), (18, .int .i64 (wI64 (0 - x11))), (19, .int .i64 x11)] (by kernel_rfl) ?_
  obtain ⟨x34, hx35, hm⟩ := bindE hm
  refine WL.call 66 #[.int .i64 c_0.Amount, .int .i64 (wI64 (0 - x11)), .int .i64 x11] rfl rfl (by kernel_rfl) (c_66 n c_0.Amount (wI64 (0 - x11)) x11 w13 hx35 ) ?_
  rintro _ w36 ⟨rfl, hE37⟩
  refine ⟨_, rfl, ?_⟩
  have hb39 : Ext w w36 := Ext.trans hb16 hE37
  have hL40 : w.heap.size ≤ w36.heap.size := Nat.le_trans hL17 hE37.size
  have hS41 : SH w36 w.heap.size [aBox 42 b2 [.int .i64 c_0.Kind, .int .i64 c_0.Amount]] := SH.ext hS18 hE37
  refine WL.runk 2 [2] [(2, .bool x34)] (by kernel_rfl) ?_
  refine WL.nil ?_
  obtain rfl := Option.some.inj hm
  exact WQ.post' ⟨rfl, hb39, hL40, hS41⟩ ⟨rfl, trivial⟩

theorem c_61 (n : Nat) (c_0 : SChange) (w : World) {r : Bool} (hm : m_impl_ValidChanges_1 n c_0 = some r)  :
    CallV Try.prog 61 #[.agg #[.int .i64 c_0.Kind, .int .i64 c_0.Amount]] w (fun v w' => v = .bool r ∧ Ext w w') := by
  unfold m_impl_ValidChanges_1 at hm
  refine CallV.enter Try.func61 rfl (by kernel_rfl) Try.ntmps61 (env := [(0, .agg #[.int .i64 c_0.Kind, .int .i64 c_0.Amount])]) ⟨rfl, trivial⟩ ?_
  refine WP.seq (fun K1 hK1 => ?_)
  refine WP.region ?_
  refine WL.box 42 [.int .i64 c_0.Kind, .int .i64 c_0.Amount] 1 (by kernel_rfl) rfl rfl rfl rfl ?_
  intro b2 w3 hE4 hR5
  have hb7 : Ext w w3 := Ext.trans (Ext.refl w) hE4
  have hL8 : w.heap.size ≤ w3.heap.size := Nat.le_trans (Nat.le_refl _) hE4.size
  have hS9 : SH w3 w.heap.size [aBox 42 b2 [.int .i64 c_0.Kind, .int .i64 c_0.Amount]] := SH.add (SH.nil _ _) hE4 (Nat.le_refl _) hR5
  refine WL.runk 1 [1] [(1, .pointer (some ⟨b2, 0, none⟩))] (by kernel_rfl) ?_
  refine WL.nil ?_
  refine WQ.then_normal (hK1 _ _ _ ?_)
  refine WP.seq (fun K10 hK10 => ?_)
  refine WP.region ?_
  refine WL.st (.agg #[.int .i64 c_0.Kind, .int .i64 c_0.Amount]) (ST.loadAgg (vs := [.int .i64 c_0.Kind, .int .i64 c_0.Amount]) (fun j v hv => SH.boxPart (us := [.int .i64 c_0.Kind, .int .i64 c_0.Amount]) (SH.front 0 hS9) 0 rfl j v hv) rfl rfl rfl Try.underlying42 rfl (info42).1 (info42).2.1) rfl rfl rfl ?_
  obtain ⟨x11, hx12, hm⟩ := bindE hm
  refine WL.call 62 #[.agg #[.int .i64 c_0.Kind, .int .i64 c_0.Amount]] rfl rfl (by kernel_rfl) (c_62 n c_0 w3 hx12 ) ?_
  rintro _ w13 ⟨rfl, hE14⟩
  refine ⟨_, rfl, ?_⟩
  have hb16 : Ext w w13 := Ext.trans hb7 hE14
  have hL17 : w.heap.size ≤ w13.heap.size := Nat.le_trans hL8 hE14.size
  have hS18 : SH w13 w.heap.size [aBox 42 b2 [.int .i64 c_0.Kind, .int .i64 c_0.Amount]] := SH.ext hS9 hE14
  refine WL.runk 2 [2] [(2, .bool (!x11))] (by kernel_rfl) ?_
  refine WL.nil ?_
  refine WQ.then_normal (hK10 _ _ _ ?_)
  refine WP.ret ?_
  obtain rfl := Option.some.inj hm
  exact WQ.ret1 _ rfl rfl ⟨rfl, hb16⟩

theorem c_68_61 (n : Nat) (s_0 : List SChange) (a0' : Option Addr) (c0' : Nat) (w : World) {r : Int} (hm : m_slices_IndexFunc_impl_Change_impl_Change_f61 n s_0 = some r) (h0 : Rd fChange.ty w a0' s_0) (_hle0 : s_0.length ≤ c0') :
    CallV Try.prog 68 #[.slice a0' s_0.length c0', .func (.func 61) #[] #[]] w (fun v w' => v = .int .i64 r ∧ Ext w w') := by
  unfold m_slices_IndexFunc_impl_Change_impl_Change_f61 at hm
  refine CallV.enter Try.func68 rfl (by kernel_rfl) Try.ntmps68 (env := [(0, .slice a0' s_0.length c0'), (1, .func (.func 61) #[] #[])]) ⟨rfl, rfl, trivial⟩ ?_
  refine WP.seq (fun K1 hK1 => ?_)
  refine WP.region ?_
  refine WL.runk 1 [0, 1] [(0, .slice a0' s_0.length c0'), (1, .func (.func 61) #[] #[])] (by kernel_rfl) ?_
  refine WL.nil ?_
  refine WQ.then_normal (hK1 _ _ _ ?_)
  refine WP.seq (fun K2 hK2 => ?_)
  refine WP.seq (fun K3 hK3 => ?_)
  refine WP.region ?_
  refine WL.runk 3 [0, 1, 7, 8] [(0, .slice a0' s_0.length c0'), (1, .func (.func 61) #[] #[]), (7, .int .i64 (s_0.length : Int)), (8, .int .i64 0)] (by kernel_rfl) ?_
  refine WL.nil ?_
  refine WQ.then_normal (hK3 _ _ _ ?_)
  refine WP.block ?_
  obtain ⟨t15, ht16, hm⟩ := bindE hm
  have hmo10 := hm; clear hm
  refine WP.sub [(0, .slice a0' s_0.length c0'), (1, .func (.func 61) #[] #[]), (7, .int .i64 (s_0.length : Int)), (8, .int .i64 0)] ⟨rfl, rfl, rfl, rfl, trivial⟩ ?_
  refine WP.loop (fun n' env' w' => ∃ (st4 : Int) , env' = [(0, .slice a0' s_0.length c0'), (1, .func (.func 61) #[] #[]), (7, .int .i64 (s_0.length : Int)), (8, .int .i64 st4)] ∧ Ext w w' ∧ w.heap.size ≤ w'.heap.size ∧ SH w' w.heap.size [] ∧ loopN (m_slices_IndexFunc_impl_Change_impl_Change_f61_l1 n s_0) n' st4 = some t15) n ⟨0, rfl, (Ext.refl w), (Nat.le_refl _), (SH.nil _ _), ht16⟩ ?_
  rintro n12 _ w5 ⟨st4, rfl, hb6, hL7, hS8, hl9⟩ K11 hK11
  obtain ⟨n13, s14, rfl, hm, hl9⟩ := loopN_some hl9
  unfold m_slices_IndexFunc_impl_Change_impl_Change_f61_l1 at hm
  refine WP.seq (fun K17 hK17 => ?_)
  refine WP.region ?_
  refine WL.runk 1 [0, 1, 7, 8, 9] [(0, .slice a0' s_0.length c0'), (1, .func (.func 61) #[] #[]), (7, .int .i64 (s_0.length : Int)), (8, .int .i64 st4), (9, .bool (decide (st4 < (s_0.length : Int))))] (by kernel_rfl) ?_
  refine WL.nil ?_
  refine WQ.then_normal (hK17 _ _ _ ?_)
  refine WP.seq (fun K18 hK18 => ?_)
  refine WP.cond (decide (st4 < (s_0.length : Int))) rfl rfl (fun hc19 => ?_) (fun hc19 => ?_)
  rotate_left
  · have hm := iteF hm hc19
    refine WP.exit ?_
    refine WQ.then_exit ?_
    refine WQ.then_exit ?_
    refine WQ.block_here ?_
    obtain rfl := Option.some.inj hm
    obtain rfl := afterN_done hl9
    have hm := hmo10
    refine WQ.then_normal (hK2 _ _ _ ?_)
    refine WP.seq (fun K35 hK35 => ?_)
    refine WP.region ?_
    refine WL.runk 1 [4] [(4, .int .i64 (-1))] (by kernel_rfl) ?_
    refine WL.nil ?_
    refine WQ.then_normal (hK35 _ _ _ ?_)
    refine WP.ret ?_
    obtain rfl := Option.some.inj hm
    exact WQ.ret1 _ rfl rfl ⟨rfl, hb6⟩
  have hm := iteT hm hc19
  refine WP.skip ?_
  refine WQ.then_normal (hK18 _ _ _ ?_)
  refine WP.seq (fun K20 hK20 => ?_)
  refine WP.block ?_
  refine WP.seq (fun K21 hK21 => ?_)
  refine WP.region ?_
  refine WL.runk 2 [0, 1, 5, 7, 8] [(0, .slice a0' s_0.length c0'), (1, .func (.func 61) #[] #[]), (7, .int .i64 (s_0.length : Int)), (8, .int .i64 st4), (5, .int .i64 st4)] (by kernel_rfl) ?_
  refine WL.nil ?_
  refine WQ.then_normal (hK21 _ _ _ ?_)
  refine WP.seq (fun K22 hK22 => ?_)
  refine WP.region ?_
  refine WL.runk 3 [0, 1, 5, 7, 8, 11, 12, 13] [(0, .slice a0' s_0.length c0'), (1, .func (.func 61) #[] #[]), (7, .int .i64 (s_0.length : Int)), (8, .int .i64 st4), (5, .int .i64 st4), (11, .func (.func 61) #[] #[]), (12, .slice a0' s_0.length c0'), (13, .int .i64 st4)] (by kernel_rfl) ?_
  obtain ⟨x23, hx24, hm⟩ := bindE hm
  refine WL.st (.pointer (some (at_ a0' (Int.toNat st4 * 2)))) (ST.index (T := fChange.ty) (xs := s_0) (Rd.below h0 hb6) hx24 rfl rfl rfl Try.underlying28 (info42).1 (info42).2.1) rfl rfl rfl ?_
  refine WL.st (.agg #[.int .i64 x23.Kind, .int .i64 x23.Amount]) (ST.loadAgg (vs := fChange.leaf x23) (fun j v hv => Rd.flatA (F := fChange) (Rd.below h0 hb6) hx24 j hv) rfl rfl rfl Try.underlying42 rfl (info42).1 (info42).2.1) rfl rfl rfl ?_
  obtain ⟨x25, hx26, hm⟩ := bindE hm
  refine WL.call 61 #[.agg #[.int .i64 x23.Kind, .int .i64 x23.Amount]] rfl rfl (by kernel_rfl) (c_61 n x23 w5 hx26 ) ?_
  rintro _ w27 ⟨rfl, hE28⟩
  refine ⟨_, rfl, ?_⟩
  have hb30 : Ext w w27 := Ext.trans hb6 hE28
  have hL31 : w.heap.size ≤ w27.heap.size := Nat.le_trans hL7 hE28.size
  have hS32 : SH w27 w.heap.size [] := SH.ext hS8 hE28
  refine WL.sub [(0, .slice a0' s_0.length c0'), (1, .func (.func 61) #[] #[]), (7, .int .i64 (s_0.length : Int)), (8, .int .i64 st4), (5, .int .i64 st4), (16, .bool x25)] ⟨rfl, rfl, rfl, rfl, rfl, rfl, trivial⟩ ?_
  refine WL.nil ?_
  refine WQ.then_normal (hK22 _ _ _ ?_)
  refine WP.cond x25 rfl rfl (fun hc33 => ?_) (fun hc33 => ?_)
  rotate_left
  · have hm := iteF hm hc33
    refine WP.skip ?_
    refine WQ.block_normal ?_
    refine WQ.then_normal (hK20 _ _ _ ?_)
    refine WP.region ?_
    refine WL.runk 2 [0, 1, 7, 8] [(0, .slice a0' s_0.length c0'), (1, .func (.func 61) #[] #[]), (7, .int .i64 (s_0.length : Int)), (8, .int .i64 (wI64 (st4 + 1)))] (by kernel_rfl) ?_
    refine WL.nil ?_
    obtain rfl := Option.some.inj hm
    exact WQ.round hK11 ⟨(wI64 (st4 + 1)), rfl, hb30, hL31, hS32, hl9⟩ (Nat.lt_succ_self _) ⟨rfl, rfl, rfl, rfl, trivial⟩
  have hm := iteT hm hc33
  refine WP.seq (fun K34 hK34 => ?_)
  refine WP.region ?_
  refine WL.runk 2 [4] [(4, .int .i64 st4)] (by kernel_rfl) ?_
  refine WL.nil ?_
  refine WQ.then_normal (hK34 _ _ _ ?_)
  refine WP.ret ?_
  refine WQ.block_ret ?_
  refine WQ.then_ret ?_
  refine WQ.then_ret ?_
  refine WQ.block_ret ?_
  refine WQ.then_ret ?_
  obtain rfl := Option.some.inj hm
  obtain rfl := afterN_done hl9
  have hm := hmo10
  obtain rfl := Option.some.inj hm
  exact WQ.ret1 _ rfl rfl ⟨rfl, hb30⟩

theorem c_60_61 (n : Nat) (s_0 : List SChange) (a0' : Option Addr) (c0' : Nat) (w : World) {r : Bool} (hm : m_slices_ContainsFunc_impl_Change_impl_Change_f61 n s_0 = some r) (h0 : Rd fChange.ty w a0' s_0) (hle0 : s_0.length ≤ c0') :
    CallV Try.prog 60 #[.slice a0' s_0.length c0', .func (.func 61) #[] #[]] w (fun v w' => v = .bool r ∧ Ext w w') := by
  unfold m_slices_ContainsFunc_impl_Change_impl_Change_f61 at hm
  refine CallV.enter Try.func60 rfl (by kernel_rfl) Try.ntmps60 (env := [(0, .slice a0' s_0.length c0'), (1, .func (.func 61) #[] #[])]) ⟨rfl, rfl, trivial⟩ ?_
  refine WP.seq (fun K1 hK1 => ?_)
  refine WP.region ?_
  refine WL.runk 1 [0, 1] [(0, .slice a0' s_0.length c0'), (1, .func (.func 61) #[] #[])] (by kernel_rfl) ?_
  refine WL.nil ?_
  refine WQ.then_normal (hK1 _ _ _ ?_)
  refine WP.seq (fun K2 hK2 => ?_)
  refine WP.region ?_
  refine WL.runk 2 [5, 6] [(5, .slice a0' s_0.length c0'), (6, .func (.func 61) #[] #[])] (by kernel_rfl) ?_
  obtain ⟨x3, hx4, hm⟩ := bindE hm
  refine WL.call 68 #[.slice a0' s_0.length c0', .func (.func 61) #[] #[]] rfl rfl (by kernel_rfl) (c_68_61 n s_0 a0' c0' w hx4 (Rd.below h0 (Ext.refl w)) hle0) ?_
  rintro _ w5 ⟨rfl, hE6⟩
  refine ⟨_, rfl, ?_⟩
  have hb8 : Ext w w5 := Ext.trans (Ext.refl w) hE6
  have hL9 : w.heap.size ≤ w5.heap.size := Nat.le_trans (Nat.le_refl _) hE6.size
  have hS10 : SH w5 w.heap.size [] := SH.ext (SH.nil _ _) hE6
  refine WL.runk 2 [4] [(4, .bool (decide (x3 ≥ 0)))] (by kernel_rfl) ?_
  refine WL.nil ?_
  refine WQ.then_normal (hK2 _ _ _ ?_)
  refine WP.ret ?_
  obtain rfl := Option.some.inj hm
  exact WQ.ret1 _ rfl rfl ⟨rfl, hb8⟩

theorem c_27 (n : Nat) (list_0 : List SChange) (a0' : Option Addr) (c0' : Nat) (w : World) {r : Bool} (hm : m_impl_ValidChanges n list_0 = some r) (h0 : Rd fChange.ty w a0' list_0) (hle0 : list_0.length ≤ c0') :
    CallV Try.prog 27 #[.slice a0' list_0.length c0'] w (fun v w' => v = .bool r ∧ Ext w w') := by
  unfold m_impl_ValidChanges at hm
  refine CallV.enter Try.func27 rfl (by kernel_rfl) Try.ntmps27 (env := [(0, .slice a0' list_0.length c0')]) ⟨rfl, trivial⟩ ?_
  refine WP.seq (fun K1 hK1 => ?_)
  refine WP.region ?_
  refine WL.runk 1 [0] [(0, .slice a0' list_0.length c0')] (by kernel_rfl) ?_
  refine WL.nil ?_
  refine WQ.then_normal (hK1 _ _ _ ?_)
  refine WP.seq (fun K2 hK2 => ?_)
  obtain ⟨x12, hx13, hm⟩ := bindE hm
  refine WP.cut (fun env' w' => env' = [(2, .bool x12)] ∧ Ext w w' ∧ w.heap.size ≤ w'.heap.size ∧ SH w' w.heap.size []) ?_ ?_
  rotate_left
  · clear hx13
    rintro _ w23 ⟨rfl, hb24, hL25, hS26⟩
    refine WQ.then_normal (hK2 _ _ _ ?_)
    refine WP.ret ?_
    obtain rfl := Option.some.inj hm
    exact WQ.ret1 _ rfl rfl ⟨rfl, hb24⟩
  have hm := hx13; clear hx13
  refine WP.region ?_
  refine WL.runk 4 [0, 6] [(0, .slice a0' list_0.length c0'), (6, .bool (decide ((list_0.length : Int) ≤ 20)))] (by kernel_rfl) ?_
  refine WL.case (decide ((list_0.length : Int) ≤ 20)) [6] ⟨rfl, trivial⟩ (fun hc14 => ?_) (fun hc14 => ?_)
  rotate_left
  · have hm := iteF hm hc14
    refine WL.runk 5 [2] [(2, .bool false)] (by kernel_rfl) ?_
    refine WL.nil ?_
    obtain rfl := Option.some.inj hm
    exact WQ.post' ⟨rfl, (Ext.refl w), (Nat.le_refl _), (SH.nil _ _)⟩ ⟨rfl, trivial⟩
  have hm := iteT hm hc14
  refine WL.runk 1 [6, 7] [(6, .bool true), (7, .slice a0' list_0.length c0')] (by kernel_rfl) ?_
  obtain ⟨x15, hx16, hm⟩ := bindE hm
  refine WL.call 60 #[.slice a0' list_0.length c0', .func (.func 61) #[] #[]] rfl rfl (by kernel_rfl) (c_60_61 n list_0 a0' c0' w hx16 (Rd.below h0 (Ext.refl w)) hle0) ?_
  rintro _ w17 ⟨rfl, hE18⟩
  refine ⟨_, rfl, ?_⟩
  have hb20 : Ext w w17 := Ext.trans (Ext.refl w) hE18
  have hL21 : w.heap.size ≤ w17.heap.size := Nat.le_trans (Nat.le_refl _) hE18.size
  have hS22 : SH w17 w.heap.size [] := SH.ext (SH.nil _ _) hE18
  refine WL.runk 3 [2] [(2, .bool (!x15))] (by kernel_rfl) ?_
  refine WL.nil ?_
  obtain rfl := Option.some.inj hm
  exact WQ.post' ⟨rfl, hb20, hL21, hS22⟩ ⟨rfl, trivial⟩

theorem c_45 (n : Nat) (a_0 : SLast) (left_1 : Int) (w : World) {r : Int} (hm : m_laws_szLast n a_0 left_1 = some r)  :
    CallV Try.prog 45 #[.agg #[.string (bs a_0.Name), .int .i64 a_0.Length, .int .i64 a_0.Ball, .int .i64 a_0.Instep, .int .i64 a_0.Heel, .int .i64 a_0.Pitch], .int .i64 left_1] w (fun v w' => v = .int .i64 r ∧ Ext w w') := by
  unfold m_laws_szLast at hm
  refine CallV.enter Try.func45 rfl (by kernel_rfl) Try.ntmps45 (env := [(0, .agg #[.string (bs a_0.Name), .int .i64 a_0.Length, .int .i64 a_0.Ball, .int .i64 a_0.Instep, .int .i64 a_0.Heel, .int .i64 a_0.Pitch]), (1, .int .i64 left_1)]) ⟨rfl, rfl, trivial⟩ ?_
  refine WP.seq (fun K1 hK1 => ?_)
  refine WP.region ?_
  refine WL.box 58 [.string (bs a_0.Name), .int .i64 a_0.Length, .int .i64 a_0.Ball, .int .i64 a_0.Instep, .int .i64 a_0.Heel, .int .i64 a_0.Pitch] 2 (by kernel_rfl) rfl rfl rfl rfl ?_
  intro b2 w3 hE4 hR5
  have hb7 : Ext w w3 := Ext.trans (Ext.refl w) hE4
  have hL8 : w.heap.size ≤ w3.heap.size := Nat.le_trans (Nat.le_refl _) hE4.size
  have hS9 : SH w3 w.heap.size [aBox 58 b2 [.string (bs a_0.Name), .int .i64 a_0.Length, .int .i64 a_0.Ball, .int .i64 a_0.Instep, .int .i64 a_0.Heel, .int .i64 a_0.Pitch]] := SH.add (SH.nil _ _) hE4 (Nat.le_refl _) hR5
  refine WL.runk 1 [1, 2] [(1, .int .i64 left_1), (2, .pointer (some ⟨b2, 0, none⟩))] (by kernel_rfl) ?_
  refine WL.nil ?_
  refine WQ.then_normal (hK1 _ _ _ ?_)
  refine WP.seq (fun K10 hK10 => ?_)
  refine WP.region ?_
  refine WL.runk 2 [5, 6] [(5, .int .i64 left_1), (6, .pointer (some ⟨b2, 0, none⟩))] (by kernel_rfl) ?_
  refine WL.st (.string (bs a_0.Name)) (ST.load (cell_ext (SH.boxAt (SH.front 0 hS9) 0 _ rfl)) rfl rfl Try.underlying9 rfl) rfl rfl rfl ?_
  refine WL.runk 3 [1] [(1, .int .i64 (wI64 (left_1 - (a_0.Name.length : Int))))] (by kernel_rfl) ?_
  refine WL.nil ?_
  refine WQ.then_normal (hK10 _ _ _ ?_)
  refine WP.seq (fun K11 hK11 => ?_)
  refine WP.seq (fun K12 hK12 => ?_)
  refine WP.region ?_
  refine WL.runk 2 [1, 11] [(1, .int .i64 (wI64 (left_1 - (a_0.Name.length : Int)))), (11, .bool (decide ((wI64 (left_1 - (a_0.Name.length : Int))) < 0)))] (by kernel_rfl) ?_
  refine WL.nil ?_
  refine WQ.then_normal (hK12 _ _ _ ?_)
  refine WP.cond (decide ((wI64 (left_1 - (a_0.Name.length : Int))) < 0)) rfl rfl (fun hc13 => ?_) (fun hc13 => ?_)
  · have hm := iteT hm hc13
    refine WP.seq (fun K14 hK14 => ?_)
    refine WP.region ?_
    refine WL.runk 1 [4] [(4, .int .i64 (-1))] (by kernel_rfl) ?_
    refine WL.nil ?_
    refine WQ.then_normal (hK14 _ _ _ ?_)
    refine WP.ret ?_
    refine WQ.then_ret ?_
    obtain rfl := Option.some.inj hm
    exact WQ.ret1 _ rfl rfl ⟨rfl, hb7⟩
  have hm := iteF hm hc13
  refine WP.skip ?_
  refine WQ.then_normal (hK11 _ _ _ ?_)
  refine WP.seq (fun K15 hK15 => ?_)
  refine WP.region ?_
  refine WL.runk 2 [4] [(4, .int .i64 (wI64 (left_1 - (a_0.Name.length : Int))))] (by kernel_rfl) ?_
  refine WL.nil ?_
  refine WQ.then_normal (hK15 _ _ _ ?_)
  refine WP.ret ?_
  obtain rfl := Option.some.inj hm
  exact WQ.ret1 _ rfl rfl ⟨rfl, hb7⟩

theorem c_94 (n : Nat) (c_0 : Int) (w : World) {r : Bool} (hm : m_spec_l01Small n c_0 = some r)  :
    CallV Try.prog 94 #[.int .u8 c_0] w (fun v w' => v = .bool r ∧ Ext w w') := by
  unfold m_spec_l01Small at hm
  refine CallV.enter Try.func94 rfl (by kernel_rfl) Try.ntmps94 (env := [(0, .int .u8 c_0)]) ⟨rfl, trivial⟩ ?_
  refine WP.seq (fun K1 hK1 => ?_)
  refine WP.region ?_
  refine WL.runk 1 [0] [(0, .int .u8 c_0)] (by kernel_rfl) ?_
  refine WL.nil ?_
  refine WQ.then_normal (hK1 _ _ _ ?_)
  refine WP.seq (fun K2 hK2 => ?_)
  obtain ⟨x4, hx5, hm⟩ := bindE hm
  refine WP.cut (fun env' w' => env' = [(2, .bool x4)] ∧ Ext w w' ∧ w.heap.size ≤ w'.heap.size ∧ SH w' w.heap.size []) ?_ ?_
  rotate_left
  · clear hx5
    rintro _ w7 ⟨rfl, hb8, hL9, hS10⟩
    refine WQ.then_normal (hK2 _ _ _ ?_)
    refine WP.ret ?_
    obtain rfl := Option.some.inj hm
    exact WQ.ret1 _ rfl rfl ⟨rfl, hb8⟩
  have hm := hx5; clear hx5
  refine WP.region ?_
  refine WL.runk 3 [0, 5] [(0, .int .u8 c_0), (5, .bool (decide (c_0 ≥ 97)))] (by kernel_rfl) ?_
  refine WL.case (decide (c_0 ≥ 97)) [5] ⟨rfl, trivial⟩ (fun hc6 => ?_) (fun hc6 => ?_)
  · have hm := iteT hm hc6
    refine WL.runk 4 [2] [(2, .bool (decide (c_0 ≤ 122)))] (by kernel_rfl) ?_
    refine WL.nil ?_
    obtain rfl := Option.some.inj hm
    exact WQ.post' ⟨rfl, (Ext.refl w), (Nat.le_refl _), (SH.nil _ _)⟩ ⟨rfl, trivial⟩
  have hm := iteF hm hc6
  refine WL.runk 4 [2] [(2, .bool false)] (by kernel_rfl) ?_
  refine WL.nil ?_
  obtain rfl := Option.some.inj hm
  exact WQ.post' ⟨rfl, (Ext.refl w), (Nat.le_refl _), (SH.nil _ _)⟩ ⟨rfl, trivial⟩

theorem c_95 (n : Nat) (c_0 : Int) (w : World) {r : Bool} (hm : m_spec_l01Digit n c_0 = some r)  :
    CallV Try.prog 95 #[.int .u8 c_0] w (fun v w' => v = .bool r ∧ Ext w w') := by
  unfold m_spec_l01Digit at hm
  refine CallV.enter Try.func95 rfl (by kernel_rfl) Try.ntmps95 (env := [(0, .int .u8 c_0)]) ⟨rfl, trivial⟩ ?_
  refine WP.seq (fun K1 hK1 => ?_)
  refine WP.region ?_
  refine WL.runk 1 [0] [(0, .int .u8 c_0)] (by kernel_rfl) ?_
  refine WL.nil ?_
  refine WQ.then_normal (hK1 _ _ _ ?_)
  refine WP.seq (fun K2 hK2 => ?_)
  obtain ⟨x4, hx5, hm⟩ := bindE hm
  refine WP.cut (fun env' w' => env' = [(2, .bool x4)] ∧ Ext w w' ∧ w.heap.size ≤ w'.heap.size ∧ SH w' w.heap.size []) ?_ ?_
  rotate_left
  · clear hx5
    rintro _ w7 ⟨rfl, hb8, hL9, hS10⟩
    refine WQ.then_normal (hK2 _ _ _ ?_)
    refine WP.ret ?_
    obtain rfl := Option.some.inj hm
    exact WQ.ret1 _ rfl rfl ⟨rfl, hb8⟩
  have hm := hx5; clear hx5
  refine WP.region ?_
  refine WL.runk 3 [0, 5] [(0, .int .u8 c_0), (5, .bool (decide (c_0 ≥ 48)))] (by kernel_rfl) ?_
  refine WL.case (decide (c_0 ≥ 48)) [5] ⟨rfl, trivial⟩ (fun hc6 => ?_) (fun hc6 => ?_)
  · have hm := iteT hm hc6
    refine WL.runk 4 [2] [(2, .bool (decide (c_0 ≤ 57)))] (by kernel_rfl) ?_
    refine WL.nil ?_
    obtain rfl := Option.some.inj hm
    exact WQ.post' ⟨rfl, (Ext.refl w), (Nat.le_refl _), (SH.nil _ _)⟩ ⟨rfl, trivial⟩
  have hm := iteF hm hc6
  refine WL.runk 4 [2] [(2, .bool false)] (by kernel_rfl) ?_
  refine WL.nil ?_
  obtain rfl := Option.some.inj hm
  exact WQ.post' ⟨rfl, (Ext.refl w), (Nat.le_refl _), (SH.nil _ _)⟩ ⟨rfl, trivial⟩

theorem c_86 (n : Nat) (s_0 : List UInt8) (w : World) {r : Bool} (hm : m_spec_IsName n s_0 = some r)  :
    CallV Try.prog 86 #[.string (bs s_0)] w (fun v w' => v = .bool r ∧ Ext w w') := by
  unfold m_spec_IsName at hm
  refine CallV.enter Try.func86 rfl (by kernel_rfl) Try.ntmps86 (env := [(0, .string (bs s_0))]) ⟨rfl, trivial⟩ ?_
  refine WP.seq (fun K1 hK1 => ?_)
  refine WP.region ?_
  refine WL.runk 1 [0] [(0, .string (bs s_0))] (by kernel_rfl) ?_
  refine WL.nil ?_
  refine WQ.then_normal (hK1 _ _ _ ?_)
  refine WP.seq (fun K2 hK2 => ?_)
  refine WP.seq (fun K3 hK3 => ?_)
  obtain ⟨x16, hx17, hm⟩ := bindE hm
  refine WP.cut (fun env' w' => env' = [(0, .string (bs s_0)), (16, .bool x16)] ∧ Ext w w' ∧ w.heap.size ≤ w'.heap.size ∧ SH w' w.heap.size []) ?_ ?_
  · have hm := hx17; clear hx17
    refine WP.region ?_
    refine WL.runk 1 [0, 4] [(0, .string (bs s_0)), (4, .string (bs s_0))] (by kernel_rfl) ?_
    refine WL.st (.bool (s_0 == [])) (ST.streq (x := s_0) (y := []) rfl rfl rfl) rfl rfl rfl ?_
    refine WL.runk 1 [0, 6] [(0, .string (bs s_0)), (6, .bool (s_0 == []))] (by kernel_rfl) ?_
    refine WL.case (s_0 == []) [6] ⟨rfl, trivial⟩ (fun hc18 => ?_) (fun hc18 => ?_)
    · have hm := iteT hm hc18
      refine WL.runk 10 [0, 16] [(0, .string (bs s_0)), (16, .bool true)] (by kernel_rfl) ?_
      refine WL.nil ?_
      obtain rfl := Option.some.inj hm
      exact WQ.post' ⟨rfl, (Ext.refl w), (Nat.le_refl _), (SH.nil _ _)⟩ ⟨rfl, rfl, trivial⟩
    have hm := iteF hm hc18
    refine WL.runk 5 [0, 11] [(0, .string (bs s_0)), (11, .bool (decide ((s_0.length : Int) > 12)))] (by kernel_rfl) ?_
    refine WL.case (decide ((s_0.length : Int) > 12)) [11] ⟨rfl, trivial⟩ (fun hc19 => ?_) (fun hc19 => ?_)
    · have hm := iteT hm hc19
      refine WL.runk 5 [0, 16] [(0, .string (bs s_0)), (16, .bool true)] (by kernel_rfl) ?_
      refine WL.nil ?_
      obtain rfl := Option.some.inj hm
      exact WQ.post' ⟨rfl, (Ext.refl w), (Nat.le_refl _), (SH.nil _ _)⟩ ⟨rfl, rfl, trivial⟩
    have hm := iteF hm hc19
    refine WL.runk 1 [0, 11, 12] [(0, .string (bs s_0)), (11, .bool false), (12, .string (bs s_0))] (by kernel_rfl) ?_
    obtain ⟨x20, hx21, hm⟩ := bindE hm
    refine WL.st (.int .u8 (x20.toNat : Int)) (ST.sindex hx21 rfl rfl rfl Try.underlying9) rfl rfl rfl ?_
    obtain ⟨x22, hx23, hm⟩ := bindE hm
    refine WL.call 94 #[.int .u8 (x20.toNat : Int)] rfl rfl (by kernel_rfl) (c_94 n (x20.toNat : Int) w hx23 ) ?_
    rintro _ w24 ⟨rfl, hE25⟩
    refine ⟨_, rfl, ?_⟩
    have hb27 : Ext w w24 := Ext.trans (Ext.refl w) hE25
    have hL28 : w.heap.size ≤ w24.heap.size := Nat.le_trans (Nat.le_refl _) hE25.size
    have hS29 : SH w24 w.heap.size [] := SH.ext (SH.nil _ _) hE25
    refine WL.runk 2 [0, 16] [(0, .string (bs s_0)), (16, .bool (!x22))] (by kernel_rfl) ?_
    refine WL.nil ?_
    obtain rfl := Option.some.inj hm
    exact WQ.post' ⟨rfl, hb27, hL28, hS29⟩ ⟨rfl, rfl, trivial⟩
  clear hx17
  rintro _ w30 ⟨rfl, hb31, hL32, hS33⟩
  refine WQ.then_normal (hK3 _ _ _ ?_)
  refine WP.cond x16 rfl rfl (fun hc34 => ?_) (fun hc34 => ?_)
  · have hm := iteT hm hc34
    refine WP.seq (fun K35 hK35 => ?_)
    refine WP.region ?_
    refine WL.runk 1 [2] [(2, .bool false)] (by kernel_rfl) ?_
    refine WL.nil ?_
    refine WQ.then_normal (hK35 _ _ _ ?_)
    refine WP.ret ?_
    refine WQ.then_ret ?_
    obtain rfl := Option.some.inj hm
    exact WQ.ret1 _ rfl rfl ⟨rfl, hb31⟩
  have hm := iteF hm hc34
  refine WP.skip ?_
  refine WQ.then_normal (hK2 _ _ _ ?_)
  refine WP.seq (fun K36 hK36 => ?_)
  refine WP.seq (fun K37 hK37 => ?_)
  refine WP.region ?_
  refine WL.runk 1 [0, 3] [(0, .string (bs s_0)), (3, .int .i64 0)] (by kernel_rfl) ?_
  refine WL.nil ?_
  refine WQ.then_normal (hK37 _ _ _ ?_)
  refine WP.block ?_
  obtain ⟨t49, ht50, hm⟩ := bindE hm
  have hmo44 := hm; clear hm
  refine WP.sub [(0, .string (bs s_0)), (3, .int .i64 0)] ⟨rfl, rfl, trivial⟩ ?_
  refine WP.loop (fun n' env' w' => ∃ (st38 : Int) , env' = [(0, .string (bs s_0)), (3, .int .i64 st38)] ∧ Ext w w' ∧ w.heap.size ≤ w'.heap.size ∧ SH w' w.heap.size [] ∧ loopN (m_spec_IsName_l1 n s_0) n' st38 = some t49) n ⟨0, rfl, hb31, hL32, hS33, ht50⟩ ?_
  rintro n46 _ w39 ⟨st38, rfl, hb40, hL41, hS42, hl43⟩ K45 hK45
  obtain ⟨n47, s48, rfl, hm, hl43⟩ := loopN_some hl43
  unfold m_spec_IsName_l1 at hm
  refine WP.seq (fun K51 hK51 => ?_)
  refine WP.seq (fun K52 hK52 => ?_)
  refine WP.region ?_
  refine WL.runk 4 [0, 3, 20] [(0, .string (bs s_0)), (3, .int .i64 st38), (20, .bool (decide (st38 < (s_0.length : Int))))] (by kernel_rfl) ?_
  refine WL.nil ?_
  refine WQ.then_normal (hK52 _ _ _ ?_)
  refine WP.cond (decide (st38 < (s_0.length : Int))) rfl rfl (fun hc53 => ?_) (fun hc53 => ?_)
  rotate_left
  · have hm := iteF hm hc53
    refine WP.exit ?_
    refine WQ.then_exit ?_
    refine WQ.then_exit ?_
    refine WQ.block_here ?_
    obtain rfl := Option.some.inj hm
    obtain rfl := afterN_done hl43
    have hm := hmo44
    refine WQ.then_normal (hK36 _ _ _ ?_)
    refine WP.seq (fun K112 hK112 => ?_)
    refine WP.region ?_
    refine WL.runk 1 [2] [(2, .bool true)] (by kernel_rfl) ?_
    refine WL.nil ?_
    refine WQ.then_normal (hK112 _ _ _ ?_)
    refine WP.ret ?_
    obtain rfl := Option.some.inj hm
    exact WQ.ret1 _ rfl rfl ⟨rfl, hb40⟩
  have hm := iteT hm hc53
  refine WP.skip ?_
  refine WQ.then_normal (hK51 _ _ _ ?_)
  refine WP.seq (fun K54 hK54 => ?_)
  refine WP.block ?_
  refine WP.seq (fun K55 hK55 => ?_)
  obtain ⟨x80, hx81, hm⟩ := bindE hm
  refine WP.cut (fun env' w' => env' = [(0, .string (bs s_0)), (3, .int .i64 st38), (40, .bool x80)] ∧ Ext w w' ∧ w.heap.size ≤ w'.heap.size ∧ SH w' w.heap.size []) ?_ ?_
  rotate_left
  · clear hx81
    rintro _ w106 ⟨rfl, hb107, hL108, hS109⟩
    refine WQ.then_normal (hK55 _ _ _ ?_)
    refine WP.cond x80 rfl rfl (fun hc110 => ?_) (fun hc110 => ?_)
    rotate_left
    · have hm := iteF hm hc110
      refine WP.skip ?_
      refine WQ.block_normal ?_
      refine WQ.then_normal (hK54 _ _ _ ?_)
      refine WP.region ?_
      refine WL.runk 3 [0, 3] [(0, .string (bs s_0)), (3, .int .i64 (wI64 (st38 + 1)))] (by kernel_rfl) ?_
      refine WL.nil ?_
      obtain rfl := Option.some.inj hm
      exact WQ.round hK45 ⟨(wI64 (st38 + 1)), rfl, hb107, hL108, hS109, hl43⟩ (Nat.lt_succ_self _) ⟨rfl, rfl, trivial⟩
    have hm := iteT hm hc110
    refine WP.seq (fun K111 hK111 => ?_)
    refine WP.region ?_
    refine WL.runk 1 [2] [(2, .bool false)] (by kernel_rfl) ?_
    refine WL.nil ?_
    refine WQ.then_normal (hK111 _ _ _ ?_)
    refine WP.ret ?_
    refine WQ.block_ret ?_
    refine WQ.then_ret ?_
    refine WQ.then_ret ?_
    refine WQ.block_ret ?_
    refine WQ.then_ret ?_
    obtain rfl := Option.some.inj hm
    obtain rfl := afterN_done hl43
    have hm := hmo44
    obtain rfl := Option.some.inj hm
    exact WQ.ret1 _ rfl rfl ⟨rfl, hb107⟩
  have hm := hx81; clear hx81
  refine WP.region ?_
  refine WL.runk 2 [0, 3, 23, 24] [(0, .string (bs s_0)), (3, .int .i64 st38), (23, .string (bs s_0)), (24, .int .i64 st38)] (by kernel_rfl) ?_
  obtain ⟨x82, hx83, hm⟩ := bindE hm
  refine WL.st (.int .u8 (x82.toNat : Int)) (ST.sindex hx83 rfl rfl rfl Try.underlying9) rfl rfl rfl ?_
  obtain ⟨x84, hx85, hm⟩ := bindE hm
  refine WL.call 94 #[.int .u8 (x82.toNat : Int)] rfl rfl (by kernel_rfl) (c_94 n (x82.toNat : Int) w39 hx85 ) ?_
  rintro _ w86 ⟨rfl, hE87⟩
  refine ⟨_, rfl, ?_⟩
  have hb89 : Ext w w86 := Ext.trans hb40 hE87
  have hL90 : w.heap.size ≤ w86.heap.size := Nat.le_trans hL41 hE87.size
  have hS91 : SH w86 w.heap.size [] := SH.ext hS42 hE87
  refine WL.runk 2 [0, 3, 28] [(0, .string (bs s_0)), (3, .int .i64 st38), (28, .bool (!x84))] (by kernel_rfl) ?_
  refine WL.case (!x84) [28] ⟨rfl, trivial⟩ (fun hc92 => ?_) (fun hc92 => ?_)
  rotate_left
  · have hm := iteF hm hc92
    refine WL.runk 12 [0, 3, 40] [(0, .string (bs s_0)), (3, .int .i64 st38), (40, .bool false)] (by kernel_rfl) ?_
    refine WL.nil ?_
    obtain rfl := Option.some.inj hm
    exact WQ.post' ⟨rfl, hb89, hL90, hS91⟩ ⟨rfl, rfl, rfl, trivial⟩
  have hm := iteT hm hc92
  refine WL.runk 2 [0, 3, 28, 29, 30] [(0, .string (bs s_0)), (3, .int .i64 st38), (28, .bool true), (29, .string (bs s_0)), (30, .int .i64 st38)] (by kernel_rfl) ?_
  obtain ⟨x93, hx94, hm⟩ := bindE hm
  refine WL.st (.int .u8 (x93.toNat : Int)) (ST.sindex hx94 rfl rfl rfl Try.underlying9) rfl rfl rfl ?_
  obtain ⟨x95, hx96, hm⟩ := bindE hm
  refine WL.call 95 #[.int .u8 (x93.toNat : Int)] rfl rfl (by kernel_rfl) (c_95 n (x93.toNat : Int) w86 hx96 ) ?_
  rintro _ w97 ⟨rfl, hE98⟩
  refine ⟨_, rfl, ?_⟩
  have hb100 : Ext w w97 := Ext.trans hb89 hE98
  have hL101 : w.heap.size ≤ w97.heap.size := Nat.le_trans hL90 hE98.size
  have hS102 : SH w97 w.heap.size [] := SH.ext hS91 hE98
  refine WL.runk 3 [0, 3, 35] [(0, .string (bs s_0)), (3, .int .i64 st38), (35, .bool (!x95))] (by kernel_rfl) ?_
  refine WL.case (!x95) [35] ⟨rfl, trivial⟩ (fun hc103 => ?_) (fun hc103 => ?_)
  rotate_left
  · have hm := iteF hm hc103
    refine WL.runk 5 [0, 3, 40] [(0, .string (bs s_0)), (3, .int .i64 st38), (40, .bool false)] (by kernel_rfl) ?_
    refine WL.nil ?_
    obtain rfl := Option.some.inj hm
    exact WQ.post' ⟨rfl, hb100, hL101, hS102⟩ ⟨rfl, rfl, rfl, trivial⟩
  have hm := iteT hm hc103
  refine WL.runk 2 [0, 3, 35, 36, 37] [(0, .string (bs s_0)), (3, .int .i64 st38), (35, .bool true), (36, .string (bs s_0)), (37, .int .i64 st38)] (by kernel_rfl) ?_
  obtain ⟨x104, hx105, hm⟩ := bindE hm
  refine WL.st (.int .u8 (x104.toNat : Int)) (ST.sindex hx105 rfl rfl rfl Try.underlying9) rfl rfl rfl ?_
  refine WL.runk 2 [0, 3, 40] [(0, .string (bs s_0)), (3, .int .i64 st38), (40, .bool ((x104.toNat : Int) != 45))] (by kernel_rfl) ?_
  refine WL.nil ?_
  obtain rfl := Option.some.inj hm
  exact WQ.post' ⟨rfl, hb100, hL101, hS102⟩ ⟨rfl, rfl, rfl, trivial⟩

theorem c_96 (n : Nat) (n_0 : Int) (w : World) {r : Bool} (hm : m_spec_l02One n n_0 = some r)  :
    CallV Try.prog 96 #[.int .i64 n_0] w (fun v w' => v = .bool r ∧ Ext w w') := by
  unfold m_spec_l02One at hm
  refine CallV.enter Try.func96 rfl (by kernel_rfl) Try.ntmps96 (env := [(0, .int .i64 n_0)]) ⟨rfl, trivial⟩ ?_
  refine WP.seq (fun K1 hK1 => ?_)
  refine WP.region ?_
  refine WL.runk 1 [0] [(0, .int .i64 n_0)] (by kernel_rfl) ?_
  refine WL.nil ?_
  refine WQ.then_normal (hK1 _ _ _ ?_)
  refine WP.seq (fun K2 hK2 => ?_)
  refine WP.region ?_
  refine WL.runk 1 [3] [(3, .int .i64 n_0)] (by kernel_rfl) ?_
  obtain ⟨x3, hx4, hm⟩ := bindE hm
  refine WL.call 64 #[.int .i64 n_0, .int .i64 500, .int .i64 5000] rfl rfl (by kernel_rfl) (c_64 n n_0 500 5000 w hx4 ) ?_
  rintro _ w5 ⟨rfl, hE6⟩
  refine ⟨_, rfl, ?_⟩
  have hb8 : Ext w w5 := Ext.trans (Ext.refl w) hE6
  have hL9 : w.heap.size ≤ w5.heap.size := Nat.le_trans (Nat.le_refl _) hE6.size
  have hS10 : SH w5 w.heap.size [] := SH.ext (SH.nil _ _) hE6
  refine WL.runk 1 [2] [(2, .bool x3)] (by kernel_rfl) ?_
  refine WL.nil ?_
  refine WQ.then_normal (hK2 _ _ _ ?_)
  refine WP.ret ?_
  obtain rfl := Option.some.inj hm
  exact WQ.ret1 _ rfl rfl ⟨rfl, hb8⟩

theorem c_87 (n : Nat) (f_0 : SFoot) (w : World) {r : Bool} (hm : m_spec_l02Foot n f_0 = some r)  :
    CallV Try.prog 87 #[.agg #[.int .i64 f_0.Length, .int .i64 f_0.Ball, .int .i64 f_0.Instep, .int .i64 f_0.Heel]] w (fun v w' => v = .bool r ∧ Ext w w') := by
  unfold m_spec_l02Foot at hm
  refine CallV.enter Try.func87 rfl (by kernel_rfl) Try.ntmps87 (env := [(0, .agg #[.int .i64 f_0.Length, .int .i64 f_0.Ball, .int .i64 f_0.Instep, .int .i64 f_0.Heel])]) ⟨rfl, trivial⟩ ?_
  refine WP.seq (fun K1 hK1 => ?_)
  refine WP.region ?_
  refine WL.box 95 [.int .i64 f_0.Length, .int .i64 f_0.Ball, .int .i64 f_0.Instep, .int .i64 f_0.Heel] 1 (by kernel_rfl) rfl rfl rfl rfl ?_
  intro b2 w3 hE4 hR5
  have hb7 : Ext w w3 := Ext.trans (Ext.refl w) hE4
  have hL8 : w.heap.size ≤ w3.heap.size := Nat.le_trans (Nat.le_refl _) hE4.size
  have hS9 : SH w3 w.heap.size [aBox 95 b2 [.int .i64 f_0.Length, .int .i64 f_0.Ball, .int .i64 f_0.Instep, .int .i64 f_0.Heel]] := SH.add (SH.nil _ _) hE4 (Nat.le_refl _) hR5
  refine WL.runk 1 [1] [(1, .pointer (some ⟨b2, 0, none⟩))] (by kernel_rfl) ?_
  refine WL.nil ?_
  refine WQ.then_normal (hK1 _ _ _ ?_)
  refine WP.seq (fun K10 hK10 => ?_)
  obtain ⟨x46, hx47, hm⟩ := bindE hm
  refine WP.cut (fun env' w' => env' = [(2, .bool x46)] ∧ Ext w w' ∧ w.heap.size ≤ w'.heap.size ∧ SH w' w.heap.size [aBox 95 b2 [.int .i64 f_0.Length, .int .i64 f_0.Ball, .int .i64 f_0.Instep, .int .i64 f_0.Heel]]) ?_ ?_
  rotate_left
  · clear hx47
    rintro _ w83 ⟨rfl, hb84, hL85, hS86⟩
    refine WQ.then_normal (hK10 _ _ _ ?_)
    refine WP.ret ?_
    obtain rfl := Option.some.inj hm
    exact WQ.ret1 _ rfl rfl ⟨rfl, hb84⟩
  have hm := hx47; clear hx47
  refine WP.region ?_
  refine WL.runk 1 [1, 3] [(1, .pointer (some ⟨b2, 0, none⟩)), (3, .pointer (some ⟨b2, 0, none⟩))] (by kernel_rfl) ?_
  refine WL.st (.int .i64 f_0.Length) (ST.load (cell_ext (SH.boxAt (SH.front 0 hS9) 0 _ rfl)) rfl rfl Try.underlying2 rfl) rfl rfl rfl ?_
  obtain ⟨x48, hx49, hm⟩ := bindE hm
  refine WL.call 96 #[.int .i64 f_0.Length] rfl rfl (by kernel_rfl) (c_96 n f_0.Length w3 hx49 ) ?_
  rintro _ w50 ⟨rfl, hE51⟩
  refine ⟨_, rfl, ?_⟩
  have hb53 : Ext w w50 := Ext.trans hb7 hE51
  have hL54 : w.heap.size ≤ w50.heap.size := Nat.le_trans hL8 hE51.size
  have hS55 : SH w50 w.heap.size [aBox 95 b2 [.int .i64 f_0.Length, .int .i64 f_0.Ball, .int .i64 f_0.Instep, .int .i64 f_0.Heel]] := SH.ext hS9 hE51
  refine WL.runk 1 [1, 6] [(1, .pointer (some ⟨b2, 0, none⟩)), (6, .bool x48)] (by kernel_rfl) ?_
  refine WL.case x48 [6] ⟨rfl, trivial⟩ (fun hc56 => ?_) (fun hc56 => ?_)
  rotate_left
  · have hm := iteF hm hc56
    refine WL.runk 15 [2] [(2, .bool false)] (by kernel_rfl) ?_
    refine WL.nil ?_
    obtain rfl := Option.some.inj hm
    exact WQ.post' ⟨rfl, hb53, hL54, hS55⟩ ⟨rfl, trivial⟩
  have hm := iteT hm hc56
  refine WL.runk 1 [1, 6, 7] [(1, .pointer (some ⟨b2, 0, none⟩)), (6, .bool true), (7, .pointer (some ⟨b2, 1, none⟩))] (by kernel_rfl) ?_
  refine WL.st (.int .i64 f_0.Ball) (ST.load (cell_ext (SH.boxAt (SH.front 0 hS55) 1 _ rfl)) rfl rfl Try.underlying2 rfl) rfl rfl rfl ?_
  obtain ⟨x57, hx58, hm⟩ := bindE hm
  refine WL.call 96 #[.int .i64 f_0.Ball] rfl rfl (by kernel_rfl) (c_96 n f_0.Ball w50 hx58 ) ?_
  rintro _ w59 ⟨rfl, hE60⟩
  refine ⟨_, rfl, ?_⟩
  have hb62 : Ext w w59 := Ext.trans hb53 hE60
  have hL63 : w.heap.size ≤ w59.heap.size := Nat.le_trans hL54 hE60.size
  have hS64 : SH w59 w.heap.size [aBox 95 b2 [.int .i64 f_0.Length, .int .i64 f_0.Ball, .int .i64 f_0.Instep, .int .i64 f_0.Heel]] := SH.ext hS55 hE60
  refine WL.runk 2 [1, 11] [(1, .pointer (some ⟨b2, 0, none⟩)), (11, .bool x57)] (by kernel_rfl) ?_
  refine WL.case x57 [11] ⟨rfl, trivial⟩ (fun hc65 => ?_) (fun hc65 => ?_)
  rotate_left
  · have hm := iteF hm hc65
    refine WL.runk 10 [2] [(2, .bool false)] (by kernel_rfl) ?_
    refine WL.nil ?_
    obtain rfl := Option.some.inj hm
    exact WQ.post' ⟨rfl, hb62, hL63, hS64⟩ ⟨rfl, trivial⟩
  have hm := iteT hm hc65
  refine WL.runk 1 [1, 11, 12] [(1, .pointer (some ⟨b2, 0, none⟩)), (11, .bool true), (12, .pointer (some ⟨b2, 2, none⟩))] (by kernel_rfl) ?_
  refine WL.st (.int .i64 f_0.Instep) (ST.load (cell_ext (SH.boxAt (SH.front 0 hS64) 2 _ rfl)) rfl rfl Try.underlying2 rfl) rfl rfl rfl ?_
  obtain ⟨x66, hx67, hm⟩ := bindE hm
  refine WL.call 96 #[.int .i64 f_0.Instep] rfl rfl (by kernel_rfl) (c_96 n f_0.Instep w59 hx67 ) ?_
  rintro _ w68 ⟨rfl, hE69⟩
  refine ⟨_, rfl, ?_⟩
  have hb71 : Ext w w68 := Ext.trans hb62 hE69
  have hL72 : w.heap.size ≤ w68.heap.size := Nat.le_trans hL63 hE69.size
  have hS73 : SH w68 w.heap.size [aBox 95 b2 [.int .i64 f_0.Length, .int .i64 f_0.Ball, .int .i64 f_0.Instep, .int .i64 f_0.Heel]] := SH.ext hS64 hE69
  refine WL.runk 2 [1, 16] [(1, .pointer (some ⟨b2, 0, none⟩)), (16, .bool x66)] (by kernel_rfl) ?_
  refine WL.case x66 [16] ⟨rfl, trivial⟩ (fun hc74 => ?_) (fun hc74 => ?_)
  rotate_left
  · have hm := iteF hm hc74
    refine WL.runk 5 [2] [(2, .bool false)] (by kernel_rfl) ?_
    refine WL.nil ?_
    obtain rfl := Option.some.inj hm
    exact WQ.post' ⟨rfl, hb71, hL72, hS73⟩ ⟨rfl, trivial⟩
  have hm := iteT hm hc74
  refine WL.runk 1 [16, 17] [(16, .bool true), (17, .pointer (some ⟨b2, 3, none⟩))] (by kernel_rfl) ?_
  refine WL.st (.int .i64 f_0.Heel) (ST.load (cell_ext (SH.boxAt (SH.front 0 hS73) 3 _ rfl)) rfl rfl Try.underlying2 rfl) rfl rfl rfl ?_
  obtain ⟨x75, hx76, hm⟩ := bindE hm
  refine WL.call 96 #[.int .i64 f_0.Heel] rfl rfl (by kernel_rfl) (c_96 n f_0.Heel w68 hx76 ) ?_
  rintro _ w77 ⟨rfl, hE78⟩
  refine ⟨_, rfl, ?_⟩
  have hb80 : Ext w w77 := Ext.trans hb71 hE78
  have hL81 : w.heap.size ≤ w77.heap.size := Nat.le_trans hL72 hE78.size
  have hS82 : SH w77 w.heap.size [aBox 95 b2 [.int .i64 f_0.Length, .int .i64 f_0.Ball, .int .i64 f_0.Instep, .int .i64 f_0.Heel]] := SH.ext hS73 hE78
  refine WL.runk 2 [2] [(2, .bool x75)] (by kernel_rfl) ?_
  refine WL.nil ?_
  obtain rfl := Option.some.inj hm
  exact WQ.post' ⟨rfl, hb80, hL81, hS82⟩ ⟨rfl, trivial⟩

theorem c_88 (n : Nat) (x_0 : SLast) (w : World) {r : SFoot} (hm : m_spec_l04Foot n x_0 = some r)  :
    CallV Try.prog 88 #[.agg #[.string (bs x_0.Name), .int .i64 x_0.Length, .int .i64 x_0.Ball, .int .i64 x_0.Instep, .int .i64 x_0.Heel, .int .i64 x_0.Pitch]] w (fun v w' => v = .agg #[.int .i64 r.Length, .int .i64 r.Ball, .int .i64 r.Instep, .int .i64 r.Heel] ∧ Ext w w') := by
  unfold m_spec_l04Foot at hm
  refine CallV.enter Try.func88 rfl (by kernel_rfl) Try.ntmps88 (env := [(0, .agg #[.string (bs x_0.Name), .int .i64 x_0.Length, .int .i64 x_0.Ball, .int .i64 x_0.Instep, .int .i64 x_0.Heel, .int .i64 x_0.Pitch])]) ⟨rfl, trivial⟩ ?_
  refine WP.seq (fun K1 hK1 => ?_)
  refine WP.region ?_
  refine WL.box 61 [.string (bs x_0.Name), .int .i64 x_0.Length, .int .i64 x_0.Ball, .int .i64 x_0.Instep, .int .i64 x_0.Heel, .int .i64 x_0.Pitch] 1 (by kernel_rfl) rfl rfl rfl rfl ?_
  intro b2 w3 hE4 hR5
  have hb7 : Ext w w3 := Ext.trans (Ext.refl w) hE4
  have hL8 : w.heap.size ≤ w3.heap.size := Nat.le_trans (Nat.le_refl _) hE4.size
  have hS9 : SH w3 w.heap.size [aBox 61 b2 [.string (bs x_0.Name), .int .i64 x_0.Length, .int .i64 x_0.Ball, .int .i64 x_0.Instep, .int .i64 x_0.Heel, .int .i64 x_0.Pitch]] := SH.add (SH.nil _ _) hE4 (Nat.le_refl _) hR5
  refine WL.box 95 [.int .i64 0, .int .i64 0, .int .i64 0, .int .i64 0] 2 (by kernel_rfl) rfl rfl rfl rfl ?_
  intro b10 w11 hE12 hR13
  have hb15 : Ext w w11 := Ext.trans hb7 hE12
  have hL16 : w.heap.size ≤ w11.heap.size := Nat.le_trans hL8 hE12.size
  have hS17 : SH w11 w.heap.size [aBox 95 b10 [.int .i64 0, .int .i64 0, .int .i64 0, .int .i64 0], aBox 61 b2 [.string (bs x_0.Name), .int .i64 x_0.Length, .int .i64 x_0.Ball, .int .i64 x_0.Instep, .int .i64 x_0.Heel, .int .i64 x_0.Pitch]] := SH.add hS9 hE12 hL8 hR13
  refine WL.sub [(1, .pointer (some ⟨b2, 0, none⟩)), (2, .pointer (some ⟨b10, 0, none⟩))] ⟨rfl, rfl, trivial⟩ ?_
  refine WL.nil ?_
  refine WQ.then_normal (hK1 _ _ _ ?_)
  refine WP.seq (fun K18 hK18 => ?_)
  refine WP.region ?_
  refine WL.runk 1 [1, 2, 3] [(1, .pointer (some ⟨b2, 0, none⟩)), (2, .pointer (some ⟨b10, 0, none⟩)), (3, .pointer (some ⟨b2, 1, none⟩))] (by kernel_rfl) ?_
  refine WL.st (.int .i64 x_0.Length) (ST.load (cell_ext (SH.boxAt (SH.front 1 hS17) 1 _ rfl)) rfl rfl Try.underlying2 rfl) rfl rfl rfl ?_
  refine WL.runk 1 [1, 2, 4, 5] [(1, .pointer (some ⟨b2, 0, none⟩)), (2, .pointer (some ⟨b10, 0, none⟩)), (4, .int .i64 x_0.Length), (5, .pointer (some ⟨b2, 2, none⟩))] (by kernel_rfl) ?_
  refine WL.st (.int .i64 x_0.Ball) (ST.load (cell_ext (SH.boxAt (SH.front 1 hS17) 2 _ rfl)) rfl rfl Try.underlying2 rfl) rfl rfl rfl ?_
  refine WL.runk 1 [1, 2, 4, 6, 7] [(1, .pointer (some ⟨b2, 0, none⟩)), (2, .pointer (some ⟨b10, 0, none⟩)), (4, .int .i64 x_0.Length), (6, .int .i64 x_0.Ball), (7, .pointer (some ⟨b2, 3, none⟩))] (by kernel_rfl) ?_
  refine WL.st (.int .i64 x_0.Instep) (ST.load (cell_ext (SH.boxAt (SH.front 1 hS17) 3 _ rfl)) rfl rfl Try.underlying2 rfl) rfl rfl rfl ?_
  refine WL.runk 1 [2, 4, 6, 8, 9] [(2, .pointer (some ⟨b10, 0, none⟩)), (4, .int .i64 x_0.Length), (6, .int .i64 x_0.Ball), (8, .int .i64 x_0.Instep), (9, .pointer (some ⟨b2, 4, none⟩))] (by kernel_rfl) ?_
  refine WL.st (.int .i64 x_0.Heel) (ST.load (cell_ext (SH.boxAt (SH.front 1 hS17) 4 _ rfl)) rfl rfl Try.underlying2 rfl) rfl rfl rfl ?_
  refine WL.runk 1 [2, 11] [(2, .pointer (some ⟨b10, 0, none⟩)), (11, .agg #[.int .i64 x_0.Length, .int .i64 x_0.Ball, .int .i64 x_0.Instep, .int .i64 x_0.Heel])] (by kernel_rfl) ?_
  refine WL.boxStore 0 [.int .i64 x_0.Length, .int .i64 x_0.Ball, .int .i64 x_0.Instep, .int .i64 x_0.Heel] [.int .i64 x_0.Length, .int .i64 x_0.Ball, .int .i64 x_0.Instep, .int .i64 x_0.Heel] (SH.front 0 hS17) hL16 rfl rfl rfl rfl rfl rfl rfl (info95).1 (info95).2.1 rfl rfl rfl ?_
  intro w19 hB20 hS21
  have hb22 : Ext w w19 := Below.trans hb15 hB20
  have hL23 : w.heap.size ≤ w19.heap.size := Nat.le_trans hL16 hB20.size
  refine WL.sub [(2, .pointer (some ⟨b10, 0, none⟩))] ⟨rfl, trivial⟩ ?_
  refine WL.nil ?_
  refine WQ.then_normal (hK18 _ _ _ ?_)
  refine WP.ret ?_
  obtain rfl := Option.some.inj hm
  exact WQ.retv1 _ rfl (RVal.box (SH.front 0 hS21) rfl Try.underlying95 rfl (info95).1 (info95).2.1) ⟨rfl, hb22⟩

theorem c_76 (n : Nat) (x_0 : SLast) (w : World) {r : Bool} (hm : m_spec_l04One n x_0 = some r)  :
    CallV Try.prog 76 #[.agg #[.string (bs x_0.Name), .int .i64 x_0.Length, .int .i64 x_0.Ball, .int .i64 x_0.Instep, .int .i64 x_0.Heel, .int .i64 x_0.Pitch]] w (fun v w' => v = .bool r ∧ Ext w w') := by
  unfold m_spec_l04One at hm
  refine CallV.enter Try.func76 rfl (by kernel_rfl) Try.ntmps76 (env := [(0, .agg #[.string (bs x_0.Name), .int .i64 x_0.Length, .int .i64 x_0.Ball, .int .i64 x_0.Instep, .int .i64 x_0.Heel, .int .i64 x_0.Pitch])]) ⟨rfl, trivial⟩ ?_
  refine WP.seq (fun K1 hK1 => ?_)
  refine WP.region ?_
  refine WL.box 61 [.string (bs x_0.Name), .int .i64 x_0.Length, .int .i64 x_0.Ball, .int .i64 x_0.Instep, .int .i64 x_0.Heel, .int .i64 x_0.Pitch] 1 (by kernel_rfl) rfl rfl rfl rfl ?_
  intro b2 w3 hE4 hR5
  have hb7 : Ext w w3 := Ext.trans (Ext.refl w) hE4
  have hL8 : w.heap.size ≤ w3.heap.size := Nat.le_trans (Nat.le_refl _) hE4.size
  have hS9 : SH w3 w.heap.size [aBox 61 b2 [.string (bs x_0.Name), .int .i64 x_0.Length, .int .i64 x_0.Ball, .int .i64 x_0.Instep, .int .i64 x_0.Heel, .int .i64 x_0.Pitch]] := SH.add (SH.nil _ _) hE4 (Nat.le_refl _) hR5
  refine WL.runk 1 [1] [(1, .pointer (some ⟨b2, 0, none⟩))] (by kernel_rfl) ?_
  refine WL.nil ?_
  refine WQ.then_normal (hK1 _ _ _ ?_)
  refine WP.seq (fun K10 hK10 => ?_)
  obtain ⟨x45, hx46, hm⟩ := bindE hm
  refine WP.cut (fun env' w' => env' = [(2, .bool x45)] ∧ Ext w w' ∧ w.heap.size ≤ w'.heap.size ∧ SH w' w.heap.size [aBox 61 b2 [.string (bs x_0.Name), .int .i64 x_0.Length, .int .i64 x_0.Ball, .int .i64 x_0.Instep, .int .i64 x_0.Heel, .int .i64 x_0.Pitch]]) ?_ ?_
  rotate_left
  · clear hx46
    rintro _ w81 ⟨rfl, hb82, hL83, hS84⟩
    refine WQ.then_normal (hK10 _ _ _ ?_)
    refine WP.ret ?_
    obtain rfl := Option.some.inj hm
    exact WQ.ret1 _ rfl rfl ⟨rfl, hb82⟩
  have hm := hx46; clear hx46
  refine WP.region ?_
  refine WL.runk 1 [1, 3] [(1, .pointer (some ⟨b2, 0, none⟩)), (3, .pointer (some ⟨b2, 0, none⟩))] (by kernel_rfl) ?_
  refine WL.st (.string (bs x_0.Name)) (ST.load (cell_ext (SH.boxAt (SH.front 0 hS9) 0 _ rfl)) rfl rfl Try.underlying9 rfl) rfl rfl rfl ?_
  obtain ⟨x47, hx48, hm⟩ := bindE hm
  refine WL.call 86 #[.string (bs x_0.Name)] rfl rfl (by kernel_rfl) (c_86 n x_0.Name w3 hx48 ) ?_
  rintro _ w49 ⟨rfl, hE50⟩
  refine ⟨_, rfl, ?_⟩
  have hb52 : Ext w w49 := Ext.trans hb7 hE50
  have hL53 : w.heap.size ≤ w49.heap.size := Nat.le_trans hL8 hE50.size
  have hS54 : SH w49 w.heap.size [aBox 61 b2 [.string (bs x_0.Name), .int .i64 x_0.Length, .int .i64 x_0.Ball, .int .i64 x_0.Instep, .int .i64 x_0.Heel, .int .i64 x_0.Pitch]] := SH.ext hS9 hE50
  refine WL.runk 1 [1, 6] [(1, .pointer (some ⟨b2, 0, none⟩)), (6, .bool x47)] (by kernel_rfl) ?_
  refine WL.case x47 [6] ⟨rfl, trivial⟩ (fun hc55 => ?_) (fun hc55 => ?_)
  rotate_left
  · have hm := iteF hm hc55
    refine WL.runk 10 [2] [(2, .bool false)] (by kernel_rfl) ?_
    refine WL.nil ?_
    obtain rfl := Option.some.inj hm
    exact WQ.post' ⟨rfl, hb52, hL53, hS54⟩ ⟨rfl, trivial⟩
  have hm := iteT hm hc55
  refine WL.st (.agg #[.string (bs x_0.Name), .int .i64 x_0.Length, .int .i64 x_0.Ball, .int .i64 x_0.Instep, .int .i64 x_0.Heel, .int .i64 x_0.Pitch]) (ST.loadAgg (vs := [.string (bs x_0.Name), .int .i64 x_0.Length, .int .i64 x_0.Ball, .int .i64 x_0.Instep, .int .i64 x_0.Heel, .int .i64 x_0.Pitch]) (fun j v hv => SH.boxPart (us := [.string (bs x_0.Name), .int .i64 x_0.Length, .int .i64 x_0.Ball, .int .i64 x_0.Instep, .int .i64 x_0.Heel, .int .i64 x_0.Pitch]) (SH.front 0 hS54) 0 rfl j v hv) rfl rfl rfl Try.underlying61 rfl (info61).1 (info61).2.1) rfl rfl rfl ?_
  obtain ⟨x56, hx57, hm⟩ := bindE hm
  refine WL.call 88 #[.agg #[.string (bs x_0.Name), .int .i64 x_0.Length, .int .i64 x_0.Ball, .int .i64 x_0.Instep, .int .i64 x_0.Heel, .int .i64 x_0.Pitch]] rfl rfl (by kernel_rfl) (c_88 n x_0 w49 hx57 ) ?_
  rintro _ w58 ⟨rfl, hE59⟩
  refine ⟨_, rfl, ?_⟩
  have hb61 : Ext w w58 := Ext.trans hb52 hE59
  have hL62 : w.heap.size ≤ w58.heap.size := Nat.le_trans hL53 hE59.size
  have hS63 : SH w58 w.heap.size [aBox 61 b2 [.string (bs x_0.Name), .int .i64 x_0.Length, .int .i64 x_0.Ball, .int .i64 x_0.Instep, .int .i64 x_0.Heel, .int .i64 x_0.Pitch]] := SH.ext hS54 hE59
  obtain ⟨x64, hx65, hm⟩ := bindE hm
  refine WL.call 87 #[.agg #[.int .i64 x56.Length, .int .i64 x56.Ball, .int .i64 x56.Instep, .int .i64 x56.Heel]] rfl rfl (by kernel_rfl) (c_87 n x56 w58 hx65 ) ?_
  rintro _ w66 ⟨rfl, hE67⟩
  refine ⟨_, rfl, ?_⟩
  have hb69 : Ext w w66 := Ext.trans hb61 hE67
  have hL70 : w.heap.size ≤ w66.heap.size := Nat.le_trans hL62 hE67.size
  have hS71 : SH w66 w.heap.size [aBox 61 b2 [.string (bs x_0.Name), .int .i64 x_0.Length, .int .i64 x_0.Ball, .int .i64 x_0.Instep, .int .i64 x_0.Heel, .int .i64 x_0.Pitch]] := SH.ext hS63 hE67
  refine WL.runk 2 [1, 11] [(1, .pointer (some ⟨b2, 0, none⟩)), (11, .bool x64)] (by kernel_rfl) ?_
  refine WL.case x64 [11] ⟨rfl, trivial⟩ (fun hc72 => ?_) (fun hc72 => ?_)
  rotate_left
  · have hm := iteF hm hc72
    refine WL.runk 5 [2] [(2, .bool false)] (by kernel_rfl) ?_
    refine WL.nil ?_
    obtain rfl := Option.some.inj hm
    exact WQ.post' ⟨rfl, hb69, hL70, hS71⟩ ⟨rfl, trivial⟩
  have hm := iteT hm hc72
  refine WL.runk 1 [11, 12] [(11, .bool true), (12, .pointer (some ⟨b2, 5, none⟩))] (by kernel_rfl) ?_
  refine WL.st (.int .i64 x_0.Pitch) (ST.load (cell_ext (SH.boxAt (SH.front 0 hS71) 5 _ rfl)) rfl rfl Try.underlying2 rfl) rfl rfl rfl ?_
  obtain ⟨x73, hx74, hm⟩ := bindE hm
  refine WL.call 64 #[.int .i64 x_0.Pitch, .int .i64 0, .int .i64 1000] rfl rfl (by kernel_rfl) (c_64 n x_0.Pitch 0 1000 w66 hx74 ) ?_
  rintro _ w75 ⟨rfl, hE76⟩
  refine ⟨_, rfl, ?_⟩
  have hb78 : Ext w w75 := Ext.trans hb69 hE76
  have hL79 : w.heap.size ≤ w75.heap.size := Nat.le_trans hL70 hE76.size
  have hS80 : SH w75 w.heap.size [aBox 61 b2 [.string (bs x_0.Name), .int .i64 x_0.Length, .int .i64 x_0.Ball, .int .i64 x_0.Instep, .int .i64 x_0.Heel, .int .i64 x_0.Pitch]] := SH.ext hS71 hE76
  refine WL.runk 2 [2] [(2, .bool x73)] (by kernel_rfl) ?_
  refine WL.nil ?_
  obtain rfl := Option.some.inj hm
  exact WQ.post' ⟨rfl, hb78, hL79, hS80⟩ ⟨rfl, trivial⟩

theorem c_77 (n : Nat) (x_0 : SLast) (w : World) {r : List Int} (hm : m_spec_l22Five n x_0 = some r)  :
    CallV Try.prog 77 #[.agg #[.string (bs x_0.Name), .int .i64 x_0.Length, .int .i64 x_0.Ball, .int .i64 x_0.Instep, .int .i64 x_0.Heel, .int .i64 x_0.Pitch]] w (fun v w' => ∃ (ra0 : Option Addr) (rc0 : Nat), v = .slice ra0 r.length rc0 ∧ Ext w w' ∧ SH w' w.heap.size [aOwn fInt 2 ra0 rc0 r]) := by
  unfold m_spec_l22Five at hm
  refine CallV.enter Try.func77 rfl (by kernel_rfl) Try.ntmps77 (env := [(0, .agg #[.string (bs x_0.Name), .int .i64 x_0.Length, .int .i64 x_0.Ball, .int .i64 x_0.Instep, .int .i64 x_0.Heel, .int .i64 x_0.Pitch])]) ⟨rfl, trivial⟩ ?_
  refine WP.seq (fun K1 hK1 => ?_)
  refine WP.region ?_
  refine WL.box 61 [.string (bs x_0.Name), .int .i64 x_0.Length, .int .i64 x_0.Ball, .int .i64 x_0.Instep, .int .i64 x_0.Heel, .int .i64 x_0.Pitch] 1 (by kernel_rfl) rfl rfl rfl rfl ?_
  intro b2 w3 hE4 hR5
  have hb7 : Ext w w3 := Ext.trans (Ext.refl w) hE4
  have hL8 : w.heap.size ≤ w3.heap.size := Nat.le_trans (Nat.le_refl _) hE4.size
  have hS9 : SH w3 w.heap.size [aBox 61 b2 [.string (bs x_0.Name), .int .i64 x_0.Length, .int .i64 x_0.Ball, .int .i64 x_0.Instep, .int .i64 x_0.Heel, .int .i64 x_0.Pitch]] := SH.add (SH.nil _ _) hE4 (Nat.le_refl _) hR5
  refine WL.runk 1 [1] [(1, .pointer (some ⟨b2, 0, none⟩))] (by kernel_rfl) ?_
  refine WL.nil ?_
  refine WQ.then_normal (hK1 _ _ _ ?_)
  refine WP.seq (fun K10 hK10 => ?_)
  refine WP.region ?_
  refine WL.runk 1 [1, 3] [(1, .pointer (some ⟨b2, 0, none⟩)), (3, .pointer (some ⟨b2, 1, none⟩))] (by kernel_rfl) ?_
  refine WL.st (.int .i64 x_0.Length) (ST.load (cell_ext (SH.boxAt (SH.front 0 hS9) 1 _ rfl)) rfl rfl Try.underlying2 rfl) rfl rfl rfl ?_
  refine WL.runk 1 [1, 4, 5] [(1, .pointer (some ⟨b2, 0, none⟩)), (4, .int .i64 x_0.Length), (5, .pointer (some ⟨b2, 2, none⟩))] (by kernel_rfl) ?_
  refine WL.st (.int .i64 x_0.Ball) (ST.load (cell_ext (SH.boxAt (SH.front 0 hS9) 2 _ rfl)) rfl rfl Try.underlying2 rfl) rfl rfl rfl ?_
  refine WL.runk 1 [1, 4, 6, 7] [(1, .pointer (some ⟨b2, 0, none⟩)), (4, .int .i64 x_0.Length), (6, .int .i64 x_0.Ball), (7, .pointer (some ⟨b2, 3, none⟩))] (by kernel_rfl) ?_
  refine WL.st (.int .i64 x_0.Instep) (ST.load (cell_ext (SH.boxAt (SH.front 0 hS9) 3 _ rfl)) rfl rfl Try.underlying2 rfl) rfl rfl rfl ?_
  refine WL.runk 1 [1, 4, 6, 8, 9] [(1, .pointer (some ⟨b2, 0, none⟩)), (4, .int .i64 x_0.Length), (6, .int .i64 x_0.Ball), (8, .int .i64 x_0.Instep), (9, .pointer (some ⟨b2, 4, none⟩))] (by kernel_rfl) ?_
  refine WL.st (.int .i64 x_0.Heel) (ST.load (cell_ext (SH.boxAt (SH.front 0 hS9) 4 _ rfl)) rfl rfl Try.underlying2 rfl) rfl rfl rfl ?_
  refine WL.runk 1 [4, 6, 8, 10, 11] [(4, .int .i64 x_0.Length), (6, .int .i64 x_0.Ball), (8, .int .i64 x_0.Instep), (10, .int .i64 x_0.Heel), (11, .pointer (some ⟨b2, 5, none⟩))] (by kernel_rfl) ?_
  refine WL.st (.int .i64 x_0.Pitch) (ST.load (cell_ext (SH.boxAt (SH.front 0 hS9) 5 _ rfl)) rfl rfl Try.underlying2 rfl) rfl rfl rfl ?_
  refine WL.row fInt 2 ([x_0.Length, x_0.Ball, x_0.Instep, x_0.Heel, x_0.Pitch] : List Int) 5 #[.int .i64 x_0.Length, .int .i64 x_0.Ball, .int .i64 x_0.Instep, .int .i64 x_0.Heel, .int .i64 x_0.Pitch] 13 (by kernel_rfl) rfl rfl rfl rfl rfl rfl rfl ?_
  intro a11 c12 w13 hE14 hR15
  have hb17 : Ext w w13 := Ext.trans hb7 hE14
  have hL18 : w.heap.size ≤ w13.heap.size := Nat.le_trans hL8 hE14.size
  have hS19 : SH w13 w.heap.size [aOwn fInt 2 a11 c12 ([x_0.Length, x_0.Ball, x_0.Instep, x_0.Heel, x_0.Pitch] : List Int), aBox 61 b2 [.string (bs x_0.Name), .int .i64 x_0.Length, .int .i64 x_0.Ball, .int .i64 x_0.Instep, .int .i64 x_0.Heel, .int .i64 x_0.Pitch]] := SH.add hS9 hE14 hL8 hR15
  refine WL.runk 1 [2] [(2, .slice a11 (([x_0.Length, x_0.Ball, x_0.Instep, x_0.Heel, x_0.Pitch] : List Int).length) c12)] (by kernel_rfl) ?_
  refine WL.nil ?_
  refine WQ.then_normal (hK10 _ _ _ ?_)
  refine WP.ret ?_
  obtain rfl := Option.some.inj hm
  exact WQ.ret1 _ rfl rfl ⟨_, _, rfl, hb17, (SH.take 1 hS19)⟩

theorem c_47 (n : Nat) (a_0 : SLast) (w : World) {r : SLast} (hm : m_laws_toLast n a_0 = some r)  :
    CallV Try.prog 47 #[.agg #[.string (bs a_0.Name), .int .i64 a_0.Length, .int .i64 a_0.Ball, .int .i64 a_0.Instep, .int .i64 a_0.Heel, .int .i64 a_0.Pitch]] w (fun v w' => v = .agg #[.string (bs r.Name), .int .i64 r.Length, .int .i64 r.Ball, .int .i64 r.Instep, .int .i64 r.Heel, .int .i64 r.Pitch] ∧ Ext w w') := by
  unfold m_laws_toLast at hm
  refine CallV.enter Try.func47 rfl (by kernel_rfl) Try.ntmps47 (env := [(0, .agg #[.string (bs a_0.Name), .int .i64 a_0.Length, .int .i64 a_0.Ball, .int .i64 a_0.Instep, .int .i64 a_0.Heel, .int .i64 a_0.Pitch])]) ⟨rfl, trivial⟩ ?_
  refine WP.seq (fun K1 hK1 => ?_)
  refine WP.region ?_
  refine WL.box 58 [.string (bs a_0.Name), .int .i64 a_0.Length, .int .i64 a_0.Ball, .int .i64 a_0.Instep, .int .i64 a_0.Heel, .int .i64 a_0.Pitch] 1 (by kernel_rfl) rfl rfl rfl rfl ?_
  intro b2 w3 hE4 hR5
  have hb7 : Ext w w3 := Ext.trans (Ext.refl w) hE4
  have hL8 : w.heap.size ≤ w3.heap.size := Nat.le_trans (Nat.le_refl _) hE4.size
  have hS9 : SH w3 w.heap.size [aBox 58 b2 [.string (bs a_0.Name), .int .i64 a_0.Length, .int .i64 a_0.Ball, .int .i64 a_0.Instep, .int .i64 a_0.Heel, .int .i64 a_0.Pitch]] := SH.add (SH.nil _ _) hE4 (Nat.le_refl _) hR5
  refine WL.box 61 [.string (bs []), .int .i64 0, .int .i64 0, .int .i64 0, .int .i64 0, .int .i64 0] 2 (by kernel_rfl) rfl rfl rfl rfl ?_
  intro b10 w11 hE12 hR13
  have hb15 : Ext w w11 := Ext.trans hb7 hE12
  have hL16 : w.heap.size ≤ w11.heap.size := Nat.le_trans hL8 hE12.size
  have hS17 : SH w11 w.heap.size [aBox 61 b10 [.string (bs []), .int .i64 0, .int .i64 0, .int .i64 0, .int .i64 0, .int .i64 0], aBox 58 b2 [.string (bs a_0.Name), .int .i64 a_0.Length, .int .i64 a_0.Ball, .int .i64 a_0.Instep, .int .i64 a_0.Heel, .int .i64 a_0.Pitch]] := SH.add hS9 hE12 hL8 hR13
  refine WL.sub [(1, .pointer (some ⟨b2, 0, none⟩)), (2, .pointer (some ⟨b10, 0, none⟩))] ⟨rfl, rfl, trivial⟩ ?_
  refine WL.nil ?_
  refine WQ.then_normal (hK1 _ _ _ ?_)
  refine WP.seq (fun K18 hK18 => ?_)
  refine WP.region ?_
  refine WL.box 61 [.string (bs []), .int .i64 0, .int .i64 0, .int .i64 0, .int .i64 0, .int .i64 0] 3 (by kernel_rfl) rfl rfl rfl rfl ?_
  intro b19 w20 hE21 hR22
  have hb24 : Ext w w20 := Ext.trans hb15 hE21
  have hL25 : w.heap.size ≤ w20.heap.size := Nat.le_trans hL16 hE21.size
  have hS26 : SH w20 w.heap.size [aBox 61 b19 [.string (bs []), .int .i64 0, .int .i64 0, .int .i64 0, .int .i64 0, .int .i64 0], aBox 61 b10 [.string (bs []), .int .i64 0, .int .i64 0, .int .i64 0, .int .i64 0, .int .i64 0], aBox 58 b2 [.string (bs a_0.Name), .int .i64 a_0.Length, .int .i64 a_0.Ball, .int .i64 a_0.Instep, .int .i64 a_0.Heel, .int .i64 a_0.Pitch]] := SH.add hS17 hE21 hL16 hR22
  refine WL.sub [(1, .pointer (some ⟨b2, 0, none⟩)), (2, .pointer (some ⟨b10, 0, none⟩)), (3, .pointer (some ⟨b19, 0, none⟩))] ⟨rfl, rfl, rfl, trivial⟩ ?_
  refine WL.nil ?_
  refine WQ.then_normal (hK18 _ _ _ ?_)
  refine WP.seq (fun K27 hK27 => ?_)
  refine WP.region ?_
  refine WL.runk 1 [1, 2, 3, 4] [(1, .pointer (some ⟨b2, 0, none⟩)), (2, .pointer (some ⟨b10, 0, none⟩)), (3, .pointer (some ⟨b19, 0, none⟩)), (4, .pointer (some ⟨b2, 0, none⟩))] (by kernel_rfl) ?_
  refine WL.st (.string (bs a_0.Name)) (ST.load (cell_ext (SH.boxAt (SH.front 2 hS26) 0 _ rfl)) rfl rfl Try.underlying9 rfl) rfl rfl rfl ?_
  refine WL.runk 1 [1, 2, 3, 5, 6] [(1, .pointer (some ⟨b2, 0, none⟩)), (2, .pointer (some ⟨b10, 0, none⟩)), (3, .pointer (some ⟨b19, 0, none⟩)), (5, .string (bs a_0.Name)), (6, .pointer (some ⟨b19, 0, none⟩))] (by kernel_rfl) ?_
  refine WL.boxStore 0 [.string (bs a_0.Name)] [.string (bs a_0.Name), .int .i64 0, .int .i64 0, .int .i64 0, .int .i64 0, .int .i64 0] (SH.front 0 hS26) hL25 rfl rfl rfl rfl rfl rfl rfl (info9).1 (info9).2.1 rfl rfl rfl ?_
  intro w28 hB29 hS30
  have hb31 : Ext w w28 := Below.trans hb24 hB29
  have hL32 : w.heap.size ≤ w28.heap.size := Nat.le_trans hL25 hB29.size
  refine WL.sub [(1, .pointer (some ⟨b2, 0, none⟩)), (2, .pointer (some ⟨b10, 0, none⟩)), (3, .pointer (some ⟨b19, 0, none⟩))] ⟨rfl, rfl, rfl, trivial⟩ ?_
  refine WL.nil ?_
  refine WQ.then_normal (hK27 _ _ _ ?_)
  refine WP.seq (fun K33 hK33 => ?_)
  refine WP.region ?_
  refine WL.runk 1 [1, 2, 3, 7] [(1, .pointer (some ⟨b2, 0, none⟩)), (2, .pointer (some ⟨b10, 0, none⟩)), (3, .pointer (some ⟨b19, 0, none⟩)), (7, .pointer (some ⟨b2, 1, none⟩))] (by kernel_rfl) ?_
  refine WL.st (.int .i64 a_0.Length) (ST.load (cell_ext (SH.boxAt (SH.front 2 hS30) 1 _ rfl)) rfl rfl Try.underlying2 rfl) rfl rfl rfl ?_
  refine WL.runk 1 [1, 2, 3, 8, 9] [(1, .pointer (some ⟨b2, 0, none⟩)), (2, .pointer (some ⟨b10, 0, none⟩)), (3, .pointer (some ⟨b19, 0, none⟩)), (8, .int .i64 a_0.Length), (9, .pointer (some ⟨b19, 1, none⟩))] (by kernel_rfl) ?_
  refine WL.boxStore 1 [.int .i64 a_0.Length] [.string (bs a_0.Name), .int .i64 a_0.Length, .int .i64 0, .int .i64 0, .int .i64 0, .int .i64 0] (SH.front 0 hS30) hL32 rfl rfl rfl rfl rfl rfl rfl (info2).1 (info2).2.1 rfl rfl rfl ?_
  intro w34 hB35 hS36
  have hb37 : Ext w w34 := Below.trans hb31 hB35
  have hL38 : w.heap.size ≤ w34.heap.size := Nat.le_trans hL32 hB35.size
  refine WL.sub [(1, .pointer (some ⟨b2, 0, none⟩)), (2, .pointer (some ⟨b10, 0, none⟩)), (3, .pointer (some ⟨b19, 0, none⟩))] ⟨rfl, rfl, rfl, trivial⟩ ?_
  refine WL.nil ?_
  refine WQ.then_normal (hK33 _ _ _ ?_)
  refine WP.seq (fun K39 hK39 => ?_)
  refine WP.region ?_
  refine WL.runk 1 [1, 2, 3, 10] [(1, .pointer (some ⟨b2, 0, none⟩)), (2, .pointer (some ⟨b10, 0, none⟩)), (3, .pointer (some ⟨b19, 0, none⟩)), (10, .pointer (some ⟨b2, 2, none⟩))] (by kernel_rfl) ?_
  refine WL.st (.int .i64 a_0.Ball) (ST.load (cell_ext (SH.boxAt (SH.front 2 hS36) 2 _ rfl)) rfl rfl Try.underlying2 rfl) rfl rfl rfl ?_
  refine WL.runk 1 [1, 2, 3, 11, 12] [(1, .pointer (some ⟨b2, 0, none⟩)), (2, .pointer (some ⟨b10, 0, none⟩)), (3, .pointer (some ⟨b19, 0, none⟩)), (11, .int .i64 a_0.Ball), (12, .pointer (some ⟨b19, 2, none⟩))] (by kernel_rfl) ?_
  refine WL.boxStore 2 [.int .i64 a_0.Ball] [.string (bs a_0.Name), .int .i64 a_0.Length, .int .i64 a_0.Ball, .int .i64 0, .int .i64 0, .int .i64 0] (SH.front 0 hS36) hL38 rfl rfl rfl rfl rfl rfl rfl (info2).1 (info2).2.1 rfl rfl rfl ?_
  intro w40 hB41 hS42
  have hb43 : Ext w w40 := Below.trans hb37 hB41
  have hL44 : w.heap.size ≤ w40.heap.size := Nat.le_trans hL38 hB41.size
  refine WL.sub [(1, .pointer (some ⟨b2, 0, none⟩)), (2, .pointer (some ⟨b10, 0, none⟩)), (3, .pointer (some ⟨b19, 0, none⟩))] ⟨rfl, rfl, rfl, trivial⟩ ?_
  refine WL.nil ?_
  refine WQ.then_normal (hK39 _ _ _ ?_)
  refine WP.seq (fun K45 hK45 => ?_)
  refine WP.region ?_
  refine WL.runk 1 [1, 2, 3, 13] [(1, .pointer (some ⟨b2, 0, none⟩)), (2, .pointer (some ⟨b10, 0, none⟩)), (3, .pointer (some ⟨b19, 0, none⟩)), (13, .pointer (some ⟨b2, 3, none⟩))] (by kernel_rfl) ?_
  refine WL.st (.int .i64 a_0.Instep) (ST.load (cell_ext (SH.boxAt (SH.front 2 hS42) 3 _ rfl)) rfl rfl Try.underlying2 rfl) rfl rfl rfl ?_
  refine WL.runk 1 [1, 2, 3, 14, 15] [(1, .pointer (some ⟨b2, 0, none⟩)), (2, .pointer (some ⟨b10, 0, none⟩)), (3, .pointer (some ⟨b19, 0, none⟩)), (14, .int .i64 a_0.Instep), (15, .pointer (some ⟨b19, 3, none⟩))] (by kernel_rfl) ?_
  refine WL.boxStore 3 [.int .i64 a_0.Instep] [.string (bs a_0.Name), .int .i64 a_0.Length, .int .i64 a_0.Ball, .int .i64 a_0.Instep, .int .i64 0, .int .i64 0] (SH.front 0 hS42) hL44 rfl rfl rfl rfl rfl rfl rfl (info2).1 (info2).2.1 rfl rfl rfl ?_
  intro w46 hB47 hS48
  have hb49 : Ext w w46 := Below.trans hb43 hB47
  have hL50 : w.heap.size ≤ w46.heap.size := Nat.le_trans hL44 hB47.size
  refine WL.sub [(1, .pointer (some ⟨b2, 0, none⟩)), (2, .pointer (some ⟨b10, 0, none⟩)), (3, .pointer (some ⟨b19, 0, none⟩))] ⟨rfl, rfl, rfl, trivial⟩ ?_
  refine WL.nil ?_
  refine WQ.then_normal (hK45 _ _ _ ?_)
  refine WP.seq (fun K51 hK51 => ?_)
  refine WP.region ?_
  refine WL.runk 1 [1, 2, 3, 16] [(1, .pointer (some ⟨b2, 0, none⟩)), (2, .pointer (some ⟨b10, 0, none⟩)), (3, .pointer (some ⟨b19, 0, none⟩)), (16, .pointer (some ⟨b2, 4, none⟩))] (by kernel_rfl) ?_
  refine WL.st (.int .i64 a_0.Heel) (ST.load (cell_ext (SH.boxAt (SH.front 2 hS48) 4 _ rfl)) rfl rfl Try.underlying2 rfl) rfl rfl rfl ?_
  refine WL.runk 1 [1, 2, 3, 17, 18] [(1, .pointer (some ⟨b2, 0, none⟩)), (2, .pointer (some ⟨b10, 0, none⟩)), (3, .pointer (some ⟨b19, 0, none⟩)), (17, .int .i64 a_0.Heel), (18, .pointer (some ⟨b19, 4, none⟩))] (by kernel_rfl) ?_
  refine WL.boxStore 4 [.int .i64 a_0.Heel] [.string (bs a_0.Name), .int .i64 a_0.Length, .int .i64 a_0.Ball, .int .i64 a_0.Instep, .int .i64 a_0.Heel, .int .i64 0] (SH.front 0 hS48) hL50 rfl rfl rfl rfl rfl rfl rfl (info2).1 (info2).2.1 rfl rfl rfl ?_
  intro w52 hB53 hS54
  have hb55 : Ext w w52 := Below.trans hb49 hB53
  have hL56 : w.heap.size ≤ w52.heap.size := Nat.le_trans hL50 hB53.size
  refine WL.sub [(1, .pointer (some ⟨b2, 0, none⟩)), (2, .pointer (some ⟨b10, 0, none⟩)), (3, .pointer (some ⟨b19, 0, none⟩))] ⟨rfl, rfl, rfl, trivial⟩ ?_
  refine WL.nil ?_
  refine WQ.then_normal (hK51 _ _ _ ?_)
  refine WP.seq (fun K57 hK57 => ?_)
  refine WP.region ?_
  refine WL.runk 1 [2, 3, 19] [(2, .pointer (some ⟨b10, 0, none⟩)), (3, .pointer (some ⟨b19, 0, none⟩)), (19, .pointer (some ⟨b2, 5, none⟩))] (by kernel_rfl) ?_
  refine WL.st (.int .i64 a_0.Pitch) (ST.load (cell_ext (SH.boxAt (SH.front 2 hS54) 5 _ rfl)) rfl rfl Try.underlying2 rfl) rfl rfl rfl ?_
  refine WL.runk 1 [2, 3, 20, 21] [(2, .pointer (some ⟨b10, 0, none⟩)), (3, .pointer (some ⟨b19, 0, none⟩)), (20, .int .i64 a_0.Pitch), (21, .pointer (some ⟨b19, 5, none⟩))] (by kernel_rfl) ?_
  refine WL.boxStore 5 [.int .i64 a_0.Pitch] [.string (bs a_0.Name), .int .i64 a_0.Length, .int .i64 a_0.Ball, .int .i64 a_0.Instep, .int .i64 a_0.Heel, .int .i64 a_0.Pitch] (SH.front 0 hS54) hL56 rfl rfl rfl rfl rfl rfl rfl (info2).1 (info2).2.1 rfl rfl rfl ?_
  intro w58 hB59 hS60
  have hb61 : Ext w w58 := Below.trans hb55 hB59
  have hL62 : w.heap.size ≤ w58.heap.size := Nat.le_trans hL56 hB59.size
  refine WL.sub [(2, .pointer (some ⟨b10, 0, none⟩)), (3, .pointer (some ⟨b19, 0, none⟩))] ⟨rfl, rfl, trivial⟩ ?_
  refine WL.nil ?_
  refine WQ.then_normal (hK57 _ _ _ ?_)
  refine WP.seq (fun K63 hK63 => ?_)
  refine WP.region ?_
  refine WL.st (.agg #[.string (bs a_0.Name), .int .i64 a_0.Length, .int .i64 a_0.Ball, .int .i64 a_0.Instep, .int .i64 a_0.Heel, .int .i64 a_0.Pitch]) (ST.loadAgg (vs := [.string (bs a_0.Name), .int .i64 a_0.Length, .int .i64 a_0.Ball, .int .i64 a_0.Instep, .int .i64 a_0.Heel, .int .i64 a_0.Pitch]) (fun j v hv => SH.boxPart (us := [.string (bs a_0.Name), .int .i64 a_0.Length, .int .i64 a_0.Ball, .int .i64 a_0.Instep, .int .i64 a_0.Heel, .int .i64 a_0.Pitch]) (SH.front 0 hS60) 0 rfl j v hv) rfl rfl rfl Try.underlying61 rfl (info61).1 (info61).2.1) rfl rfl rfl ?_
  refine WL.boxStore 0 [.string (bs a_0.Name), .int .i64 a_0.Length, .int .i64 a_0.Ball, .int .i64 a_0.Instep, .int .i64 a_0.Heel, .int .i64 a_0.Pitch] [.string (bs a_0.Name), .int .i64 a_0.Length, .int .i64 a_0.Ball, .int .i64 a_0.Instep, .int .i64 a_0.Heel, .int .i64 a_0.Pitch] (SH.front 1 hS60) hL62 rfl rfl rfl rfl rfl rfl rfl (info61).1 (info61).2.1 rfl rfl rfl ?_
  intro w64 hB65 hS66
  have hb67 : Ext w w64 := Below.trans hb61 hB65
  have hL68 : w.heap.size ≤ w64.heap.size := Nat.le_trans hL62 hB65.size
  refine WL.sub [(2, .pointer (some ⟨b10, 0, none⟩))] ⟨rfl, trivial⟩ ?_
  refine WL.nil ?_
  refine WQ.then_normal (hK63 _ _ _ ?_)
  refine WP.ret ?_
  obtain rfl := Option.some.inj hm
  exact WQ.retv1 _ rfl (RVal.box (SH.front 0 hS66) rfl Try.underlying61 rfl (info61).1 (info61).2.1) ⟨rfl, hb67⟩

theorem c_89 (n : Nat) (s_0 : List UInt8) (w : World) {r : Bool} (hm : m_impl_IsName n s_0 = some r)  :
    CallV Try.prog 89 #[.string (bs s_0)] w (fun v w' => v = .bool r ∧ Ext w w') := by
  unfold m_impl_IsName at hm
  refine CallV.enter Try.func89 rfl (by kernel_rfl) Try.ntmps89 (env := [(0, .string (bs s_0))]) ⟨rfl, trivial⟩ ?_
  refine WP.seq (fun K1 hK1 => ?_)
  refine WP.region ?_
  refine WL.runk 1 [0] [(0, .string (bs s_0))] (by kernel_rfl) ?_
  refine WL.nil ?_
  refine WQ.then_normal (hK1 _ _ _ ?_)
  refine WP.seq (fun K2 hK2 => ?_)
  refine WP.seq (fun K3 hK3 => ?_)
  obtain ⟨x11, hx12, hm⟩ := bindE hm
  refine WP.cut (fun env' w' => env' = [(0, .string (bs s_0)), (21, .bool x11)] ∧ Ext w w' ∧ w.heap.size ≤ w'.heap.size ∧ SH w' w.heap.size []) ?_ ?_
  · have hm := hx12; clear hx12
    refine WP.region ?_
    refine WL.runk 4 [0, 7] [(0, .string (bs s_0)), (7, .bool (decide ((s_0.length : Int) < 1)))] (by kernel_rfl) ?_
    refine WL.case (decide ((s_0.length : Int) < 1)) [7] ⟨rfl, trivial⟩ (fun hc13 => ?_) (fun hc13 => ?_)
    · have hm := iteT hm hc13
      refine WL.runk 14 [0, 21] [(0, .string (bs s_0)), (21, .bool true)] (by kernel_rfl) ?_
      refine WL.nil ?_
      obtain rfl := Option.some.inj hm
      exact WQ.post' ⟨rfl, (Ext.refl w), (Nat.le_refl _), (SH.nil _ _)⟩ ⟨rfl, rfl, trivial⟩
    have hm := iteF hm hc13
    refine WL.runk 5 [0, 12] [(0, .string (bs s_0)), (12, .bool (decide ((s_0.length : Int) > 12)))] (by kernel_rfl) ?_
    refine WL.case (decide ((s_0.length : Int) > 12)) [12] ⟨rfl, trivial⟩ (fun hc14 => ?_) (fun hc14 => ?_)
    · have hm := iteT hm hc14
      refine WL.runk 9 [0, 21] [(0, .string (bs s_0)), (21, .bool true)] (by kernel_rfl) ?_
      refine WL.nil ?_
      obtain rfl := Option.some.inj hm
      exact WQ.post' ⟨rfl, (Ext.refl w), (Nat.le_refl _), (SH.nil _ _)⟩ ⟨rfl, rfl, trivial⟩
    have hm := iteF hm hc14
    refine WL.runk 1 [0, 12, 13] [(0, .string (bs s_0)), (12, .bool false), (13, .string (bs s_0))] (by kernel_rfl) ?_
    obtain ⟨x15, hx16, hm⟩ := bindE hm
    refine WL.st (.int .u8 (x15.toNat : Int)) (ST.sindex hx16 rfl rfl rfl Try.underlying9) rfl rfl rfl ?_
    refine WL.runk 3 [0, 17] [(0, .string (bs s_0)), (17, .bool (decide ((x15.toNat : Int) < 97)))] (by kernel_rfl) ?_
    refine WL.case (decide ((x15.toNat : Int) < 97)) [17] ⟨rfl, trivial⟩ (fun hc17 => ?_) (fun hc17 => ?_)
    · have hm := iteT hm hc17
      refine WL.runk 4 [0, 21] [(0, .string (bs s_0)), (21, .bool true)] (by kernel_rfl) ?_
      refine WL.nil ?_
      obtain rfl := Option.some.inj hm
      exact WQ.post' ⟨rfl, (Ext.refl w), (Nat.le_refl _), (SH.nil _ _)⟩ ⟨rfl, rfl, trivial⟩
    have hm := iteF hm hc17
    refine WL.runk 1 [0, 17, 18] [(0, .string (bs s_0)), (17, .bool false), (18, .string (bs s_0))] (by kernel_rfl) ?_
    obtain ⟨x18, hx19, hm⟩ := bindE hm
    refine WL.st (.int .u8 (x18.toNat : Int)) (ST.sindex hx19 rfl rfl rfl Try.underlying9) rfl rfl rfl ?_
    refine WL.runk 2 [0, 21] [(0, .string (bs s_0)), (21, .bool (decide ((x18.toNat : Int) > 122)))] (by kernel_rfl) ?_
    refine WL.nil ?_
    obtain rfl := Option.some.inj hm
    exact WQ.post' ⟨rfl, (Ext.refl w), (Nat.le_refl _), (SH.nil _ _)⟩ ⟨rfl, rfl, trivial⟩
  clear hx12
  rintro _ w20 ⟨rfl, hb21, hL22, hS23⟩
  refine WQ.then_normal (hK3 _ _ _ ?_)
  refine WP.cond x11 rfl rfl (fun hc24 => ?_) (fun hc24 => ?_)
  · have hm := iteT hm hc24
    refine WP.seq (fun K25 hK25 => ?_)
    refine WP.region ?_
    refine WL.runk 1 [2] [(2, .bool false)] (by kernel_rfl) ?_
    refine WL.nil ?_
    refine WQ.then_normal (hK25 _ _ _ ?_)
    refine WP.ret ?_
    refine WQ.then_ret ?_
    obtain rfl := Option.some.inj hm
    exact WQ.ret1 _ rfl rfl ⟨rfl, hb21⟩
  have hm := iteF hm hc24
  refine WP.skip ?_
  refine WQ.then_normal (hK2 _ _ _ ?_)
  refine WP.seq (fun K26 hK26 => ?_)
  refine WP.seq (fun K27 hK27 => ?_)
  refine WP.region ?_
  refine WL.runk 1 [0, 3] [(0, .string (bs s_0)), (3, .int .i64 1)] (by kernel_rfl) ?_
  refine WL.nil ?_
  refine WQ.then_normal (hK27 _ _ _ ?_)
  refine WP.block ?_
  obtain ⟨t39, ht40, hm⟩ := bindE hm
  have hmo34 := hm; clear hm
  refine WP.sub [(0, .string (bs s_0)), (3, .int .i64 1)] ⟨rfl, rfl, trivial⟩ ?_
  refine WP.loop (fun n' env' w' => ∃ (st28 : Int) , env' = [(0, .string (bs s_0)), (3, .int .i64 st28)] ∧ Ext w w' ∧ w.heap.size ≤ w'.heap.size ∧ SH w' w.heap.size [] ∧ loopN (m_impl_IsName_l1 n s_0) n' st28 = some t39) n ⟨1, rfl, hb21, hL22, hS23, ht40⟩ ?_
  rintro n36 _ w29 ⟨st28, rfl, hb30, hL31, hS32, hl33⟩ K35 hK35
  obtain ⟨n37, s38, rfl, hm, hl33⟩ := loopN_some hl33
  unfold m_impl_IsName_l1 at hm
  refine WP.seq (fun K41 hK41 => ?_)
  refine WP.seq (fun K42 hK42 => ?_)
  refine WP.region ?_
  refine WL.runk 4 [0, 3, 25] [(0, .string (bs s_0)), (3, .int .i64 st28), (25, .bool (decide (st28 < (s_0.length : Int))))] (by kernel_rfl) ?_
  refine WL.nil ?_
  refine WQ.then_normal (hK42 _ _ _ ?_)
  refine WP.cond (decide (st28 < (s_0.length : Int))) rfl rfl (fun hc43 => ?_) (fun hc43 => ?_)
  rotate_left
  · have hm := iteF hm hc43
    refine WP.exit ?_
    refine WQ.then_exit ?_
    refine WQ.then_exit ?_
    refine WQ.block_here ?_
    obtain rfl := Option.some.inj hm
    obtain rfl := afterN_done hl33
    have hm := hmo34
    refine WQ.then_normal (hK26 _ _ _ ?_)
    refine WP.seq (fun K106 hK106 => ?_)
    refine WP.region ?_
    refine WL.runk 1 [2] [(2, .bool true)] (by kernel_rfl) ?_
    refine WL.nil ?_
    refine WQ.then_normal (hK106 _ _ _ ?_)
    refine WP.ret ?_
    obtain rfl := Option.some.inj hm
    exact WQ.ret1 _ rfl rfl ⟨rfl, hb30⟩
  have hm := iteT hm hc43
  refine WP.skip ?_
  refine WQ.then_normal (hK41 _ _ _ ?_)
  refine WP.seq (fun K44 hK44 => ?_)
  refine WP.block ?_
  refine WP.seq (fun K45 hK45 => ?_)
  obtain ⟨x72, hx73, hm⟩ := bindE hm
  refine WP.cut (fun env' w' => env' = [(0, .string (bs s_0)), (3, .int .i64 st28), (55, .bool x72)] ∧ Ext w w' ∧ w.heap.size ≤ w'.heap.size ∧ SH w' w.heap.size []) ?_ ?_
  rotate_left
  · clear hx73
    rintro _ w100 ⟨rfl, hb101, hL102, hS103⟩
    refine WQ.then_normal (hK45 _ _ _ ?_)
    refine WP.cond x72 rfl rfl (fun hc104 => ?_) (fun hc104 => ?_)
    rotate_left
    · have hm := iteF hm hc104
      refine WP.skip ?_
      refine WQ.block_normal ?_
      refine WQ.then_normal (hK44 _ _ _ ?_)
      refine WP.region ?_
      refine WL.runk 3 [0, 3] [(0, .string (bs s_0)), (3, .int .i64 (wI64 (st28 + 1)))] (by kernel_rfl) ?_
      refine WL.nil ?_
      obtain rfl := Option.some.inj hm
      exact WQ.round hK35 ⟨(wI64 (st28 + 1)), rfl, hb101, hL102, hS103, hl33⟩ (Nat.lt_succ_self _) ⟨rfl, rfl, trivial⟩
    have hm := iteT hm hc104
    refine WP.seq (fun K105 hK105 => ?_)
    refine WP.region ?_
    refine WL.runk 1 [2] [(2, .bool false)] (by kernel_rfl) ?_
    refine WL.nil ?_
    refine WQ.then_normal (hK105 _ _ _ ?_)
    refine WP.ret ?_
    refine WQ.block_ret ?_
    refine WQ.then_ret ?_
    refine WQ.then_ret ?_
    refine WQ.block_ret ?_
    refine WQ.then_ret ?_
    obtain rfl := Option.some.inj hm
    obtain rfl := afterN_done hl33
    have hm := hmo34
    obtain rfl := Option.some.inj hm
    exact WQ.ret1 _ rfl rfl ⟨rfl, hb101⟩
  have hm := hx73; clear hx73
  refine WP.region ?_
  refine WL.runk 2 [0, 3, 28, 29] [(0, .string (bs s_0)), (3, .int .i64 st28), (28, .string (bs s_0)), (29, .int .i64 st28)] (by kernel_rfl) ?_
  obtain ⟨x74, hx75, hm⟩ := bindE hm
  refine WL.st (.int .u8 (x74.toNat : Int)) (ST.sindex hx75 rfl rfl rfl Try.underlying9) rfl rfl rfl ?_
  refine WL.runk 2 [0, 3, 32] [(0, .string (bs s_0)), (3, .int .i64 st28), (32, .bool (decide ((x74.toNat : Int) < 97)))] (by kernel_rfl) ?_
  refine WL.case (decide ((x74.toNat : Int) < 97)) [32] ⟨rfl, trivial⟩ (fun hc76 => ?_) (fun hc76 => ?_)
  · have hm := iteT hm hc76
    refine WL.runk 8 [0, 3, 38, 39, 40] [(0, .string (bs s_0)), (3, .int .i64 st28), (38, .bool true), (39, .string (bs s_0)), (40, .int .i64 st28)] (by kernel_rfl) ?_
    obtain ⟨x77, hx78, hm⟩ := bindE hm
    refine WL.st (.int .u8 (x77.toNat : Int)) (ST.sindex hx78 rfl rfl rfl Try.underlying9) rfl rfl rfl ?_
    refine WL.runk 2 [0, 3, 38, 43] [(0, .string (bs s_0)), (3, .int .i64 st28), (38, .bool true), (43, .bool (decide ((x77.toNat : Int) < 48)))] (by kernel_rfl) ?_
    refine WL.case (decide ((x77.toNat : Int) < 48)) [43] ⟨rfl, trivial⟩ (fun hc79 => ?_) (fun hc79 => ?_)
    · have hm := iteT hm hc79
      refine WL.runk 9 [0, 3, 50, 51, 52] [(0, .string (bs s_0)), (3, .int .i64 st28), (50, .bool true), (51, .string (bs s_0)), (52, .int .i64 st28)] (by kernel_rfl) ?_
      obtain ⟨x80, hx81, hm⟩ := bindE hm
      refine WL.st (.int .u8 (x80.toNat : Int)) (ST.sindex hx81 rfl rfl rfl Try.underlying9) rfl rfl rfl ?_
      refine WL.runk 2 [0, 3, 55] [(0, .string (bs s_0)), (3, .int .i64 st28), (55, .bool ((x80.toNat : Int) != 45))] (by kernel_rfl) ?_
      refine WL.nil ?_
      obtain rfl := Option.some.inj hm
      exact WQ.post' ⟨rfl, hb30, hL31, hS32⟩ ⟨rfl, rfl, rfl, trivial⟩
    have hm := iteF hm hc79
    refine WL.runk 2 [0, 3, 38, 43, 44, 45] [(0, .string (bs s_0)), (3, .int .i64 st28), (38, .bool true), (43, .bool false), (44, .string (bs s_0)), (45, .int .i64 st28)] (by kernel_rfl) ?_
    obtain ⟨x82, hx83, hm⟩ := bindE hm
    refine WL.st (.int .u8 (x82.toNat : Int)) (ST.sindex hx83 rfl rfl rfl Try.underlying9) rfl rfl rfl ?_
    refine WL.runk 4 [0, 3, 50] [(0, .string (bs s_0)), (3, .int .i64 st28), (50, .bool (decide ((x82.toNat : Int) > 57)))] (by kernel_rfl) ?_
    refine WL.case (decide ((x82.toNat : Int) > 57)) [50] ⟨rfl, trivial⟩ (fun hc84 => ?_) (fun hc84 => ?_)
    rotate_left
    · have hm := iteF hm hc84
      refine WL.runk 5 [0, 3, 55] [(0, .string (bs s_0)), (3, .int .i64 st28), (55, .bool false)] (by kernel_rfl) ?_
      refine WL.nil ?_
      obtain rfl := Option.some.inj hm
      exact WQ.post' ⟨rfl, hb30, hL31, hS32⟩ ⟨rfl, rfl, rfl, trivial⟩
    have hm := iteT hm hc84
    refine WL.runk 2 [0, 3, 50, 51, 52] [(0, .string (bs s_0)), (3, .int .i64 st28), (50, .bool true), (51, .string (bs s_0)), (52, .int .i64 st28)] (by kernel_rfl) ?_
    obtain ⟨x85, hx86, hm⟩ := bindE hm
    refine WL.st (.int .u8 (x85.toNat : Int)) (ST.sindex hx86 rfl rfl rfl Try.underlying9) rfl rfl rfl ?_
    refine WL.runk 2 [0, 3, 55] [(0, .string (bs s_0)), (3, .int .i64 st28), (55, .bool ((x85.toNat : Int) != 45))] (by kernel_rfl) ?_
    refine WL.nil ?_
    obtain rfl := Option.some.inj hm
    exact WQ.post' ⟨rfl, hb30, hL31, hS32⟩ ⟨rfl, rfl, rfl, trivial⟩
  have hm := iteF hm hc76
  refine WL.runk 2 [0, 3, 32, 33, 34] [(0, .string (bs s_0)), (3, .int .i64 st28), (32, .bool false), (33, .string (bs s_0)), (34, .int .i64 st28)] (by kernel_rfl) ?_
  obtain ⟨x87, hx88, hm⟩ := bindE hm
  refine WL.st (.int .u8 (x87.toNat : Int)) (ST.sindex hx88 rfl rfl rfl Try.underlying9) rfl rfl rfl ?_
  refine WL.runk 3 [0, 3, 38] [(0, .string (bs s_0)), (3, .int .i64 st28), (38, .bool (decide ((x87.toNat : Int) > 122)))] (by kernel_rfl) ?_
  refine WL.case (decide ((x87.toNat : Int) > 122)) [38] ⟨rfl, trivial⟩ (fun hc89 => ?_) (fun hc89 => ?_)
  rotate_left
  · have hm := iteF hm hc89
    refine WL.runk 17 [0, 3, 55] [(0, .string (bs s_0)), (3, .int .i64 st28), (55, .bool false)] (by kernel_rfl) ?_
    refine WL.nil ?_
    obtain rfl := Option.some.inj hm
    exact WQ.post' ⟨rfl, hb30, hL31, hS32⟩ ⟨rfl, rfl, rfl, trivial⟩
  have hm := iteT hm hc89
  refine WL.runk 2 [0, 3, 38, 39, 40] [(0, .string (bs s_0)), (3, .int .i64 st28), (38, .bool true), (39, .string (bs s_0)), (40, .int .i64 st28)] (by kernel_rfl) ?_
  obtain ⟨x90, hx91, hm⟩ := bindE hm
  refine WL.st (.int .u8 (x90.toNat : Int)) (ST.sindex hx91 rfl rfl rfl Try.underlying9) rfl rfl rfl ?_
  refine WL.runk 2 [0, 3, 38, 43] [(0, .string (bs s_0)), (3, .int .i64 st28), (38, .bool true), (43, .bool (decide ((x90.toNat : Int) < 48)))] (by kernel_rfl) ?_
  refine WL.case (decide ((x90.toNat : Int) < 48)) [43] ⟨rfl, trivial⟩ (fun hc92 => ?_) (fun hc92 => ?_)
  · have hm := iteT hm hc92
    refine WL.runk 9 [0, 3, 50, 51, 52] [(0, .string (bs s_0)), (3, .int .i64 st28), (50, .bool true), (51, .string (bs s_0)), (52, .int .i64 st28)] (by kernel_rfl) ?_
    obtain ⟨x93, hx94, hm⟩ := bindE hm
    refine WL.st (.int .u8 (x93.toNat : Int)) (ST.sindex hx94 rfl rfl rfl Try.underlying9) rfl rfl rfl ?_
    refine WL.runk 2 [0, 3, 55] [(0, .string (bs s_0)), (3, .int .i64 st28), (55, .bool ((x93.toNat : Int) != 45))] (by kernel_rfl) ?_
    refine WL.nil ?_
    obtain rfl := Option.some.inj hm
    exact WQ.post' ⟨rfl, hb30, hL31, hS32⟩ ⟨rfl, rfl, rfl, trivial⟩
  have hm := iteF hm hc92
  refine WL.runk 2 [0, 3, 38, 43, 44, 45] [(0, .string (bs s_0)), (3, .int .i64 st28), (38, .bool true), (43, .bool false), (44, .string (bs s_0)), (45, .int .i64 st28)] (by kernel_rfl) ?_
  obtain ⟨x95, hx96, hm⟩ := bindE hm
  refine WL.st (.int .u8 (x95.toNat : Int)) (ST.sindex hx96 rfl rfl rfl Try.underlying9) rfl rfl rfl ?_
  refine WL.runk 4 [0, 3, 50] [(0, .string (bs s_0)), (3, .int .i64 st28), (50, .bool (decide ((x95.toNat : Int) > 57)))] (by kernel_rfl) ?_
  refine WL.case (decide ((x95.toNat : Int) > 57)) [50] ⟨rfl, trivial⟩ (fun hc97 => ?_) (fun hc97 => ?_)
  rotate_left
  · have hm := iteF hm hc97
    refine WL.runk 5 [0, 3, 55] [(0, .string (bs s_0)), (3, .int .i64 st28), (55, .bool false)] (by kernel_rfl) ?_
    refine WL.nil ?_
    obtain rfl := Option.some.inj hm
    exact WQ.post' ⟨rfl, hb30, hL31, hS32⟩ ⟨rfl, rfl, rfl, trivial⟩
  have hm := iteT hm hc97
  refine WL.runk 2 [0, 3, 50, 51, 52] [(0, .string (bs s_0)), (3, .int .i64 st28), (50, .bool true), (51, .string (bs s_0)), (52, .int .i64 st28)] (by kernel_rfl) ?_
  obtain ⟨x98, hx99, hm⟩ := bindE hm
  refine WL.st (.int .u8 (x98.toNat : Int)) (ST.sindex hx99 rfl rfl rfl Try.underlying9) rfl rfl rfl ?_
  refine WL.runk 2 [0, 3, 55] [(0, .string (bs s_0)), (3, .int .i64 st28), (55, .bool ((x98.toNat : Int) != 45))] (by kernel_rfl) ?_
  refine WL.nil ?_
  obtain rfl := Option.some.inj hm
  exact WQ.post' ⟨rfl, hb30, hL31, hS32⟩ ⟨rfl, rfl, rfl, trivial⟩

theorem c_97 (n : Nat) (f_0 : SFoot) (w : World) {r : List Int} (hm : m_impl_Foot_measures n f_0 = some r)  :
    CallV Try.prog 97 #[.agg #[.int .i64 f_0.Length, .int .i64 f_0.Ball, .int .i64 f_0.Instep, .int .i64 f_0.Heel]] w (fun v w' => ∃ (ra0 : Option Addr) (rc0 : Nat), v = .slice ra0 r.length rc0 ∧ Ext w w' ∧ SH w' w.heap.size [aOwn fInt 2 ra0 rc0 r]) := by
  unfold m_impl_Foot_measures at hm
  refine CallV.enter Try.func97 rfl (by kernel_rfl) Try.ntmps97 (env := [(0, .agg #[.int .i64 f_0.Length, .int .i64 f_0.Ball, .int .i64 f_0.Instep, .int .i64 f_0.Heel])]) ⟨rfl, trivial⟩ ?_
  refine WP.seq (fun K1 hK1 => ?_)
  refine WP.region ?_
  refine WL.box 95 [.int .i64 f_0.Length, .int .i64 f_0.Ball, .int .i64 f_0.Instep, .int .i64 f_0.Heel] 1 (by kernel_rfl) rfl rfl rfl rfl ?_
  intro b2 w3 hE4 hR5
  have hb7 : Ext w w3 := Ext.trans (Ext.refl w) hE4
  have hL8 : w.heap.size ≤ w3.heap.size := Nat.le_trans (Nat.le_refl _) hE4.size
  have hS9 : SH w3 w.heap.size [aBox 95 b2 [.int .i64 f_0.Length, .int .i64 f_0.Ball, .int .i64 f_0.Instep, .int .i64 f_0.Heel]] := SH.add (SH.nil _ _) hE4 (Nat.le_refl _) hR5
  refine WL.runk 1 [1] [(1, .pointer (some ⟨b2, 0, none⟩))] (by kernel_rfl) ?_
  refine WL.nil ?_
  refine WQ.then_normal (hK1 _ _ _ ?_)
  refine WP.seq (fun K10 hK10 => ?_)
  refine WP.region ?_
  refine WL.runk 1 [1, 3] [(1, .pointer (some ⟨b2, 0, none⟩)), (3, .pointer (some ⟨b2, 0, none⟩))] (by kernel_rfl) ?_
  refine WL.st (.int .i64 f_0.Length) (ST.load (cell_ext (SH.boxAt (SH.front 0 hS9) 0 _ rfl)) rfl rfl Try.underlying2 rfl) rfl rfl rfl ?_
  refine WL.runk 1 [1, 4, 5] [(1, .pointer (some ⟨b2, 0, none⟩)), (4, .int .i64 f_0.Length), (5, .pointer (some ⟨b2, 1, none⟩))] (by kernel_rfl) ?_
  refine WL.st (.int .i64 f_0.Ball) (ST.load (cell_ext (SH.boxAt (SH.front 0 hS9) 1 _ rfl)) rfl rfl Try.underlying2 rfl) rfl rfl rfl ?_
  refine WL.runk 1 [1, 4, 6, 7] [(1, .pointer (some ⟨b2, 0, none⟩)), (4, .int .i64 f_0.Length), (6, .int .i64 f_0.Ball), (7, .pointer (some ⟨b2, 2, none⟩))] (by kernel_rfl) ?_
  refine WL.st (.int .i64 f_0.Instep) (ST.load (cell_ext (SH.boxAt (SH.front 0 hS9) 2 _ rfl)) rfl rfl Try.underlying2 rfl) rfl rfl rfl ?_
  refine WL.runk 1 [4, 6, 8, 9] [(4, .int .i64 f_0.Length), (6, .int .i64 f_0.Ball), (8, .int .i64 f_0.Instep), (9, .pointer (some ⟨b2, 3, none⟩))] (by kernel_rfl) ?_
  refine WL.st (.int .i64 f_0.Heel) (ST.load (cell_ext (SH.boxAt (SH.front 0 hS9) 3 _ rfl)) rfl rfl Try.underlying2 rfl) rfl rfl rfl ?_
  refine WL.row fInt 2 ([f_0.Length, f_0.Ball, f_0.Instep, f_0.Heel] : List Int) 4 #[.int .i64 f_0.Length, .int .i64 f_0.Ball, .int .i64 f_0.Instep, .int .i64 f_0.Heel] 11 (by kernel_rfl) rfl rfl rfl rfl rfl rfl rfl ?_
  intro a11 c12 w13 hE14 hR15
  have hb17 : Ext w w13 := Ext.trans hb7 hE14
  have hL18 : w.heap.size ≤ w13.heap.size := Nat.le_trans hL8 hE14.size
  have hS19 : SH w13 w.heap.size [aOwn fInt 2 a11 c12 ([f_0.Length, f_0.Ball, f_0.Instep, f_0.Heel] : List Int), aBox 95 b2 [.int .i64 f_0.Length, .int .i64 f_0.Ball, .int .i64 f_0.Instep, .int .i64 f_0.Heel]] := SH.add hS9 hE14 hL8 hR15
  refine WL.runk 1 [2] [(2, .slice a11 (([f_0.Length, f_0.Ball, f_0.Instep, f_0.Heel] : List Int).length) c12)] (by kernel_rfl) ?_
  refine WL.nil ?_
  refine WQ.then_normal (hK10 _ _ _ ?_)
  refine WP.ret ?_
  obtain rfl := Option.some.inj hm
  exact WQ.ret1 _ rfl rfl ⟨_, _, rfl, hb17, (SH.take 1 hS19)⟩

theorem c_90 (n : Nat) (f_0 : SFoot) (w : World) {r : Bool} (hm : m_impl_ValidFoot n f_0 = some r)  :
    CallV Try.prog 90 #[.agg #[.int .i64 f_0.Length, .int .i64 f_0.Ball, .int .i64 f_0.Instep, .int .i64 f_0.Heel]] w (fun v w' => v = .bool r ∧ Ext w w') := by
  unfold m_impl_ValidFoot at hm
  refine CallV.enter Try.func90 rfl (by kernel_rfl) Try.ntmps90 (env := [(0, .agg #[.int .i64 f_0.Length, .int .i64 f_0.Ball, .int .i64 f_0.Instep, .int .i64 f_0.Heel])]) ⟨rfl, trivial⟩ ?_
  refine WP.seq (fun K1 hK1 => ?_)
  refine WP.region ?_
  refine WL.box 95 [.int .i64 f_0.Length, .int .i64 f_0.Ball, .int .i64 f_0.Instep, .int .i64 f_0.Heel] 1 (by kernel_rfl) rfl rfl rfl rfl ?_
  intro b2 w3 hE4 hR5
  have hb7 : Ext w w3 := Ext.trans (Ext.refl w) hE4
  have hL8 : w.heap.size ≤ w3.heap.size := Nat.le_trans (Nat.le_refl _) hE4.size
  have hS9 : SH w3 w.heap.size [aBox 95 b2 [.int .i64 f_0.Length, .int .i64 f_0.Ball, .int .i64 f_0.Instep, .int .i64 f_0.Heel]] := SH.add (SH.nil _ _) hE4 (Nat.le_refl _) hR5
  refine WL.runk 1 [1] [(1, .pointer (some ⟨b2, 0, none⟩))] (by kernel_rfl) ?_
  refine WL.nil ?_
  refine WQ.then_normal (hK1 _ _ _ ?_)
  refine WP.seq (fun K10 hK10 => ?_)
  refine WP.region ?_
  refine WL.st (.agg #[.int .i64 f_0.Length, .int .i64 f_0.Ball, .int .i64 f_0.Instep, .int .i64 f_0.Heel]) (ST.loadAgg (vs := [.int .i64 f_0.Length, .int .i64 f_0.Ball, .int .i64 f_0.Instep, .int .i64 f_0.Heel]) (fun j v hv => SH.boxPart (us := [.int .i64 f_0.Length, .int .i64 f_0.Ball, .int .i64 f_0.Instep, .int .i64 f_0.Heel]) (SH.front 0 hS9) 0 rfl j v hv) rfl rfl rfl Try.underlying95 rfl (info95).1 (info95).2.1) rfl rfl rfl ?_
  obtain ⟨x11, hx12, hm⟩ := bindE hm
  refine WL.call 97 #[.agg #[.int .i64 f_0.Length, .int .i64 f_0.Ball, .int .i64 f_0.Instep, .int .i64 f_0.Heel]] rfl rfl (by kernel_rfl) (c_97 n f_0 w3 hx12 ) ?_
  rintro _ w16 ⟨a13, c14, rfl, hE17, hR18⟩
  refine ⟨_, rfl, ?_⟩
  have hb19 : Ext w w16 := Ext.trans hb7 hE17
  have hL20 : w.heap.size ≤ w16.heap.size := Nat.le_trans hL8 hE17.size
  have hS21 : SH w16 w.heap.size [aOwn fInt 2 a13 c14 x11, aBox 95 b2 [.int .i64 f_0.Length, .int .i64 f_0.Ball, .int .i64 f_0.Instep, .int .i64 f_0.Heel]] := SH.add hS9 hE17 hL8 hR18
  obtain ⟨x22, hx23, hm⟩ := bindE hm
  refine WL.call 58 #[.slice a13 x11.length c14, .int .i64 500, .int .i64 5000] rfl rfl (by kernel_rfl) (c_58 n x11 a13 c14 500 5000 w16 hx23 (SH.rd (SH.front 0 hS21)) (SH.le (SH.front 0 hS21)).1) ?_
  rintro _ w24 ⟨rfl, hE25⟩
  refine ⟨_, rfl, ?_⟩
  have hb27 : Ext w w24 := Ext.trans hb19 hE25
  have hL28 : w.heap.size ≤ w24.heap.size := Nat.le_trans hL20 hE25.size
  have hS29 : SH w24 w.heap.size [aOwn fInt 2 a13 c14 x11, aBox 95 b2 [.int .i64 f_0.Length, .int .i64 f_0.Ball, .int .i64 f_0.Instep, .int .i64 f_0.Heel]] := SH.ext hS21 hE25
  refine WL.runk 2 [2] [(2, .bool (!x22))] (by kernel_rfl) ?_
  refine WL.nil ?_
  refine WQ.then_normal (hK10 _ _ _ ?_)
  refine WP.ret ?_
  obtain rfl := Option.some.inj hm
  exact WQ.ret1 _ rfl rfl ⟨rfl, hb27⟩

theorem c_91 (n : Nat) (x_0 : SLast) (w : World) {r : SFoot} (hm : m_impl_Last_foot n x_0 = some r)  :
    CallV Try.prog 91 #[.agg #[.string (bs x_0.Name), .int .i64 x_0.Length, .int .i64 x_0.Ball, .int .i64 x_0.Instep, .int .i64 x_0.Heel, .int .i64 x_0.Pitch]] w (fun v w' => v = .agg #[.int .i64 r.Length, .int .i64 r.Ball, .int .i64 r.Instep, .int .i64 r.Heel] ∧ Ext w w') := by
  unfold m_impl_Last_foot at hm
  refine CallV.enter Try.func91 rfl (by kernel_rfl) Try.ntmps91 (env := [(0, .agg #[.string (bs x_0.Name), .int .i64 x_0.Length, .int .i64 x_0.Ball, .int .i64 x_0.Instep, .int .i64 x_0.Heel, .int .i64 x_0.Pitch])]) ⟨rfl, trivial⟩ ?_
  refine WP.seq (fun K1 hK1 => ?_)
  refine WP.region ?_
  refine WL.box 61 [.string (bs x_0.Name), .int .i64 x_0.Length, .int .i64 x_0.Ball, .int .i64 x_0.Instep, .int .i64 x_0.Heel, .int .i64 x_0.Pitch] 1 (by kernel_rfl) rfl rfl rfl rfl ?_
  intro b2 w3 hE4 hR5
  have hb7 : Ext w w3 := Ext.trans (Ext.refl w) hE4
  have hL8 : w.heap.size ≤ w3.heap.size := Nat.le_trans (Nat.le_refl _) hE4.size
  have hS9 : SH w3 w.heap.size [aBox 61 b2 [.string (bs x_0.Name), .int .i64 x_0.Length, .int .i64 x_0.Ball, .int .i64 x_0.Instep, .int .i64 x_0.Heel, .int .i64 x_0.Pitch]] := SH.add (SH.nil _ _) hE4 (Nat.le_refl _) hR5
  refine WL.box 95 [.int .i64 0, .int .i64 0, .int .i64 0, .int .i64 0] 2 (by kernel_rfl) rfl rfl rfl rfl ?_
  intro b10 w11 hE12 hR13
  have hb15 : Ext w w11 := Ext.trans hb7 hE12
  have hL16 : w.heap.size ≤ w11.heap.size := Nat.le_trans hL8 hE12.size
  have hS17 : SH w11 w.heap.size [aBox 95 b10 [.int .i64 0, .int .i64 0, .int .i64 0, .int .i64 0], aBox 61 b2 [.string (bs x_0.Name), .int .i64 x_0.Length, .int .i64 x_0.Ball, .int .i64 x_0.Instep, .int .i64 x_0.Heel, .int .i64 x_0.Pitch]] := SH.add hS9 hE12 hL8 hR13
  refine WL.sub [(1, .pointer (some ⟨b2, 0, none⟩)), (2, .pointer (some ⟨b10, 0, none⟩))] ⟨rfl, rfl, trivial⟩ ?_
  refine WL.nil ?_
  refine WQ.then_normal (hK1 _ _ _ ?_)
  refine WP.seq (fun K18 hK18 => ?_)
  refine WP.region ?_
  refine WL.runk 1 [1, 2, 3] [(1, .pointer (some ⟨b2, 0, none⟩)), (2, .pointer (some ⟨b10, 0, none⟩)), (3, .pointer (some ⟨b2, 1, none⟩))] (by kernel_rfl) ?_
  refine WL.st (.int .i64 x_0.Length) (ST.load (cell_ext (SH.boxAt (SH.front 1 hS17) 1 _ rfl)) rfl rfl Try.underlying2 rfl) rfl rfl rfl ?_
  refine WL.runk 1 [1, 2, 4, 5] [(1, .pointer (some ⟨b2, 0, none⟩)), (2, .pointer (some ⟨b10, 0, none⟩)), (4, .int .i64 x_0.Length), (5, .pointer (some ⟨b2, 2, none⟩))] (by kernel_rfl) ?_
  refine WL.st (.int .i64 x_0.Ball) (ST.load (cell_ext (SH.boxAt (SH.front 1 hS17) 2 _ rfl)) rfl rfl Try.underlying2 rfl) rfl rfl rfl ?_
  refine WL.runk 1 [1, 2, 4, 6, 7] [(1, .pointer (some ⟨b2, 0, none⟩)), (2, .pointer (some ⟨b10, 0, none⟩)), (4, .int .i64 x_0.Length), (6, .int .i64 x_0.Ball), (7, .pointer (some ⟨b2, 3, none⟩))] (by kernel_rfl) ?_
  refine WL.st (.int .i64 x_0.Instep) (ST.load (cell_ext (SH.boxAt (SH.front 1 hS17) 3 _ rfl)) rfl rfl Try.underlying2 rfl) rfl rfl rfl ?_
  refine WL.runk 1 [2, 4, 6, 8, 9] [(2, .pointer (some ⟨b10, 0, none⟩)), (4, .int .i64 x_0.Length), (6, .int .i64 x_0.Ball), (8, .int .i64 x_0.Instep), (9, .pointer (some ⟨b2, 4, none⟩))] (by kernel_rfl) ?_
  refine WL.st (.int .i64 x_0.Heel) (ST.load (cell_ext (SH.boxAt (SH.front 1 hS17) 4 _ rfl)) rfl rfl Try.underlying2 rfl) rfl rfl rfl ?_
  refine WL.runk 1 [2, 11] [(2, .pointer (some ⟨b10, 0, none⟩)), (11, .agg #[.int .i64 x_0.Length, .int .i64 x_0.Ball, .int .i64 x_0.Instep, .int .i64 x_0.Heel])] (by kernel_rfl) ?_
  refine WL.boxStore 0 [.int .i64 x_0.Length, .int .i64 x_0.Ball, .int .i64 x_0.Instep, .int .i64 x_0.Heel] [.int .i64 x_0.Length, .int .i64 x_0.Ball, .int .i64 x_0.Instep, .int .i64 x_0.Heel] (SH.front 0 hS17) hL16 rfl rfl rfl rfl rfl rfl rfl (info95).1 (info95).2.1 rfl rfl rfl ?_
  intro w19 hB20 hS21
  have hb22 : Ext w w19 := Below.trans hb15 hB20
  have hL23 : w.heap.size ≤ w19.heap.size := Nat.le_trans hL16 hB20.size
  refine WL.sub [(2, .pointer (some ⟨b10, 0, none⟩))] ⟨rfl, trivial⟩ ?_
  refine WL.nil ?_
  refine WQ.then_normal (hK18 _ _ _ ?_)
  refine WP.ret ?_
  obtain rfl := Option.some.inj hm
  exact WQ.retv1 _ rfl (RVal.box (SH.front 0 hS21) rfl Try.underlying95 rfl (info95).1 (info95).2.1) ⟨rfl, hb22⟩

theorem c_78 (n : Nat) (x_0 : SLast) (w : World) {r : Bool} (hm : m_impl_validLast n x_0 = some r)  :
    CallV Try.prog 78 #[.agg #[.string (bs x_0.Name), .int .i64 x_0.Length, .int .i64 x_0.Ball, .int .i64 x_0.Instep, .int .i64 x_0.Heel, .int .i64 x_0.Pitch]] w (fun v w' => v = .bool r ∧ Ext w w') := by
  unfold m_impl_validLast at hm
  refine CallV.enter Try.func78 rfl (by kernel_rfl) Try.ntmps78 (env := [(0, .agg #[.string (bs x_0.Name), .int .i64 x_0.Length, .int .i64 x_0.Ball, .int .i64 x_0.Instep, .int .i64 x_0.Heel, .int .i64 x_0.Pitch])]) ⟨rfl, trivial⟩ ?_
  refine WP.seq (fun K1 hK1 => ?_)
  refine WP.region ?_
  refine WL.box 61 [.string (bs x_0.Name), .int .i64 x_0.Length, .int .i64 x_0.Ball, .int .i64 x_0.Instep, .int .i64 x_0.Heel, .int .i64 x_0.Pitch] 1 (by kernel_rfl) rfl rfl rfl rfl ?_
  intro b2 w3 hE4 hR5
  have hb7 : Ext w w3 := Ext.trans (Ext.refl w) hE4
  have hL8 : w.heap.size ≤ w3.heap.size := Nat.le_trans (Nat.le_refl _) hE4.size
  have hS9 : SH w3 w.heap.size [aBox 61 b2 [.string (bs x_0.Name), .int .i64 x_0.Length, .int .i64 x_0.Ball, .int .i64 x_0.Instep, .int .i64 x_0.Heel, .int .i64 x_0.Pitch]] := SH.add (SH.nil _ _) hE4 (Nat.le_refl _) hR5
  refine WL.runk 1 [1] [(1, .pointer (some ⟨b2, 0, none⟩))] (by kernel_rfl) ?_
  refine WL.nil ?_
  refine WQ.then_normal (hK1 _ _ _ ?_)
  refine WP.seq (fun K10 hK10 => ?_)
  obtain ⟨x45, hx46, hm⟩ := bindE hm
  refine WP.cut (fun env' w' => env' = [(2, .bool x45)] ∧ Ext w w' ∧ w.heap.size ≤ w'.heap.size ∧ SH w' w.heap.size [aBox 61 b2 [.string (bs x_0.Name), .int .i64 x_0.Length, .int .i64 x_0.Ball, .int .i64 x_0.Instep, .int .i64 x_0.Heel, .int .i64 x_0.Pitch]]) ?_ ?_
  rotate_left
  · clear hx46
    rintro _ w81 ⟨rfl, hb82, hL83, hS84⟩
    refine WQ.then_normal (hK10 _ _ _ ?_)
    refine WP.ret ?_
    obtain rfl := Option.some.inj hm
    exact WQ.ret1 _ rfl rfl ⟨rfl, hb82⟩
  have hm := hx46; clear hx46
  refine WP.region ?_
  refine WL.runk 1 [1, 3] [(1, .pointer (some ⟨b2, 0, none⟩)), (3, .pointer (some ⟨b2, 0, none⟩))] (by kernel_rfl) ?_
  refine WL.st (.string (bs x_0.Name)) (ST.load (cell_ext (SH.boxAt (SH.front 0 hS9) 0 _ rfl)) rfl rfl Try.underlying9 rfl) rfl rfl rfl ?_
  obtain ⟨x47, hx48, hm⟩ := bindE hm
  refine WL.call 89 #[.string (bs x_0.Name)] rfl rfl (by kernel_rfl) (c_89 n x_0.Name w3 hx48 ) ?_
  rintro _ w49 ⟨rfl, hE50⟩
  refine ⟨_, rfl, ?_⟩
  have hb52 : Ext w w49 := Ext.trans hb7 hE50
  have hL53 : w.heap.size ≤ w49.heap.size := Nat.le_trans hL8 hE50.size
  have hS54 : SH w49 w.heap.size [aBox 61 b2 [.string (bs x_0.Name), .int .i64 x_0.Length, .int .i64 x_0.Ball, .int .i64 x_0.Instep, .int .i64 x_0.Heel, .int .i64 x_0.Pitch]] := SH.ext hS9 hE50
  refine WL.runk 1 [1, 6] [(1, .pointer (some ⟨b2, 0, none⟩)), (6, .bool x47)] (by kernel_rfl) ?_
  refine WL.case x47 [6] ⟨rfl, trivial⟩ (fun hc55 => ?_) (fun hc55 => ?_)
  rotate_left
  · have hm := iteF hm hc55
    refine WL.runk 10 [2] [(2, .bool false)] (by kernel_rfl) ?_
    refine WL.nil ?_
    obtain rfl := Option.some.inj hm
    exact WQ.post' ⟨rfl, hb52, hL53, hS54⟩ ⟨rfl, trivial⟩
  have hm := iteT hm hc55
  refine WL.st (.agg #[.string (bs x_0.Name), .int .i64 x_0.Length, .int .i64 x_0.Ball, .int .i64 x_0.Instep, .int .i64 x_0.Heel, .int .i64 x_0.Pitch]) (ST.loadAgg (vs := [.string (bs x_0.Name), .int .i64 x_0.Length, .int .i64 x_0.Ball, .int .i64 x_0.Instep, .int .i64 x_0.Heel, .int .i64 x_0.Pitch]) (fun j v hv => SH.boxPart (us := [.string (bs x_0.Name), .int .i64 x_0.Length, .int .i64 x_0.Ball, .int .i64 x_0.Instep, .int .i64 x_0.Heel, .int .i64 x_0.Pitch]) (SH.front 0 hS54) 0 rfl j v hv) rfl rfl rfl Try.underlying61 rfl (info61).1 (info61).2.1) rfl rfl rfl ?_
  obtain ⟨x56, hx57, hm⟩ := bindE hm
  refine WL.call 91 #[.agg #[.string (bs x_0.Name), .int .i64 x_0.Length, .int .i64 x_0.Ball, .int .i64 x_0.Instep, .int .i64 x_0.Heel, .int .i64 x_0.Pitch]] rfl rfl (by kernel_rfl) (c_91 n x_0 w49 hx57 ) ?_
  rintro _ w58 ⟨rfl, hE59⟩
  refine ⟨_, rfl, ?_⟩
  have hb61 : Ext w w58 := Ext.trans hb52 hE59
  have hL62 : w.heap.size ≤ w58.heap.size := Nat.le_trans hL53 hE59.size
  have hS63 : SH w58 w.heap.size [aBox 61 b2 [.string (bs x_0.Name), .int .i64 x_0.Length, .int .i64 x_0.Ball, .int .i64 x_0.Instep, .int .i64 x_0.Heel, .int .i64 x_0.Pitch]] := SH.ext hS54 hE59
  obtain ⟨x64, hx65, hm⟩ := bindE hm
  refine WL.call 90 #[.agg #[.int .i64 x56.Length, .int .i64 x56.Ball, .int .i64 x56.Instep, .int .i64 x56.Heel]] rfl rfl (by kernel_rfl) (c_90 n x56 w58 hx65 ) ?_
  rintro _ w66 ⟨rfl, hE67⟩
  refine ⟨_, rfl, ?_⟩
  have hb69 : Ext w w66 := Ext.trans hb61 hE67
  have hL70 : w.heap.size ≤ w66.heap.size := Nat.le_trans hL62 hE67.size
  have hS71 : SH w66 w.heap.size [aBox 61 b2 [.string (bs x_0.Name), .int .i64 x_0.Length, .int .i64 x_0.Ball, .int .i64 x_0.Instep, .int .i64 x_0.Heel, .int .i64 x_0.Pitch]] := SH.ext hS63 hE67
  refine WL.runk 2 [1, 11] [(1, .pointer (some ⟨b2, 0, none⟩)), (11, .bool x64)] (by kernel_rfl) ?_
  refine WL.case x64 [11] ⟨rfl, trivial⟩ (fun hc72 => ?_) (fun hc72 => ?_)
  rotate_left
  · have hm := iteF hm hc72
    refine WL.runk 5 [2] [(2, .bool false)] (by kernel_rfl) ?_
    refine WL.nil ?_
    obtain rfl := Option.some.inj hm
    exact WQ.post' ⟨rfl, hb69, hL70, hS71⟩ ⟨rfl, trivial⟩
  have hm := iteT hm hc72
  refine WL.runk 1 [11, 12] [(11, .bool true), (12, .pointer (some ⟨b2, 5, none⟩))] (by kernel_rfl) ?_
  refine WL.st (.int .i64 x_0.Pitch) (ST.load (cell_ext (SH.boxAt (SH.front 0 hS71) 5 _ rfl)) rfl rfl Try.underlying2 rfl) rfl rfl rfl ?_
  obtain ⟨x73, hx74, hm⟩ := bindE hm
  refine WL.call 66 #[.int .i64 x_0.Pitch, .int .i64 0, .int .i64 1000] rfl rfl (by kernel_rfl) (c_66 n x_0.Pitch 0 1000 w66 hx74 ) ?_
  rintro _ w75 ⟨rfl, hE76⟩
  refine ⟨_, rfl, ?_⟩
  have hb78 : Ext w w75 := Ext.trans hb69 hE76
  have hL79 : w.heap.size ≤ w75.heap.size := Nat.le_trans hL70 hE76.size
  have hS80 : SH w75 w.heap.size [aBox 61 b2 [.string (bs x_0.Name), .int .i64 x_0.Length, .int .i64 x_0.Ball, .int .i64 x_0.Instep, .int .i64 x_0.Heel, .int .i64 x_0.Pitch]] := SH.ext hS71 hE76
  refine WL.runk 2 [2] [(2, .bool x73)] (by kernel_rfl) ?_
  refine WL.nil ?_
  obtain rfl := Option.some.inj hm
  exact WQ.post' ⟨rfl, hb78, hL79, hS80⟩ ⟨rfl, trivial⟩

theorem c_79 (n : Nat) (x_0 : SLast) (w : World) {r : List Int} (hm : m_impl_Last_numbers n x_0 = some r)  :
    CallV Try.prog 79 #[.agg #[.string (bs x_0.Name), .int .i64 x_0.Length, .int .i64 x_0.Ball, .int .i64 x_0.Instep, .int .i64 x_0.Heel, .int .i64 x_0.Pitch]] w (fun v w' => ∃ (ra0 : Option Addr) (rc0 : Nat), v = .slice ra0 r.length rc0 ∧ Ext w w' ∧ SH w' w.heap.size [aOwn fInt 2 ra0 rc0 r]) := by
  unfold m_impl_Last_numbers at hm
  refine CallV.enter Try.func79 rfl (by kernel_rfl) Try.ntmps79 (env := [(0, .agg #[.string (bs x_0.Name), .int .i64 x_0.Length, .int .i64 x_0.Ball, .int .i64 x_0.Instep, .int .i64 x_0.Heel, .int .i64 x_0.Pitch])]) ⟨rfl, trivial⟩ ?_
  refine WP.seq (fun K1 hK1 => ?_)
  refine WP.region ?_
  refine WL.box 61 [.string (bs x_0.Name), .int .i64 x_0.Length, .int .i64 x_0.Ball, .int .i64 x_0.Instep, .int .i64 x_0.Heel, .int .i64 x_0.Pitch] 1 (by kernel_rfl) rfl rfl rfl rfl ?_
  intro b2 w3 hE4 hR5
  have hb7 : Ext w w3 := Ext.trans (Ext.refl w) hE4
  have hL8 : w.heap.size ≤ w3.heap.size := Nat.le_trans (Nat.le_refl _) hE4.size
  have hS9 : SH w3 w.heap.size [aBox 61 b2 [.string (bs x_0.Name), .int .i64 x_0.Length, .int .i64 x_0.Ball, .int .i64 x_0.Instep, .int .i64 x_0.Heel, .int .i64 x_0.Pitch]] := SH.add (SH.nil _ _) hE4 (Nat.le_refl _) hR5
  refine WL.runk 1 [1] [(1, .pointer (some ⟨b2, 0, none⟩))] (by kernel_rfl) ?_
  refine WL.nil ?_
  refine WQ.then_normal (hK1 _ _ _ ?_)
  refine WP.seq (fun K10 hK10 => ?_)
  refine WP.region ?_
  refine WL.runk 1 [1, 3] [(1, .pointer (some ⟨b2, 0, none⟩)), (3, .pointer (some ⟨b2, 1, none⟩))] (by kernel_rfl) ?_
  refine WL.st (.int .i64 x_0.Length) (ST.load (cell_ext (SH.boxAt (SH.front 0 hS9) 1 _ rfl)) rfl rfl Try.underlying2 rfl) rfl rfl rfl ?_
  refine WL.runk 1 [1, 4, 5] [(1, .pointer (some ⟨b2, 0, none⟩)), (4, .int .i64 x_0.Length), (5, .pointer (some ⟨b2, 2, none⟩))] (by kernel_rfl) ?_
  refine WL.st (.int .i64 x_0.Ball) (ST.load (cell_ext (SH.boxAt (SH.front 0 hS9) 2 _ rfl)) rfl rfl Try.underlying2 rfl) rfl rfl rfl ?_
  refine WL.runk 1 [1, 4, 6, 7] [(1, .pointer (some ⟨b2, 0, none⟩)), (4, .int .i64 x_0.Length), (6, .int .i64 x_0.Ball), (7, .pointer (some ⟨b2, 3, none⟩))] (by kernel_rfl) ?_
  refine WL.st (.int .i64 x_0.Instep) (ST.load (cell_ext (SH.boxAt (SH.front 0 hS9) 3 _ rfl)) rfl rfl Try.underlying2 rfl) rfl rfl rfl ?_
  refine WL.runk 1 [1, 4, 6, 8, 9] [(1, .pointer (some ⟨b2, 0, none⟩)), (4, .int .i64 x_0.Length), (6, .int .i64 x_0.Ball), (8, .int .i64 x_0.Instep), (9, .pointer (some ⟨b2, 4, none⟩))] (by kernel_rfl) ?_
  refine WL.st (.int .i64 x_0.Heel) (ST.load (cell_ext (SH.boxAt (SH.front 0 hS9) 4 _ rfl)) rfl rfl Try.underlying2 rfl) rfl rfl rfl ?_
  refine WL.runk 1 [4, 6, 8, 10, 11] [(4, .int .i64 x_0.Length), (6, .int .i64 x_0.Ball), (8, .int .i64 x_0.Instep), (10, .int .i64 x_0.Heel), (11, .pointer (some ⟨b2, 5, none⟩))] (by kernel_rfl) ?_
  refine WL.st (.int .i64 x_0.Pitch) (ST.load (cell_ext (SH.boxAt (SH.front 0 hS9) 5 _ rfl)) rfl rfl Try.underlying2 rfl) rfl rfl rfl ?_
  refine WL.row fInt 2 ([x_0.Length, x_0.Ball, x_0.Instep, x_0.Heel, x_0.Pitch] : List Int) 5 #[.int .i64 x_0.Length, .int .i64 x_0.Ball, .int .i64 x_0.Instep, .int .i64 x_0.Heel, .int .i64 x_0.Pitch] 13 (by kernel_rfl) rfl rfl rfl rfl rfl rfl rfl ?_
  intro a11 c12 w13 hE14 hR15
  have hb17 : Ext w w13 := Ext.trans hb7 hE14
  have hL18 : w.heap.size ≤ w13.heap.size := Nat.le_trans hL8 hE14.size
  have hS19 : SH w13 w.heap.size [aOwn fInt 2 a11 c12 ([x_0.Length, x_0.Ball, x_0.Instep, x_0.Heel, x_0.Pitch] : List Int), aBox 61 b2 [.string (bs x_0.Name), .int .i64 x_0.Length, .int .i64 x_0.Ball, .int .i64 x_0.Instep, .int .i64 x_0.Heel, .int .i64 x_0.Pitch]] := SH.add hS9 hE14 hL8 hR15
  refine WL.runk 1 [2] [(2, .slice a11 (([x_0.Length, x_0.Ball, x_0.Instep, x_0.Heel, x_0.Pitch] : List Int).length) c12)] (by kernel_rfl) ?_
  refine WL.nil ?_
  refine WQ.then_normal (hK10 _ _ _ ?_)
  refine WP.ret ?_
  obtain rfl := Option.some.inj hm
  exact WQ.ret1 _ rfl rfl ⟨_, _, rfl, hb17, (SH.take 1 hS19)⟩

theorem c_49 (n : Nat) (x_0 : SLast) (list_1 : List SChange) (a1' : Option Addr) (c1' : Nat) (w : World) {r : SLast × Int} (hm : m_spec_ApplyChanges n x_0 list_1 = some r) (h1 : Rd fChange.ty w a1' list_1) (hle1 : list_1.length ≤ c1') :
    CallV Try.prog 49 #[.agg #[.string (bs x_0.Name), .int .i64 x_0.Length, .int .i64 x_0.Ball, .int .i64 x_0.Instep, .int .i64 x_0.Heel, .int .i64 x_0.Pitch], .slice a1' list_1.length c1'] w (fun v w' => v = .tuple #[.agg #[.string (bs r.1.Name), .int .i64 r.1.Length, .int .i64 r.1.Ball, .int .i64 r.1.Instep, .int .i64 r.1.Heel, .int .i64 r.1.Pitch], .int .i64 r.2] ∧ Ext w w') := by
  unfold m_spec_ApplyChanges at hm
  refine CallV.enter Try.func49 rfl (by kernel_rfl) Try.ntmps49 (env := [(0, .agg #[.string (bs x_0.Name), .int .i64 x_0.Length, .int .i64 x_0.Ball, .int .i64 x_0.Instep, .int .i64 x_0.Heel, .int .i64 x_0.Pitch]), (1, .slice a1' list_1.length c1')]) ⟨rfl, rfl, trivial⟩ ?_
  refine WP.seq (fun K1 hK1 => ?_)
  refine WP.region ?_
  refine WL.box 61 [.string (bs x_0.Name), .int .i64 x_0.Length, .int .i64 x_0.Ball, .int .i64 x_0.Instep, .int .i64 x_0.Heel, .int .i64 x_0.Pitch] 2 (by kernel_rfl) rfl rfl rfl rfl ?_
  intro b2 w3 hE4 hR5
  have hb7 : Ext w w3 := Ext.trans (Ext.refl w) hE4
  have hL8 : w.heap.size ≤ w3.heap.size := Nat.le_trans (Nat.le_refl _) hE4.size
  have hS9 : SH w3 w.heap.size [aBox 61 b2 [.string (bs x_0.Name), .int .i64 x_0.Length, .int .i64 x_0.Ball, .int .i64 x_0.Instep, .int .i64 x_0.Heel, .int .i64 x_0.Pitch]] := SH.add (SH.nil _ _) hE4 (Nat.le_refl _) hR5
  refine WL.box 61 [.string (bs []), .int .i64 0, .int .i64 0, .int .i64 0, .int .i64 0, .int .i64 0] 4 (by kernel_rfl) rfl rfl rfl rfl ?_
  intro b10 w11 hE12 hR13
  have hb15 : Ext w w11 := Ext.trans hb7 hE12
  have hL16 : w.heap.size ≤ w11.heap.size := Nat.le_trans hL8 hE12.size
  have hS17 : SH w11 w.heap.size [aBox 61 b10 [.string (bs []), .int .i64 0, .int .i64 0, .int .i64 0, .int .i64 0, .int .i64 0], aBox 61 b2 [.string (bs x_0.Name), .int .i64 x_0.Length, .int .i64 x_0.Ball, .int .i64 x_0.Instep, .int .i64 x_0.Heel, .int .i64 x_0.Pitch]] := SH.add hS9 hE12 hL8 hR13
  refine WL.runk 1 [1, 2, 4] [(1, .slice a1' list_1.length c1'), (2, .pointer (some ⟨b2, 0, none⟩)), (4, .pointer (some ⟨b10, 0, none⟩))] (by kernel_rfl) ?_
  refine WL.nil ?_
  refine WQ.then_normal (hK1 _ _ _ ?_)
  refine WP.seq (fun K18 hK18 => ?_)
  refine WP.seq (fun K19 hK19 => ?_)
  obtain ⟨x37, hx38, hm⟩ := bindE hm
  refine WP.cut (fun env' w' => env' = [(1, .slice a1' list_1.length c1'), (2, .pointer (some ⟨b2, 0, none⟩)), (4, .pointer (some ⟨b10, 0, none⟩)), (15, .bool x37)] ∧ Ext w w' ∧ w.heap.size ≤ w'.heap.size ∧ SH w' w.heap.size [aBox 61 b10 [.string (bs []), .int .i64 0, .int .i64 0, .int .i64 0, .int .i64 0, .int .i64 0], aBox 61 b2 [.string (bs x_0.Name), .int .i64 x_0.Length, .int .i64 x_0.Ball, .int .i64 x_0.Instep, .int .i64 x_0.Heel, .int .i64 x_0.Pitch]]) ?_ ?_
  · have hm := hx38; clear hx38
    refine WP.region ?_
    refine WL.st (.agg #[.string (bs x_0.Name), .int .i64 x_0.Length, .int .i64 x_0.Ball, .int .i64 x_0.Instep, .int .i64 x_0.Heel, .int .i64 x_0.Pitch]) (ST.loadAgg (vs := [.string (bs x_0.Name), .int .i64 x_0.Length, .int .i64 x_0.Ball, .int .i64 x_0.Instep, .int .i64 x_0.Heel, .int .i64 x_0.Pitch]) (fun j v hv => SH.boxPart (us := [.string (bs x_0.Name), .int .i64 x_0.Length, .int .i64 x_0.Ball, .int .i64 x_0.Instep, .int .i64 x_0.Heel, .int .i64 x_0.Pitch]) (SH.front 1 hS17) 0 rfl j v hv) rfl rfl rfl Try.underlying61 rfl (info61).1 (info61).2.1) rfl rfl rfl ?_
    obtain ⟨x39, hx40, hm⟩ := bindE hm
    refine WL.call 76 #[.agg #[.string (bs x_0.Name), .int .i64 x_0.Length, .int .i64 x_0.Ball, .int .i64 x_0.Instep, .int .i64 x_0.Heel, .int .i64 x_0.Pitch]] rfl rfl (by kernel_rfl) (c_76 n x_0 w11 hx40 ) ?_
    rintro _ w41 ⟨rfl, hE42⟩
    refine ⟨_, rfl, ?_⟩
    have hb44 : Ext w w41 := Ext.trans hb15 hE42
    have hL45 : w.heap.size ≤ w41.heap.size := Nat.le_trans hL16 hE42.size
    have hS46 : SH w41 w.heap.size [aBox 61 b10 [.string (bs []), .int .i64 0, .int .i64 0, .int .i64 0, .int .i64 0, .int .i64 0], aBox 61 b2 [.string (bs x_0.Name), .int .i64 x_0.Length, .int .i64 x_0.Ball, .int .i64 x_0.Instep, .int .i64 x_0.Heel, .int .i64 x_0.Pitch]] := SH.ext hS17 hE42
    refine WL.runk 2 [1, 2, 4, 11] [(1, .slice a1' list_1.length c1'), (2, .pointer (some ⟨b2, 0, none⟩)), (4, .pointer (some ⟨b10, 0, none⟩)), (11, .bool (!x39))] (by kernel_rfl) ?_
    refine WL.case (!x39) [11] ⟨rfl, trivial⟩ (fun hc47 => ?_) (fun hc47 => ?_)
    · have hm := iteT hm hc47
      refine WL.runk 4 [1, 2, 4, 15] [(1, .slice a1' list_1.length c1'), (2, .pointer (some ⟨b2, 0, none⟩)), (4, .pointer (some ⟨b10, 0, none⟩)), (15, .bool true)] (by kernel_rfl) ?_
      refine WL.nil ?_
      obtain rfl := Option.some.inj hm
      exact WQ.post' ⟨rfl, hb44, hL45, hS46⟩ ⟨rfl, rfl, rfl, rfl, trivial⟩
    have hm := iteF hm hc47
    refine WL.runk 1 [1, 2, 4, 11, 12] [(1, .slice a1' list_1.length c1'), (2, .pointer (some ⟨b2, 0, none⟩)), (4, .pointer (some ⟨b10, 0, none⟩)), (11, .bool false), (12, .slice a1' list_1.length c1')] (by kernel_rfl) ?_
    obtain ⟨x48, hx49, hm⟩ := bindE hm
    refine WL.call 59 #[.slice a1' list_1.length c1'] rfl rfl (by kernel_rfl) (c_59 n list_1 a1' c1' w41 hx49 (Rd.below h1 hb44) hle1) ?_
    rintro _ w50 ⟨rfl, hE51⟩
    refine ⟨_, rfl, ?_⟩
    have hb53 : Ext w w50 := Ext.trans hb44 hE51
    have hL54 : w.heap.size ≤ w50.heap.size := Nat.le_trans hL45 hE51.size
    have hS55 : SH w50 w.heap.size [aBox 61 b10 [.string (bs []), .int .i64 0, .int .i64 0, .int .i64 0, .int .i64 0, .int .i64 0], aBox 61 b2 [.string (bs x_0.Name), .int .i64 x_0.Length, .int .i64 x_0.Ball, .int .i64 x_0.Instep, .int .i64 x_0.Heel, .int .i64 x_0.Pitch]] := SH.ext hS46 hE51
    refine WL.runk 2 [1, 2, 4, 15] [(1, .slice a1' list_1.length c1'), (2, .pointer (some ⟨b2, 0, none⟩)), (4, .pointer (some ⟨b10, 0, none⟩)), (15, .bool (!x48))] (by kernel_rfl) ?_
    refine WL.nil ?_
    obtain rfl := Option.some.inj hm
    exact WQ.post' ⟨rfl, hb53, hL54, hS55⟩ ⟨rfl, rfl, rfl, rfl, trivial⟩
  clear hx38
  rintro _ w56 ⟨rfl, hb57, hL58, hS59⟩
  refine WQ.then_normal (hK19 _ _ _ ?_)
  refine WP.cond x37 rfl rfl (fun hc60 => ?_) (fun hc60 => ?_)
  · have hm := iteT hm hc60
    refine WP.seq (fun K61 hK61 => ?_)
    refine WP.region ?_
    refine WL.runk 1 [4, 16] [(4, .pointer (some ⟨b10, 0, none⟩)), (16, .agg #[.string (bs []), .int .i64 0, .int .i64 0, .int .i64 0, .int .i64 0, .int .i64 0])] (by kernel_rfl) ?_
    refine WL.boxStore 0 [.string (bs []), .int .i64 0, .int .i64 0, .int .i64 0, .int .i64 0, .int .i64 0] [.string (bs []), .int .i64 0, .int .i64 0, .int .i64 0, .int .i64 0, .int .i64 0] (SH.front 0 hS59) hL58 rfl rfl rfl rfl rfl rfl rfl (info61).1 (info61).2.1 rfl rfl rfl ?_
    intro w62 hB63 hS64
    have hb65 : Ext w w62 := Below.trans hb57 hB63
    have hL66 : w.heap.size ≤ w62.heap.size := Nat.le_trans hL58 hB63.size
    refine WL.runk 1 [4, 5] [(4, .pointer (some ⟨b10, 0, none⟩)), (5, .int .i64 1)] (by kernel_rfl) ?_
    refine WL.nil ?_
    refine WQ.then_normal (hK61 _ _ _ ?_)
    refine WP.ret ?_
    refine WQ.then_ret ?_
    obtain rfl := Option.some.inj hm
    exact WQ.retv2 _ _ rfl (RVal.box (SH.front 0 hS64) rfl Try.underlying61 rfl (info61).1 (info61).2.1) (RVal.tmp rfl) ⟨rfl, hb65⟩
  have hm := iteF hm hc60
  refine WP.skip ?_
  refine WQ.then_normal (hK18 _ _ _ ?_)
  refine WP.seq (fun K67 hK67 => ?_)
  refine WP.region ?_
  refine WL.st (.agg #[.string (bs x_0.Name), .int .i64 x_0.Length, .int .i64 x_0.Ball, .int .i64 x_0.Instep, .int .i64 x_0.Heel, .int .i64 x_0.Pitch]) (ST.loadAgg (vs := [.string (bs x_0.Name), .int .i64 x_0.Length, .int .i64 x_0.Ball, .int .i64 x_0.Instep, .int .i64 x_0.Heel, .int .i64 x_0.Pitch]) (fun j v hv => SH.boxPart (us := [.string (bs x_0.Name), .int .i64 x_0.Length, .int .i64 x_0.Ball, .int .i64 x_0.Instep, .int .i64 x_0.Heel, .int .i64 x_0.Pitch]) (SH.front 1 hS59) 0 rfl j v hv) rfl rfl rfl Try.underlying61 rfl (info61).1 (info61).2.1) rfl rfl rfl ?_
  obtain ⟨x68, hx69, hm⟩ := bindE hm
  refine WL.call 77 #[.agg #[.string (bs x_0.Name), .int .i64 x_0.Length, .int .i64 x_0.Ball, .int .i64 x_0.Instep, .int .i64 x_0.Heel, .int .i64 x_0.Pitch]] rfl rfl (by kernel_rfl) (c_77 n x_0 w56 hx69 ) ?_
  rintro _ w73 ⟨a70, c71, rfl, hE74, hR75⟩
  refine ⟨_, rfl, ?_⟩
  have hb76 : Ext w w73 := Ext.trans hb57 hE74
  have hL77 : w.heap.size ≤ w73.heap.size := Nat.le_trans hL58 hE74.size
  have hS78 : SH w73 w.heap.size [aOwn fInt 2 a70 c71 x68, aBox 61 b10 [.string (bs []), .int .i64 0, .int .i64 0, .int .i64 0, .int .i64 0, .int .i64 0], aBox 61 b2 [.string (bs x_0.Name), .int .i64 x_0.Length, .int .i64 x_0.Ball, .int .i64 x_0.Instep, .int .i64 x_0.Heel, .int .i64 x_0.Pitch]] := SH.add hS59 hE74 hL58 hR75
  refine WL.runk 1 [1, 2, 4, 6] [(1, .slice a1' list_1.length c1'), (2, .pointer (some ⟨b2, 0, none⟩)), (4, .pointer (some ⟨b10, 0, none⟩)), (6, .slice a70 x68.length c71)] (by kernel_rfl) ?_
  refine WL.nil ?_
  refine WQ.then_normal (hK67 _ _ _ ?_)
  refine WP.seq (fun K79 hK79 => ?_)
  refine WP.seq (fun K80 hK80 => ?_)
  refine WP.region ?_
  refine WL.runk 1 [1, 2, 4, 6, 7] [(1, .slice a1' list_1.length c1'), (2, .pointer (some ⟨b2, 0, none⟩)), (4, .pointer (some ⟨b10, 0, none⟩)), (6, .slice a70 x68.length c71), (7, .int .i64 0)] (by kernel_rfl) ?_
  refine WL.nil ?_
  refine WQ.then_normal (hK80 _ _ _ ?_)
  refine WP.block ?_
  obtain ⟨t181, ht182, hm⟩ := bindE hm
  have hmo176 := hm; clear hm
  refine WP.sub [(1, .slice a1' list_1.length c1'), (2, .pointer (some ⟨b2, 0, none⟩)), (4, .pointer (some ⟨b10, 0, none⟩)), (6, .slice a70 x68.length c71), (7, .int .i64 0)] ⟨rfl, rfl, rfl, rfl, rfl, trivial⟩ ?_
  refine WP.loop (fun n' env' w' => ∃ (st170 : Int × List Int × Int × Int × Int × Int × Int) , env' = [(1, .slice a1' list_1.length c1'), (2, .pointer (some ⟨b2, 0, none⟩)), (4, .pointer (some ⟨b10, 0, none⟩)), (6, .slice a70 st170.2.1.length c71), (7, .int .i64 st170.1)] ∧ Ext w w' ∧ w.heap.size ≤ w'.heap.size ∧ SH w' w.heap.size [aOwn fInt 2 a70 c71 st170.2.1, aBox 61 b10 [.string (bs []), .int .i64 0, .int .i64 0, .int .i64 0, .int .i64 0, .int .i64 0], aBox 61 b2 [.string (bs x_0.Name), .int .i64 st170.2.2.1, .int .i64 st170.2.2.2.1, .int .i64 st170.2.2.2.2.1, .int .i64 st170.2.2.2.2.2.1, .int .i64 st170.2.2.2.2.2.2]] ∧ loopN (m_spec_ApplyChanges_l1 n x_0 list_1) n' st170 = some t181) n ⟨(0, x68, x_0.Length, x_0.Ball, x_0.Instep, x_0.Heel, x_0.Pitch), rfl, hb76, hL77, hS78, ht182⟩ ?_
  rintro n178 _ w171 ⟨st170, rfl, hb172, hL173, hS174, hl175⟩ K177 hK177
  obtain ⟨n179, s180, rfl, hm, hl175⟩ := loopN_some hl175
  unfold m_spec_ApplyChanges_l1 at hm
  refine WP.seq (fun K183 hK183 => ?_)
  refine WP.seq (fun K184 hK184 => ?_)
  refine WP.region ?_
  refine WL.runk 4 [1, 2, 4, 6, 7, 22] [(1, .slice a1' list_1.length c1'), (2, .pointer (some ⟨b2, 0, none⟩)), (4, .pointer (some ⟨b10, 0, none⟩)), (6, .slice a70 st170.2.1.length c71), (7, .int .i64 st170.1), (22, .bool (decide (st170.1 < (list_1.length : Int))))] (by kernel_rfl) ?_
  refine WL.nil ?_
  refine WQ.then_normal (hK184 _ _ _ ?_)
  refine WP.cond (decide (st170.1 < (list_1.length : Int))) rfl rfl (fun hc185 => ?_) (fun hc185 => ?_)
  rotate_left
  · have hm := iteF hm hc185
    refine WP.exit ?_
    refine WQ.then_exit ?_
    refine WQ.then_exit ?_
    refine WQ.block_here ?_
    obtain rfl := Option.some.inj hm
    obtain rfl := afterN_done hl175
    have hm := hmo176
    refine WQ.then_normal (hK79 _ _ _ ?_)
    refine WP.seq (fun K253 hK253 => ?_)
    refine WP.region ?_
    refine WL.st (.agg #[.string (bs x_0.Name), .int .i64 st170.2.2.1, .int .i64 st170.2.2.2.1, .int .i64 st170.2.2.2.2.1, .int .i64 st170.2.2.2.2.2.1, .int .i64 st170.2.2.2.2.2.2]) (ST.loadAgg (vs := [.string (bs x_0.Name), .int .i64 st170.2.2.1, .int .i64 st170.2.2.2.1, .int .i64 st170.2.2.2.2.1, .int .i64 st170.2.2.2.2.2.1, .int .i64 st170.2.2.2.2.2.2]) (fun j v hv => SH.boxPart (us := [.string (bs x_0.Name), .int .i64 st170.2.2.1, .int .i64 st170.2.2.2.1, .int .i64 st170.2.2.2.2.1, .int .i64 st170.2.2.2.2.2.1, .int .i64 st170.2.2.2.2.2.2]) (SH.front 2 hS174) 0 rfl j v hv) rfl rfl rfl Try.underlying61 rfl (info61).1 (info61).2.1) rfl rfl rfl ?_
    refine WL.boxStore 0 [.string (bs x_0.Name), .int .i64 st170.2.2.1, .int .i64 st170.2.2.2.1, .int .i64 st170.2.2.2.2.1, .int .i64 st170.2.2.2.2.2.1, .int .i64 st170.2.2.2.2.2.2] [.string (bs x_0.Name), .int .i64 st170.2.2.1, .int .i64 st170.2.2.2.1, .int .i64 st170.2.2.2.2.1, .int .i64 st170.2.2.2.2.2.1, .int .i64 st170.2.2.2.2.2.2] (SH.front 1 hS174) hL173 rfl rfl rfl rfl rfl rfl rfl (info61).1 (info61).2.1 rfl rfl rfl ?_
    intro w254 hB255 hS256
    have hb257 : Ext w w254 := Below.trans hb172 hB255
    have hL258 : w.heap.size ≤ w254.heap.size := Nat.le_trans hL173 hB255.size
    refine WL.runk 1 [4, 5] [(4, .pointer (some ⟨b10, 0, none⟩)), (5, .int .i64 0)] (by kernel_rfl) ?_
    refine WL.nil ?_
    refine WQ.then_normal (hK253 _ _ _ ?_)
    refine WP.ret ?_
    obtain rfl := Option.some.inj hm
    exact WQ.retv2 _ _ rfl (RVal.box (SH.front 0 hS256) rfl Try.underlying61 rfl (info61).1 (info61).2.1) (RVal.tmp rfl) ⟨rfl, hb257⟩
  have hm := iteT hm hc185
  refine WP.skip ?_
  refine WQ.then_normal (hK183 _ _ _ ?_)
  refine WP.seq (fun K186 hK186 => ?_)
  refine WP.block ?_
  refine WP.seq (fun K187 hK187 => ?_)
  refine WP.open (n := 17) (by kernel_rfl) rfl (fun w188 hE189 => ?_)
  have hb190 : Ext w w188 := Ext.trans hb172 hE189
  have hL191 : w.heap.size ≤ w188.heap.size := Nat.le_trans hL173 hE189.size
  have hS192 : SH w188 w.heap.size [aOwn fInt 2 a70 c71 st170.2.1, aBox 61 b10 [.string (bs []), .int .i64 0, .int .i64 0, .int .i64 0, .int .i64 0, .int .i64 0], aBox 61 b2 [.string (bs x_0.Name), .int .i64 st170.2.2.1, .int .i64 st170.2.2.2.1, .int .i64 st170.2.2.2.2.1, .int .i64 st170.2.2.2.2.2.1, .int .i64 st170.2.2.2.2.2.2]] := SH.ext hS174 hE189
  refine WA.quiet (f' := 1) (D' := [0, 1, 2, 3, 4, 5, 6, 7, 8, 9, 10, 11, 12, 13, 14, 15]) [0, 1, 2, 3, 4, 5, 6, 7, 8, 9, 10, 11, 12, 13, 14, 15] rfl rfl (by kernel_rfl) ?_
  refine QL.step1v 25 (.slice a70 st170.2.1.length c71) rfl (fun _ => by kernel_rfl) ?_
  refine QL.step1v 26 (.slice a1' list_1.length c1') rfl (fun _ => by kernel_rfl) ?_
  refine QL.step1v 27 (.int .i64 st170.1) rfl (fun _ => by kernel_rfl) ?_
  refine QL.sub [(1, .slice a1' list_1.length c1'), (2, .pointer (some ⟨b2, 0, none⟩)), (4, .pointer (some ⟨b10, 0, none⟩)), (6, .slice a70 st170.2.1.length c71), (7, .int .i64 st170.1), (25, .slice a70 st170.2.1.length c71), (26, .slice a1' list_1.length c1'), (27, .int .i64 st170.1)] ⟨rfl, rfl, rfl, rfl, rfl, rfl, rfl, rfl, trivial⟩ ?_
  obtain ⟨x193, hx194, hm⟩ := bindE hm
  refine QL.st (.pointer (some (at_ a1' (Int.toNat st170.1 * 2)))) (ST.index (T := fChange.ty) (xs := list_1) (Rd.below h1 hb190) hx194 rfl rfl rfl Try.underlying28 (info42).1 (info42).2.1) rfl rfl rfl ?_
  refine QL.step1v 29 (.pointer (some (at_ a1' (Int.toNat st170.1 * 2)))) rfl (fun _ => by kernel_rfl) ?_
  refine QL.sub [(1, .slice a1' list_1.length c1'), (2, .pointer (some ⟨b2, 0, none⟩)), (4, .pointer (some ⟨b10, 0, none⟩)), (6, .slice a70 st170.2.1.length c71), (7, .int .i64 st170.1), (25, .slice a70 st170.2.1.length c71), (29, .pointer (some (at_ a1' (Int.toNat st170.1 * 2))))] ⟨rfl, rfl, rfl, rfl, rfl, rfl, rfl, trivial⟩ ?_
  refine QL.st (.int .i64 x193.Kind) (ST.load (cell_ext (Rd.flat (F := fChange) (Rd.below h1 hb190) hx194 0 rfl)) rfl rfl Try.underlying2 rfl) rfl rfl rfl ?_
  refine QL.step1v 31 (.int .i64 (wI64 (x193.Kind - 1))) rfl (fun _ => by kernel_rfl) ?_
  refine QL.sub [(1, .slice a1' list_1.length c1'), (2, .pointer (some ⟨b2, 0, none⟩)), (4, .pointer (some ⟨b10, 0, none⟩)), (6, .slice a70 st170.2.1.length c71), (7, .int .i64 st170.1), (25, .slice a70 st170.2.1.length c71), (31, .int .i64 (wI64 (x193.Kind - 1)))] ⟨rfl, rfl, rfl, rfl, rfl, rfl, rfl, trivial⟩ ?_
  obtain ⟨x195, hx196, hm⟩ := bindE hm
  refine QL.st (.pointer (some (at_ a70 (Int.toNat (wI64 (x193.Kind - 1)) * 1)))) (ST.index (T := fInt.ty) (xs := st170.2.1) (SH.rd (SH.front 0 hS192)) hx196 rfl rfl rfl Try.underlying31 (info2).1 (info2).2.1) rfl rfl rfl ?_
  refine QL.st (.int .i64 x195) (ST.load (cell_ext (Rd.flat (F := fInt) (SH.rd (SH.front 0 hS192)) hx196 0 rfl)) rfl rfl Try.underlying2 rfl) rfl rfl rfl ?_
  refine QL.step1v 34 (.slice a1' list_1.length c1') rfl (fun _ => by kernel_rfl) ?_
  refine QL.step1v 35 (.int .i64 st170.1) rfl (fun _ => by kernel_rfl) ?_
  refine QL.sub [(1, .slice a1' list_1.length c1'), (2, .pointer (some ⟨b2, 0, none⟩)), (4, .pointer (some ⟨b10, 0, none⟩)), (6, .slice a70 st170.2.1.length c71), (7, .int .i64 st170.1), (25, .slice a70 st170.2.1.length c71), (31, .int .i64 (wI64 (x193.Kind - 1))), (33, .int .i64 x195), (34, .slice a1' list_1.length c1'), (35, .int .i64 st170.1)] ⟨rfl, rfl, rfl, rfl, rfl, rfl, rfl, rfl, rfl, rfl, trivial⟩ ?_
  obtain ⟨x197, hx198, hm⟩ := bindE hm
  refine QL.st (.pointer (some (at_ a1' (Int.toNat st170.1 * 2)))) (ST.index (T := fChange.ty) (xs := list_1) (Rd.below h1 hb190) hx198 rfl rfl rfl Try.underlying28 (info42).1 (info42).2.1) rfl rfl rfl ?_
  refine QL.step1v 37 (.pointer (some (at_ a1' (Int.toNat st170.1 * 2 + 1)))) rfl (fun _ => by kernel_rfl) ?_
  refine QL.sub [(1, .slice a1' list_1.length c1'), (2, .pointer (some ⟨b2, 0, none⟩)), (4, .pointer (some ⟨b10, 0, none⟩)), (6, .slice a70 st170.2.1.length c71), (7, .int .i64 st170.1), (25, .slice a70 st170.2.1.length c71), (31, .int .i64 (wI64 (x193.Kind - 1))), (33, .int .i64 x195), (37, .pointer (some (at_ a1' (Int.toNat st170.1 * 2 + 1))))] ⟨rfl, rfl, rfl, rfl, rfl, rfl, rfl, rfl, rfl, trivial⟩ ?_
  refine QL.st (.int .i64 x197.Amount) (ST.load (cell_ext (Rd.flat (F := fChange) (Rd.below h1 hb190) hx198 1 rfl)) rfl rfl Try.underlying2 rfl) rfl rfl rfl ?_
  refine QL.step1v 39 (.int .i64 (wI64 (x195 + x197.Amount))) rfl (fun _ => by kernel_rfl) ?_
  refine QL.sub [(1, .slice a1' list_1.length c1'), (2, .pointer (some ⟨b2, 0, none⟩)), (4, .pointer (some ⟨b10, 0, none⟩)), (6, .slice a70 st170.2.1.length c71), (7, .int .i64 st170.1), (25, .slice a70 st170.2.1.length c71), (31, .int .i64 (wI64 (x193.Kind - 1))), (39, .int .i64 (wI64 (x195 + x197.Amount)))] ⟨rfl, rfl, rfl, rfl, rfl, rfl, rfl, rfl, trivial⟩ ?_
  obtain ⟨x199, hx200, hm⟩ := bindE hm
  refine QL.st (.pointer (some (at_ a70 (Int.toNat (wI64 (x193.Kind - 1)) * 1)))) (ST.index (T := fInt.ty) (xs := st170.2.1) (SH.rd (SH.front 0 hS192)) hx200 rfl rfl rfl Try.underlying31 (info2).1 (info2).2.1) rfl rfl rfl ?_
  refine QL.sub [(1, .slice a1' list_1.length c1'), (2, .pointer (some ⟨b2, 0, none⟩)), (4, .pointer (some ⟨b10, 0, none⟩)), (6, .slice a70 st170.2.1.length c71), (7, .int .i64 st170.1), (39, .int .i64 (wI64 (x195 + x197.Amount))), (40, .pointer (some (at_ a70 (Int.toNat (wI64 (x193.Kind - 1)) * 1))))] ⟨rfl, rfl, rfl, rfl, rfl, rfl, rfl, trivial⟩ ?_
  refine QL.nil ?_
  intro w201 hE202
  have hb203 : Ext w w201 := Ext.trans hb190 hE202
  have hL204 : w.heap.size ≤ w201.heap.size := Nat.le_trans hL191 hE202.size
  have hS205 : SH w201 w.heap.size [aOwn fInt 2 a70 c71 st170.2.1, aBox 61 b10 [.string (bs []), .int .i64 0, .int .i64 0, .int .i64 0, .int .i64 0, .int .i64 0], aBox 61 b2 [.string (bs x_0.Name), .int .i64 st170.2.2.1, .int .i64 st170.2.2.2.1, .int .i64 st170.2.2.2.2.1, .int .i64 st170.2.2.2.2.2.1, .int .i64 st170.2.2.2.2.2.2]] := SH.ext hS192 hE202
  refine WA.one (i := 16) (D' := [0, 1, 2, 3, 4, 5, 6, 7, 8, 9, 10, 11, 12, 13, 14, 15, 16]) rfl rfl (by kernel_rfl) ?_
  refine WL.store (F := fInt) (wI64 (x195 + x197.Amount)) 0 [.int .i64 (wI64 (x195 + x197.Amount))] (SH.front 0 hS205) hL204 hx200 rfl rfl rfl rfl rfl rfl rfl (info2).1 (info2).2.1 rfl rfl rfl ?_
  intro w206 hB207 hS208
  have hb209 : Ext w w206 := Below.trans hb203 hB207
  have hL210 : w.heap.size ≤ w206.heap.size := Nat.le_trans hL204 hB207.size
  refine WL.sub [(1, .slice a1' list_1.length c1'), (2, .pointer (some ⟨b2, 0, none⟩)), (4, .pointer (some ⟨b10, 0, none⟩)), (6, .slice a70 ((st170.2.1.set (Int.toNat (wI64 (x193.Kind - 1))) (wI64 (x195 + x197.Amount))).length) c71), (7, .int .i64 st170.1), (39, .int .i64 (wI64 (x195 + x197.Amount)))] ⟨rfl, rfl, rfl, by first | (simp only [List.length_set]; done) | (simp only [List.length_set]; rfl), rfl, rfl, trivial⟩ ?_
  refine WL.sub [(1, .slice a1' list_1.length c1'), (2, .pointer (some ⟨b2, 0, none⟩)), (4, .pointer (some ⟨b10, 0, none⟩)), (6, .slice a70 ((st170.2.1.set (Int.toNat (wI64 (x193.Kind - 1))) (wI64 (x195 + x197.Amount))).length) c71), (7, .int .i64 st170.1)] ⟨rfl, rfl, rfl, rfl, rfl, trivial⟩ ?_
  refine WL.nil ?_
  refine WA.done (by kernel_rfl) ?_
  refine WQ.then_normal (hK187 _ _ _ ?_)
  refine WP.seq (fun K211 hK211 => ?_)
  refine WP.open (n := 19) (by kernel_rfl) rfl (fun w212 hE213 => ?_)
  have hb214 : Ext w w212 := Ext.trans hb209 hE213
  have hL215 : w.heap.size ≤ w212.heap.size := Nat.le_trans hL210 hE213.size
  have hS216 : SH w212 w.heap.size [aOwn fInt 2 a70 c71 (st170.2.1.set (Int.toNat (wI64 (x193.Kind - 1))) (wI64 (x195 + x197.Amount))), aBox 61 b10 [.string (bs []), .int .i64 0, .int .i64 0, .int .i64 0, .int .i64 0, .int .i64 0], aBox 61 b2 [.string (bs x_0.Name), .int .i64 st170.2.2.1, .int .i64 st170.2.2.2.1, .int .i64 st170.2.2.2.2.1, .int .i64 st170.2.2.2.2.2.1, .int .i64 st170.2.2.2.2.2.2]] := SH.ext hS208 hE213
  refine WA.quiet (f' := 1) (D' := [0, 1, 2, 3, 4, 5, 6, 7, 8, 9, 10, 11, 12, 13, 14, 15, 16, 17]) [0, 1, 2, 3, 4, 5, 6, 7, 8, 9, 10, 11, 12, 13, 14, 15, 16, 17] rfl rfl (by kernel_rfl) ?_
  refine QL.step1v 41 (.pointer (some ⟨b2, 0, none⟩)) rfl (fun _ => by kernel_rfl) ?_
  refine QL.sub [(1, .slice a1' list_1.length c1'), (2, .pointer (some ⟨b2, 0, none⟩)), (4, .pointer (some ⟨b10, 0, none⟩)), (6, .slice a70 ((st170.2.1.set (Int.toNat (wI64 (x193.Kind - 1))) (wI64 (x195 + x197.Amount))).length) c71), (7, .int .i64 st170.1), (41, .pointer (some ⟨b2, 0, none⟩))] ⟨rfl, rfl, rfl, rfl, rfl, rfl, trivial⟩ ?_
  refine QL.st (.string (bs x_0.Name)) (ST.load (cell_ext (SH.boxAt (SH.front 2 hS216) 0 _ rfl)) rfl rfl Try.underlying9 rfl) rfl rfl rfl ?_
  refine QL.step1v 43 (.slice a70 ((st170.2.1.set (Int.toNat (wI64 (x193.Kind - 1))) (wI64 (x195 + x197.Amount))).length) c71) rfl (fun _ => by kernel_rfl) ?_
  refine QL.sub [(1, .slice a1' list_1.length c1'), (2, .pointer (some ⟨b2, 0, none⟩)), (4, .pointer (some ⟨b10, 0, none⟩)), (6, .slice a70 ((st170.2.1.set (Int.toNat (wI64 (x193.Kind - 1))) (wI64 (x195 + x197.Amount))).length) c71), (7, .int .i64 st170.1), (42, .string (bs x_0.Name)), (43, .slice a70 ((st170.2.1.set (Int.toNat (wI64 (x193.Kind - 1))) (wI64 (x195 + x197.Amount))).length) c71)] ⟨rfl, rfl, rfl, rfl, rfl, rfl, rfl, trivial⟩ ?_
  obtain ⟨x217, hx218, hm⟩ := bindE hm
  refine QL.st (.pointer (some (at_ a70 (Int.toNat 0 * 1)))) (ST.index (T := fInt.ty) (xs := (st170.2.1.set (Int.toNat (wI64 (x193.Kind - 1))) (wI64 (x195 + x197.Amount)))) (SH.rd (SH.front 0 hS216)) hx218 rfl rfl rfl Try.underlying31 (info2).1 (info2).2.1) rfl rfl rfl ?_
  refine QL.st (.int .i64 x217) (ST.load (cell_ext (Rd.flat (F := fInt) (SH.rd (SH.front 0 hS216)) hx218 0 rfl)) rfl rfl Try.underlying2 rfl) rfl rfl rfl ?_
  refine QL.step1v 46 (.slice a70 ((st170.2.1.set (Int.toNat (wI64 (x193.Kind - 1))) (wI64 (x195 + x197.Amount))).length) c71) rfl (fun _ => by kernel_rfl) ?_
  refine QL.sub [(1, .slice a1' list_1.length c1'), (2, .pointer (some ⟨b2, 0, none⟩)), (4, .pointer (some ⟨b10, 0, none⟩)), (6, .slice a70 ((st170.2.1.set (Int.toNat (wI64 (x193.Kind - 1))) (wI64 (x195 + x197.Amount))).length) c71), (7, .int .i64 st170.1), (42, .string (bs x_0.Name)), (45, .int .i64 x217), (46, .slice a70 ((st170.2.1.set (Int.toNat (wI64 (x193.Kind - 1))) (wI64 (x195 + x197.Amount))).length) c71)] ⟨rfl, rfl, rfl, rfl, rfl, rfl, rfl, rfl, trivial⟩ ?_
  obtain ⟨x219, hx220, hm⟩ := bindE hm
  refine QL.st (.pointer (some (at_ a70 (Int.toNat 1 * 1)))) (ST.index (T := fInt.ty) (xs := (st170.2.1.set (Int.toNat (wI64 (x193.Kind - 1))) (wI64 (x195 + x197.Amount)))) (SH.rd (SH.front 0 hS216)) hx220 rfl rfl rfl Try.underlying31 (info2).1 (info2).2.1) rfl rfl rfl ?_
  refine QL.st (.int .i64 x219) (ST.load (cell_ext (Rd.flat (F := fInt) (SH.rd (SH.front 0 hS216)) hx220 0 rfl)) rfl rfl Try.underlying2 rfl) rfl rfl rfl ?_
  refine QL.step1v 49 (.slice a70 ((st170.2.1.set (Int.toNat (wI64 (x193.Kind - 1))) (wI64 (x195 + x197.Amount))).length) c71) rfl (fun _ => by kernel_rfl) ?_
  refine QL.sub [(1, .slice a1' list_1.length c1'), (2, .pointer (some ⟨b2, 0, none⟩)), (4, .pointer (some ⟨b10, 0, none⟩)), (6, .slice a70 ((st170.2.1.set (Int.toNat (wI64 (x193.Kind - 1))) (wI64 (x195 + x197.Amount))).length) c71), (7, .int .i64 st170.1), (42, .string (bs x_0.Name)), (45, .int .i64 x217), (48, .int .i64 x219), (49, .slice a70 ((st170.2.1.set (Int.toNat (wI64 (x193.Kind - 1))) (wI64 (x195 + x197.Amount))).length) c71)] ⟨rfl, rfl, rfl, rfl, rfl, rfl, rfl, rfl, rfl, trivial⟩ ?_
  obtain ⟨x221, hx222, hm⟩ := bindE hm
  refine QL.st (.pointer (some (at_ a70 (Int.toNat 2 * 1)))) (ST.index (T := fInt.ty) (xs := (st170.2.1.set (Int.toNat (wI64 (x193.Kind - 1))) (wI64 (x195 + x197.Amount)))) (SH.rd (SH.front 0 hS216)) hx222 rfl rfl rfl Try.underlying31 (info2).1 (info2).2.1) rfl rfl rfl ?_
  refine QL.st (.int .i64 x221) (ST.load (cell_ext (Rd.flat (F := fInt) (SH.rd (SH.front 0 hS216)) hx222 0 rfl)) rfl rfl Try.underlying2 rfl) rfl rfl rfl ?_
  refine QL.step1v 52 (.slice a70 ((st170.2.1.set (Int.toNat (wI64 (x193.Kind - 1))) (wI64 (x195 + x197.Amount))).length) c71) rfl (fun _ => by kernel_rfl) ?_
  refine QL.sub [(1, .slice a1' list_1.length c1'), (2, .pointer (some ⟨b2, 0, none⟩)), (4, .pointer (some ⟨b10, 0, none⟩)), (6, .slice a70 ((st170.2.1.set (Int.toNat (wI64 (x193.Kind - 1))) (wI64 (x195 + x197.Amount))).length) c71), (7, .int .i64 st170.1), (42, .string (bs x_0.Name)), (45, .int .i64 x217), (48, .int .i64 x219), (51, .int .i64 x221), (52, .slice a70 ((st170.2.1.set (Int.toNat (wI64 (x193.Kind - 1))) (wI64 (x195 + x197.Amount))).length) c71)] ⟨rfl, rfl, rfl, rfl, rfl, rfl, rfl, rfl, rfl, rfl, trivial⟩ ?_
  obtain ⟨x223, hx224, hm⟩ := bindE hm
  refine QL.st (.pointer (some (at_ a70 (Int.toNat 3 * 1)))) (ST.index (T := fInt.ty) (xs := (st170.2.1.set (Int.toNat (wI64 (x193.Kind - 1))) (wI64 (x195 + x197.Amount)))) (SH.rd (SH.front 0 hS216)) hx224 rfl rfl rfl Try.underlying31 (info2).1 (info2).2.1) rfl rfl rfl ?_
  refine QL.st (.int .i64 x223) (ST.load (cell_ext (Rd.flat (F := fInt) (SH.rd (SH.front 0 hS216)) hx224 0 rfl)) rfl rfl Try.underlying2 rfl) rfl rfl rfl ?_
  refine QL.step1v 55 (.slice a70 ((st170.2.1.set (Int.toNat (wI64 (x193.Kind - 1))) (wI64 (x195 + x197.Amount))).length) c71) rfl (fun _ => by kernel_rfl) ?_
  refine QL.sub [(1, .slice a1' list_1.length c1'), (2, .pointer (some ⟨b2, 0, none⟩)), (4, .pointer (some ⟨b10, 0, none⟩)), (6, .slice a70 ((st170.2.1.set (Int.toNat (wI64 (x193.Kind - 1))) (wI64 (x195 + x197.Amount))).length) c71), (7, .int .i64 st170.1), (42, .string (bs x_0.Name)), (45, .int .i64 x217), (48, .int .i64 x219), (51, .int .i64 x221), (54, .int .i64 x223), (55, .slice a70 ((st170.2.1.set (Int.toNat (wI64 (x193.Kind - 1))) (wI64 (x195 + x197.Amount))).length) c71)] ⟨rfl, rfl, rfl, rfl, rfl, rfl, rfl, rfl, rfl, rfl, rfl, trivial⟩ ?_
  obtain ⟨x225, hx226, hm⟩ := bindE hm
  refine QL.st (.pointer (some (at_ a70 (Int.toNat 4 * 1)))) (ST.index (T := fInt.ty) (xs := (st170.2.1.set (Int.toNat (wI64 (x193.Kind - 1))) (wI64 (x195 + x197.Amount)))) (SH.rd (SH.front 0 hS216)) hx226 rfl rfl rfl Try.underlying31 (info2).1 (info2).2.1) rfl rfl rfl ?_
  refine QL.st (.int .i64 x225) (ST.load (cell_ext (Rd.flat (F := fInt) (SH.rd (SH.front 0 hS216)) hx226 0 rfl)) rfl rfl Try.underlying2 rfl) rfl rfl rfl ?_
  refine QL.step1v 58 (.agg #[.string (bs x_0.Name), .int .i64 x217, .int .i64 x219, .int .i64 x221, .int .i64 x223, .int .i64 x225]) rfl (fun _ => by kernel_rfl) ?_
  refine QL.sub [(1, .slice a1' list_1.length c1'), (2, .pointer (some ⟨b2, 0, none⟩)), (4, .pointer (some ⟨b10, 0, none⟩)), (6, .slice a70 ((st170.2.1.set (Int.toNat (wI64 (x193.Kind - 1))) (wI64 (x195 + x197.Amount))).length) c71), (7, .int .i64 st170.1), (58, .agg #[.string (bs x_0.Name), .int .i64 x217, .int .i64 x219, .int .i64 x221, .int .i64 x223, .int .i64 x225])] ⟨rfl, rfl, rfl, rfl, rfl, rfl, trivial⟩ ?_
  refine QL.nil ?_
  intro w227 hE228
  have hb229 : Ext w w227 := Ext.trans hb214 hE228
  have hL230 : w.heap.size ≤ w227.heap.size := Nat.le_trans hL215 hE228.size
  have hS231 : SH w227 w.heap.size [aOwn fInt 2 a70 c71 (st170.2.1.set (Int.toNat (wI64 (x193.Kind - 1))) (wI64 (x195 + x197.Amount))), aBox 61 b10 [.string (bs []), .int .i64 0, .int .i64 0, .int .i64 0, .int .i64 0, .int .i64 0], aBox 61 b2 [.string (bs x_0.Name), .int .i64 st170.2.2.1, .int .i64 st170.2.2.2.1, .int .i64 st170.2.2.2.2.1, .int .i64 st170.2.2.2.2.2.1, .int .i64 st170.2.2.2.2.2.2]] := SH.ext hS216 hE228
  refine WA.one (i := 18) (D' := [0, 1, 2, 3, 4, 5, 6, 7, 8, 9, 10, 11, 12, 13, 14, 15, 16, 17, 18]) rfl rfl (by kernel_rfl) ?_
  refine WL.boxStore 0 [.string (bs x_0.Name), .int .i64 x217, .int .i64 x219, .int .i64 x221, .int .i64 x223, .int .i64 x225] [.string (bs x_0.Name), .int .i64 x217, .int .i64 x219, .int .i64 x221, .int .i64 x223, .int .i64 x225] (SH.front 2 hS231) hL230 rfl rfl rfl rfl rfl rfl rfl (info61).1 (info61).2.1 rfl rfl rfl ?_
  intro w232 hB233 hS234
  have hb235 : Ext w w232 := Below.trans hb229 hB233
  have hL236 : w.heap.size ≤ w232.heap.size := Nat.le_trans hL230 hB233.size
  refine WL.sub [(1, .slice a1' list_1.length c1'), (2, .pointer (some ⟨b2, 0, none⟩)), (4, .pointer (some ⟨b10, 0, none⟩)), (6, .slice a70 ((st170.2.1.set (Int.toNat (wI64 (x193.Kind - 1))) (wI64 (x195 + x197.Amount))).length) c71), (7, .int .i64 st170.1)] ⟨rfl, rfl, rfl, rfl, rfl, trivial⟩ ?_
  refine WL.nil ?_
  refine WA.done (by kernel_rfl) ?_
  refine WQ.then_normal (hK211 _ _ _ ?_)
  refine WP.seq (fun K237 hK237 => ?_)
  refine WP.region ?_
  refine WL.st (.agg #[.string (bs x_0.Name), .int .i64 x217, .int .i64 x219, .int .i64 x221, .int .i64 x223, .int .i64 x225]) (ST.loadAgg (vs := [.string (bs x_0.Name), .int .i64 x217, .int .i64 x219, .int .i64 x221, .int .i64 x223, .int .i64 x225]) (fun j v hv => SH.boxPart (us := [.string (bs x_0.Name), .int .i64 x217, .int .i64 x219, .int .i64 x221, .int .i64 x223, .int .i64 x225]) (SH.front 0 hS234) 0 rfl j v hv) rfl rfl rfl Try.underlying61 rfl (info61).1 (info61).2.1) rfl rfl rfl ?_
  obtain ⟨x238, hx239, hm⟩ := bindE hm
  refine WL.call 76 #[.agg #[.string (bs x_0.Name), .int .i64 x217, .int .i64 x219, .int .i64 x221, .int .i64 x223, .int .i64 x225]] rfl rfl (by kernel_rfl) (c_76 n (SLast.mk x_0.Name x217 x219 x221 x223 x225) w232 hx239 ) ?_
  rintro _ w240 ⟨rfl, hE241⟩
  refine ⟨_, rfl, ?_⟩
  have hb243 : Ext w w240 := Ext.trans hb235 hE241
  have hL244 : w.heap.size ≤ w240.heap.size := Nat.le_trans hL236 hE241.size
  have hS245 : SH w240 w.heap.size [aBox 61 b2 [.string (bs x_0.Name), .int .i64 x217, .int .i64 x219, .int .i64 x221, .int .i64 x223, .int .i64 x225], aOwn fInt 2 a70 c71 (st170.2.1.set (Int.toNat (wI64 (x193.Kind - 1))) (wI64 (x195 + x197.Amount))), aBox 61 b10 [.string (bs []), .int .i64 0, .int .i64 0, .int .i64 0, .int .i64 0, .int .i64 0]] := SH.ext hS234 hE241
  refine WL.runk 1 [1, 2, 4, 6, 7, 61] [(1, .slice a1' list_1.length c1'), (2, .pointer (some ⟨b2, 0, none⟩)), (4, .pointer (some ⟨b10, 0, none⟩)), (6, .slice a70 ((st170.2.1.set (Int.toNat (wI64 (x193.Kind - 1))) (wI64 (x195 + x197.Amount))).length) c71), (7, .int .i64 st170.1), (61, .bool (!x238))] (by kernel_rfl) ?_
  refine WL.nil ?_
  refine WQ.then_normal (hK237 _ _ _ ?_)
  refine WP.cond (!x238) rfl rfl (fun hc246 => ?_) (fun hc246 => ?_)
  rotate_left
  · have hm := iteF hm hc246
    refine WP.skip ?_
    refine WQ.block_normal ?_
    refine WQ.then_normal (hK186 _ _ _ ?_)
    refine WP.region ?_
    refine WL.runk 3 [1, 2, 4, 6, 7] [(1, .slice a1' list_1.length c1'), (2, .pointer (some ⟨b2, 0, none⟩)), (4, .pointer (some ⟨b10, 0, none⟩)), (6, .slice a70 ((st170.2.1.set (Int.toNat (wI64 (x193.Kind - 1))) (wI64 (x195 + x197.Amount))).length) c71), (7, .int .i64 (wI64 (st170.1 + 1)))] (by kernel_rfl) ?_
    refine WL.nil ?_
    obtain rfl := Option.some.inj hm
    exact WQ.round hK177 ⟨((wI64 (st170.1 + 1)), (st170.2.1.set (Int.toNat (wI64 (x193.Kind - 1))) (wI64 (x195 + x197.Amount))), x217, x219, x221, x223, x225), rfl, hb243, hL244, (SH.front 2 (SH.front 2 hS245)), hl175⟩ (Nat.lt_succ_self _) ⟨rfl, rfl, rfl, rfl, rfl, trivial⟩
  have hm := iteT hm hc246
  refine WP.seq (fun K247 hK247 => ?_)
  refine WP.region ?_
  refine WL.runk 1 [4, 62] [(4, .pointer (some ⟨b10, 0, none⟩)), (62, .agg #[.string (bs []), .int .i64 0, .int .i64 0, .int .i64 0, .int .i64 0, .int .i64 0])] (by kernel_rfl) ?_
  refine WL.boxStore 0 [.string (bs []), .int .i64 0, .int .i64 0, .int .i64 0, .int .i64 0, .int .i64 0] [.string (bs []), .int .i64 0, .int .i64 0, .int .i64 0, .int .i64 0, .int .i64 0] (SH.front 2 hS245) hL244 rfl rfl rfl rfl rfl rfl rfl (info61).1 (info61).2.1 rfl rfl rfl ?_
  intro w248 hB249 hS250
  have hb251 : Ext w w248 := Below.trans hb243 hB249
  have hL252 : w.heap.size ≤ w248.heap.size := Nat.le_trans hL244 hB249.size
  refine WL.runk 1 [4, 5] [(4, .pointer (some ⟨b10, 0, none⟩)), (5, .int .i64 10)] (by kernel_rfl) ?_
  refine WL.nil ?_
  refine WQ.then_normal (hK247 _ _ _ ?_)
  refine WP.ret ?_
  refine WQ.block_ret ?_
  refine WQ.then_ret ?_
  refine WQ.then_ret ?_
  refine WQ.block_ret ?_
  refine WQ.then_ret ?_
  obtain rfl := Option.some.inj hm
  obtain rfl := afterN_done hl175
  have hm := hmo176
  obtain rfl := Option.some.inj hm
  exact WQ.retv2 _ _ rfl (RVal.box (SH.front 0 hS250) rfl Try.underlying61 rfl (info61).1 (info61).2.1) (RVal.tmp rfl) ⟨rfl, hb251⟩

theorem c_80 (n : Nat) (x_0 : SLast) (c_1 : SChange) (w : World) {r : SLast} (hm : m_impl_Last_changed n x_0 c_1 = some r)  :
    CallV Try.prog 80 #[.agg #[.string (bs x_0.Name), .int .i64 x_0.Length, .int .i64 x_0.Ball, .int .i64 x_0.Instep, .int .i64 x_0.Heel, .int .i64 x_0.Pitch], .agg #[.int .i64 c_1.Kind, .int .i64 c_1.Amount]] w (fun v w' => v = .agg #[.string (bs r.Name), .int .i64 r.Length, .int .i64 r.Ball, .int .i64 r.Instep, .int .i64 r.Heel, .int .i64 r.Pitch] ∧ Ext w w') := by
  unfold m_impl_Last_changed at hm
  refine CallV.enter Try.func80 rfl (by kernel_rfl) Try.ntmps80 (env := [(0, .agg #[.string (bs x_0.Name), .int .i64 x_0.Length, .int .i64 x_0.Ball, .int .i64 x_0.Instep, .int .i64 x_0.Heel, .int .i64 x_0.Pitch]), (1, .agg #[.int .i64 c_1.Kind, .int .i64 c_1.Amount])]) ⟨rfl, rfl, trivial⟩ ?_
  refine WP.seq (fun K1 hK1 => ?_)
  refine WP.region ?_
  refine WL.box 61 [.string (bs x_0.Name), .int .i64 x_0.Length, .int .i64 x_0.Ball, .int .i64 x_0.Instep, .int .i64 x_0.Heel, .int .i64 x_0.Pitch] 2 (by kernel_rfl) rfl rfl rfl rfl ?_
  intro b2 w3 hE4 hR5
  have hb7 : Ext w w3 := Ext.trans (Ext.refl w) hE4
  have hL8 : w.heap.size ≤ w3.heap.size := Nat.le_trans (Nat.le_refl _) hE4.size
  have hS9 : SH w3 w.heap.size [aBox 61 b2 [.string (bs x_0.Name), .int .i64 x_0.Length, .int .i64 x_0.Ball, .int .i64 x_0.Instep, .int .i64 x_0.Heel, .int .i64 x_0.Pitch]] := SH.add (SH.nil _ _) hE4 (Nat.le_refl _) hR5
  refine WL.box 42 [.int .i64 c_1.Kind, .int .i64 c_1.Amount] 3 (by kernel_rfl) rfl rfl rfl rfl ?_
  intro b10 w11 hE12 hR13
  have hb15 : Ext w w11 := Ext.trans hb7 hE12
  have hL16 : w.heap.size ≤ w11.heap.size := Nat.le_trans hL8 hE12.size
  have hS17 : SH w11 w.heap.size [aBox 42 b10 [.int .i64 c_1.Kind, .int .i64 c_1.Amount], aBox 61 b2 [.string (bs x_0.Name), .int .i64 x_0.Length, .int .i64 x_0.Ball, .int .i64 x_0.Instep, .int .i64 x_0.Heel, .int .i64 x_0.Pitch]] := SH.add hS9 hE12 hL8 hR13
  refine WL.box 61 [.string (bs []), .int .i64 0, .int .i64 0, .int .i64 0, .int .i64 0, .int .i64 0] 4 (by kernel_rfl) rfl rfl rfl rfl ?_
  intro b18 w19 hE20 hR21
  have hb23 : Ext w w19 := Ext.trans hb15 hE20
  have hL24 : w.heap.size ≤ w19.heap.size := Nat.le_trans hL16 hE20.size
  have hS25 : SH w19 w.heap.size [aBox 61 b18 [.string (bs []), .int .i64 0, .int .i64 0, .int .i64 0, .int .i64 0, .int .i64 0], aBox 42 b10 [.int .i64 c_1.Kind, .int .i64 c_1.Amount], aBox 61 b2 [.string (bs x_0.Name), .int .i64 x_0.Length, .int .i64 x_0.Ball, .int .i64 x_0.Instep, .int .i64 x_0.Heel, .int .i64 x_0.Pitch]] := SH.add hS17 hE20 hL16 hR21
  refine WL.sub [(2, .pointer (some ⟨b2, 0, none⟩)), (3, .pointer (some ⟨b10, 0, none⟩)), (4, .pointer (some ⟨b18, 0, none⟩))] ⟨rfl, rfl, rfl, trivial⟩ ?_
  refine WL.nil ?_
  refine WQ.then_normal (hK1 _ _ _ ?_)
  refine WP.seq (fun K26 hK26 => ?_)
  refine WP.region ?_
  refine WL.st (.agg #[.string (bs x_0.Name), .int .i64 x_0.Length, .int .i64 x_0.Ball, .int .i64 x_0.Instep, .int .i64 x_0.Heel, .int .i64 x_0.Pitch]) (ST.loadAgg (vs := [.string (bs x_0.Name), .int .i64 x_0.Length, .int .i64 x_0.Ball, .int .i64 x_0.Instep, .int .i64 x_0.Heel, .int .i64 x_0.Pitch]) (fun j v hv => SH.boxPart (us := [.string (bs x_0.Name), .int .i64 x_0.Length, .int .i64 x_0.Ball, .int .i64 x_0.Instep, .int .i64 x_0.Heel, .int .i64 x_0.Pitch]) (SH.front 2 hS25) 0 rfl j v hv) rfl rfl rfl Try.underlying61 rfl (info61).1 (info61).2.1) rfl rfl rfl ?_
  obtain ⟨x27, hx28, hm⟩ := bindE hm
  refine WL.call 79 #[.agg #[.string (bs x_0.Name), .int .i64 x_0.Length, .int .i64 x_0.Ball, .int .i64 x_0.Instep, .int .i64 x_0.Heel, .int .i64 x_0.Pitch]] rfl rfl (by kernel_rfl) (c_79 n x_0 w19 hx28 ) ?_
  rintro _ w32 ⟨a29, c30, rfl, hE33, hR34⟩
  refine ⟨_, rfl, ?_⟩
  have hb35 : Ext w w32 := Ext.trans hb23 hE33
  have hL36 : w.heap.size ≤ w32.heap.size := Nat.le_trans hL24 hE33.size
  have hS37 : SH w32 w.heap.size [aOwn fInt 2 a29 c30 x27, aBox 61 b18 [.string (bs []), .int .i64 0, .int .i64 0, .int .i64 0, .int .i64 0, .int .i64 0], aBox 42 b10 [.int .i64 c_1.Kind, .int .i64 c_1.Amount], aBox 61 b2 [.string (bs x_0.Name), .int .i64 x_0.Length, .int .i64 x_0.Ball, .int .i64 x_0.Instep, .int .i64 x_0.Heel, .int .i64 x_0.Pitch]] := SH.add hS25 hE33 hL24 hR34
  refine WL.runk 1 [2, 3, 4, 5] [(2, .pointer (some ⟨b2, 0, none⟩)), (3, .pointer (some ⟨b10, 0, none⟩)), (4, .pointer (some ⟨b18, 0, none⟩)), (5, .slice a29 x27.length c30)] (by kernel_rfl) ?_
  refine WL.nil ?_
  refine WQ.then_normal (hK26 _ _ _ ?_)
  refine WP.seq (fun K38 hK38 => ?_)
  refine WP.open (n := 11) (by kernel_rfl) rfl (fun w39 hE40 => ?_)
  have hb41 : Ext w w39 := Ext.trans hb35 hE40
  have hL42 : w.heap.size ≤ w39.heap.size := Nat.le_trans hL36 hE40.size
  have hS43 : SH w39 w.heap.size [aOwn fInt 2 a29 c30 x27, aBox 61 b18 [.string (bs []), .int .i64 0, .int .i64 0, .int .i64 0, .int .i64 0, .int .i64 0], aBox 42 b10 [.int .i64 c_1.Kind, .int .i64 c_1.Amount], aBox 61 b2 [.string (bs x_0.Name), .int .i64 x_0.Length, .int .i64 x_0.Ball, .int .i64 x_0.Instep, .int .i64 x_0.Heel, .int .i64 x_0.Pitch]] := SH.ext hS37 hE40
  refine WA.quiet (f' := 1) (D' := [0, 1, 2, 3, 4, 5, 6, 7, 8, 9]) [0, 1, 2, 3, 4, 5, 6, 7, 8, 9] rfl rfl (by kernel_rfl) ?_
  refine QL.step1v 8 (.slice a29 x27.length c30) rfl (fun _ => by kernel_rfl) ?_
  refine QL.step1v 9 (.pointer (some ⟨b10, 0, none⟩)) rfl (fun _ => by kernel_rfl) ?_
  refine QL.sub [(2, .pointer (some ⟨b2, 0, none⟩)), (3, .pointer (some ⟨b10, 0, none⟩)), (4, .pointer (some ⟨b18, 0, none⟩)), (5, .slice a29 x27.length c30), (8, .slice a29 x27.length c30), (9, .pointer (some ⟨b10, 0, none⟩))] ⟨rfl, rfl, rfl, rfl, rfl, rfl, trivial⟩ ?_
  refine QL.st (.int .i64 c_1.Kind) (ST.load (cell_ext (SH.boxAt (SH.front 2 hS43) 0 _ rfl)) rfl rfl Try.underlying2 rfl) rfl rfl rfl ?_
  refine QL.step1v 11 (.int .i64 (wI64 (c_1.Kind - 1))) rfl (fun _ => by kernel_rfl) ?_
  refine QL.sub [(2, .pointer (some ⟨b2, 0, none⟩)), (3, .pointer (some ⟨b10, 0, none⟩)), (4, .pointer (some ⟨b18, 0, none⟩)), (5, .slice a29 x27.length c30), (8, .slice a29 x27.length c30), (11, .int .i64 (wI64 (c_1.Kind - 1)))] ⟨rfl, rfl, rfl, rfl, rfl, rfl, trivial⟩ ?_
  obtain ⟨x44, hx45, hm⟩ := bindE hm
  refine QL.st (.pointer (some (at_ a29 (Int.toNat (wI64 (c_1.Kind - 1)) * 1)))) (ST.index (T := fInt.ty) (xs := x27) (SH.rd (SH.front 0 hS43)) hx45 rfl rfl rfl Try.underlying31 (info2).1 (info2).2.1) rfl rfl rfl ?_
  refine QL.st (.int .i64 x44) (ST.load (cell_ext (Rd.flat (F := fInt) (SH.rd (SH.front 0 hS43)) hx45 0 rfl)) rfl rfl Try.underlying2 rfl) rfl rfl rfl ?_
  refine QL.step1v 14 (.pointer (some ⟨b10, 1, none⟩)) rfl (fun _ => by kernel_rfl) ?_
  refine QL.sub [(2, .pointer (some ⟨b2, 0, none⟩)), (4, .pointer (some ⟨b18, 0, none⟩)), (5, .slice a29 x27.length c30), (8, .slice a29 x27.length c30), (11, .int .i64 (wI64 (c_1.Kind - 1))), (13, .int .i64 x44), (14, .pointer (some ⟨b10, 1, none⟩))] ⟨rfl, rfl, rfl, rfl, rfl, rfl, rfl, trivial⟩ ?_
  refine QL.st (.int .i64 c_1.Amount) (ST.load (cell_ext (SH.boxAt (SH.front 2 hS43) 1 _ rfl)) rfl rfl Try.underlying2 rfl) rfl rfl rfl ?_
  refine QL.step1v 16 (.int .i64 (wI64 (x44 + c_1.Amount))) rfl (fun _ => by kernel_rfl) ?_
  refine QL.sub [(2, .pointer (some ⟨b2, 0, none⟩)), (4, .pointer (some ⟨b18, 0, none⟩)), (5, .slice a29 x27.length c30), (8, .slice a29 x27.length c30), (11, .int .i64 (wI64 (c_1.Kind - 1))), (16, .int .i64 (wI64 (x44 + c_1.Amount)))] ⟨rfl, rfl, rfl, rfl, rfl, rfl, trivial⟩ ?_
  obtain ⟨x46, hx47, hm⟩ := bindE hm
  refine QL.st (.pointer (some (at_ a29 (Int.toNat (wI64 (c_1.Kind - 1)) * 1)))) (ST.index (T := fInt.ty) (xs := x27) (SH.rd (SH.front 0 hS43)) hx47 rfl rfl rfl Try.underlying31 (info2).1 (info2).2.1) rfl rfl rfl ?_
  refine QL.sub [(2, .pointer (some ⟨b2, 0, none⟩)), (4, .pointer (some ⟨b18, 0, none⟩)), (5, .slice a29 x27.length c30), (16, .int .i64 (wI64 (x44 + c_1.Amount))), (17, .pointer (some (at_ a29 (Int.toNat (wI64 (c_1.Kind - 1)) * 1))))] ⟨rfl, rfl, rfl, rfl, rfl, trivial⟩ ?_
  refine QL.nil ?_
  intro w48 hE49
  have hb50 : Ext w w48 := Ext.trans hb41 hE49
  have hL51 : w.heap.size ≤ w48.heap.size := Nat.le_trans hL42 hE49.size
  have hS52 : SH w48 w.heap.size [aOwn fInt 2 a29 c30 x27, aBox 61 b18 [.string (bs []), .int .i64 0, .int .i64 0, .int .i64 0, .int .i64 0, .int .i64 0], aBox 42 b10 [.int .i64 c_1.Kind, .int .i64 c_1.Amount], aBox 61 b2 [.string (bs x_0.Name), .int .i64 x_0.Length, .int .i64 x_0.Ball, .int .i64 x_0.Instep, .int .i64 x_0.Heel, .int .i64 x_0.Pitch]] := SH.ext hS43 hE49
  refine WA.one (i := 10) (D' := [0, 1, 2, 3, 4, 5, 6, 7, 8, 9, 10]) rfl rfl (by kernel_rfl) ?_
  refine WL.store (F := fInt) (wI64 (x44 + c_1.Amount)) 0 [.int .i64 (wI64 (x44 + c_1.Amount))] (SH.front 0 hS52) hL51 hx47 rfl rfl rfl rfl rfl rfl rfl (info2).1 (info2).2.1 rfl rfl rfl ?_
  intro w53 hB54 hS55
  have hb56 : Ext w w53 := Below.trans hb50 hB54
  have hL57 : w.heap.size ≤ w53.heap.size := Nat.le_trans hL51 hB54.size
  refine WL.sub [(2, .pointer (some ⟨b2, 0, none⟩)), (4, .pointer (some ⟨b18, 0, none⟩)), (5, .slice a29 ((x27.set (Int.toNat (wI64 (c_1.Kind - 1))) (wI64 (x44 + c_1.Amount))).length) c30), (16, .int .i64 (wI64 (x44 + c_1.Amount)))] ⟨rfl, rfl, by first | (simp only [List.length_set]; done) | (simp only [List.length_set]; rfl), rfl, trivial⟩ ?_
  refine WL.sub [(2, .pointer (some ⟨b2, 0, none⟩)), (4, .pointer (some ⟨b18, 0, none⟩)), (5, .slice a29 ((x27.set (Int.toNat (wI64 (c_1.Kind - 1))) (wI64 (x44 + c_1.Amount))).length) c30)] ⟨rfl, rfl, rfl, trivial⟩ ?_
  refine WL.nil ?_
  refine WA.done (by kernel_rfl) ?_
  refine WQ.then_normal (hK38 _ _ _ ?_)
  refine WP.seq (fun K58 hK58 => ?_)
  refine WP.open (n := 19) (by kernel_rfl) rfl (fun w59 hE60 => ?_)
  have hb61 : Ext w w59 := Ext.trans hb56 hE60
  have hL62 : w.heap.size ≤ w59.heap.size := Nat.le_trans hL57 hE60.size
  have hS63 : SH w59 w.heap.size [aOwn fInt 2 a29 c30 (x27.set (Int.toNat (wI64 (c_1.Kind - 1))) (wI64 (x44 + c_1.Amount))), aBox 61 b18 [.string (bs []), .int .i64 0, .int .i64 0, .int .i64 0, .int .i64 0, .int .i64 0], aBox 42 b10 [.int .i64 c_1.Kind, .int .i64 c_1.Amount], aBox 61 b2 [.string (bs x_0.Name), .int .i64 x_0.Length, .int .i64 x_0.Ball, .int .i64 x_0.Instep, .int .i64 x_0.Heel, .int .i64 x_0.Pitch]] := SH.ext hS55 hE60
  refine WA.quiet (f' := 1) (D' := [0, 1, 2, 3, 4, 5, 6, 7, 8, 9, 10, 11, 12, 13, 14, 15, 16, 17]) [0, 1, 2, 3, 4, 5, 6, 7, 8, 9, 10, 11, 12, 13, 14, 15, 16, 17] rfl rfl (by kernel_rfl) ?_
  refine QL.step1v 18 (.pointer (some ⟨b2, 0, none⟩)) rfl (fun _ => by kernel_rfl) ?_
  refine QL.sub [(4, .pointer (some ⟨b18, 0, none⟩)), (5, .slice a29 ((x27.set (Int.toNat (wI64 (c_1.Kind - 1))) (wI64 (x44 + c_1.Amount))).length) c30), (18, .pointer (some ⟨b2, 0, none⟩))] ⟨rfl, rfl, rfl, trivial⟩ ?_
  refine QL.st (.string (bs x_0.Name)) (ST.load (cell_ext (SH.boxAt (SH.front 3 hS63) 0 _ rfl)) rfl rfl Try.underlying9 rfl) rfl rfl rfl ?_
  refine QL.step1v 20 (.slice a29 ((x27.set (Int.toNat (wI64 (c_1.Kind - 1))) (wI64 (x44 + c_1.Amount))).length) c30) rfl (fun _ => by kernel_rfl) ?_
  refine QL.sub [(4, .pointer (some ⟨b18, 0, none⟩)), (5, .slice a29 ((x27.set (Int.toNat (wI64 (c_1.Kind - 1))) (wI64 (x44 + c_1.Amount))).length) c30), (19, .string (bs x_0.Name)), (20, .slice a29 ((x27.set (Int.toNat (wI64 (c_1.Kind - 1))) (wI64 (x44 + c_1.Amount))).length) c30)] ⟨rfl, rfl, rfl, rfl, trivial⟩ ?_
  obtain ⟨x64, hx65, hm⟩ := bindE hm
  refine QL.st (.pointer (some (at_ a29 (Int.toNat 0 * 1)))) (ST.index (T := fInt.ty) (xs := (x27.set (Int.toNat (wI64 (c_1.Kind - 1))) (wI64 (x44 + c_1.Amount)))) (SH.rd (SH.front 0 hS63)) hx65 rfl rfl rfl Try.underlying31 (info2).1 (info2).2.1) rfl rfl rfl ?_
  refine QL.st (.int .i64 x64) (ST.load (cell_ext (Rd.flat (F := fInt) (SH.rd (SH.front 0 hS63)) hx65 0 rfl)) rfl rfl Try.underlying2 rfl) rfl rfl rfl ?_
  refine QL.step1v 23 (.slice a29 ((x27.set (Int.toNat (wI64 (c_1.Kind - 1))) (wI64 (x44 + c_1.Amount))).length) c30) rfl (fun _ => by kernel_rfl) ?_
  refine QL.sub [(4, .pointer (some ⟨b18, 0, none⟩)), (5, .slice a29 ((x27.set (Int.toNat (wI64 (c_1.Kind - 1))) (wI64 (x44 + c_1.Amount))).length) c30), (19, .string (bs x_0.Name)), (22, .int .i64 x64), (23, .slice a29 ((x27.set (Int.toNat (wI64 (c_1.Kind - 1))) (wI64 (x44 + c_1.Amount))).length) c30)] ⟨rfl, rfl, rfl, rfl, rfl, trivial⟩ ?_
  obtain ⟨x66, hx67, hm⟩ := bindE hm
  refine QL.st (.pointer (some (at_ a29 (Int.toNat 1 * 1)))) (ST.index (T := fInt.ty) (xs := (x27.set (Int.toNat (wI64 (c_1.Kind - 1))) (wI64 (x44 + c_1.Amount)))) (SH.rd (SH.front 0 hS63)) hx67 rfl rfl rfl Try.underlying31 (info2).1 (info2).2.1) rfl rfl rfl ?_
  refine QL.st (.int .i64 x66) (ST.load (cell_ext (Rd.flat (F := fInt) (SH.rd (SH.front 0 hS63)) hx67 0 rfl)) rfl rfl Try.underlying2 rfl) rfl rfl rfl ?_
  refine QL.step1v 26 (.slice a29 ((x27.set (Int.toNat (wI64 (c_1.Kind - 1))) (wI64 (x44 + c_1.Amount))).length) c30) rfl (fun _ => by kernel_rfl) ?_
  refine QL.sub [(4, .pointer (some ⟨b18, 0, none⟩)), (5, .slice a29 ((x27.set (Int.toNat (wI64 (c_1.Kind - 1))) (wI64 (x44 + c_1.Amount))).length) c30), (19, .string (bs x_0.Name)), (22, .int .i64 x64), (25, .int .i64 x66), (26, .slice a29 ((x27.set (Int.toNat (wI64 (c_1.Kind - 1))) (wI64 (x44 + c_1.Amount))).length) c30)] ⟨rfl, rfl, rfl, rfl, rfl, rfl, trivial⟩ ?_
  obtain ⟨x68, hx69, hm⟩ := bindE hm
  refine QL.st (.pointer (some (at_ a29 (Int.toNat 2 * 1)))) (ST.index (T := fInt.ty) (xs := (x27.set (Int.toNat (wI64 (c_1.Kind - 1))) (wI64 (x44 + c_1.Amount)))) (SH.rd (SH.front 0 hS63)) hx69 rfl rfl rfl Try.underlying31 (info2).1 (info2).2.1) rfl rfl rfl ?_
  refine QL.st (.int .i64 x68) (ST.load (cell_ext (Rd.flat (F := fInt) (SH.rd (SH.front 0 hS63)) hx69 0 rfl)) rfl rfl Try.underlying2 rfl) rfl rfl rfl ?_
  refine QL.step1v 29 (.slice a29 ((x27.set (Int.toNat (wI64 (c_1.Kind - 1))) (wI64 (x44 + c_1.Amount))).length) c30) rfl (fun _ => by kernel_rfl) ?_
  refine QL.sub [(4, .pointer (some ⟨b18, 0, none⟩)), (5, .slice a29 ((x27.set (Int.toNat (wI64 (c_1.Kind - 1))) (wI64 (x44 + c_1.Amount))).length) c30), (19, .string (bs x_0.Name)), (22, .int .i64 x64), (25, .int .i64 x66), (28, .int .i64 x68), (29, .slice a29 ((x27.set (Int.toNat (wI64 (c_1.Kind - 1))) (wI64 (x44 + c_1.Amount))).length) c30)] ⟨rfl, rfl, rfl, rfl, rfl, rfl, rfl, trivial⟩ ?_
  obtain ⟨x70, hx71, hm⟩ := bindE hm
  refine QL.st (.pointer (some (at_ a29 (Int.toNat 3 * 1)))) (ST.index (T := fInt.ty) (xs := (x27.set (Int.toNat (wI64 (c_1.Kind - 1))) (wI64 (x44 + c_1.Amount)))) (SH.rd (SH.front 0 hS63)) hx71 rfl rfl rfl Try.underlying31 (info2).1 (info2).2.1) rfl rfl rfl ?_
  refine QL.st (.int .i64 x70) (ST.load (cell_ext (Rd.flat (F := fInt) (SH.rd (SH.front 0 hS63)) hx71 0 rfl)) rfl rfl Try.underlying2 rfl) rfl rfl rfl ?_
  refine QL.step1v 32 (.slice a29 ((x27.set (Int.toNat (wI64 (c_1.Kind - 1))) (wI64 (x44 + c_1.Amount))).length) c30) rfl (fun _ => by kernel_rfl) ?_
  refine QL.sub [(4, .pointer (some ⟨b18, 0, none⟩)), (19, .string (bs x_0.Name)), (22, .int .i64 x64), (25, .int .i64 x66), (28, .int .i64 x68), (31, .int .i64 x70), (32, .slice a29 ((x27.set (Int.toNat (wI64 (c_1.Kind - 1))) (wI64 (x44 + c_1.Amount))).length) c30)] ⟨rfl, rfl, rfl, rfl, rfl, rfl, rfl, trivial⟩ ?_
  obtain ⟨x72, hx73, hm⟩ := bindE hm
  refine QL.st (.pointer (some (at_ a29 (Int.toNat 4 * 1)))) (ST.index (T := fInt.ty) (xs := (x27.set (Int.toNat (wI64 (c_1.Kind - 1))) (wI64 (x44 + c_1.Amount)))) (SH.rd (SH.front 0 hS63)) hx73 rfl rfl rfl Try.underlying31 (info2).1 (info2).2.1) rfl rfl rfl ?_
  refine QL.st (.int .i64 x72) (ST.load (cell_ext (Rd.flat (F := fInt) (SH.rd (SH.front 0 hS63)) hx73 0 rfl)) rfl rfl Try.underlying2 rfl) rfl rfl rfl ?_
  refine QL.step1v 35 (.agg #[.string (bs x_0.Name), .int .i64 x64, .int .i64 x66, .int .i64 x68, .int .i64 x70, .int .i64 x72]) rfl (fun _ => by kernel_rfl) ?_
  refine QL.sub [(4, .pointer (some ⟨b18, 0, none⟩)), (35, .agg #[.string (bs x_0.Name), .int .i64 x64, .int .i64 x66, .int .i64 x68, .int .i64 x70, .int .i64 x72])] ⟨rfl, rfl, trivial⟩ ?_
  refine QL.nil ?_
  intro w74 hE75
  have hb76 : Ext w w74 := Ext.trans hb61 hE75
  have hL77 : w.heap.size ≤ w74.heap.size := Nat.le_trans hL62 hE75.size
  have hS78 : SH w74 w.heap.size [aOwn fInt 2 a29 c30 (x27.set (Int.toNat (wI64 (c_1.Kind - 1))) (wI64 (x44 + c_1.Amount))), aBox 61 b18 [.string (bs []), .int .i64 0, .int .i64 0, .int .i64 0, .int .i64 0, .int .i64 0], aBox 42 b10 [.int .i64 c_1.Kind, .int .i64 c_1.Amount], aBox 61 b2 [.string (bs x_0.Name), .int .i64 x_0.Length, .int .i64 x_0.Ball, .int .i64 x_0.Instep, .int .i64 x_0.Heel, .int .i64 x_0.Pitch]] := SH.ext hS63 hE75
  refine WA.one (i := 18) (D' := [0, 1, 2, 3, 4, 5, 6, 7, 8, 9, 10, 11, 12, 13, 14, 15, 16, 17, 18]) rfl rfl (by kernel_rfl) ?_
  refine WL.boxStore 0 [.string (bs x_0.Name), .int .i64 x64, .int .i64 x66, .int .i64 x68, .int .i64 x70, .int .i64 x72] [.string (bs x_0.Name), .int .i64 x64, .int .i64 x66, .int .i64 x68, .int .i64 x70, .int .i64 x72] (SH.front 1 hS78) hL77 rfl rfl rfl rfl rfl rfl rfl (info61).1 (info61).2.1 rfl rfl rfl ?_
  intro w79 hB80 hS81
  have hb82 : Ext w w79 := Below.trans hb76 hB80
  have hL83 : w.heap.size ≤ w79.heap.size := Nat.le_trans hL77 hB80.size
  refine WL.sub [(4, .pointer (some ⟨b18, 0, none⟩))] ⟨rfl, trivial⟩ ?_
  refine WL.nil ?_
  refine WA.done (by kernel_rfl) ?_
  refine WQ.then_normal (hK58 _ _ _ ?_)
  refine WP.ret ?_
  obtain rfl := Option.some.inj hm
  exact WQ.retv1 _ rfl (RVal.box (SH.front 0 hS81) rfl Try.underlying61 rfl (info61).1 (info61).2.1) ⟨rfl, hb82⟩

theorem c_50 (n : Nat) (x_0 : SLast) (list_1 : List SChange) (a1' : Option Addr) (c1' : Nat) (w : World) {r : SLast × Int} (hm : m_impl_ApplyChanges n x_0 list_1 = some r) (h1 : Rd fChange.ty w a1' list_1) (hle1 : list_1.length ≤ c1') :
    CallV Try.prog 50 #[.agg #[.string (bs x_0.Name), .int .i64 x_0.Length, .int .i64 x_0.Ball, .int .i64 x_0.Instep, .int .i64 x_0.Heel, .int .i64 x_0.Pitch], .slice a1' list_1.length c1'] w (fun v w' => v = .tuple #[.agg #[.string (bs r.1.Name), .int .i64 r.1.Length, .int .i64 r.1.Ball, .int .i64 r.1.Instep, .int .i64 r.1.Heel, .int .i64 r.1.Pitch], .int .i64 r.2] ∧ Ext w w') := by
  unfold m_impl_ApplyChanges at hm
  refine CallV.enter Try.func50 rfl (by kernel_rfl) Try.ntmps50 (env := [(0, .agg #[.string (bs x_0.Name), .int .i64 x_0.Length, .int .i64 x_0.Ball, .int .i64 x_0.Instep, .int .i64 x_0.Heel, .int .i64 x_0.Pitch]), (1, .slice a1' list_1.length c1')]) ⟨rfl, rfl, trivial⟩ ?_
  refine WP.seq (fun K1 hK1 => ?_)
  refine WP.region ?_
  refine WL.box 61 [.string (bs x_0.Name), .int .i64 x_0.Length, .int .i64 x_0.Ball, .int .i64 x_0.Instep, .int .i64 x_0.Heel, .int .i64 x_0.Pitch] 2 (by kernel_rfl) rfl rfl rfl rfl ?_
  intro b2 w3 hE4 hR5
  have hb7 : Ext w w3 := Ext.trans (Ext.refl w) hE4
  have hL8 : w.heap.size ≤ w3.heap.size := Nat.le_trans (Nat.le_refl _) hE4.size
  have hS9 : SH w3 w.heap.size [aBox 61 b2 [.string (bs x_0.Name), .int .i64 x_0.Length, .int .i64 x_0.Ball, .int .i64 x_0.Instep, .int .i64 x_0.Heel, .int .i64 x_0.Pitch]] := SH.add (SH.nil _ _) hE4 (Nat.le_refl _) hR5
  refine WL.box 61 [.string (bs []), .int .i64 0, .int .i64 0, .int .i64 0, .int .i64 0, .int .i64 0] 4 (by kernel_rfl) rfl rfl rfl rfl ?_
  intro b10 w11 hE12 hR13
  have hb15 : Ext w w11 := Ext.trans hb7 hE12
  have hL16 : w.heap.size ≤ w11.heap.size := Nat.le_trans hL8 hE12.size
  have hS17 : SH w11 w.heap.size [aBox 61 b10 [.string (bs []), .int .i64 0, .int .i64 0, .int .i64 0, .int .i64 0, .int .i64 0], aBox 61 b2 [.string (bs x_0.Name), .int .i64 x_0.Length, .int .i64 x_0.Ball, .int .i64 x_0.Instep, .int .i64 x_0.Heel, .int .i64 x_0.Pitch]] := SH.add hS9 hE12 hL8 hR13
  refine WL.runk 1 [1, 2, 4] [(1, .slice a1' list_1.length c1'), (2, .pointer (some ⟨b2, 0, none⟩)), (4, .pointer (some ⟨b10, 0, none⟩))] (by kernel_rfl) ?_
  refine WL.nil ?_
  refine WQ.then_normal (hK1 _ _ _ ?_)
  refine WP.seq (fun K18 hK18 => ?_)
  refine WP.seq (fun K19 hK19 => ?_)
  obtain ⟨x37, hx38, hm⟩ := bindE hm
  refine WP.cut (fun env' w' => env' = [(1, .slice a1' list_1.length c1'), (2, .pointer (some ⟨b2, 0, none⟩)), (4, .pointer (some ⟨b10, 0, none⟩)), (15, .bool x37)] ∧ Ext w w' ∧ w.heap.size ≤ w'.heap.size ∧ SH w' w.heap.size [aBox 61 b10 [.string (bs []), .int .i64 0, .int .i64 0, .int .i64 0, .int .i64 0, .int .i64 0], aBox 61 b2 [.string (bs x_0.Name), .int .i64 x_0.Length, .int .i64 x_0.Ball, .int .i64 x_0.Instep, .int .i64 x_0.Heel, .int .i64 x_0.Pitch]]) ?_ ?_
  · have hm := hx38; clear hx38
    refine WP.region ?_
    refine WL.st (.agg #[.string (bs x_0.Name), .int .i64 x_0.Length, .int .i64 x_0.Ball, .int .i64 x_0.Instep, .int .i64 x_0.Heel, .int .i64 x_0.Pitch]) (ST.loadAgg (vs := [.string (bs x_0.Name), .int .i64 x_0.Length, .int .i64 x_0.Ball, .int .i64 x_0.Instep, .int .i64 x_0.Heel, .int .i64 x_0.Pitch]) (fun j v hv => SH.boxPart (us := [.string (bs x_0.Name), .int .i64 x_0.Length, .int .i64 x_0.Ball, .int .i64 x_0.Instep, .int .i64 x_0.Heel, .int .i64 x_0.Pitch]) (SH.front 1 hS17) 0 rfl j v hv) rfl rfl rfl Try.underlying61 rfl (info61).1 (info61).2.1) rfl rfl rfl ?_
    obtain ⟨x39, hx40, hm⟩ := bindE hm
    refine WL.call 78 #[.agg #[.string (bs x_0.Name), .int .i64 x_0.Length, .int .i64 x_0.Ball, .int .i64 x_0.Instep, .int .i64 x_0.Heel, .int .i64 x_0.Pitch]] rfl rfl (by kernel_rfl) (c_78 n x_0 w11 hx40 ) ?_
    rintro _ w41 ⟨rfl, hE42⟩
    refine ⟨_, rfl, ?_⟩
    have hb44 : Ext w w41 := Ext.trans hb15 hE42
    have hL45 : w.heap.size ≤ w41.heap.size := Nat.le_trans hL16 hE42.size
    have hS46 : SH w41 w.heap.size [aBox 61 b10 [.string (bs []), .int .i64 0, .int .i64 0, .int .i64 0, .int .i64 0, .int .i64 0], aBox 61 b2 [.string (bs x_0.Name), .int .i64 x_0.Length, .int .i64 x_0.Ball, .int .i64 x_0.Instep, .int .i64 x_0.Heel, .int .i64 x_0.Pitch]] := SH.ext hS17 hE42
    refine WL.runk 2 [1, 2, 4, 11] [(1, .slice a1' list_1.length c1'), (2, .pointer (some ⟨b2, 0, none⟩)), (4, .pointer (some ⟨b10, 0, none⟩)), (11, .bool (!x39))] (by kernel_rfl) ?_
    refine WL.case (!x39) [11] ⟨rfl, trivial⟩ (fun hc47 => ?_) (fun hc47 => ?_)
    · have hm := iteT hm hc47
      refine WL.runk 4 [1, 2, 4, 15] [(1, .slice a1' list_1.length c1'), (2, .pointer (some ⟨b2, 0, none⟩)), (4, .pointer (some ⟨b10, 0, none⟩)), (15, .bool true)] (by kernel_rfl) ?_
      refine WL.nil ?_
      obtain rfl := Option.some.inj hm
      exact WQ.post' ⟨rfl, hb44, hL45, hS46⟩ ⟨rfl, rfl, rfl, rfl, trivial⟩
    have hm := iteF hm hc47
    refine WL.runk 1 [1, 2, 4, 11, 12] [(1, .slice a1' list_1.length c1'), (2, .pointer (some ⟨b2, 0, none⟩)), (4, .pointer (some ⟨b10, 0, none⟩)), (11, .bool false), (12, .slice a1' list_1.length c1')] (by kernel_rfl) ?_
    obtain ⟨x48, hx49, hm⟩ := bindE hm
    refine WL.call 27 #[.slice a1' list_1.length c1'] rfl rfl (by kernel_rfl) (c_27 n list_1 a1' c1' w41 hx49 (Rd.below h1 hb44) hle1) ?_
    rintro _ w50 ⟨rfl, hE51⟩
    refine ⟨_, rfl, ?_⟩
    have hb53 : Ext w w50 := Ext.trans hb44 hE51
    have hL54 : w.heap.size ≤ w50.heap.size := Nat.le_trans hL45 hE51.size
    have hS55 : SH w50 w.heap.size [aBox 61 b10 [.string (bs []), .int .i64 0, .int .i64 0, .int .i64 0, .int .i64 0, .int .i64 0], aBox 61 b2 [.string (bs x_0.Name), .int .i64 x_0.Length, .int .i64 x_0.Ball, .int .i64 x_0.Instep, .int .i64 x_0.Heel, .int .i64 x_0.Pitch]] := SH.ext hS46 hE51
    refine WL.runk 2 [1, 2, 4, 15] [(1, .slice a1' list_1.length c1'), (2, .pointer (some ⟨b2, 0, none⟩)), (4, .pointer (some ⟨b10, 0, none⟩)), (15, .bool (!x48))] (by kernel_rfl) ?_
    refine WL.nil ?_
    obtain rfl := Option.some.inj hm
    exact WQ.post' ⟨rfl, hb53, hL54, hS55⟩ ⟨rfl, rfl, rfl, rfl, trivial⟩
  clear hx38
  rintro _ w56 ⟨rfl, hb57, hL58, hS59⟩
  refine WQ.then_normal (hK19 _ _ _ ?_)
  refine WP.cond x37 rfl rfl (fun hc60 => ?_) (fun hc60 => ?_)
  · have hm := iteT hm hc60
    refine WP.seq (fun K61 hK61 => ?_)
    refine WP.region ?_
    refine WL.runk 1 [4, 16] [(4, .pointer (some ⟨b10, 0, none⟩)), (16, .agg #[.string (bs []), .int .i64 0, .int .i64 0, .int .i64 0, .int .i64 0, .int .i64 0])] (by kernel_rfl) ?_
    refine WL.boxStore 0 [.string (bs []), .int .i64 0, .int .i64 0, .int .i64 0, .int .i64 0, .int .i64 0] [.string (bs []), .int .i64 0, .int .i64 0, .int .i64 0, .int .i64 0, .int .i64 0] (SH.front 0 hS59) hL58 rfl rfl rfl rfl rfl rfl rfl (info61).1 (info61).2.1 rfl rfl rfl ?_
    intro w62 hB63 hS64
    have hb65 : Ext w w62 := Below.trans hb57 hB63
    have hL66 : w.heap.size ≤ w62.heap.size := Nat.le_trans hL58 hB63.size
    refine WL.runk 1 [4, 5] [(4, .pointer (some ⟨b10, 0, none⟩)), (5, .int .i64 1)] (by kernel_rfl) ?_
    refine WL.nil ?_
    refine WQ.then_normal (hK61 _ _ _ ?_)
    refine WP.ret ?_
    refine WQ.then_ret ?_
    obtain rfl := Option.some.inj hm
    exact WQ.retv2 _ _ rfl (RVal.box (SH.front 0 hS64) rfl Try.underlying61 rfl (info61).1 (info61).2.1) (RVal.tmp rfl) ⟨rfl, hb65⟩
  have hm := iteF hm hc60
  refine WP.skip ?_
  refine WQ.then_normal (hK18 _ _ _ ?_)
  refine WP.seq (fun K67 hK67 => ?_)
  refine WP.seq (fun K68 hK68 => ?_)
  refine WP.region ?_
  refine WL.runk 3 [2, 4, 17, 18, 19] [(2, .pointer (some ⟨b2, 0, none⟩)), (4, .pointer (some ⟨b10, 0, none⟩)), (17, .slice a1' list_1.length c1'), (18, .int .i64 (list_1.length : Int)), (19, .int .i64 0)] (by kernel_rfl) ?_
  refine WL.nil ?_
  refine WQ.then_normal (hK68 _ _ _ ?_)
  refine WP.block ?_
  obtain ⟨t149, ht150, hm⟩ := bindE hm
  have hmo144 := hm; clear hm
  refine WP.sub [(2, .pointer (some ⟨b2, 0, none⟩)), (4, .pointer (some ⟨b10, 0, none⟩)), (17, .slice a1' list_1.length c1'), (18, .int .i64 (list_1.length : Int)), (19, .int .i64 0)] ⟨rfl, rfl, rfl, rfl, rfl, trivial⟩ ?_
  refine WP.loop (fun n' env' w' => ∃ (st138 : Int × List UInt8 × Int × Int × Int × Int × Int) , env' = [(2, .pointer (some ⟨b2, 0, none⟩)), (4, .pointer (some ⟨b10, 0, none⟩)), (17, .slice a1' list_1.length c1'), (18, .int .i64 (list_1.length : Int)), (19, .int .i64 st138.1)] ∧ Ext w w' ∧ w.heap.size ≤ w'.heap.size ∧ SH w' w.heap.size [aBox 61 b10 [.string (bs []), .int .i64 0, .int .i64 0, .int .i64 0, .int .i64 0, .int .i64 0], aBox 61 b2 [.string (bs st138.2.1), .int .i64 st138.2.2.1, .int .i64 st138.2.2.2.1, .int .i64 st138.2.2.2.2.1, .int .i64 st138.2.2.2.2.2.1, .int .i64 st138.2.2.2.2.2.2]] ∧ loopN (m_impl_ApplyChanges_l1 n list_1) n' st138 = some t149) n ⟨(0, x_0.Name, x_0.Length, x_0.Ball, x_0.Instep, x_0.Heel, x_0.Pitch), rfl, hb57, hL58, hS59, ht150⟩ ?_
  rintro n146 _ w139 ⟨st138, rfl, hb140, hL141, hS142, hl143⟩ K145 hK145
  obtain ⟨n147, s148, rfl, hm, hl143⟩ := loopN_some hl143
  unfold m_impl_ApplyChanges_l1 at hm
  refine WP.seq (fun K151 hK151 => ?_)
  refine WP.region ?_
  refine WL.runk 1 [2, 4, 17, 18, 19, 20] [(2, .pointer (some ⟨b2, 0, none⟩)), (4, .pointer (some ⟨b10, 0, none⟩)), (17, .slice a1' list_1.length c1'), (18, .int .i64 (list_1.length : Int)), (19, .int .i64 st138.1), (20, .bool (decide (st138.1 < (list_1.length : Int))))] (by kernel_rfl) ?_
  refine WL.nil ?_
  refine WQ.then_normal (hK151 _ _ _ ?_)
  refine WP.seq (fun K152 hK152 => ?_)
  refine WP.cond (decide (st138.1 < (list_1.length : Int))) rfl rfl (fun hc153 => ?_) (fun hc153 => ?_)
  rotate_left
  · have hm := iteF hm hc153
    refine WP.exit ?_
    refine WQ.then_exit ?_
    refine WQ.then_exit ?_
    refine WQ.block_here ?_
    obtain rfl := Option.some.inj hm
    obtain rfl := afterN_done hl143
    have hm := hmo144
    refine WQ.then_normal (hK67 _ _ _ ?_)
    refine WP.seq (fun K201 hK201 => ?_)
    refine WP.region ?_
    refine WL.st (.agg #[.string (bs st138.2.1), .int .i64 st138.2.2.1, .int .i64 st138.2.2.2.1, .int .i64 st138.2.2.2.2.1, .int .i64 st138.2.2.2.2.2.1, .int .i64 st138.2.2.2.2.2.2]) (ST.loadAgg (vs := [.string (bs st138.2.1), .int .i64 st138.2.2.1, .int .i64 st138.2.2.2.1, .int .i64 st138.2.2.2.2.1, .int .i64 st138.2.2.2.2.2.1, .int .i64 st138.2.2.2.2.2.2]) (fun j v hv => SH.boxPart (us := [.string (bs st138.2.1), .int .i64 st138.2.2.1, .int .i64 st138.2.2.2.1, .int .i64 st138.2.2.2.2.1, .int .i64 st138.2.2.2.2.2.1, .int .i64 st138.2.2.2.2.2.2]) (SH.front 1 hS142) 0 rfl j v hv) rfl rfl rfl Try.underlying61 rfl (info61).1 (info61).2.1) rfl rfl rfl ?_
    refine WL.boxStore 0 [.string (bs st138.2.1), .int .i64 st138.2.2.1, .int .i64 st138.2.2.2.1, .int .i64 st138.2.2.2.2.1, .int .i64 st138.2.2.2.2.2.1, .int .i64 st138.2.2.2.2.2.2] [.string (bs st138.2.1), .int .i64 st138.2.2.1, .int .i64 st138.2.2.2.1, .int .i64 st138.2.2.2.2.1, .int .i64 st138.2.2.2.2.2.1, .int .i64 st138.2.2.2.2.2.2] (SH.front 0 hS142) hL141 rfl rfl rfl rfl rfl rfl rfl (info61).1 (info61).2.1 rfl rfl rfl ?_
    intro w202 hB203 hS204
    have hb205 : Ext w w202 := Below.trans hb140 hB203
    have hL206 : w.heap.size ≤ w202.heap.size := Nat.le_trans hL141 hB203.size
    refine WL.runk 1 [4, 5] [(4, .pointer (some ⟨b10, 0, none⟩)), (5, .int .i64 0)] (by kernel_rfl) ?_
    refine WL.nil ?_
    refine WQ.then_normal (hK201 _ _ _ ?_)
    refine WP.ret ?_
    obtain rfl := Option.some.inj hm
    exact WQ.retv2 _ _ rfl (RVal.box (SH.front 0 hS204) rfl Try.underlying61 rfl (info61).1 (info61).2.1) (RVal.tmp rfl) ⟨rfl, hb205⟩
  have hm := iteT hm hc153
  refine WP.skip ?_
  refine WQ.then_normal (hK152 _ _ _ ?_)
  refine WP.seq (fun K154 hK154 => ?_)
  refine WP.block ?_
  refine WP.seq (fun K155 hK155 => ?_)
  refine WP.region ?_
  obtain ⟨x156, hx157, hm⟩ := bindE hm
  refine WL.st (.pointer (some (at_ a1' (Int.toNat st138.1 * 2)))) (ST.index (T := fChange.ty) (xs := list_1) (Rd.below h1 hb140) hx157 rfl rfl rfl Try.underlying28 (info42).1 (info42).2.1) rfl rfl rfl ?_
  refine WL.st (.agg #[.int .i64 x156.Kind, .int .i64 x156.Amount]) (ST.loadAgg (vs := fChange.leaf x156) (fun j v hv => Rd.flatA (F := fChange) (Rd.below h1 hb140) hx157 j hv) rfl rfl rfl Try.underlying42 rfl (info42).1 (info42).2.1) rfl rfl rfl ?_
  refine WL.box 42 [.int .i64 0, .int .i64 0] 7 (by kernel_rfl) rfl rfl rfl rfl ?_
  intro b158 w159 hE160 hR161
  have hb163 : Ext w w159 := Ext.trans hb140 hE160
  have hL164 : w.heap.size ≤ w159.heap.size := Nat.le_trans hL141 hE160.size
  have hS165 : SH w159 w.heap.size [aBox 42 b158 [.int .i64 0, .int .i64 0], aBox 61 b10 [.string (bs []), .int .i64 0, .int .i64 0, .int .i64 0, .int .i64 0, .int .i64 0], aBox 61 b2 [.string (bs st138.2.1), .int .i64 st138.2.2.1, .int .i64 st138.2.2.2.1, .int .i64 st138.2.2.2.2.1, .int .i64 st138.2.2.2.2.2.1, .int .i64 st138.2.2.2.2.2.2]] := SH.add hS142 hE160 hL141 hR161
  refine WL.boxStore 0 [.int .i64 x156.Kind, .int .i64 x156.Amount] [.int .i64 x156.Kind, .int .i64 x156.Amount] (SH.front 0 hS165) hL164 rfl rfl rfl rfl rfl rfl rfl (info42).1 (info42).2.1 rfl rfl rfl ?_
  intro w166 hB167 hS168
  have hb169 : Ext w w166 := Below.trans hb163 hB167
  have hL170 : w.heap.size ≤ w166.heap.size := Nat.le_trans hL164 hB167.size
  refine WL.sub [(2, .pointer (some ⟨b2, 0, none⟩)), (4, .pointer (some ⟨b10, 0, none⟩)), (17, .slice a1' list_1.length c1'), (18, .int .i64 (list_1.length : Int)), (19, .int .i64 st138.1), (7, .pointer (some ⟨b158, 0, none⟩))] ⟨rfl, rfl, rfl, rfl, rfl, rfl, trivial⟩ ?_
  refine WL.nil ?_
  refine WQ.then_normal (hK155 _ _ _ ?_)
  refine WP.seq (fun K171 hK171 => ?_)
  refine WP.region ?_
  refine WL.st (.agg #[.string (bs st138.2.1), .int .i64 st138.2.2.1, .int .i64 st138.2.2.2.1, .int .i64 st138.2.2.2.2.1, .int .i64 st138.2.2.2.2.2.1, .int .i64 st138.2.2.2.2.2.2]) (ST.loadAgg (vs := [.string (bs st138.2.1), .int .i64 st138.2.2.1, .int .i64 st138.2.2.2.1, .int .i64 st138.2.2.2.2.1, .int .i64 st138.2.2.2.2.2.1, .int .i64 st138.2.2.2.2.2.2]) (fun j v hv => SH.boxPart (us := [.string (bs st138.2.1), .int .i64 st138.2.2.1, .int .i64 st138.2.2.2.1, .int .i64 st138.2.2.2.2.1, .int .i64 st138.2.2.2.2.2.1, .int .i64 st138.2.2.2.2.2.2]) (SH.front 2 hS168) 0 rfl j v hv) rfl rfl rfl Try.underlying61 rfl (info61).1 (info61).2.1) rfl rfl rfl ?_
  refine WL.st (.agg #[.int .i64 x156.Kind, .int .i64 x156.Amount]) (ST.loadAgg (vs := [.int .i64 x156.Kind, .int .i64 x156.Amount]) (fun j v hv => SH.boxPart (us := [.int .i64 x156.Kind, .int .i64 x156.Amount]) (SH.front 0 hS168) 0 rfl j v hv) rfl rfl rfl Try.underlying42 rfl (info42).1 (info42).2.1) rfl rfl rfl ?_
  obtain ⟨x172, hx173, hm⟩ := bindE hm
  refine WL.call 80 #[.agg #[.string (bs st138.2.1), .int .i64 st138.2.2.1, .int .i64 st138.2.2.2.1, .int .i64 st138.2.2.2.2.1, .int .i64 st138.2.2.2.2.2.1, .int .i64 st138.2.2.2.2.2.2], .agg #[.int .i64 x156.Kind, .int .i64 x156.Amount]] rfl rfl (by kernel_rfl) (c_80 n (SLast.mk st138.2.1 st138.2.2.1 st138.2.2.2.1 st138.2.2.2.2.1 st138.2.2.2.2.2.1 st138.2.2.2.2.2.2) x156 w166 hx173 ) ?_
  rintro _ w174 ⟨rfl, hE175⟩
  refine ⟨_, rfl, ?_⟩
  have hb177 : Ext w w174 := Ext.trans hb169 hE175
  have hL178 : w.heap.size ≤ w174.heap.size := Nat.le_trans hL170 hE175.size
  have hS179 : SH w174 w.heap.size [aBox 42 b158 [.int .i64 x156.Kind, .int .i64 x156.Amount], aBox 61 b10 [.string (bs []), .int .i64 0, .int .i64 0, .int .i64 0, .int .i64 0, .int .i64 0], aBox 61 b2 [.string (bs st138.2.1), .int .i64 st138.2.2.1, .int .i64 st138.2.2.2.1, .int .i64 st138.2.2.2.2.1, .int .i64 st138.2.2.2.2.2.1, .int .i64 st138.2.2.2.2.2.2]] := SH.ext hS168 hE175
  refine WL.boxStore 0 [.string (bs x172.Name), .int .i64 x172.Length, .int .i64 x172.Ball, .int .i64 x172.Instep, .int .i64 x172.Heel, .int .i64 x172.Pitch] [.string (bs x172.Name), .int .i64 x172.Length, .int .i64 x172.Ball, .int .i64 x172.Instep, .int .i64 x172.Heel, .int .i64 x172.Pitch] (SH.front 2 hS179) hL178 rfl rfl rfl rfl rfl rfl rfl (info61).1 (info61).2.1 rfl rfl rfl ?_
  intro w180 hB181 hS182
  have hb183 : Ext w w180 := Below.trans hb177 hB181
  have hL184 : w.heap.size ≤ w180.heap.size := Nat.le_trans hL178 hB181.size
  refine WL.sub [(2, .pointer (some ⟨b2, 0, none⟩)), (4, .pointer (some ⟨b10, 0, none⟩)), (17, .slice a1' list_1.length c1'), (18, .int .i64 (list_1.length : Int)), (19, .int .i64 st138.1)] ⟨rfl, rfl, rfl, rfl, rfl, trivial⟩ ?_
  refine WL.nil ?_
  refine WQ.then_normal (hK171 _ _ _ ?_)
  refine WP.seq (fun K185 hK185 => ?_)
  refine WP.region ?_
  refine WL.st (.agg #[.string (bs x172.Name), .int .i64 x172.Length, .int .i64 x172.Ball, .int .i64 x172.Instep, .int .i64 x172.Heel, .int .i64 x172.Pitch]) (ST.loadAgg (vs := [.string (bs x172.Name), .int .i64 x172.Length, .int .i64 x172.Ball, .int .i64 x172.Instep, .int .i64 x172.Heel, .int .i64 x172.Pitch]) (fun j v hv => SH.boxPart (us := [.string (bs x172.Name), .int .i64 x172.Length, .int .i64 x172.Ball, .int .i64 x172.Instep, .int .i64 x172.Heel, .int .i64 x172.Pitch]) (SH.front 0 hS182) 0 rfl j v hv) rfl rfl rfl Try.underlying61 rfl (info61).1 (info61).2.1) rfl rfl rfl ?_
  obtain ⟨x186, hx187, hm⟩ := bindE hm
  refine WL.call 78 #[.agg #[.string (bs x172.Name), .int .i64 x172.Length, .int .i64 x172.Ball, .int .i64 x172.Instep, .int .i64 x172.Heel, .int .i64 x172.Pitch]] rfl rfl (by kernel_rfl) (c_78 n x172 w180 hx187 ) ?_
  rintro _ w188 ⟨rfl, hE189⟩
  refine ⟨_, rfl, ?_⟩
  have hb191 : Ext w w188 := Ext.trans hb183 hE189
  have hL192 : w.heap.size ≤ w188.heap.size := Nat.le_trans hL184 hE189.size
  have hS193 : SH w188 w.heap.size [aBox 61 b2 [.string (bs x172.Name), .int .i64 x172.Length, .int .i64 x172.Ball, .int .i64 x172.Instep, .int .i64 x172.Heel, .int .i64 x172.Pitch], aBox 42 b158 [.int .i64 x156.Kind, .int .i64 x156.Amount], aBox 61 b10 [.string (bs []), .int .i64 0, .int .i64 0, .int .i64 0, .int .i64 0, .int .i64 0]] := SH.ext hS182 hE189
  refine WL.runk 1 [2, 4, 17, 18, 19, 28] [(2, .pointer (some ⟨b2, 0, none⟩)), (4, .pointer (some ⟨b10, 0, none⟩)), (17, .slice a1' list_1.length c1'), (18, .int .i64 (list_1.length : Int)), (19, .int .i64 st138.1), (28, .bool (!x186))] (by kernel_rfl) ?_
  refine WL.nil ?_
  refine WQ.then_normal (hK185 _ _ _ ?_)
  refine WP.cond (!x186) rfl rfl (fun hc194 => ?_) (fun hc194 => ?_)
  rotate_left
  · have hm := iteF hm hc194
    refine WP.skip ?_
    refine WQ.block_normal ?_
    refine WQ.then_normal (hK154 _ _ _ ?_)
    refine WP.region ?_
    refine WL.runk 2 [2, 4, 17, 18, 19] [(2, .pointer (some ⟨b2, 0, none⟩)), (4, .pointer (some ⟨b10, 0, none⟩)), (17, .slice a1' list_1.length c1'), (18, .int .i64 (list_1.length : Int)), (19, .int .i64 (wI64 (st138.1 + 1)))] (by kernel_rfl) ?_
    refine WL.nil ?_
    obtain rfl := Option.some.inj hm
    exact WQ.round hK145 ⟨((wI64 (st138.1 + 1)), x172.Name, x172.Length, x172.Ball, x172.Instep, x172.Heel, x172.Pitch), rfl, hb191, hL192, (SH.take 2 (SH.front 2 hS193)), hl143⟩ (Nat.lt_succ_self _) ⟨rfl, rfl, rfl, rfl, rfl, trivial⟩
  have hm := iteT hm hc194
  refine WP.seq (fun K195 hK195 => ?_)
  refine WP.region ?_
  refine WL.runk 1 [4, 29] [(4, .pointer (some ⟨b10, 0, none⟩)), (29, .agg #[.string (bs []), .int .i64 0, .int .i64 0, .int .i64 0, .int .i64 0, .int .i64 0])] (by kernel_rfl) ?_
  refine WL.boxStore 0 [.string (bs []), .int .i64 0, .int .i64 0, .int .i64 0, .int .i64 0, .int .i64 0] [.string (bs []), .int .i64 0, .int .i64 0, .int .i64 0, .int .i64 0, .int .i64 0] (SH.front 2 hS193) hL192 rfl rfl rfl rfl rfl rfl rfl (info61).1 (info61).2.1 rfl rfl rfl ?_
  intro w196 hB197 hS198
  have hb199 : Ext w w196 := Below.trans hb191 hB197
  have hL200 : w.heap.size ≤ w196.heap.size := Nat.le_trans hL192 hB197.size
  refine WL.runk 1 [4, 5] [(4, .pointer (some ⟨b10, 0, none⟩)), (5, .int .i64 10)] (by kernel_rfl) ?_
  refine WL.nil ?_
  refine WQ.then_normal (hK195 _ _ _ ?_)
  refine WP.ret ?_
  refine WQ.block_ret ?_
  refine WQ.then_ret ?_
  refine WQ.then_ret ?_
  refine WQ.block_ret ?_
  refine WQ.then_ret ?_
  obtain rfl := Option.some.inj hm
  obtain rfl := afterN_done hl143
  have hm := hmo144
  obtain rfl := Option.some.inj hm
  exact WQ.retv2 _ _ rfl (RVal.box (SH.front 0 hS198) rfl Try.underlying61 rfl (info61).1 (info61).2.1) (RVal.tmp rfl) ⟨rfl, hb199⟩

theorem c_51 (n : Nat) (a_0 : SLast) (b_1 : SLast) (w : World) {r : Bool} (hm : m_laws_eqLast n a_0 b_1 = some r)  :
    CallV Try.prog 51 #[.agg #[.string (bs a_0.Name), .int .i64 a_0.Length, .int .i64 a_0.Ball, .int .i64 a_0.Instep, .int .i64 a_0.Heel, .int .i64 a_0.Pitch], .agg #[.string (bs b_1.Name), .int .i64 b_1.Length, .int .i64 b_1.Ball, .int .i64 b_1.Instep, .int .i64 b_1.Heel, .int .i64 b_1.Pitch]] w (fun v w' => v = .bool r ∧ Ext w w') := by
  unfold m_laws_eqLast at hm
  refine CallV.enter Try.func51 rfl (by kernel_rfl) Try.ntmps51 (env := [(0, .agg #[.string (bs a_0.Name), .int .i64 a_0.Length, .int .i64 a_0.Ball, .int .i64 a_0.Instep, .int .i64 a_0.Heel, .int .i64 a_0.Pitch]), (1, .agg #[.string (bs b_1.Name), .int .i64 b_1.Length, .int .i64 b_1.Ball, .int .i64 b_1.Instep, .int .i64 b_1.Heel, .int .i64 b_1.Pitch])]) ⟨rfl, rfl, trivial⟩ ?_
  refine WP.seq (fun K1 hK1 => ?_)
  refine WP.region ?_
  refine WL.box 61 [.string (bs a_0.Name), .int .i64 a_0.Length, .int .i64 a_0.Ball, .int .i64 a_0.Instep, .int .i64 a_0.Heel, .int .i64 a_0.Pitch] 2 (by kernel_rfl) rfl rfl rfl rfl ?_
  intro b2 w3 hE4 hR5
  have hb7 : Ext w w3 := Ext.trans (Ext.refl w) hE4
  have hL8 : w.heap.size ≤ w3.heap.size := Nat.le_trans (Nat.le_refl _) hE4.size
  have hS9 : SH w3 w.heap.size [aBox 61 b2 [.string (bs a_0.Name), .int .i64 a_0.Length, .int .i64 a_0.Ball, .int .i64 a_0.Instep, .int .i64 a_0.Heel, .int .i64 a_0.Pitch]] := SH.add (SH.nil _ _) hE4 (Nat.le_refl _) hR5
  refine WL.box 61 [.string (bs b_1.Name), .int .i64 b_1.Length, .int .i64 b_1.Ball, .int .i64 b_1.Instep, .int .i64 b_1.Heel, .int .i64 b_1.Pitch] 3 (by kernel_rfl) rfl rfl rfl rfl ?_
  intro b10 w11 hE12 hR13
  have hb15 : Ext w w11 := Ext.trans hb7 hE12
  have hL16 : w.heap.size ≤ w11.heap.size := Nat.le_trans hL8 hE12.size
  have hS17 : SH w11 w.heap.size [aBox 61 b10 [.string (bs b_1.Name), .int .i64 b_1.Length, .int .i64 b_1.Ball, .int .i64 b_1.Instep, .int .i64 b_1.Heel, .int .i64 b_1.Pitch], aBox 61 b2 [.string (bs a_0.Name), .int .i64 a_0.Length, .int .i64 a_0.Ball, .int .i64 a_0.Instep, .int .i64 a_0.Heel, .int .i64 a_0.Pitch]] := SH.add hS9 hE12 hL8 hR13
  refine WL.runk 1 [2, 3] [(2, .pointer (some ⟨b2, 0, none⟩)), (3, .pointer (some ⟨b10, 0, none⟩))] (by kernel_rfl) ?_
  refine WL.nil ?_
  refine WQ.then_normal (hK1 _ _ _ ?_)
  refine WP.seq (fun K18 hK18 => ?_)
  refine WP.seq (fun K19 hK19 => ?_)
  refine WP.region ?_
  refine WL.runk 1 [2, 3, 5] [(2, .pointer (some ⟨b2, 0, none⟩)), (3, .pointer (some ⟨b10, 0, none⟩)), (5, .pointer (some ⟨b2, 0, none⟩))] (by kernel_rfl) ?_
  refine WL.st (.string (bs a_0.Name)) (ST.load (cell_ext (SH.boxAt (SH.front 1 hS17) 0 _ rfl)) rfl rfl Try.underlying9 rfl) rfl rfl rfl ?_
  refine WL.runk 1 [2, 3, 6, 7] [(2, .pointer (some ⟨b2, 0, none⟩)), (3, .pointer (some ⟨b10, 0, none⟩)), (6, .string (bs a_0.Name)), (7, .pointer (some ⟨b10, 0, none⟩))] (by kernel_rfl) ?_
  refine WL.st (.string (bs b_1.Name)) (ST.load (cell_ext (SH.boxAt (SH.front 0 hS17) 0 _ rfl)) rfl rfl Try.underlying9 rfl) rfl rfl rfl ?_
  refine WL.st (.bool (!(a_0.Name == b_1.Name))) (ST.strne (x := a_0.Name) (y := b_1.Name) rfl rfl rfl) rfl rfl rfl ?_
  refine WL.sub [(2, .pointer (some ⟨b2, 0, none⟩)), (3, .pointer (some ⟨b10, 0, none⟩)), (9, .bool (!(a_0.Name == b_1.Name)))] ⟨rfl, rfl, rfl, trivial⟩ ?_
  refine WL.nil ?_
  refine WQ.then_normal (hK19 _ _ _ ?_)
  refine WP.cond (!(a_0.Name == b_1.Name)) rfl rfl (fun hc20 => ?_) (fun hc20 => ?_)
  · have hm := iteT hm hc20
    refine WP.seq (fun K21 hK21 => ?_)
    refine WP.region ?_
    refine WL.runk 1 [4] [(4, .bool false)] (by kernel_rfl) ?_
    refine WL.nil ?_
    refine WQ.then_normal (hK21 _ _ _ ?_)
    refine WP.ret ?_
    refine WQ.then_ret ?_
    obtain rfl := Option.some.inj hm
    exact WQ.ret1 _ rfl rfl ⟨rfl, hb15⟩
  have hm := iteF hm hc20
  refine WP.skip ?_
  refine WQ.then_normal (hK18 _ _ _ ?_)
  refine WP.seq (fun K22 hK22 => ?_)
  refine WP.seq (fun K23 hK23 => ?_)
  refine WP.region ?_
  refine WL.runk 1 [2, 3, 10] [(2, .pointer (some ⟨b2, 0, none⟩)), (3, .pointer (some ⟨b10, 0, none⟩)), (10, .pointer (some ⟨b2, 1, none⟩))] (by kernel_rfl) ?_
  refine WL.st (.int .i64 a_0.Length) (ST.load (cell_ext (SH.boxAt (SH.front 1 hS17) 1 _ rfl)) rfl rfl Try.underlying2 rfl) rfl rfl rfl ?_
  refine WL.runk 1 [2, 3, 11, 12] [(2, .pointer (some ⟨b2, 0, none⟩)), (3, .pointer (some ⟨b10, 0, none⟩)), (11, .int .i64 a_0.Length), (12, .pointer (some ⟨b10, 1, none⟩))] (by kernel_rfl) ?_
  refine WL.st (.int .i64 b_1.Length) (ST.load (cell_ext (SH.boxAt (SH.front 0 hS17) 1 _ rfl)) rfl rfl Try.underlying2 rfl) rfl rfl rfl ?_
  refine WL.runk 1 [2, 3, 14] [(2, .pointer (some ⟨b2, 0, none⟩)), (3, .pointer (some ⟨b10, 0, none⟩)), (14, .bool (a_0.Length != b_1.Length))] (by kernel_rfl) ?_
  refine WL.nil ?_
  refine WQ.then_normal (hK23 _ _ _ ?_)
  refine WP.cond (a_0.Length != b_1.Length) rfl rfl (fun hc24 => ?_) (fun hc24 => ?_)
  · have hm := iteT hm hc24
    refine WP.seq (fun K25 hK25 => ?_)
    refine WP.region ?_
    refine WL.runk 1 [4] [(4, .bool false)] (by kernel_rfl) ?_
    refine WL.nil ?_
    refine WQ.then_normal (hK25 _ _ _ ?_)
    refine WP.ret ?_
    refine WQ.then_ret ?_
    obtain rfl := Option.some.inj hm
    exact WQ.ret1 _ rfl rfl ⟨rfl, hb15⟩
  have hm := iteF hm hc24
  refine WP.skip ?_
  refine WQ.then_normal (hK22 _ _ _ ?_)
  refine WP.seq (fun K26 hK26 => ?_)
  refine WP.seq (fun K27 hK27 => ?_)
  refine WP.region ?_
  refine WL.runk 1 [2, 3, 15] [(2, .pointer (some ⟨b2, 0, none⟩)), (3, .pointer (some ⟨b10, 0, none⟩)), (15, .pointer (some ⟨b2, 2, none⟩))] (by kernel_rfl) ?_
  refine WL.st (.int .i64 a_0.Ball) (ST.load (cell_ext (SH.boxAt (SH.front 1 hS17) 2 _ rfl)) rfl rfl Try.underlying2 rfl) rfl rfl rfl ?_
  refine WL.runk 1 [2, 3, 16, 17] [(2, .pointer (some ⟨b2, 0, none⟩)), (3, .pointer (some ⟨b10, 0, none⟩)), (16, .int .i64 a_0.Ball), (17, .pointer (some ⟨b10, 2, none⟩))] (by kernel_rfl) ?_
  refine WL.st (.int .i64 b_1.Ball) (ST.load (cell_ext (SH.boxAt (SH.front 0 hS17) 2 _ rfl)) rfl rfl Try.underlying2 rfl) rfl rfl rfl ?_
  refine WL.runk 1 [2, 3, 19] [(2, .pointer (some ⟨b2, 0, none⟩)), (3, .pointer (some ⟨b10, 0, none⟩)), (19, .bool (a_0.Ball != b_1.Ball))] (by kernel_rfl) ?_
  refine WL.nil ?_
  refine WQ.then_normal (hK27 _ _ _ ?_)
  refine WP.cond (a_0.Ball != b_1.Ball) rfl rfl (fun hc28 => ?_) (fun hc28 => ?_)
  · have hm := iteT hm hc28
    refine WP.seq (fun K29 hK29 => ?_)
    refine WP.region ?_
    refine WL.runk 1 [4] [(4, .bool false)] (by kernel_rfl) ?_
    refine WL.nil ?_
    refine WQ.then_normal (hK29 _ _ _ ?_)
    refine WP.ret ?_
    refine WQ.then_ret ?_
    obtain rfl := Option.some.inj hm
    exact WQ.ret1 _ rfl rfl ⟨rfl, hb15⟩
  have hm := iteF hm hc28
  refine WP.skip ?_
  refine WQ.then_normal (hK26 _ _ _ ?_)
  refine WP.seq (fun K30 hK30 => ?_)
  refine WP.seq (fun K31 hK31 => ?_)
  refine WP.region ?_
  refine WL.runk 1 [2, 3, 20] [(2, .pointer (some ⟨b2, 0, none⟩)), (3, .pointer (some ⟨b10, 0, none⟩)), (20, .pointer (some ⟨b2, 3, none⟩))] (by kernel_rfl) ?_
  refine WL.st (.int .i64 a_0.Instep) (ST.load (cell_ext (SH.boxAt (SH.front 1 hS17) 3 _ rfl)) rfl rfl Try.underlying2 rfl) rfl rfl rfl ?_
  refine WL.runk 1 [2, 3, 21, 22] [(2, .pointer (some ⟨b2, 0, none⟩)), (3, .pointer (some ⟨b10, 0, none⟩)), (21, .int .i64 a_0.Instep), (22, .pointer (some ⟨b10, 3, none⟩))] (by kernel_rfl) ?_
  refine WL.st (.int .i64 b_1.Instep) (ST.load (cell_ext (SH.boxAt (SH.front 0 hS17) 3 _ rfl)) rfl rfl Try.underlying2 rfl) rfl rfl rfl ?_
  refine WL.runk 1 [2, 3, 24] [(2, .pointer (some ⟨b2, 0, none⟩)), (3, .pointer (some ⟨b10, 0, none⟩)), (24, .bool (a_0.Instep != b_1.Instep))] (by kernel_rfl) ?_
  refine WL.nil ?_
  refine WQ.then_normal (hK31 _ _ _ ?_)
  refine WP.cond (a_0.Instep != b_1.Instep) rfl rfl (fun hc32 => ?_) (fun hc32 => ?_)
  · have hm := iteT hm hc32
    refine WP.seq (fun K33 hK33 => ?_)
    refine WP.region ?_
    refine WL.runk 1 [4] [(4, .bool false)] (by kernel_rfl) ?_
    refine WL.nil ?_
    refine WQ.then_normal (hK33 _ _ _ ?_)
    refine WP.ret ?_
    refine WQ.then_ret ?_
    obtain rfl := Option.some.inj hm
    exact WQ.ret1 _ rfl rfl ⟨rfl, hb15⟩
  have hm := iteF hm hc32
  refine WP.skip ?_
  refine WQ.then_normal (hK30 _ _ _ ?_)
  refine WP.seq (fun K34 hK34 => ?_)
  refine WP.seq (fun K35 hK35 => ?_)
  refine WP.region ?_
  refine WL.runk 1 [2, 3, 25] [(2, .pointer (some ⟨b2, 0, none⟩)), (3, .pointer (some ⟨b10, 0, none⟩)), (25, .pointer (some ⟨b2, 4, none⟩))] (by kernel_rfl) ?_
  refine WL.st (.int .i64 a_0.Heel) (ST.load (cell_ext (SH.boxAt (SH.front 1 hS17) 4 _ rfl)) rfl rfl Try.underlying2 rfl) rfl rfl rfl ?_
  refine WL.runk 1 [2, 3, 26, 27] [(2, .pointer (some ⟨b2, 0, none⟩)), (3, .pointer (some ⟨b10, 0, none⟩)), (26, .int .i64 a_0.Heel), (27, .pointer (some ⟨b10, 4, none⟩))] (by kernel_rfl) ?_
  refine WL.st (.int .i64 b_1.Heel) (ST.load (cell_ext (SH.boxAt (SH.front 0 hS17) 4 _ rfl)) rfl rfl Try.underlying2 rfl) rfl rfl rfl ?_
  refine WL.runk 1 [2, 3, 29] [(2, .pointer (some ⟨b2, 0, none⟩)), (3, .pointer (some ⟨b10, 0, none⟩)), (29, .bool (a_0.Heel != b_1.Heel))] (by kernel_rfl) ?_
  refine WL.nil ?_
  refine WQ.then_normal (hK35 _ _ _ ?_)
  refine WP.cond (a_0.Heel != b_1.Heel) rfl rfl (fun hc36 => ?_) (fun hc36 => ?_)
  · have hm := iteT hm hc36
    refine WP.seq (fun K37 hK37 => ?_)
    refine WP.region ?_
    refine WL.runk 1 [4] [(4, .bool false)] (by kernel_rfl) ?_
    refine WL.nil ?_
    refine WQ.then_normal (hK37 _ _ _ ?_)
    refine WP.ret ?_
    refine WQ.then_ret ?_
    obtain rfl := Option.some.inj hm
    exact WQ.ret1 _ rfl rfl ⟨rfl, hb15⟩
  have hm := iteF hm hc36
  refine WP.skip ?_
  refine WQ.then_normal (hK34 _ _ _ ?_)
  refine WP.seq (fun K38 hK38 => ?_)
  refine WP.seq (fun K39 hK39 => ?_)
  refine WP.region ?_
  refine WL.runk 1 [3, 30] [(3, .pointer (some ⟨b10, 0, none⟩)), (30, .pointer (some ⟨b2, 5, none⟩))] (by kernel_rfl) ?_
  refine WL.st (.int .i64 a_0.Pitch) (ST.load (cell_ext (SH.boxAt (SH.front 1 hS17) 5 _ rfl)) rfl rfl Try.underlying2 rfl) rfl rfl rfl ?_
  refine WL.runk 1 [31, 32] [(31, .int .i64 a_0.Pitch), (32, .pointer (some ⟨b10, 5, none⟩))] (by kernel_rfl) ?_
  refine WL.st (.int .i64 b_1.Pitch) (ST.load (cell_ext (SH.boxAt (SH.front 0 hS17) 5 _ rfl)) rfl rfl Try.underlying2 rfl) rfl rfl rfl ?_
  refine WL.runk 1 [34] [(34, .bool (a_0.Pitch != b_1.Pitch))] (by kernel_rfl) ?_
  refine WL.nil ?_
  refine WQ.then_normal (hK39 _ _ _ ?_)
  refine WP.cond (a_0.Pitch != b_1.Pitch) rfl rfl (fun hc40 => ?_) (fun hc40 => ?_)
  · have hm := iteT hm hc40
    refine WP.seq (fun K41 hK41 => ?_)
    refine WP.region ?_
    refine WL.runk 1 [4] [(4, .bool false)] (by kernel_rfl) ?_
    refine WL.nil ?_
    refine WQ.then_normal (hK41 _ _ _ ?_)
    refine WP.ret ?_
    refine WQ.then_ret ?_
    obtain rfl := Option.some.inj hm
    exact WQ.ret1 _ rfl rfl ⟨rfl, hb15⟩
  have hm := iteF hm hc40
  refine WP.skip ?_
  refine WQ.then_normal (hK38 _ _ _ ?_)
  refine WP.seq (fun K42 hK42 => ?_)
  refine WP.region ?_
  refine WL.runk 1 [4] [(4, .bool true)] (by kernel_rfl) ?_
  refine WL.nil ?_
  refine WQ.then_normal (hK42 _ _ _ ?_)
  refine WP.ret ?_
  obtain rfl := Option.some.inj hm
  exact WQ.ret1 _ rfl rfl ⟨rfl, hb15⟩

end Go.Proofs.Ytlplbjeegkkilaa
