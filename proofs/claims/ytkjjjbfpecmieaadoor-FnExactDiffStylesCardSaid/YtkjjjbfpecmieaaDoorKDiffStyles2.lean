/- Each call does what its Lean function says. -/
import Derived.Test.YtkjjjbfpecmieaaDoorKDiffStyles1
set_option maxRecDepth 20000
set_option maxHeartbeats 40000000
namespace Go.Proofs.YtkjjjbfpecmieaaDoor
open Go Go.Gv Go.RowKit

theorem c_37 (n : Nat) (x_0 : SStyle) (word_1 : List UInt8) (w : World) {r : List UInt8} (hm : m_impl_Style_clause n x_0 word_1 = some r) (hG : GL 2 w) :
    CallV Tryd.prog 37 #[.agg #[.string (bs x_0.Upper), .string (bs x_0.Color), .string (bs x_0.Lining), .string (bs x_0.Sole), .int .i64 x_0.Thick, .int .i64 x_0.Heel, .int .i64 x_0.Eyelets, .int .i64 x_0.Density, .bool x_0.Double], .string (bs word_1)] w (fun v w' => v = .string (bs r) ∧ Ext w w') := by
  unfold m_impl_Style_clause at hm
  refine CallV.enter Tryd.func37 rfl (by kernel_rfl) Tryd.ntmps37 (env := [(0, .agg #[.string (bs x_0.Upper), .string (bs x_0.Color), .string (bs x_0.Lining), .string (bs x_0.Sole), .int .i64 x_0.Thick, .int .i64 x_0.Heel, .int .i64 x_0.Eyelets, .int .i64 x_0.Density, .bool x_0.Double]), (1, .string (bs word_1))]) ⟨rfl, rfl, trivial⟩ ?_
  refine WP.seq (fun K1 hK1 => ?_)
  refine WP.region ?_
  refine WL.box 32 [.string (bs x_0.Upper), .string (bs x_0.Color), .string (bs x_0.Lining), .string (bs x_0.Sole), .int .i64 x_0.Thick, .int .i64 x_0.Heel, .int .i64 x_0.Eyelets, .int .i64 x_0.Density, .bool x_0.Double] 2 (by kernel_rfl) rfl rfl rfl rfl ?_
  intro b2 w3 hE4 hR5
  have hb7 : Ext w w3 := Ext.trans (Ext.refl w) hE4
  have hL8 : w.heap.size ≤ w3.heap.size := Nat.le_trans (Nat.le_refl _) hE4.size
  have hS9 : SH w3 w.heap.size [aBox 32 b2 [.string (bs x_0.Upper), .string (bs x_0.Color), .string (bs x_0.Lining), .string (bs x_0.Sole), .int .i64 x_0.Thick, .int .i64 x_0.Heel, .int .i64 x_0.Eyelets, .int .i64 x_0.Density, .bool x_0.Double]] := SH.add (SH.nil _ _) hE4 (Nat.le_refl _) hR5
  refine WL.runk 1 [1, 2] [(1, .string (bs word_1)), (2, .pointer (some ⟨b2, 0, none⟩))] (by kernel_rfl) ?_
  refine WL.nil ?_
  refine WQ.then_normal (hK1 _ _ _ ?_)
  refine WP.seq (fun K10 hK10 => ?_)
  refine WP.region ?_
  refine WL.runk 1 [1, 2, 5] [(1, .string (bs word_1)), (2, .pointer (some ⟨b2, 0, none⟩)), (5, .string (bs []))] (by kernel_rfl) ?_
  refine WL.nil ?_
  refine WQ.then_normal (hK10 _ _ _ ?_)
  refine WP.seq (fun K11 hK11 => ?_)
  refine WP.seq (fun K12 hK12 => ?_)
  refine WP.region ?_
  refine WL.runk 1 [2, 5, 6] [(2, .pointer (some ⟨b2, 0, none⟩)), (5, .string (bs [])), (6, .string (bs word_1))] (by kernel_rfl) ?_
  refine WL.nil ?_
  refine WQ.then_normal (hK12 _ _ _ ?_)
  refine WP.block ?_
  refine WP.seq (fun K13 hK13 => ?_)
  refine WP.region ?_
  refine WL.st (.bool (word_1 == [117, 112, 112, 101, 114])) (ST.streq (x := word_1) (y := [117, 112, 112, 101, 114]) rfl rfl rfl) rfl rfl rfl ?_
  refine WL.runk 1 [2, 5, 6, 7] [(2, .pointer (some ⟨b2, 0, none⟩)), (5, .string (bs [])), (6, .string (bs word_1)), (7, .bool (word_1 == [117, 112, 112, 101, 114]))] (by kernel_rfl) ?_
  refine WL.nil ?_
  refine WQ.then_normal (hK13 _ _ _ ?_)
  obtain ⟨x2337, hx2338, hm⟩ := bindE hm
  refine WP.cut (fun env' w' => env' = [(5, .string (bs x2337))] ∧ Ext w w' ∧ w.heap.size ≤ w'.heap.size ∧ SH w' w.heap.size [aBox 32 b2 [.string (bs x_0.Upper), .string (bs x_0.Color), .string (bs x_0.Lining), .string (bs x_0.Sole), .int .i64 x_0.Thick, .int .i64 x_0.Heel, .int .i64 x_0.Eyelets, .int .i64 x_0.Density, .bool x_0.Double]]) ?_ ?_
  rotate_left
  · clear hx2338
    rintro _ w4661 ⟨rfl, hb4662, hL4663, hS4664⟩
    refine WQ.block_normal ?_
    refine WQ.then_normal (hK11 _ _ _ ?_)
    refine WP.seq (fun K4665 hK4665 => ?_)
    refine WP.region ?_
    refine WL.runk 2 [4] [(4, .string (bs x2337))] (by kernel_rfl) ?_
    refine WL.nil ?_
    refine WQ.then_normal (hK4665 _ _ _ ?_)
    refine WP.ret ?_
    obtain rfl := Option.some.inj hm
    exact WQ.ret1 _ rfl rfl ⟨rfl, hb4662⟩
  have hm := hx2338; clear hx2338
  refine WP.cond (word_1 == [117, 112, 112, 101, 114]) rfl rfl (fun hc14 => ?_) (fun hc14 => ?_)
  · have hm := iteT hm hc14
    refine WP.region ?_
    refine WL.runk 1 [2, 9] [(2, .pointer (some ⟨b2, 0, none⟩)), (9, .pointer (some ⟨b2, 0, none⟩))] (by kernel_rfl) ?_
    refine WL.st (.string (bs x_0.Upper)) (ST.load (cell_ext (SH.boxAt (SH.front 0 hS9) 0 _ rfl)) rfl rfl Tryd.underlying9 rfl) rfl rfl rfl ?_
    obtain ⟨x2339, hx2340, hm⟩ := bindE hm
    refine WL.st (.string (bs x2339)) (ST.cat hx2340 rfl rfl rfl) rfl rfl rfl ?_
    obtain ⟨x2341, hx2342, hm⟩ := bindE hm
    refine WL.st (.string (bs x2341)) (ST.cat hx2342 rfl rfl rfl) rfl rfl rfl ?_
    refine WL.runk 1 [12, 13] [(12, .string (bs x2341)), (13, .pointer (some ⟨b2, 1, none⟩))] (by kernel_rfl) ?_
    refine WL.st (.string (bs x_0.Color)) (ST.load (cell_ext (SH.boxAt (SH.front 0 hS9) 1 _ rfl)) rfl rfl Tryd.underlying9 rfl) rfl rfl rfl ?_
    obtain ⟨x2343, hx2344, hm⟩ := bindE hm
    refine WL.st (.string (bs x2343)) (ST.cat hx2344 rfl rfl rfl) rfl rfl rfl ?_
    refine WL.runk 1 [5] [(5, .string (bs x2343))] (by kernel_rfl) ?_
    refine WL.nil ?_
    obtain rfl := Option.some.inj hm
    exact WQ.post' ⟨rfl, hb7, hL8, hS9⟩ ⟨rfl, trivial⟩
  have hm := iteF hm hc14
  refine WP.seq (fun K2345 hK2345 => ?_)
  refine WP.region ?_
  refine WL.st (.bool (word_1 == [108, 105, 110, 105, 110, 103])) (ST.streq (x := word_1) (y := [108, 105, 110, 105, 110, 103]) rfl rfl rfl) rfl rfl rfl ?_
  refine WL.runk 1 [2, 5, 6, 16] [(2, .pointer (some ⟨b2, 0, none⟩)), (5, .string (bs [])), (6, .string (bs word_1)), (16, .bool (word_1 == [108, 105, 110, 105, 110, 103]))] (by kernel_rfl) ?_
  refine WL.nil ?_
  refine WQ.then_normal (hK2345 _ _ _ ?_)
  obtain ⟨x3501, hx3502, hm⟩ := bindE hm
  refine WP.cut (fun env' w' => env' = [(5, .string (bs x3501))] ∧ Ext w w' ∧ w.heap.size ≤ w'.heap.size ∧ SH w' w.heap.size [aBox 32 b2 [.string (bs x_0.Upper), .string (bs x_0.Color), .string (bs x_0.Lining), .string (bs x_0.Sole), .int .i64 x_0.Thick, .int .i64 x_0.Heel, .int .i64 x_0.Eyelets, .int .i64 x_0.Density, .bool x_0.Double]]) ?_ ?_
  rotate_left
  · clear hx3502
    rintro _ w4657 ⟨rfl, hb4658, hL4659, hS4660⟩
    obtain rfl := Option.some.inj hm
    exact WQ.post' ⟨rfl, hb4658, hL4659, hS4660⟩ ⟨rfl, trivial⟩
  have hm := hx3502; clear hx3502
  refine WP.cond (word_1 == [108, 105, 110, 105, 110, 103]) rfl rfl (fun hc2346 => ?_) (fun hc2346 => ?_)
  · have hm := iteT hm hc2346
    refine WP.seq (fun K3503 hK3503 => ?_)
    refine WP.region ?_
    refine WL.runk 1 [2, 5, 18] [(2, .pointer (some ⟨b2, 0, none⟩)), (5, .string (bs [])), (18, .pointer (some ⟨b2, 2, none⟩))] (by kernel_rfl) ?_
    refine WL.st (.string (bs x_0.Lining)) (ST.load (cell_ext (SH.boxAt (SH.front 0 hS9) 2 _ rfl)) rfl rfl Tryd.underlying9 rfl) rfl rfl rfl ?_
    refine WL.st (.bool (!(x_0.Lining == []))) (ST.strne (x := x_0.Lining) (y := []) rfl rfl rfl) rfl rfl rfl ?_
    refine WL.sub [(2, .pointer (some ⟨b2, 0, none⟩)), (5, .string (bs [])), (20, .bool (!(x_0.Lining == [])))] ⟨rfl, rfl, rfl, trivial⟩ ?_
    refine WL.nil ?_
    refine WQ.then_normal (hK3503 _ _ _ ?_)
    obtain ⟨x3507, hx3508, hm⟩ := bindE hm
    refine WP.cut (fun env' w' => env' = [(5, .string (bs x3507))] ∧ Ext w w' ∧ w.heap.size ≤ w'.heap.size ∧ SH w' w.heap.size [aBox 32 b2 [.string (bs x_0.Upper), .string (bs x_0.Color), .string (bs x_0.Lining), .string (bs x_0.Sole), .int .i64 x_0.Thick, .int .i64 x_0.Heel, .int .i64 x_0.Eyelets, .int .i64 x_0.Density, .bool x_0.Double]]) ?_ ?_
    rotate_left
    · clear hx3508
      rintro _ w3511 ⟨rfl, hb3512, hL3513, hS3514⟩
      obtain rfl := Option.some.inj hm
      exact WQ.post' ⟨rfl, hb3512, hL3513, hS3514⟩ ⟨rfl, trivial⟩
    have hm := hx3508; clear hx3508
    refine WP.cond (!(x_0.Lining == [])) rfl rfl (fun hc3504 => ?_) (fun hc3504 => ?_)
    rotate_left
    · have hm := iteF hm hc3504
      refine WP.skip ?_
      obtain rfl := Option.some.inj hm
      exact WQ.post' ⟨rfl, hb7, hL8, hS9⟩ ⟨rfl, trivial⟩
    have hm := iteT hm hc3504
    refine WP.region ?_
    refine WL.runk 1 [21] [(21, .pointer (some ⟨b2, 2, none⟩))] (by kernel_rfl) ?_
    refine WL.st (.string (bs x_0.Lining)) (ST.load (cell_ext (SH.boxAt (SH.front 0 hS9) 2 _ rfl)) rfl rfl Tryd.underlying9 rfl) rfl rfl rfl ?_
    obtain ⟨x3509, hx3510, hm⟩ := bindE hm
    refine WL.st (.string (bs x3509)) (ST.cat hx3510 rfl rfl rfl) rfl rfl rfl ?_
    refine WL.runk 1 [5] [(5, .string (bs x3509))] (by kernel_rfl) ?_
    refine WL.nil ?_
    obtain rfl := Option.some.inj hm
    exact WQ.post' ⟨rfl, hb7, hL8, hS9⟩ ⟨rfl, trivial⟩
  have hm := iteF hm hc2346
  refine WP.seq (fun K3515 hK3515 => ?_)
  refine WP.region ?_
  refine WL.st (.bool (word_1 == [115, 111, 108, 101])) (ST.streq (x := word_1) (y := [115, 111, 108, 101]) rfl rfl rfl) rfl rfl rfl ?_
  refine WL.runk 1 [2, 5, 6, 24] [(2, .pointer (some ⟨b2, 0, none⟩)), (5, .string (bs [])), (6, .string (bs word_1)), (24, .bool (word_1 == [115, 111, 108, 101]))] (by kernel_rfl) ?_
  refine WL.nil ?_
  refine WQ.then_normal (hK3515 _ _ _ ?_)
  obtain ⟨x4084, hx4085, hm⟩ := bindE hm
  refine WP.cut (fun env' w' => env' = [(5, .string (bs x4084))] ∧ Ext w w' ∧ w.heap.size ≤ w'.heap.size ∧ SH w' w.heap.size [aBox 32 b2 [.string (bs x_0.Upper), .string (bs x_0.Color), .string (bs x_0.Lining), .string (bs x_0.Sole), .int .i64 x_0.Thick, .int .i64 x_0.Heel, .int .i64 x_0.Eyelets, .int .i64 x_0.Density, .bool x_0.Double]]) ?_ ?_
  rotate_left
  · clear hx4085
    rintro _ w4653 ⟨rfl, hb4654, hL4655, hS4656⟩
    obtain rfl := Option.some.inj hm
    exact WQ.post' ⟨rfl, hb4654, hL4655, hS4656⟩ ⟨rfl, trivial⟩
  have hm := hx4085; clear hx4085
  refine WP.cond (word_1 == [115, 111, 108, 101]) rfl rfl (fun hc3516 => ?_) (fun hc3516 => ?_)
  · have hm := iteT hm hc3516
    refine WP.quiet (by kernel_rfl) (by kernel_rfl) ?_
    refine QL.step1v 26 (.pointer (some ⟨b2, 3, none⟩)) rfl (fun _ => by kernel_rfl) ?_
    refine QL.subk [2, 26] [(2, .pointer (some ⟨b2, 0, none⟩)), (26, .pointer (some ⟨b2, 3, none⟩))] (by kernel_rfl) ?_
    refine QL.st (.string (bs x_0.Sole)) (ST.load (cell_ext (SH.boxAt (SH.front 0 hS9) 3 _ rfl)) rfl rfl Tryd.underlying9 rfl) rfl rfl rfl ?_
    obtain ⟨x4086, hx4087, hm⟩ := bindE hm
    refine QL.st (.string (bs x4086)) (ST.cat hx4087 rfl rfl rfl) rfl rfl rfl ?_
    obtain ⟨x4088, hx4089, hm⟩ := bindE hm
    refine QL.st (.string (bs x4088)) (ST.cat hx4089 rfl rfl rfl) rfl rfl rfl ?_
    refine QL.step1v 30 (.pointer (some ⟨b2, 4, none⟩)) rfl (fun _ => by kernel_rfl) ?_
    refine QL.subk [29, 30] [(29, .string (bs x4088)), (30, .pointer (some ⟨b2, 4, none⟩))] (by kernel_rfl) ?_
    refine QL.st (.int .i64 x_0.Thick) (ST.load (cell_ext (SH.boxAt (SH.front 0 hS9) 4 _ rfl)) rfl rfl Tryd.underlying2 rfl) rfl rfl rfl ?_
    obtain ⟨x4090, hx4091, hm⟩ := bindE hm
    refine QL.call 53 #[.int .i64 x_0.Thick] (.string (bs x4090)) (fun _ => by kernel_rfl) (fun w4092 hE4093 => c_53 n x_0.Thick w4092 hx4091 (GL.below (GL.below hG hb7) hE4093)) rfl rfl rfl ?_
    obtain ⟨x4094, hx4095, hm⟩ := bindE hm
    refine QL.st (.string (bs x4094)) (ST.cat hx4095 rfl rfl rfl) rfl rfl rfl ?_
    refine QL.step1v 5 (.string (bs x4094)) rfl (fun _ => by kernel_rfl) ?_
    refine QL.subk [5] [(5, .string (bs x4094))] (by kernel_rfl) ?_
    refine QL.nil ?_
    intro w4096 hE4097
    have hb4098 : Ext w w4096 := Ext.trans hb7 hE4097
    have hL4099 : w.heap.size ≤ w4096.heap.size := Nat.le_trans hL8 hE4097.size
    have hS4100 : SH w4096 w.heap.size [aBox 32 b2 [.string (bs x_0.Upper), .string (bs x_0.Color), .string (bs x_0.Lining), .string (bs x_0.Sole), .int .i64 x_0.Thick, .int .i64 x_0.Heel, .int .i64 x_0.Eyelets, .int .i64 x_0.Density, .bool x_0.Double]] := SH.ext hS9 hE4097
    obtain rfl := Option.some.inj hm
    exact WQ.post' ⟨rfl, hb4098, hL4099, hS4100⟩ ⟨rfl, trivial⟩
  have hm := iteF hm hc3516
  refine WP.seq (fun K4101 hK4101 => ?_)
  refine WP.region ?_
  refine WL.st (.bool (word_1 == [104, 101, 101, 108])) (ST.streq (x := word_1) (y := [104, 101, 101, 108]) rfl rfl rfl) rfl rfl rfl ?_
  refine WL.runk 1 [2, 5, 6, 34] [(2, .pointer (some ⟨b2, 0, none⟩)), (5, .string (bs [])), (6, .string (bs word_1)), (34, .bool (word_1 == [104, 101, 101, 108]))] (by kernel_rfl) ?_
  refine WL.nil ?_
  refine WQ.then_normal (hK4101 _ _ _ ?_)
  obtain ⟨x4375, hx4376, hm⟩ := bindE hm
  refine WP.cut (fun env' w' => env' = [(5, .string (bs x4375))] ∧ Ext w w' ∧ w.heap.size ≤ w'.heap.size ∧ SH w' w.heap.size [aBox 32 b2 [.string (bs x_0.Upper), .string (bs x_0.Color), .string (bs x_0.Lining), .string (bs x_0.Sole), .int .i64 x_0.Thick, .int .i64 x_0.Heel, .int .i64 x_0.Eyelets, .int .i64 x_0.Density, .bool x_0.Double]]) ?_ ?_
  rotate_left
  · clear hx4376
    rintro _ w4649 ⟨rfl, hb4650, hL4651, hS4652⟩
    obtain rfl := Option.some.inj hm
    exact WQ.post' ⟨rfl, hb4650, hL4651, hS4652⟩ ⟨rfl, trivial⟩
  have hm := hx4376; clear hx4376
  refine WP.cond (word_1 == [104, 101, 101, 108]) rfl rfl (fun hc4102 => ?_) (fun hc4102 => ?_)
  · have hm := iteT hm hc4102
    refine WP.seq (fun K4377 hK4377 => ?_)
    refine WP.region ?_
    refine WL.runk 1 [2, 5, 36] [(2, .pointer (some ⟨b2, 0, none⟩)), (5, .string (bs [])), (36, .pointer (some ⟨b2, 5, none⟩))] (by kernel_rfl) ?_
    refine WL.st (.int .i64 x_0.Heel) (ST.load (cell_ext (SH.boxAt (SH.front 0 hS9) 5 _ rfl)) rfl rfl Tryd.underlying2 rfl) rfl rfl rfl ?_
    refine WL.runk 1 [2, 5, 38] [(2, .pointer (some ⟨b2, 0, none⟩)), (5, .string (bs [])), (38, .bool (decide (x_0.Heel > 0)))] (by kernel_rfl) ?_
    refine WL.nil ?_
    refine WQ.then_normal (hK4377 _ _ _ ?_)
    obtain ⟨x4389, hx4390, hm⟩ := bindE hm
    refine WP.cut (fun env' w' => env' = [(5, .string (bs x4389))] ∧ Ext w w' ∧ w.heap.size ≤ w'.heap.size ∧ SH w' w.heap.size [aBox 32 b2 [.string (bs x_0.Upper), .string (bs x_0.Color), .string (bs x_0.Lining), .string (bs x_0.Sole), .int .i64 x_0.Thick, .int .i64 x_0.Heel, .int .i64 x_0.Eyelets, .int .i64 x_0.Density, .bool x_0.Double]]) ?_ ?_
    rotate_left
    · clear hx4390
      rintro _ w4401 ⟨rfl, hb4402, hL4403, hS4404⟩
      obtain rfl := Option.some.inj hm
      exact WQ.post' ⟨rfl, hb4402, hL4403, hS4404⟩ ⟨rfl, trivial⟩
    have hm := hx4390; clear hx4390
    refine WP.cond (decide (x_0.Heel > 0)) rfl rfl (fun hc4378 => ?_) (fun hc4378 => ?_)
    rotate_left
    · have hm := iteF hm hc4378
      refine WP.skip ?_
      obtain rfl := Option.some.inj hm
      exact WQ.post' ⟨rfl, hb7, hL8, hS9⟩ ⟨rfl, trivial⟩
    have hm := iteT hm hc4378
    refine WP.region ?_
    refine WL.runk 1 [39] [(39, .pointer (some ⟨b2, 5, none⟩))] (by kernel_rfl) ?_
    refine WL.st (.int .i64 x_0.Heel) (ST.load (cell_ext (SH.boxAt (SH.front 0 hS9) 5 _ rfl)) rfl rfl Tryd.underlying2 rfl) rfl rfl rfl ?_
    obtain ⟨x4391, hx4392, hm⟩ := bindE hm
    refine WL.call 53 #[.int .i64 x_0.Heel] rfl rfl (by kernel_rfl) (c_53 n x_0.Heel w3 hx4392 (GL.below hG hb7)) ?_
    rintro _ w4393 ⟨rfl, hE4394⟩
    refine ⟨_, rfl, ?_⟩
    have hb4396 : Ext w w4393 := Ext.trans hb7 hE4394
    have hL4397 : w.heap.size ≤ w4393.heap.size := Nat.le_trans hL8 hE4394.size
    have hS4398 : SH w4393 w.heap.size [aBox 32 b2 [.string (bs x_0.Upper), .string (bs x_0.Color), .string (bs x_0.Lining), .string (bs x_0.Sole), .int .i64 x_0.Thick, .int .i64 x_0.Heel, .int .i64 x_0.Eyelets, .int .i64 x_0.Density, .bool x_0.Double]] := SH.ext hS9 hE4394
    obtain ⟨x4399, hx4400, hm⟩ := bindE hm
    refine WL.st (.string (bs x4399)) (ST.cat hx4400 rfl rfl rfl) rfl rfl rfl ?_
    refine WL.runk 1 [5] [(5, .string (bs x4399))] (by kernel_rfl) ?_
    refine WL.nil ?_
    obtain rfl := Option.some.inj hm
    exact WQ.post' ⟨rfl, hb4396, hL4397, hS4398⟩ ⟨rfl, trivial⟩
  have hm := iteF hm hc4102
  refine WP.seq (fun K4405 hK4405 => ?_)
  refine WP.region ?_
  refine WL.st (.bool (word_1 == [101, 121, 101, 108, 101, 116, 115])) (ST.streq (x := word_1) (y := [101, 121, 101, 108, 101, 116, 115]) rfl rfl rfl) rfl rfl rfl ?_
  refine WL.runk 1 [2, 5, 6, 43] [(2, .pointer (some ⟨b2, 0, none⟩)), (5, .string (bs [])), (6, .string (bs word_1)), (43, .bool (word_1 == [101, 121, 101, 108, 101, 116, 115]))] (by kernel_rfl) ?_
  refine WL.nil ?_
  refine WQ.then_normal (hK4405 _ _ _ ?_)
  obtain ⟨x4525, hx4526, hm⟩ := bindE hm
  refine WP.cut (fun env' w' => env' = [(5, .string (bs x4525))] ∧ Ext w w' ∧ w.heap.size ≤ w'.heap.size ∧ SH w' w.heap.size [aBox 32 b2 [.string (bs x_0.Upper), .string (bs x_0.Color), .string (bs x_0.Lining), .string (bs x_0.Sole), .int .i64 x_0.Thick, .int .i64 x_0.Heel, .int .i64 x_0.Eyelets, .int .i64 x_0.Density, .bool x_0.Double]]) ?_ ?_
  rotate_left
  · clear hx4526
    rintro _ w4645 ⟨rfl, hb4646, hL4647, hS4648⟩
    obtain rfl := Option.some.inj hm
    exact WQ.post' ⟨rfl, hb4646, hL4647, hS4648⟩ ⟨rfl, trivial⟩
  have hm := hx4526; clear hx4526
  refine WP.cond (word_1 == [101, 121, 101, 108, 101, 116, 115]) rfl rfl (fun hc4406 => ?_) (fun hc4406 => ?_)
  · have hm := iteT hm hc4406
    refine WP.seq (fun K4527 hK4527 => ?_)
    refine WP.region ?_
    refine WL.runk 1 [2, 5, 45] [(2, .pointer (some ⟨b2, 0, none⟩)), (5, .string (bs [])), (45, .pointer (some ⟨b2, 6, none⟩))] (by kernel_rfl) ?_
    refine WL.st (.int .i64 x_0.Eyelets) (ST.load (cell_ext (SH.boxAt (SH.front 0 hS9) 6 _ rfl)) rfl rfl Tryd.underlying2 rfl) rfl rfl rfl ?_
    refine WL.runk 1 [2, 5, 47] [(2, .pointer (some ⟨b2, 0, none⟩)), (5, .string (bs [])), (47, .bool (decide (x_0.Eyelets > 0)))] (by kernel_rfl) ?_
    refine WL.nil ?_
    refine WQ.then_normal (hK4527 _ _ _ ?_)
    obtain ⟨x4539, hx4540, hm⟩ := bindE hm
    refine WP.cut (fun env' w' => env' = [(5, .string (bs x4539))] ∧ Ext w w' ∧ w.heap.size ≤ w'.heap.size ∧ SH w' w.heap.size [aBox 32 b2 [.string (bs x_0.Upper), .string (bs x_0.Color), .string (bs x_0.Lining), .string (bs x_0.Sole), .int .i64 x_0.Thick, .int .i64 x_0.Heel, .int .i64 x_0.Eyelets, .int .i64 x_0.Density, .bool x_0.Double]]) ?_ ?_
    rotate_left
    · clear hx4540
      rintro _ w4551 ⟨rfl, hb4552, hL4553, hS4554⟩
      obtain rfl := Option.some.inj hm
      exact WQ.post' ⟨rfl, hb4552, hL4553, hS4554⟩ ⟨rfl, trivial⟩
    have hm := hx4540; clear hx4540
    refine WP.cond (decide (x_0.Eyelets > 0)) rfl rfl (fun hc4528 => ?_) (fun hc4528 => ?_)
    rotate_left
    · have hm := iteF hm hc4528
      refine WP.skip ?_
      obtain rfl := Option.some.inj hm
      exact WQ.post' ⟨rfl, hb7, hL8, hS9⟩ ⟨rfl, trivial⟩
    have hm := iteT hm hc4528
    refine WP.region ?_
    refine WL.runk 1 [48] [(48, .pointer (some ⟨b2, 6, none⟩))] (by kernel_rfl) ?_
    refine WL.st (.int .i64 x_0.Eyelets) (ST.load (cell_ext (SH.boxAt (SH.front 0 hS9) 6 _ rfl)) rfl rfl Tryd.underlying2 rfl) rfl rfl rfl ?_
    obtain ⟨x4541, hx4542, hm⟩ := bindE hm
    refine WL.call 53 #[.int .i64 x_0.Eyelets] rfl rfl (by kernel_rfl) (c_53 n x_0.Eyelets w3 hx4542 (GL.below hG hb7)) ?_
    rintro _ w4543 ⟨rfl, hE4544⟩
    refine ⟨_, rfl, ?_⟩
    have hb4546 : Ext w w4543 := Ext.trans hb7 hE4544
    have hL4547 : w.heap.size ≤ w4543.heap.size := Nat.le_trans hL8 hE4544.size
    have hS4548 : SH w4543 w.heap.size [aBox 32 b2 [.string (bs x_0.Upper), .string (bs x_0.Color), .string (bs x_0.Lining), .string (bs x_0.Sole), .int .i64 x_0.Thick, .int .i64 x_0.Heel, .int .i64 x_0.Eyelets, .int .i64 x_0.Density, .bool x_0.Double]] := SH.ext hS9 hE4544
    obtain ⟨x4549, hx4550, hm⟩ := bindE hm
    refine WL.st (.string (bs x4549)) (ST.cat hx4550 rfl rfl rfl) rfl rfl rfl ?_
    refine WL.runk 1 [5] [(5, .string (bs x4549))] (by kernel_rfl) ?_
    refine WL.nil ?_
    obtain rfl := Option.some.inj hm
    exact WQ.post' ⟨rfl, hb4546, hL4547, hS4548⟩ ⟨rfl, trivial⟩
  have hm := iteF hm hc4406
  refine WP.seq (fun K4555 hK4555 => ?_)
  refine WP.region ?_
  refine WL.st (.bool (word_1 == [115, 116, 105, 116, 99, 104])) (ST.streq (x := word_1) (y := [115, 116, 105, 116, 99, 104]) rfl rfl rfl) rfl rfl rfl ?_
  refine WL.runk 1 [2, 5, 52] [(2, .pointer (some ⟨b2, 0, none⟩)), (5, .string (bs [])), (52, .bool (word_1 == [115, 116, 105, 116, 99, 104]))] (by kernel_rfl) ?_
  refine WL.nil ?_
  refine WQ.then_normal (hK4555 _ _ _ ?_)
  obtain ⟨x4598, hx4599, hm⟩ := bindE hm
  refine WP.cut (fun env' w' => env' = [(5, .string (bs x4598))] ∧ Ext w w' ∧ w.heap.size ≤ w'.heap.size ∧ SH w' w.heap.size [aBox 32 b2 [.string (bs x_0.Upper), .string (bs x_0.Color), .string (bs x_0.Lining), .string (bs x_0.Sole), .int .i64 x_0.Thick, .int .i64 x_0.Heel, .int .i64 x_0.Eyelets, .int .i64 x_0.Density, .bool x_0.Double]]) ?_ ?_
  rotate_left
  · clear hx4599
    rintro _ w4641 ⟨rfl, hb4642, hL4643, hS4644⟩
    obtain rfl := Option.some.inj hm
    exact WQ.post' ⟨rfl, hb4642, hL4643, hS4644⟩ ⟨rfl, trivial⟩
  have hm := hx4599; clear hx4599
  refine WP.cond (word_1 == [115, 116, 105, 116, 99, 104]) rfl rfl (fun hc4556 => ?_) (fun hc4556 => ?_)
  rotate_left
  · have hm := iteF hm hc4556
    refine WP.skip ?_
    obtain rfl := Option.some.inj hm
    exact WQ.post' ⟨rfl, hb7, hL8, hS9⟩ ⟨rfl, trivial⟩
  have hm := iteT hm hc4556
  refine WP.seq (fun K4600 hK4600 => ?_)
  refine WP.seq (fun K4601 hK4601 => ?_)
  refine WP.region ?_
  refine WL.runk 1 [2, 5, 54] [(2, .pointer (some ⟨b2, 0, none⟩)), (5, .string (bs [])), (54, .pointer (some ⟨b2, 7, none⟩))] (by kernel_rfl) ?_
  refine WL.st (.int .i64 x_0.Density) (ST.load (cell_ext (SH.boxAt (SH.front 0 hS9) 7 _ rfl)) rfl rfl Tryd.underlying2 rfl) rfl rfl rfl ?_
  refine WL.runk 1 [2, 5, 56] [(2, .pointer (some ⟨b2, 0, none⟩)), (5, .string (bs [])), (56, .bool (decide (x_0.Density > 0)))] (by kernel_rfl) ?_
  refine WL.nil ?_
  refine WQ.then_normal (hK4601 _ _ _ ?_)
  obtain ⟨x4613, hx4614, hm⟩ := bindE hm
  refine WP.cut (fun env' w' => env' = [(2, .pointer (some ⟨b2, 0, none⟩)), (5, .string (bs x4613))] ∧ Ext w w' ∧ w.heap.size ≤ w'.heap.size ∧ SH w' w.heap.size [aBox 32 b2 [.string (bs x_0.Upper), .string (bs x_0.Color), .string (bs x_0.Lining), .string (bs x_0.Sole), .int .i64 x_0.Thick, .int .i64 x_0.Heel, .int .i64 x_0.Eyelets, .int .i64 x_0.Density, .bool x_0.Double]]) ?_ ?_
  · have hm := hx4614; clear hx4614
    refine WP.cond (decide (x_0.Density > 0)) rfl rfl (fun hc4602 => ?_) (fun hc4602 => ?_)
    rotate_left
    · have hm := iteF hm hc4602
      refine WP.skip ?_
      obtain rfl := Option.some.inj hm
      exact WQ.post' ⟨rfl, hb7, hL8, hS9⟩ ⟨rfl, rfl, trivial⟩
    have hm := iteT hm hc4602
    refine WP.region ?_
    refine WL.runk 1 [2, 57] [(2, .pointer (some ⟨b2, 0, none⟩)), (57, .pointer (some ⟨b2, 7, none⟩))] (by kernel_rfl) ?_
    refine WL.st (.int .i64 x_0.Density) (ST.load (cell_ext (SH.boxAt (SH.front 0 hS9) 7 _ rfl)) rfl rfl Tryd.underlying2 rfl) rfl rfl rfl ?_
    obtain ⟨x4615, hx4616, hm⟩ := bindE hm
    refine WL.call 53 #[.int .i64 x_0.Density] rfl rfl (by kernel_rfl) (c_53 n x_0.Density w3 hx4616 (GL.below hG hb7)) ?_
    rintro _ w4617 ⟨rfl, hE4618⟩
    refine ⟨_, rfl, ?_⟩
    have hb4620 : Ext w w4617 := Ext.trans hb7 hE4618
    have hL4621 : w.heap.size ≤ w4617.heap.size := Nat.le_trans hL8 hE4618.size
    have hS4622 : SH w4617 w.heap.size [aBox 32 b2 [.string (bs x_0.Upper), .string (bs x_0.Color), .string (bs x_0.Lining), .string (bs x_0.Sole), .int .i64 x_0.Thick, .int .i64 x_0.Heel, .int .i64 x_0.Eyelets, .int .i64 x_0.Density, .bool x_0.Double]] := SH.ext hS9 hE4618
    obtain ⟨x4623, hx4624, hm⟩ := bindE hm
    refine WL.st (.string (bs x4623)) (ST.cat hx4624 rfl rfl rfl) rfl rfl rfl ?_
    refine WL.runk 1 [2, 5] [(2, .pointer (some ⟨b2, 0, none⟩)), (5, .string (bs x4623))] (by kernel_rfl) ?_
    refine WL.nil ?_
    obtain rfl := Option.some.inj hm
    exact WQ.post' ⟨rfl, hb4620, hL4621, hS4622⟩ ⟨rfl, rfl, trivial⟩
  clear hx4614
  rintro _ w4625 ⟨rfl, hb4626, hL4627, hS4628⟩
  refine WQ.then_normal (hK4600 _ _ _ ?_)
  refine WP.seq (fun K4629 hK4629 => ?_)
  refine WP.region ?_
  refine WL.runk 1 [5, 61] [(5, .string (bs x4613)), (61, .pointer (some ⟨b2, 8, none⟩))] (by kernel_rfl) ?_
  refine WL.st (.bool x_0.Double) (ST.load (cell_ext (SH.boxAt (SH.front 0 hS4628) 8 _ rfl)) rfl rfl Tryd.underlying4 rfl) rfl rfl rfl ?_
  refine WL.sub [(5, .string (bs x4613)), (62, .bool x_0.Double)] ⟨rfl, rfl, trivial⟩ ?_
  refine WL.nil ?_
  refine WQ.then_normal (hK4629 _ _ _ ?_)
  obtain ⟨x4633, hx4634, hm⟩ := bindE hm
  refine WP.cut (fun env' w' => env' = [(5, .string (bs x4633))] ∧ Ext w w' ∧ w.heap.size ≤ w'.heap.size ∧ SH w' w.heap.size [aBox 32 b2 [.string (bs x_0.Upper), .string (bs x_0.Color), .string (bs x_0.Lining), .string (bs x_0.Sole), .int .i64 x_0.Thick, .int .i64 x_0.Heel, .int .i64 x_0.Eyelets, .int .i64 x_0.Density, .bool x_0.Double]]) ?_ ?_
  rotate_left
  · clear hx4634
    rintro _ w4637 ⟨rfl, hb4638, hL4639, hS4640⟩
    obtain rfl := Option.some.inj hm
    exact WQ.post' ⟨rfl, hb4638, hL4639, hS4640⟩ ⟨rfl, trivial⟩
  have hm := hx4634; clear hx4634
  refine WP.cond x_0.Double rfl rfl (fun hc4630 => ?_) (fun hc4630 => ?_)
  rotate_left
  · have hm := iteF hm hc4630
    refine WP.skip ?_
    obtain rfl := Option.some.inj hm
    exact WQ.post' ⟨rfl, hb4626, hL4627, hS4628⟩ ⟨rfl, trivial⟩
  have hm := iteT hm hc4630
  refine WP.region ?_
  refine WL.runk 1 [63] [(63, .string (bs x4613))] (by kernel_rfl) ?_
  obtain ⟨x4635, hx4636, hm⟩ := bindE hm
  refine WL.st (.string (bs x4635)) (ST.cat hx4636 rfl rfl rfl) rfl rfl rfl ?_
  refine WL.runk 1 [5] [(5, .string (bs x4635))] (by kernel_rfl) ?_
  refine WL.nil ?_
  obtain rfl := Option.some.inj hm
  exact WQ.post' ⟨rfl, hb4626, hL4627, hS4628⟩ ⟨rfl, trivial⟩

theorem c_36 (n : Nat) (word_0 : List UInt8) (cap_1 : SStyle) (b1' o1' : Nat) (cap_2 : SStyle) (b2' o2' : Nat) (w : World) {r : Bool} (hm : m_impl_DiffStyles_1 n word_0 cap_1 cap_2 = some r) (hG : GL 2 w) (h1 : RdB w b1' o1' [.string (bs cap_1.Upper), .string (bs cap_1.Color), .string (bs cap_1.Lining), .string (bs cap_1.Sole), .int .i64 cap_1.Thick, .int .i64 cap_1.Heel, .int .i64 cap_1.Eyelets, .int .i64 cap_1.Density, .bool cap_1.Double]) (h2 : RdB w b2' o2' [.string (bs cap_2.Upper), .string (bs cap_2.Color), .string (bs cap_2.Lining), .string (bs cap_2.Sole), .int .i64 cap_2.Thick, .int .i64 cap_2.Heel, .int .i64 cap_2.Eyelets, .int .i64 cap_2.Density, .bool cap_2.Double]) :
    CallV Tryd.prog 36 #[.string (bs word_0), .pointer (some ⟨b1', o1', none⟩), .pointer (some ⟨b2', o2', none⟩)] w (fun v w' => v = .bool r ∧ Ext w w') := by
  unfold m_impl_DiffStyles_1 at hm
  refine CallV.enter Tryd.func36 rfl (by kernel_rfl) Tryd.ntmps36 (env := [(0, .string (bs word_0)), (1, .pointer (some ⟨b1', o1', none⟩)), (2, .pointer (some ⟨b2', o2', none⟩))]) ⟨rfl, rfl, rfl, trivial⟩ ?_
  refine WP.seq (fun K1 hK1 => ?_)
  refine WP.region ?_
  refine WL.runk 1 [0, 1, 2] [(0, .string (bs word_0)), (1, .pointer (some ⟨b1', o1', none⟩)), (2, .pointer (some ⟨b2', o2', none⟩))] (by kernel_rfl) ?_
  refine WL.nil ?_
  refine WQ.then_normal (hK1 _ _ _ ?_)
  refine WP.seq (fun K2 hK2 => ?_)
  refine WP.quiet (by kernel_rfl) (by kernel_rfl) ?_
  refine QL.st (.agg #[.string (bs cap_1.Upper), .string (bs cap_1.Color), .string (bs cap_1.Lining), .string (bs cap_1.Sole), .int .i64 cap_1.Thick, .int .i64 cap_1.Heel, .int .i64 cap_1.Eyelets, .int .i64 cap_1.Density, .bool cap_1.Double]) (ST.loadAgg (vs := [.string (bs cap_1.Upper), .string (bs cap_1.Color), .string (bs cap_1.Lining), .string (bs cap_1.Sole), .int .i64 cap_1.Thick, .int .i64 cap_1.Heel, .int .i64 cap_1.Eyelets, .int .i64 cap_1.Density, .bool cap_1.Double]) (fun j v hv => RdB.part (us := [.string (bs cap_1.Upper), .string (bs cap_1.Color), .string (bs cap_1.Lining), .string (bs cap_1.Sole), .int .i64 cap_1.Thick, .int .i64 cap_1.Heel, .int .i64 cap_1.Eyelets, .int .i64 cap_1.Density, .bool cap_1.Double]) (RdB.below h1 (Ext.refl w)) 0 rfl j v hv) rfl rfl rfl Tryd.underlying32 rfl (info32).1 (info32).2.1) rfl rfl rfl ?_
  refine QL.step1v 6 (.string (bs word_0)) rfl (fun _ => by kernel_rfl) ?_
  refine QL.subk [0, 2, 5, 6] [(0, .string (bs word_0)), (2, .pointer (some ⟨b2', o2', none⟩)), (5, .agg #[.string (bs cap_1.Upper), .string (bs cap_1.Color), .string (bs cap_1.Lining), .string (bs cap_1.Sole), .int .i64 cap_1.Thick, .int .i64 cap_1.Heel, .int .i64 cap_1.Eyelets, .int .i64 cap_1.Density, .bool cap_1.Double]), (6, .string (bs word_0))] (by kernel_rfl) ?_
  obtain ⟨x3, hx4, hm⟩ := bindE hm
  refine QL.call 37 #[.agg #[.string (bs cap_1.Upper), .string (bs cap_1.Color), .string (bs cap_1.Lining), .string (bs cap_1.Sole), .int .i64 cap_1.Thick, .int .i64 cap_1.Heel, .int .i64 cap_1.Eyelets, .int .i64 cap_1.Density, .bool cap_1.Double], .string (bs word_0)] (.string (bs x3)) (fun _ => by kernel_rfl) (fun w5 hE6 => c_37 n cap_1 word_0 w5 hx4 (GL.below (GL.below hG (Ext.refl w)) hE6)) rfl rfl rfl ?_
  refine QL.st (.agg #[.string (bs cap_2.Upper), .string (bs cap_2.Color), .string (bs cap_2.Lining), .string (bs cap_2.Sole), .int .i64 cap_2.Thick, .int .i64 cap_2.Heel, .int .i64 cap_2.Eyelets, .int .i64 cap_2.Density, .bool cap_2.Double]) (ST.loadAgg (vs := [.string (bs cap_2.Upper), .string (bs cap_2.Color), .string (bs cap_2.Lining), .string (bs cap_2.Sole), .int .i64 cap_2.Thick, .int .i64 cap_2.Heel, .int .i64 cap_2.Eyelets, .int .i64 cap_2.Density, .bool cap_2.Double]) (fun j v hv => RdB.part (us := [.string (bs cap_2.Upper), .string (bs cap_2.Color), .string (bs cap_2.Lining), .string (bs cap_2.Sole), .int .i64 cap_2.Thick, .int .i64 cap_2.Heel, .int .i64 cap_2.Eyelets, .int .i64 cap_2.Density, .bool cap_2.Double]) (RdB.below h2 (Ext.refl w)) 0 rfl j v hv) rfl rfl rfl Tryd.underlying32 rfl (info32).1 (info32).2.1) rfl rfl rfl ?_
  refine QL.step1v 9 (.string (bs word_0)) rfl (fun _ => by kernel_rfl) ?_
  refine QL.subk [7, 8, 9] [(7, .string (bs x3)), (8, .agg #[.string (bs cap_2.Upper), .string (bs cap_2.Color), .string (bs cap_2.Lining), .string (bs cap_2.Sole), .int .i64 cap_2.Thick, .int .i64 cap_2.Heel, .int .i64 cap_2.Eyelets, .int .i64 cap_2.Density, .bool cap_2.Double]), (9, .string (bs word_0))] (by kernel_rfl) ?_
  obtain ⟨x7, hx8, hm⟩ := bindE hm
  refine QL.call 37 #[.agg #[.string (bs cap_2.Upper), .string (bs cap_2.Color), .string (bs cap_2.Lining), .string (bs cap_2.Sole), .int .i64 cap_2.Thick, .int .i64 cap_2.Heel, .int .i64 cap_2.Eyelets, .int .i64 cap_2.Density, .bool cap_2.Double], .string (bs word_0)] (.string (bs x7)) (fun _ => by kernel_rfl) (fun w9 hE10 => c_37 n cap_2 word_0 w9 hx8 (GL.below (GL.below hG (Ext.refl w)) hE10)) rfl rfl rfl ?_
  refine QL.st (.bool (x3 == x7)) (ST.streq (x := x3) (y := x7) rfl rfl rfl) rfl rfl rfl ?_
  refine QL.step1v 4 (.bool (x3 == x7)) rfl (fun _ => by kernel_rfl) ?_
  refine QL.subk [4] [(4, .bool (x3 == x7))] (by kernel_rfl) ?_
  refine QL.nil ?_
  intro w11 hE12
  have hb13 : Ext w w11 := Ext.trans (Ext.refl w) hE12
  have hL14 : w.heap.size ≤ w11.heap.size := Nat.le_trans (Nat.le_refl _) hE12.size
  have hS15 : SH w11 w.heap.size [] := SH.ext (SH.nil _ _) hE12
  refine WQ.then_normal (hK2 _ _ _ ?_)
  refine WP.ret ?_
  obtain rfl := Option.some.inj hm
  exact WQ.ret1 _ rfl rfl ⟨rfl, hb13⟩

theorem c_52_36 (n : Nat) (s_0 : List (List UInt8)) (a0' : Option Addr) (c0' : Nat) (cap_1_0 : SStyle) (b1_0' o1_0' : Nat) (cap_1_1 : SStyle) (b1_1' o1_1' : Nat) (w : World) {r : Int} (hm : m_slices_IndexFunc_string_string_f36 n s_0 cap_1_0 cap_1_1 = some r) (hG : GL 2 w) (h0 : Rd fStr.ty w a0' s_0) (_hle0 : s_0.length ≤ c0') (h1_0 : RdB w b1_0' o1_0' [.string (bs cap_1_0.Upper), .string (bs cap_1_0.Color), .string (bs cap_1_0.Lining), .string (bs cap_1_0.Sole), .int .i64 cap_1_0.Thick, .int .i64 cap_1_0.Heel, .int .i64 cap_1_0.Eyelets, .int .i64 cap_1_0.Density, .bool cap_1_0.Double]) (h1_1 : RdB w b1_1' o1_1' [.string (bs cap_1_1.Upper), .string (bs cap_1_1.Color), .string (bs cap_1_1.Lining), .string (bs cap_1_1.Sole), .int .i64 cap_1_1.Thick, .int .i64 cap_1_1.Heel, .int .i64 cap_1_1.Eyelets, .int .i64 cap_1_1.Density, .bool cap_1_1.Double]) :
    CallV Tryd.prog 52 #[.slice a0' s_0.length c0', .func (.func 36) #[] #[.pointer (some ⟨b1_0', o1_0', none⟩), .pointer (some ⟨b1_1', o1_1', none⟩)]] w (fun v w' => v = .int .i64 r ∧ Ext w w') := by
  unfold m_slices_IndexFunc_string_string_f36 at hm
  refine CallV.enter Tryd.func52 rfl (by kernel_rfl) Tryd.ntmps52 (env := [(0, .slice a0' s_0.length c0'), (1, .func (.func 36) #[] #[.pointer (some ⟨b1_0', o1_0', none⟩), .pointer (some ⟨b1_1', o1_1', none⟩)])]) ⟨rfl, rfl, trivial⟩ ?_
  refine WP.seq (fun K1 hK1 => ?_)
  refine WP.region ?_
  refine WL.runk 1 [0, 1] [(0, .slice a0' s_0.length c0'), (1, .func (.func 36) #[] #[.pointer (some ⟨b1_0', o1_0', none⟩), .pointer (some ⟨b1_1', o1_1', none⟩)])] (by kernel_rfl) ?_
  refine WL.nil ?_
  refine WQ.then_normal (hK1 _ _ _ ?_)
  refine WP.seq (fun K2 hK2 => ?_)
  refine WP.seq (fun K3 hK3 => ?_)
  refine WP.region ?_
  refine WL.runk 3 [0, 1, 7, 8] [(0, .slice a0' s_0.length c0'), (1, .func (.func 36) #[] #[.pointer (some ⟨b1_0', o1_0', none⟩), .pointer (some ⟨b1_1', o1_1', none⟩)]), (7, .int .i64 (s_0.length : Int)), (8, .int .i64 0)] (by kernel_rfl) ?_
  refine WL.nil ?_
  refine WQ.then_normal (hK3 _ _ _ ?_)
  refine WP.block ?_
  obtain ⟨t15, ht16, hm⟩ := bindE hm
  have hmo10 := hm; clear hm
  refine WP.sub [(0, .slice a0' s_0.length c0'), (1, .func (.func 36) #[] #[.pointer (some ⟨b1_0', o1_0', none⟩), .pointer (some ⟨b1_1', o1_1', none⟩)]), (7, .int .i64 (s_0.length : Int)), (8, .int .i64 0)] ⟨rfl, rfl, rfl, rfl, trivial⟩ ?_
  refine WP.loop (fun n' env' w' => ∃ (st4 : Int) , env' = [(0, .slice a0' s_0.length c0'), (1, .func (.func 36) #[] #[.pointer (some ⟨b1_0', o1_0', none⟩), .pointer (some ⟨b1_1', o1_1', none⟩)]), (7, .int .i64 (s_0.length : Int)), (8, .int .i64 st4)] ∧ Ext w w' ∧ w.heap.size ≤ w'.heap.size ∧ SH w' w.heap.size [] ∧ loopN (m_slices_IndexFunc_string_string_f36_l1 n s_0 cap_1_0 cap_1_1) n' st4 = some t15) n ⟨0, rfl, (Ext.refl w), (Nat.le_refl _), (SH.nil _ _), ht16⟩ ?_
  rintro n12 _ w5 ⟨st4, rfl, hb6, hL7, hS8, hl9⟩ K11 hK11
  obtain ⟨n13, s14, rfl, hm, hl9⟩ := loopN_some hl9
  unfold m_slices_IndexFunc_string_string_f36_l1 at hm
  refine WP.seq (fun K17 hK17 => ?_)
  refine WP.region ?_
  refine WL.runk 1 [0, 1, 7, 8, 9] [(0, .slice a0' s_0.length c0'), (1, .func (.func 36) #[] #[.pointer (some ⟨b1_0', o1_0', none⟩), .pointer (some ⟨b1_1', o1_1', none⟩)]), (7, .int .i64 (s_0.length : Int)), (8, .int .i64 st4), (9, .bool (decide (st4 < (s_0.length : Int))))] (by kernel_rfl) ?_
  refine WL.nil ?_
  refine WQ.then_normal (hK17 _ _ _ ?_)
  refine WP.seq (fun K18 hK18 => ?_)
  refine WP.cond (decide (st4 < (s_0.length : Int))) rfl rfl (fun hc19 => ?_) (fun hc19 => ?_)
  rotate_left
  · have hm := iteF hm hc19
    refine WP.exit ?_
    refine WQ.then_exit ?_
    refine WQ.then_exit ?_
    refine WQ.block_here ?_
    obtain rfl := Option.some.inj hm
    obtain rfl := afterN_done hl9
    have hm := hmo10
    refine WQ.then_normal (hK2 _ _ _ ?_)
    refine WP.seq (fun K35 hK35 => ?_)
    refine WP.region ?_
    refine WL.runk 1 [4] [(4, .int .i64 (-1))] (by kernel_rfl) ?_
    refine WL.nil ?_
    refine WQ.then_normal (hK35 _ _ _ ?_)
    refine WP.ret ?_
    obtain rfl := Option.some.inj hm
    exact WQ.ret1 _ rfl rfl ⟨rfl, hb6⟩
  have hm := iteT hm hc19
  refine WP.skip ?_
  refine WQ.then_normal (hK18 _ _ _ ?_)
  refine WP.seq (fun K20 hK20 => ?_)
  refine WP.block ?_
  refine WP.seq (fun K21 hK21 => ?_)
  refine WP.region ?_
  refine WL.runk 2 [0, 1, 5, 7, 8] [(0, .slice a0' s_0.length c0'), (1, .func (.func 36) #[] #[.pointer (some ⟨b1_0', o1_0', none⟩), .pointer (some ⟨b1_1', o1_1', none⟩)]), (7, .int .i64 (s_0.length : Int)), (8, .int .i64 st4), (5, .int .i64 st4)] (by kernel_rfl) ?_
  refine WL.nil ?_
  refine WQ.then_normal (hK21 _ _ _ ?_)
  refine WP.seq (fun K22 hK22 => ?_)
  refine WP.region ?_
  refine WL.runk 3 [0, 1, 5, 7, 8, 11, 12, 13] [(0, .slice a0' s_0.length c0'), (1, .func (.func 36) #[] #[.pointer (some ⟨b1_0', o1_0', none⟩), .pointer (some ⟨b1_1', o1_1', none⟩)]), (7, .int .i64 (s_0.length : Int)), (8, .int .i64 st4), (5, .int .i64 st4), (11, .func (.func 36) #[] #[.pointer (some ⟨b1_0', o1_0', none⟩), .pointer (some ⟨b1_1', o1_1', none⟩)]), (12, .slice a0' s_0.length c0'), (13, .int .i64 st4)] (by kernel_rfl) ?_
  obtain ⟨x23, hx24, hm⟩ := bindE hm
  refine WL.st (.pointer (some (at_ a0' (Int.toNat st4 * 1)))) (ST.index (T := fStr.ty) (xs := s_0) (Rd.below h0 hb6) hx24 rfl rfl rfl Tryd.underlying22 (info9).1 (info9).2.1) rfl rfl rfl ?_
  refine WL.st (.string (bs x23)) (ST.load (cell_ext (Rd.flat (F := fStr) (Rd.below h0 hb6) hx24 0 rfl)) rfl rfl Tryd.underlying9 rfl) rfl rfl rfl ?_
  obtain ⟨x25, hx26, hm⟩ := bindE hm
  refine WL.call 36 #[.string (bs x23), .pointer (some ⟨b1_0', o1_0', none⟩), .pointer (some ⟨b1_1', o1_1', none⟩)] rfl rfl (by kernel_rfl) (c_36 n x23 cap_1_0 b1_0' o1_0' cap_1_1 b1_1' o1_1' w5 hx26 (GL.below hG hb6) (RdB.below h1_0 hb6) (RdB.below h1_1 hb6)) ?_
  rintro _ w27 ⟨rfl, hE28⟩
  refine ⟨_, rfl, ?_⟩
  have hb30 : Ext w w27 := Ext.trans hb6 hE28
  have hL31 : w.heap.size ≤ w27.heap.size := Nat.le_trans hL7 hE28.size
  have hS32 : SH w27 w.heap.size [] := SH.ext hS8 hE28
  refine WL.sub [(0, .slice a0' s_0.length c0'), (1, .func (.func 36) #[] #[.pointer (some ⟨b1_0', o1_0', none⟩), .pointer (some ⟨b1_1', o1_1', none⟩)]), (7, .int .i64 (s_0.length : Int)), (8, .int .i64 st4), (5, .int .i64 st4), (16, .bool x25)] ⟨rfl, rfl, rfl, rfl, rfl, rfl, trivial⟩ ?_
  refine WL.nil ?_
  refine WQ.then_normal (hK22 _ _ _ ?_)
  refine WP.cond x25 rfl rfl (fun hc33 => ?_) (fun hc33 => ?_)
  rotate_left
  · have hm := iteF hm hc33
    refine WP.skip ?_
    refine WQ.block_normal ?_
    refine WQ.then_normal (hK20 _ _ _ ?_)
    refine WP.region ?_
    refine WL.runk 2 [0, 1, 7, 8] [(0, .slice a0' s_0.length c0'), (1, .func (.func 36) #[] #[.pointer (some ⟨b1_0', o1_0', none⟩), .pointer (some ⟨b1_1', o1_1', none⟩)]), (7, .int .i64 (s_0.length : Int)), (8, .int .i64 (wI64 (st4 + 1)))] (by kernel_rfl) ?_
    refine WL.nil ?_
    obtain rfl := Option.some.inj hm
    exact WQ.round hK11 ⟨(wI64 (st4 + 1)), rfl, hb30, hL31, hS32, hl9⟩ (Nat.lt_succ_self _) ⟨rfl, rfl, rfl, rfl, trivial⟩
  have hm := iteT hm hc33
  refine WP.seq (fun K34 hK34 => ?_)
  refine WP.region ?_
  refine WL.runk 2 [4] [(4, .int .i64 st4)] (by kernel_rfl) ?_
  refine WL.nil ?_
  refine WQ.then_normal (hK34 _ _ _ ?_)
  refine WP.ret ?_
  refine WQ.block_ret ?_
  refine WQ.then_ret ?_
  refine WQ.then_ret ?_
  refine WQ.block_ret ?_
  refine WQ.then_ret ?_
  obtain rfl := Option.some.inj hm
  obtain rfl := afterN_done hl9
  have hm := hmo10
  obtain rfl := Option.some.inj hm
  exact WQ.ret1 _ rfl rfl ⟨rfl, hb30⟩

theorem c_34_36_o1 (n : Nat) (s_0 : List (List UInt8)) (a0' : Option Addr) (c0' : Nat) (cap_1_0 : SStyle) (b1_0' : Nat) (cap_1_1 : SStyle) (b1_1' : Nat) (w : World) (w0 : World) (B : Nat) (L : List Asrt) {r : List (List UInt8)} (hm : m_slices_DeleteFunc_string_string_f36_o1 n s_0 cap_1_0 cap_1_1 = some r) (hE0 : Ext w0 w) (hW : w0.heap.size ≤ B) (hL : B ≤ w.heap.size) (hG : GL 2 w0) (hS : SH w B (aOwn fStr 9 a0' c0' s_0 :: aBox 32 b1_0' [.string (bs cap_1_0.Upper), .string (bs cap_1_0.Color), .string (bs cap_1_0.Lining), .string (bs cap_1_0.Sole), .int .i64 cap_1_0.Thick, .int .i64 cap_1_0.Heel, .int .i64 cap_1_0.Eyelets, .int .i64 cap_1_0.Density, .bool cap_1_0.Double] :: aBox 32 b1_1' [.string (bs cap_1_1.Upper), .string (bs cap_1_1.Color), .string (bs cap_1_1.Lining), .string (bs cap_1_1.Sole), .int .i64 cap_1_1.Thick, .int .i64 cap_1_1.Heel, .int .i64 cap_1_1.Eyelets, .int .i64 cap_1_1.Density, .bool cap_1_1.Double] :: L)) :
    CallV Tryd.prog 34 #[.slice a0' s_0.length c0', .func (.func 36) #[] #[.pointer (some ⟨b1_0', 0, none⟩), .pointer (some ⟨b1_1', 0, none⟩)]] w (fun v w' => ∃ (ra0 : Option Addr) (rc0 : Nat), v = .slice ra0 r.length rc0 ∧ Below B w w' ∧ SH w' B (aOwn fStr 9 ra0 rc0 r :: aBox 32 b1_0' [.string (bs cap_1_0.Upper), .string (bs cap_1_0.Color), .string (bs cap_1_0.Lining), .string (bs cap_1_0.Sole), .int .i64 cap_1_0.Thick, .int .i64 cap_1_0.Heel, .int .i64 cap_1_0.Eyelets, .int .i64 cap_1_0.Density, .bool cap_1_0.Double] :: aBox 32 b1_1' [.string (bs cap_1_1.Upper), .string (bs cap_1_1.Color), .string (bs cap_1_1.Lining), .string (bs cap_1_1.Sole), .int .i64 cap_1_1.Thick, .int .i64 cap_1_1.Heel, .int .i64 cap_1_1.Eyelets, .int .i64 cap_1_1.Density, .bool cap_1_1.Double] :: L)) := by
  unfold m_slices_DeleteFunc_string_string_f36_o1 at hm
  refine CallV.enter Tryd.func34 rfl (by kernel_rfl) Tryd.ntmps34 (env := [(0, .slice a0' s_0.length c0'), (1, .func (.func 36) #[] #[.pointer (some ⟨b1_0', 0, none⟩), .pointer (some ⟨b1_1', 0, none⟩)])]) ⟨rfl, rfl, trivial⟩ ?_
  refine WP.seq (fun K1 hK1 => ?_)
  refine WP.region ?_
  refine WL.runk 1 [0, 1] [(0, .slice a0' s_0.length c0'), (1, .func (.func 36) #[] #[.pointer (some ⟨b1_0', 0, none⟩), .pointer (some ⟨b1_1', 0, none⟩)])] (by kernel_rfl) ?_
  refine WL.nil ?_
  refine WQ.then_normal (hK1 _ _ _ ?_)
  refine WP.seq (fun K2 hK2 => ?_)
  refine WP.region ?_
  refine WL.runk 2 [0, 1, 8, 9] [(0, .slice a0' s_0.length c0'), (1, .func (.func 36) #[] #[.pointer (some ⟨b1_0', 0, none⟩), .pointer (some ⟨b1_1', 0, none⟩)]), (8, .slice a0' s_0.length c0'), (9, .func (.func 36) #[] #[.pointer (some ⟨b1_0', 0, none⟩), .pointer (some ⟨b1_1', 0, none⟩)])] (by kernel_rfl) ?_
  obtain ⟨x3, hx4, hm⟩ := bindE hm
  refine WL.call 52 #[.slice a0' s_0.length c0', .func (.func 36) #[] #[.pointer (some ⟨b1_0', 0, none⟩), .pointer (some ⟨b1_1', 0, none⟩)]] rfl rfl (by kernel_rfl) (c_52_36 n s_0 a0' c0' cap_1_0 b1_0' 0 cap_1_1 b1_1' 0 w hx4 (GL.below hG (Below.trans hE0 (Below.mono (Below.refl _ _) hW))) (SH.rd (SH.front 0 hS)) (SH.le (SH.front 0 hS)).1 (SH.boxRd (SH.front 1 hS)) (SH.boxRd (SH.front 2 hS))) ?_
  rintro _ w5 ⟨rfl, hE6⟩
  refine ⟨_, rfl, ?_⟩
  have hb8 : Below B w w5 := Below.trans (Below.refl _ _) (Below.mono hE6 hL)
  have hL9 : B ≤ w5.heap.size := Nat.le_trans hL hE6.size
  have hS10 : SH w5 B (aOwn fStr 9 a0' c0' s_0 :: aBox 32 b1_0' [.string (bs cap_1_0.Upper), .string (bs cap_1_0.Color), .string (bs cap_1_0.Lining), .string (bs cap_1_0.Sole), .int .i64 cap_1_0.Thick, .int .i64 cap_1_0.Heel, .int .i64 cap_1_0.Eyelets, .int .i64 cap_1_0.Density, .bool cap_1_0.Double] :: aBox 32 b1_1' [.string (bs cap_1_1.Upper), .string (bs cap_1_1.Color), .string (bs cap_1_1.Lining), .string (bs cap_1_1.Sole), .int .i64 cap_1_1.Thick, .int .i64 cap_1_1.Heel, .int .i64 cap_1_1.Eyelets, .int .i64 cap_1_1.Density, .bool cap_1_1.Double] :: L) := SH.ext hS hE6
  refine WL.runk 1 [0, 1, 5] [(0, .slice a0' s_0.length c0'), (1, .func (.func 36) #[] #[.pointer (some ⟨b1_0', 0, none⟩), .pointer (some ⟨b1_1', 0, none⟩)]), (5, .int .i64 x3)] (by kernel_rfl) ?_
  refine WL.nil ?_
  refine WQ.then_normal (hK2 _ _ _ ?_)
  refine WP.seq (fun K11 hK11 => ?_)
  refine WP.seq (fun K12 hK12 => ?_)
  refine WP.region ?_
  refine WL.runk 2 [0, 1, 5, 12] [(0, .slice a0' s_0.length c0'), (1, .func (.func 36) #[] #[.pointer (some ⟨b1_0', 0, none⟩), .pointer (some ⟨b1_1', 0, none⟩)]), (5, .int .i64 x3), (12, .bool (x3 == (-1)))] (by kernel_rfl) ?_
  refine WL.nil ?_
  refine WQ.then_normal (hK12 _ _ _ ?_)
  refine WP.cond (x3 == (-1)) rfl rfl (fun hc13 => ?_) (fun hc13 => ?_)
  · have hm := iteT hm hc13
    refine WP.seq (fun K14 hK14 => ?_)
    refine WP.region ?_
    refine WL.runk 2 [4] [(4, .slice a0' s_0.length c0')] (by kernel_rfl) ?_
    refine WL.nil ?_
    refine WQ.then_normal (hK14 _ _ _ ?_)
    refine WP.ret ?_
    refine WQ.then_ret ?_
    obtain rfl := Option.some.inj hm
    exact WQ.ret1 _ rfl rfl ⟨_, _, rfl, hb8, hS10⟩
  have hm := iteF hm hc13
  refine WP.skip ?_
  refine WQ.then_normal (hK11 _ _ _ ?_)
  refine WP.seq (fun K15 hK15 => ?_)
  refine WP.seq (fun K16 hK16 => ?_)
  refine WP.region ?_
  refine WL.runk 3 [0, 1, 5, 6] [(0, .slice a0' s_0.length c0'), (1, .func (.func 36) #[] #[.pointer (some ⟨b1_0', 0, none⟩), .pointer (some ⟨b1_1', 0, none⟩)]), (5, .int .i64 x3), (6, .int .i64 (wI64 (x3 + 1)))] (by kernel_rfl) ?_
  refine WL.nil ?_
  refine WQ.then_normal (hK16 _ _ _ ?_)
  refine WP.block ?_
  obtain ⟨t112, ht113, hm⟩ := bindE hm
  have hmo107 := hm; clear hm
  refine WP.sub [(0, .slice a0' s_0.length c0'), (1, .func (.func 36) #[] #[.pointer (some ⟨b1_0', 0, none⟩), .pointer (some ⟨b1_1', 0, none⟩)]), (5, .int .i64 x3), (6, .int .i64 (wI64 (x3 + 1)))] ⟨rfl, rfl, rfl, rfl, trivial⟩ ?_
  refine WP.loop (fun n' env' w' => ∃ (st101 : Int × Int × List (List UInt8)) , env' = [(0, .slice a0' st101.2.2.length c0'), (1, .func (.func 36) #[] #[.pointer (some ⟨b1_0', 0, none⟩), .pointer (some ⟨b1_1', 0, none⟩)]), (5, .int .i64 st101.1), (6, .int .i64 st101.2.1)] ∧ Below B w w' ∧ B ≤ w'.heap.size ∧ SH w' B (aOwn fStr 9 a0' c0' st101.2.2 :: aBox 32 b1_0' [.string (bs cap_1_0.Upper), .string (bs cap_1_0.Color), .string (bs cap_1_0.Lining), .string (bs cap_1_0.Sole), .int .i64 cap_1_0.Thick, .int .i64 cap_1_0.Heel, .int .i64 cap_1_0.Eyelets, .int .i64 cap_1_0.Density, .bool cap_1_0.Double] :: aBox 32 b1_1' [.string (bs cap_1_1.Upper), .string (bs cap_1_1.Color), .string (bs cap_1_1.Lining), .string (bs cap_1_1.Sole), .int .i64 cap_1_1.Thick, .int .i64 cap_1_1.Heel, .int .i64 cap_1_1.Eyelets, .int .i64 cap_1_1.Density, .bool cap_1_1.Double] :: L) ∧ loopN (m_slices_DeleteFunc_string_string_f36_o1_l1 n cap_1_0 cap_1_1) n' st101 = some t112) n ⟨(x3, (wI64 (x3 + 1)), s_0), rfl, hb8, hL9, hS10, ht113⟩ ?_
  rintro n109 _ w102 ⟨st101, rfl, hb103, hL104, hS105, hl106⟩ K108 hK108
  obtain ⟨n110, s111, rfl, hm, hl106⟩ := loopN_some hl106
  unfold m_slices_DeleteFunc_string_string_f36_o1_l1 at hm
  refine WP.seq (fun K114 hK114 => ?_)
  refine WP.seq (fun K115 hK115 => ?_)
  refine WP.region ?_
  refine WL.runk 4 [0, 1, 5, 6, 19] [(0, .slice a0' st101.2.2.length c0'), (1, .func (.func 36) #[] #[.pointer (some ⟨b1_0', 0, none⟩), .pointer (some ⟨b1_1', 0, none⟩)]), (5, .int .i64 st101.1), (6, .int .i64 st101.2.1), (19, .bool (decide (st101.2.1 < (st101.2.2.length : Int))))] (by kernel_rfl) ?_
  refine WL.nil ?_
  refine WQ.then_normal (hK115 _ _ _ ?_)
  refine WP.cond (decide (st101.2.1 < (st101.2.2.length : Int))) rfl rfl (fun hc116 => ?_) (fun hc116 => ?_)
  rotate_left
  · have hm := iteF hm hc116
    refine WP.exit ?_
    refine WQ.then_exit ?_
    refine WQ.then_exit ?_
    refine WQ.block_here ?_
    obtain rfl := Option.some.inj hm
    obtain rfl := afterN_done hl106
    have hm := hmo107
    refine WQ.then_normal (hK15 _ _ _ ?_)
    refine WP.seq (fun K171 hK171 => ?_)
    refine WP.region ?_
    refine WL.runk 2 [0, 5, 36, 37] [(0, .slice a0' st101.2.2.length c0'), (5, .int .i64 st101.1), (36, .slice a0' st101.2.2.length c0'), (37, .int .i64 st101.1)] (by kernel_rfl) ?_
    obtain ⟨x172, hx173, hm⟩ := bindE hm
    refine WL.clearTail (F := fStr) [] 38 (SH.front 0 hS105) hL104 hx173 rfl rfl Tryd.underlying22 (info9).1 (info9).2.2.1 (info9).2.1 rfl ⟨_, rfl⟩ rfl rfl rfl rfl rfl rfl rfl ?_
    intro w174 v177 hB175 hS176
    have hb178 : Below B w w174 := Below.trans hb103 hB175
    have hL179 : B ≤ w174.heap.size := Nat.le_trans hL104 hB175.size
    have hl180 : (st101.2.2.take (Int.toNat st101.1) ++ List.replicate (st101.2.2.length - Int.toNat st101.1) []).length = st101.2.2.length := cut_len (sub_le hx173)
    refine WL.sub [(0, .slice a0' ((st101.2.2.take (Int.toNat st101.1) ++ List.replicate (st101.2.2.length - Int.toNat st101.1) []).length) c0'), (5, .int .i64 st101.1), (36, .slice a0' ((st101.2.2.take (Int.toNat st101.1) ++ List.replicate (st101.2.2.length - Int.toNat st101.1) []).length) c0'), (37, .int .i64 st101.1)] ⟨by rw [hl180]; rfl, rfl, by rw [hl180]; rfl, rfl, trivial⟩ ?_
    refine WL.sub [(0, .slice a0' ((st101.2.2.take (Int.toNat st101.1) ++ List.replicate (st101.2.2.length - Int.toNat st101.1) []).length) c0'), (5, .int .i64 st101.1)] ⟨rfl, rfl, trivial⟩ ?_
    refine WL.nil ?_
    refine WQ.then_normal (hK171 _ _ _ ?_)
    refine WP.seq (fun K181 hK181 => ?_)
    refine WP.region ?_
    refine WL.runk 2 [39, 40] [(39, .slice a0' ((st101.2.2.take (Int.toNat st101.1) ++ List.replicate (st101.2.2.length - Int.toNat st101.1) []).length) c0'), (40, .int .i64 st101.1)] (by kernel_rfl) ?_
    obtain ⟨x182, hx183, hm⟩ := bindE hm
    refine WL.shrink (F := fStr) 41 (SH.front 0 hS176) hx183 rfl rfl Tryd.underlying22 (info9).1 (info9).2.1 ⟨_, rfl⟩ rfl rfl rfl rfl ?_
    intro hS184
    refine WL.runk 1 [4] [(4, .slice a0' x182.length c0')] (by kernel_rfl) ?_
    refine WL.nil ?_
    refine WQ.then_normal (hK181 _ _ _ ?_)
    refine WP.ret ?_
    obtain rfl := Option.some.inj hm
    exact WQ.ret1 _ rfl rfl ⟨_, _, rfl, hb178, hS184⟩
  have hm := iteT hm hc116
  refine WP.skip ?_
  refine WQ.then_normal (hK114 _ _ _ ?_)
  refine WP.seq (fun K117 hK117 => ?_)
  refine WP.block ?_
  refine WP.seq (fun K118 hK118 => ?_)
  refine WP.region ?_
  refine WL.runk 2 [0, 1, 5, 6, 22, 23] [(0, .slice a0' st101.2.2.length c0'), (1, .func (.func 36) #[] #[.pointer (some ⟨b1_0', 0, none⟩), .pointer (some ⟨b1_1', 0, none⟩)]), (5, .int .i64 st101.1), (6, .int .i64 st101.2.1), (22, .slice a0' st101.2.2.length c0'), (23, .int .i64 st101.2.1)] (by kernel_rfl) ?_
  obtain ⟨x119, hx120, hm⟩ := bindE hm
  refine WL.st (.pointer (some (at_ a0' (Int.toNat st101.2.1 * 1)))) (ST.index (T := fStr.ty) (xs := st101.2.2) (SH.rd (SH.front 0 hS105)) hx120 rfl rfl rfl Tryd.underlying22 (info9).1 (info9).2.1) rfl rfl rfl ?_
  refine WL.st (.string (bs x119)) (ST.load (cell_ext (Rd.flat (F := fStr) (SH.rd (SH.front 0 hS105)) hx120 0 rfl)) rfl rfl Tryd.underlying9 rfl) rfl rfl rfl ?_
  refine WL.runk 1 [0, 1, 5, 6, 7] [(0, .slice a0' st101.2.2.length c0'), (1, .func (.func 36) #[] #[.pointer (some ⟨b1_0', 0, none⟩), .pointer (some ⟨b1_1', 0, none⟩)]), (5, .int .i64 st101.1), (6, .int .i64 st101.2.1), (7, .string (bs x119))] (by kernel_rfl) ?_
  refine WL.nil ?_
  refine WQ.then_normal (hK118 _ _ _ ?_)
  refine WP.seq (fun K121 hK121 => ?_)
  refine WP.region ?_
  refine WL.runk 2 [0, 1, 5, 6, 7, 26, 27] [(0, .slice a0' st101.2.2.length c0'), (1, .func (.func 36) #[] #[.pointer (some ⟨b1_0', 0, none⟩), .pointer (some ⟨b1_1', 0, none⟩)]), (5, .int .i64 st101.1), (6, .int .i64 st101.2.1), (7, .string (bs x119)), (26, .func (.func 36) #[] #[.pointer (some ⟨b1_0', 0, none⟩), .pointer (some ⟨b1_1', 0, none⟩)]), (27, .string (bs x119))] (by kernel_rfl) ?_
  obtain ⟨x122, hx123, hm⟩ := bindE hm
  refine WL.call 36 #[.string (bs x119), .pointer (some ⟨b1_0', 0, none⟩), .pointer (some ⟨b1_1', 0, none⟩)] rfl rfl (by kernel_rfl) (c_36 n x119 cap_1_0 b1_0' 0 cap_1_1 b1_1' 0 w102 hx123 (GL.below hG (Below.trans hE0 (Below.mono hb103 hW))) (SH.boxRd (SH.front 1 hS105)) (SH.boxRd (SH.front 2 hS105))) ?_
  rintro _ w124 ⟨rfl, hE125⟩
  refine ⟨_, rfl, ?_⟩
  have hb127 : Below B w w124 := Below.trans hb103 (Below.mono hE125 hL104)
  have hL128 : B ≤ w124.heap.size := Nat.le_trans hL104 hE125.size
  have hS129 : SH w124 B (aOwn fStr 9 a0' c0' st101.2.2 :: aBox 32 b1_0' [.string (bs cap_1_0.Upper), .string (bs cap_1_0.Color), .string (bs cap_1_0.Lining), .string (bs cap_1_0.Sole), .int .i64 cap_1_0.Thick, .int .i64 cap_1_0.Heel, .int .i64 cap_1_0.Eyelets, .int .i64 cap_1_0.Density, .bool cap_1_0.Double] :: aBox 32 b1_1' [.string (bs cap_1_1.Upper), .string (bs cap_1_1.Color), .string (bs cap_1_1.Lining), .string (bs cap_1_1.Sole), .int .i64 cap_1_1.Thick, .int .i64 cap_1_1.Heel, .int .i64 cap_1_1.Eyelets, .int .i64 cap_1_1.Density, .bool cap_1_1.Double] :: L) := SH.ext hS105 hE125
  refine WL.runk 1 [0, 1, 5, 6, 7, 29] [(0, .slice a0' st101.2.2.length c0'), (1, .func (.func 36) #[] #[.pointer (some ⟨b1_0', 0, none⟩), .pointer (some ⟨b1_1', 0, none⟩)]), (5, .int .i64 st101.1), (6, .int .i64 st101.2.1), (7, .string (bs x119)), (29, .bool (!x122))] (by kernel_rfl) ?_
  refine WL.nil ?_
  refine WQ.then_normal (hK121 _ _ _ ?_)
  obtain ⟨x157, hx158, hm⟩ := bindE hm
  refine WP.cut (fun env' w' => env' = [(0, .slice a0' x157.2.length c0'), (1, .func (.func 36) #[] #[.pointer (some ⟨b1_0', 0, none⟩), .pointer (some ⟨b1_1', 0, none⟩)]), (5, .int .i64 x157.1), (6, .int .i64 st101.2.1)] ∧ Below B w w' ∧ B ≤ w'.heap.size ∧ SH w' B (aOwn fStr 9 a0' c0' x157.2 :: aBox 32 b1_0' [.string (bs cap_1_0.Upper), .string (bs cap_1_0.Color), .string (bs cap_1_0.Lining), .string (bs cap_1_0.Sole), .int .i64 cap_1_0.Thick, .int .i64 cap_1_0.Heel, .int .i64 cap_1_0.Eyelets, .int .i64 cap_1_0.Density, .bool cap_1_0.Double] :: aBox 32 b1_1' [.string (bs cap_1_1.Upper), .string (bs cap_1_1.Color), .string (bs cap_1_1.Lining), .string (bs cap_1_1.Sole), .int .i64 cap_1_1.Thick, .int .i64 cap_1_1.Heel, .int .i64 cap_1_1.Eyelets, .int .i64 cap_1_1.Density, .bool cap_1_1.Double] :: L)) ?_ ?_
  rotate_left
  · clear hx158
    rintro _ w167 ⟨rfl, hb168, hL169, hS170⟩
    refine WQ.block_normal ?_
    refine WQ.then_normal (hK117 _ _ _ ?_)
    refine WP.region ?_
    refine WL.runk 3 [0, 1, 5, 6] [(0, .slice a0' x157.2.length c0'), (1, .func (.func 36) #[] #[.pointer (some ⟨b1_0', 0, none⟩), .pointer (some ⟨b1_1', 0, none⟩)]), (5, .int .i64 x157.1), (6, .int .i64 (wI64 (st101.2.1 + 1)))] (by kernel_rfl) ?_
    refine WL.nil ?_
    obtain rfl := Option.some.inj hm
    exact WQ.round hK108 ⟨(x157.1, (wI64 (st101.2.1 + 1)), x157.2), rfl, hb168, hL169, hS170, hl106⟩ (Nat.lt_succ_self _) ⟨rfl, rfl, rfl, rfl, trivial⟩
  have hm := hx158; clear hx158
  refine WP.cond (!x122) rfl rfl (fun hc130 => ?_) (fun hc130 => ?_)
  rotate_left
  · have hm := iteF hm hc130
    refine WP.skip ?_
    obtain rfl := Option.some.inj hm
    exact WQ.post' ⟨rfl, hb127, hL128, hS129⟩ ⟨rfl, rfl, rfl, rfl, trivial⟩
  have hm := iteT hm hc130
  refine WP.seq (fun K159 hK159 => ?_)
  refine WP.region ?_
  refine WL.runk 3 [0, 1, 5, 6, 30, 31, 32] [(0, .slice a0' st101.2.2.length c0'), (1, .func (.func 36) #[] #[.pointer (some ⟨b1_0', 0, none⟩), .pointer (some ⟨b1_1', 0, none⟩)]), (5, .int .i64 st101.1), (6, .int .i64 st101.2.1), (30, .slice a0' st101.2.2.length c0'), (31, .int .i64 st101.1), (32, .string (bs x119))] (by kernel_rfl) ?_
  obtain ⟨x160, hx161, hm⟩ := bindE hm
  refine WL.st (.pointer (some (at_ a0' (Int.toNat st101.1 * 1)))) (ST.index (T := fStr.ty) (xs := st101.2.2) (SH.rd (SH.front 0 hS129)) hx161 rfl rfl rfl Tryd.underlying22 (info9).1 (info9).2.1) rfl rfl rfl ?_
  refine WL.store (F := fStr) x119 0 [.string (bs x119)] (SH.front 0 hS129) hL128 hx161 rfl rfl rfl rfl rfl rfl rfl (info9).1 (info9).2.1 rfl rfl rfl ?_
  intro w162 hB163 hS164
  have hb165 : Below B w w162 := Below.trans hb127 hB163
  have hL166 : B ≤ w162.heap.size := Nat.le_trans hL128 hB163.size
  refine WL.sub [(0, .slice a0' ((st101.2.2.set (Int.toNat st101.1) x119).length) c0'), (1, .func (.func 36) #[] #[.pointer (some ⟨b1_0', 0, none⟩), .pointer (some ⟨b1_1', 0, none⟩)]), (5, .int .i64 st101.1), (6, .int .i64 st101.2.1), (30, .slice a0' ((st101.2.2.set (Int.toNat st101.1) x119).length) c0'), (31, .int .i64 st101.1), (32, .string (bs x119))] ⟨by first | (simp only [List.length_set]; done) | (simp only [List.length_set]; rfl), rfl, rfl, rfl, by first | (simp only [List.length_set]; done) | (simp only [List.length_set]; rfl), rfl, rfl, trivial⟩ ?_
  refine WL.sub [(0, .slice a0' ((st101.2.2.set (Int.toNat st101.1) x119).length) c0'), (1, .func (.func 36) #[] #[.pointer (some ⟨b1_0', 0, none⟩), .pointer (some ⟨b1_1', 0, none⟩)]), (5, .int .i64 st101.1), (6, .int .i64 st101.2.1)] ⟨rfl, rfl, rfl, rfl, trivial⟩ ?_
  refine WL.nil ?_
  refine WQ.then_normal (hK159 _ _ _ ?_)
  refine WP.region ?_
  refine WL.runk 3 [0, 1, 5, 6] [(0, .slice a0' ((st101.2.2.set (Int.toNat st101.1) x119).length) c0'), (1, .func (.func 36) #[] #[.pointer (some ⟨b1_0', 0, none⟩), .pointer (some ⟨b1_1', 0, none⟩)]), (5, .int .i64 (wI64 (st101.1 + 1))), (6, .int .i64 st101.2.1)] (by kernel_rfl) ?_
  refine WL.nil ?_
  obtain rfl := Option.some.inj hm
  exact WQ.post' ⟨rfl, hb165, hL166, hS164⟩ ⟨rfl, rfl, rfl, rfl, trivial⟩

theorem c_16 (n : Nat) (a_0 : SStyle) (b_1 : SStyle) (w : World) {r : List (List UInt8) × Int} (hm : m_impl_DiffStyles n a_0 b_1 = some r) (hG : GL 2 w) :
    CallV Tryd.prog 16 #[.agg #[.string (bs a_0.Upper), .string (bs a_0.Color), .string (bs a_0.Lining), .string (bs a_0.Sole), .int .i64 a_0.Thick, .int .i64 a_0.Heel, .int .i64 a_0.Eyelets, .int .i64 a_0.Density, .bool a_0.Double], .agg #[.string (bs b_1.Upper), .string (bs b_1.Color), .string (bs b_1.Lining), .string (bs b_1.Sole), .int .i64 b_1.Thick, .int .i64 b_1.Heel, .int .i64 b_1.Eyelets, .int .i64 b_1.Density, .bool b_1.Double]] w (fun v w' => ∃ (ra0 : Option Addr) (rc0 : Nat), v = .tuple #[.slice ra0 r.1.length rc0, .int .i64 r.2] ∧ Ext w w' ∧ SH w' w.heap.size [aOwn fStr 9 ra0 rc0 r.1]) := by
  unfold m_impl_DiffStyles at hm
  refine CallV.enter Tryd.func16 rfl (by kernel_rfl) Tryd.ntmps16 (env := [(0, .agg #[.string (bs a_0.Upper), .string (bs a_0.Color), .string (bs a_0.Lining), .string (bs a_0.Sole), .int .i64 a_0.Thick, .int .i64 a_0.Heel, .int .i64 a_0.Eyelets, .int .i64 a_0.Density, .bool a_0.Double]), (1, .agg #[.string (bs b_1.Upper), .string (bs b_1.Color), .string (bs b_1.Lining), .string (bs b_1.Sole), .int .i64 b_1.Thick, .int .i64 b_1.Heel, .int .i64 b_1.Eyelets, .int .i64 b_1.Density, .bool b_1.Double])]) ⟨rfl, rfl, trivial⟩ ?_
  refine WP.seq (fun K1 hK1 => ?_)
  refine WP.region ?_
  refine WL.box 32 [.string (bs a_0.Upper), .string (bs a_0.Color), .string (bs a_0.Lining), .string (bs a_0.Sole), .int .i64 a_0.Thick, .int .i64 a_0.Heel, .int .i64 a_0.Eyelets, .int .i64 a_0.Density, .bool a_0.Double] 2 (by kernel_rfl) rfl rfl rfl rfl ?_
  intro b2 w3 hE4 hR5
  have hb7 : Ext w w3 := Ext.trans (Ext.refl w) hE4
  have hL8 : w.heap.size ≤ w3.heap.size := Nat.le_trans (Nat.le_refl _) hE4.size
  have hS9 : SH w3 w.heap.size [aBox 32 b2 [.string (bs a_0.Upper), .string (bs a_0.Color), .string (bs a_0.Lining), .string (bs a_0.Sole), .int .i64 a_0.Thick, .int .i64 a_0.Heel, .int .i64 a_0.Eyelets, .int .i64 a_0.Density, .bool a_0.Double]] := SH.add (SH.nil _ _) hE4 (Nat.le_refl _) hR5
  refine WL.box 32 [.string (bs b_1.Upper), .string (bs b_1.Color), .string (bs b_1.Lining), .string (bs b_1.Sole), .int .i64 b_1.Thick, .int .i64 b_1.Heel, .int .i64 b_1.Eyelets, .int .i64 b_1.Density, .bool b_1.Double] 3 (by kernel_rfl) rfl rfl rfl rfl ?_
  intro b10 w11 hE12 hR13
  have hb15 : Ext w w11 := Ext.trans hb7 hE12
  have hL16 : w.heap.size ≤ w11.heap.size := Nat.le_trans hL8 hE12.size
  have hS17 : SH w11 w.heap.size [aBox 32 b10 [.string (bs b_1.Upper), .string (bs b_1.Color), .string (bs b_1.Lining), .string (bs b_1.Sole), .int .i64 b_1.Thick, .int .i64 b_1.Heel, .int .i64 b_1.Eyelets, .int .i64 b_1.Density, .bool b_1.Double], aBox 32 b2 [.string (bs a_0.Upper), .string (bs a_0.Color), .string (bs a_0.Lining), .string (bs a_0.Sole), .int .i64 a_0.Thick, .int .i64 a_0.Heel, .int .i64 a_0.Eyelets, .int .i64 a_0.Density, .bool a_0.Double]] := SH.add hS9 hE12 hL8 hR13
  refine WL.runk 2 [2, 3] [(2, .pointer (some ⟨b2, 0, none⟩)), (3, .pointer (some ⟨b10, 0, none⟩))] (by kernel_rfl) ?_
  refine WL.nil ?_
  refine WQ.then_normal (hK1 _ _ _ ?_)
  refine WP.seq (fun K18 hK18 => ?_)
  refine WP.seq (fun K19 hK19 => ?_)
  obtain ⟨x37, hx38, hm⟩ := bindE hm
  refine WP.cut (fun env' w' => env' = [(2, .pointer (some ⟨b2, 0, none⟩)), (3, .pointer (some ⟨b10, 0, none⟩)), (13, .bool x37)] ∧ Ext w w' ∧ w.heap.size ≤ w'.heap.size ∧ SH w' w.heap.size [aBox 32 b10 [.string (bs b_1.Upper), .string (bs b_1.Color), .string (bs b_1.Lining), .string (bs b_1.Sole), .int .i64 b_1.Thick, .int .i64 b_1.Heel, .int .i64 b_1.Eyelets, .int .i64 b_1.Density, .bool b_1.Double], aBox 32 b2 [.string (bs a_0.Upper), .string (bs a_0.Color), .string (bs a_0.Lining), .string (bs a_0.Sole), .int .i64 a_0.Thick, .int .i64 a_0.Heel, .int .i64 a_0.Eyelets, .int .i64 a_0.Density, .bool a_0.Double]]) ?_ ?_
  · have hm := hx38; clear hx38
    refine WP.region ?_
    refine WL.st (.agg #[.string (bs a_0.Upper), .string (bs a_0.Color), .string (bs a_0.Lining), .string (bs a_0.Sole), .int .i64 a_0.Thick, .int .i64 a_0.Heel, .int .i64 a_0.Eyelets, .int .i64 a_0.Density, .bool a_0.Double]) (ST.loadAgg (vs := [.string (bs a_0.Upper), .string (bs a_0.Color), .string (bs a_0.Lining), .string (bs a_0.Sole), .int .i64 a_0.Thick, .int .i64 a_0.Heel, .int .i64 a_0.Eyelets, .int .i64 a_0.Density, .bool a_0.Double]) (fun j v hv => SH.boxPart (us := [.string (bs a_0.Upper), .string (bs a_0.Color), .string (bs a_0.Lining), .string (bs a_0.Sole), .int .i64 a_0.Thick, .int .i64 a_0.Heel, .int .i64 a_0.Eyelets, .int .i64 a_0.Density, .bool a_0.Double]) (SH.front 1 hS17) 0 rfl j v hv) rfl rfl rfl Tryd.underlying32 rfl (info32).1 (info32).2.1) rfl rfl rfl ?_
    obtain ⟨x39, hx40, hm⟩ := bindE hm
    refine WL.call 33 #[.agg #[.string (bs a_0.Upper), .string (bs a_0.Color), .string (bs a_0.Lining), .string (bs a_0.Sole), .int .i64 a_0.Thick, .int .i64 a_0.Heel, .int .i64 a_0.Eyelets, .int .i64 a_0.Density, .bool a_0.Double]] rfl rfl (by kernel_rfl) (c_33 n a_0 w11 hx40 ) ?_
    rintro _ w41 ⟨rfl, hE42⟩
    refine ⟨_, rfl, ?_⟩
    have hb44 : Ext w w41 := Ext.trans hb15 hE42
    have hL45 : w.heap.size ≤ w41.heap.size := Nat.le_trans hL16 hE42.size
    have hS46 : SH w41 w.heap.size [aBox 32 b10 [.string (bs b_1.Upper), .string (bs b_1.Color), .string (bs b_1.Lining), .string (bs b_1.Sole), .int .i64 b_1.Thick, .int .i64 b_1.Heel, .int .i64 b_1.Eyelets, .int .i64 b_1.Density, .bool b_1.Double], aBox 32 b2 [.string (bs a_0.Upper), .string (bs a_0.Color), .string (bs a_0.Lining), .string (bs a_0.Sole), .int .i64 a_0.Thick, .int .i64 a_0.Heel, .int .i64 a_0.Eyelets, .int .i64 a_0.Density, .bool a_0.Double]] := SH.ext hS17 hE42
    refine WL.runk 2 [2, 3, 9] [(2, .pointer (some ⟨b2, 0, none⟩)), (3, .pointer (some ⟨b10, 0, none⟩)), (9, .bool (!x39))] (by kernel_rfl) ?_
    refine WL.case (!x39) [9] ⟨rfl, trivial⟩ (fun hc47 => ?_) (fun hc47 => ?_)
    · have hm := iteT hm hc47
      refine WL.runk 4 [2, 3, 13] [(2, .pointer (some ⟨b2, 0, none⟩)), (3, .pointer (some ⟨b10, 0, none⟩)), (13, .bool true)] (by kernel_rfl) ?_
      refine WL.nil ?_
      obtain rfl := Option.some.inj hm
      exact WQ.post' ⟨rfl, hb44, hL45, hS46⟩ ⟨rfl, rfl, rfl, trivial⟩
    have hm := iteF hm hc47
    refine WL.st (.agg #[.string (bs b_1.Upper), .string (bs b_1.Color), .string (bs b_1.Lining), .string (bs b_1.Sole), .int .i64 b_1.Thick, .int .i64 b_1.Heel, .int .i64 b_1.Eyelets, .int .i64 b_1.Density, .bool b_1.Double]) (ST.loadAgg (vs := [.string (bs b_1.Upper), .string (bs b_1.Color), .string (bs b_1.Lining), .string (bs b_1.Sole), .int .i64 b_1.Thick, .int .i64 b_1.Heel, .int .i64 b_1.Eyelets, .int .i64 b_1.Density, .bool b_1.Double]) (fun j v hv => SH.boxPart (us := [.string (bs b_1.Upper), .string (bs b_1.Color), .string (bs b_1.Lining), .string (bs b_1.Sole), .int .i64 b_1.Thick, .int .i64 b_1.Heel, .int .i64 b_1.Eyelets, .int .i64 b_1.Density, .bool b_1.Double]) (SH.front 0 hS46) 0 rfl j v hv) rfl rfl rfl Tryd.underlying32 rfl (info32).1 (info32).2.1) rfl rfl rfl ?_
    obtain ⟨x48, hx49, hm⟩ := bindE hm
    refine WL.call 33 #[.agg #[.string (bs b_1.Upper), .string (bs b_1.Color), .string (bs b_1.Lining), .string (bs b_1.Sole), .int .i64 b_1.Thick, .int .i64 b_1.Heel, .int .i64 b_1.Eyelets, .int .i64 b_1.Density, .bool b_1.Double]] rfl rfl (by kernel_rfl) (c_33 n b_1 w41 hx49 ) ?_
    rintro _ w50 ⟨rfl, hE51⟩
    refine ⟨_, rfl, ?_⟩
    have hb53 : Ext w w50 := Ext.trans hb44 hE51
    have hL54 : w.heap.size ≤ w50.heap.size := Nat.le_trans hL45 hE51.size
    have hS55 : SH w50 w.heap.size [aBox 32 b10 [.string (bs b_1.Upper), .string (bs b_1.Color), .string (bs b_1.Lining), .string (bs b_1.Sole), .int .i64 b_1.Thick, .int .i64 b_1.Heel, .int .i64 b_1.Eyelets, .int .i64 b_1.Density, .bool b_1.Double], aBox 32 b2 [.string (bs a_0.Upper), .string (bs a_0.Color), .string (bs a_0.Lining), .string (bs a_0.Sole), .int .i64 a_0.Thick, .int .i64 a_0.Heel, .int .i64 a_0.Eyelets, .int .i64 a_0.Density, .bool a_0.Double]] := SH.ext hS46 hE51
    refine WL.runk 2 [2, 3, 13] [(2, .pointer (some ⟨b2, 0, none⟩)), (3, .pointer (some ⟨b10, 0, none⟩)), (13, .bool (!x48))] (by kernel_rfl) ?_
    refine WL.nil ?_
    obtain rfl := Option.some.inj hm
    exact WQ.post' ⟨rfl, hb53, hL54, hS55⟩ ⟨rfl, rfl, rfl, trivial⟩
  clear hx38
  rintro _ w56 ⟨rfl, hb57, hL58, hS59⟩
  refine WQ.then_normal (hK19 _ _ _ ?_)
  refine WP.cond x37 rfl rfl (fun hc60 => ?_) (fun hc60 => ?_)
  · have hm := iteT hm hc60
    refine WP.seq (fun K61 hK61 => ?_)
    refine WP.region ?_
    refine WL.runk 2 [4, 5] [(4, .slice none 0 0), (5, .int .i64 1)] (by kernel_rfl) ?_
    refine WL.nil ?_
    refine WQ.then_normal (hK61 _ _ _ ?_)
    refine WP.ret ?_
    refine WQ.then_ret ?_
    obtain rfl := Option.some.inj hm
    have hS63 : SH w56 w.heap.size [aOwn fStr 9 none 0 ([] : List (List UInt8)), aBox 32 b10 [.string (bs b_1.Upper), .string (bs b_1.Color), .string (bs b_1.Lining), .string (bs b_1.Sole), .int .i64 b_1.Thick, .int .i64 b_1.Heel, .int .i64 b_1.Eyelets, .int .i64 b_1.Density, .bool b_1.Double], aBox 32 b2 [.string (bs a_0.Upper), .string (bs a_0.Color), .string (bs a_0.Lining), .string (bs a_0.Sole), .int .i64 a_0.Thick, .int .i64 a_0.Heel, .int .i64 a_0.Eyelets, .int .i64 a_0.Density, .bool a_0.Double]] := SH.nilOwn hS59
    exact WQ.ret2 _ _ rfl rfl rfl ⟨_, _, rfl, hb57, (SH.take 1 hS63)⟩
  have hm := iteF hm hc60
  refine WP.skip ?_
  refine WQ.then_normal (hK18 _ _ _ ?_)
  refine WP.seq (fun K64 hK64 => ?_)
  refine WP.region ?_
  obtain ⟨x65, hx66, hm⟩ := bindE hm
  refine WL.call 35 #[] rfl rfl (by kernel_rfl) (c_35 n  w56 hx66 ) ?_
  rintro _ w70 ⟨a67, c68, rfl, hE71, hR72⟩
  refine ⟨_, rfl, ?_⟩
  have hb73 : Ext w w70 := Ext.trans hb57 hE71
  have hL74 : w.heap.size ≤ w70.heap.size := Nat.le_trans hL58 hE71.size
  have hS75 : SH w70 w.heap.size [aOwn fStr 9 a67 c68 x65, aBox 32 b10 [.string (bs b_1.Upper), .string (bs b_1.Color), .string (bs b_1.Lining), .string (bs b_1.Sole), .int .i64 b_1.Thick, .int .i64 b_1.Heel, .int .i64 b_1.Eyelets, .int .i64 b_1.Density, .bool b_1.Double], aBox 32 b2 [.string (bs a_0.Upper), .string (bs a_0.Color), .string (bs a_0.Lining), .string (bs a_0.Sole), .int .i64 a_0.Thick, .int .i64 a_0.Heel, .int .i64 a_0.Eyelets, .int .i64 a_0.Density, .bool a_0.Double]] := SH.add hS59 hE71 hL58 hR72
  refine WL.runk 1 [14, 15] [(14, .slice a67 x65.length c68), (15, .func (.func 36) #[] #[.pointer (some ⟨b2, 0, none⟩), .pointer (some ⟨b10, 0, none⟩)])] (by kernel_rfl) ?_
  obtain ⟨x76, hx77, hm⟩ := bindE hm
  refine WL.call 34 #[.slice a67 x65.length c68, .func (.func 36) #[] #[.pointer (some ⟨b2, 0, none⟩), .pointer (some ⟨b10, 0, none⟩)]] rfl rfl (by kernel_rfl) (c_34_36_o1 n x65 a67 c68 a_0 b2 b_1 b10 w70 w w.heap.size [] hx77 hb73 (Nat.le_refl _) hL74 hG (SH.front 2 (SH.front 2 (SH.front 1 hS75)))) ?_
  rintro _ w81 ⟨a78, c79, rfl, hB85, hS84⟩
  refine ⟨_, rfl, ?_⟩
  have hb86 : Ext w w81 := Below.trans hb73 hB85
  have hL87 : w.heap.size ≤ w81.heap.size := Nat.le_trans hL74 hB85.size
  refine WL.runk 2 [4, 5] [(4, .slice a78 x76.length c79), (5, .int .i64 0)] (by kernel_rfl) ?_
  refine WL.nil ?_
  refine WQ.then_normal (hK64 _ _ _ ?_)
  refine WP.ret ?_
  obtain rfl := Option.some.inj hm
  exact WQ.ret2 _ _ rfl rfl rfl ⟨_, _, rfl, hb86, (SH.take 1 hS84)⟩

theorem c_4 (n : Nat) (aA_0 : SStyle) (aB_1 : SStyle) (w : World) {r : Bool} (hm : m_laws_FnExactDiffStyles n aA_0 aB_1 = some r) (hG : GL 2 w) :
    CallV Tryd.prog 4 #[.agg #[.string (bs aA_0.Upper), .string (bs aA_0.Color), .string (bs aA_0.Lining), .string (bs aA_0.Sole), .int .i64 aA_0.Thick, .int .i64 aA_0.Heel, .int .i64 aA_0.Eyelets, .int .i64 aA_0.Density, .bool aA_0.Double], .agg #[.string (bs aB_1.Upper), .string (bs aB_1.Color), .string (bs aB_1.Lining), .string (bs aB_1.Sole), .int .i64 aB_1.Thick, .int .i64 aB_1.Heel, .int .i64 aB_1.Eyelets, .int .i64 aB_1.Density, .bool aB_1.Double]] w (fun v w' => v = .bool r ∧ Ext w w') := by
  unfold m_laws_FnExactDiffStyles at hm
  refine CallV.enter Tryd.func4 rfl (by kernel_rfl) Tryd.ntmps4 (env := [(0, .agg #[.string (bs aA_0.Upper), .string (bs aA_0.Color), .string (bs aA_0.Lining), .string (bs aA_0.Sole), .int .i64 aA_0.Thick, .int .i64 aA_0.Heel, .int .i64 aA_0.Eyelets, .int .i64 aA_0.Density, .bool aA_0.Double]), (1, .agg #[.string (bs aB_1.Upper), .string (bs aB_1.Color), .string (bs aB_1.Lining), .string (bs aB_1.Sole), .int .i64 aB_1.Thick, .int .i64 aB_1.Heel, .int .i64 aB_1.Eyelets, .int .i64 aB_1.Density, .bool aB_1.Double])]) ⟨rfl, rfl, trivial⟩ ?_
  refine WP.seq (fun K1 hK1 => ?_)
  refine WP.region ?_
  refine WL.box 29 [.string (bs aA_0.Upper), .string (bs aA_0.Color), .string (bs aA_0.Lining), .string (bs aA_0.Sole), .int .i64 aA_0.Thick, .int .i64 aA_0.Heel, .int .i64 aA_0.Eyelets, .int .i64 aA_0.Density, .bool aA_0.Double] 2 (by kernel_rfl) rfl rfl rfl rfl ?_
  intro b2 w3 hE4 hR5
  have hb7 : Ext w w3 := Ext.trans (Ext.refl w) hE4
  have hL8 : w.heap.size ≤ w3.heap.size := Nat.le_trans (Nat.le_refl _) hE4.size
  have hS9 : SH w3 w.heap.size [aBox 29 b2 [.string (bs aA_0.Upper), .string (bs aA_0.Color), .string (bs aA_0.Lining), .string (bs aA_0.Sole), .int .i64 aA_0.Thick, .int .i64 aA_0.Heel, .int .i64 aA_0.Eyelets, .int .i64 aA_0.Density, .bool aA_0.Double]] := SH.add (SH.nil _ _) hE4 (Nat.le_refl _) hR5
  refine WL.box 29 [.string (bs aB_1.Upper), .string (bs aB_1.Color), .string (bs aB_1.Lining), .string (bs aB_1.Sole), .int .i64 aB_1.Thick, .int .i64 aB_1.Heel, .int .i64 aB_1.Eyelets, .int .i64 aB_1.Density, .bool aB_1.Double] 3 (by kernel_rfl) rfl rfl rfl rfl ?_
  intro b10 w11 hE12 hR13
  have hb15 : Ext w w11 := Ext.trans hb7 hE12
  have hL16 : w.heap.size ≤ w11.heap.size := Nat.le_trans hL8 hE12.size
  have hS17 : SH w11 w.heap.size [aBox 29 b10 [.string (bs aB_1.Upper), .string (bs aB_1.Color), .string (bs aB_1.Lining), .string (bs aB_1.Sole), .int .i64 aB_1.Thick, .int .i64 aB_1.Heel, .int .i64 aB_1.Eyelets, .int .i64 aB_1.Density, .bool aB_1.Double], aBox 29 b2 [.string (bs aA_0.Upper), .string (bs aA_0.Color), .string (bs aA_0.Lining), .string (bs aA_0.Sole), .int .i64 aA_0.Thick, .int .i64 aA_0.Heel, .int .i64 aA_0.Eyelets, .int .i64 aA_0.Density, .bool aA_0.Double]] := SH.add hS9 hE12 hL8 hR13
  refine WL.runk 1 [2, 3] [(2, .pointer (some ⟨b2, 0, none⟩)), (3, .pointer (some ⟨b10, 0, none⟩))] (by kernel_rfl) ?_
  refine WL.nil ?_
  refine WQ.then_normal (hK1 _ _ _ ?_)
  refine WP.seq (fun K18 hK18 => ?_)
  refine WP.region ?_
  refine WL.runk 1 [2, 3, 5] [(2, .pointer (some ⟨b2, 0, none⟩)), (3, .pointer (some ⟨b10, 0, none⟩)), (5, .int .i64 1048576)] (by kernel_rfl) ?_
  refine WL.nil ?_
  refine WQ.then_normal (hK18 _ _ _ ?_)
  refine WP.seq (fun K19 hK19 => ?_)
  refine WP.region ?_
  refine WL.st (.agg #[.string (bs aA_0.Upper), .string (bs aA_0.Color), .string (bs aA_0.Lining), .string (bs aA_0.Sole), .int .i64 aA_0.Thick, .int .i64 aA_0.Heel, .int .i64 aA_0.Eyelets, .int .i64 aA_0.Density, .bool aA_0.Double]) (ST.loadAgg (vs := [.string (bs aA_0.Upper), .string (bs aA_0.Color), .string (bs aA_0.Lining), .string (bs aA_0.Sole), .int .i64 aA_0.Thick, .int .i64 aA_0.Heel, .int .i64 aA_0.Eyelets, .int .i64 aA_0.Density, .bool aA_0.Double]) (fun j v hv => SH.boxPart (us := [.string (bs aA_0.Upper), .string (bs aA_0.Color), .string (bs aA_0.Lining), .string (bs aA_0.Sole), .int .i64 aA_0.Thick, .int .i64 aA_0.Heel, .int .i64 aA_0.Eyelets, .int .i64 aA_0.Density, .bool aA_0.Double]) (SH.front 1 hS17) 0 rfl j v hv) rfl rfl rfl Tryd.underlying29 rfl (info29).1 (info29).2.1) rfl rfl rfl ?_
  refine WL.runk 1 [2, 3, 14, 15] [(2, .pointer (some ⟨b2, 0, none⟩)), (3, .pointer (some ⟨b10, 0, none⟩)), (14, .agg #[.string (bs aA_0.Upper), .string (bs aA_0.Color), .string (bs aA_0.Lining), .string (bs aA_0.Sole), .int .i64 aA_0.Thick, .int .i64 aA_0.Heel, .int .i64 aA_0.Eyelets, .int .i64 aA_0.Density, .bool aA_0.Double]), (15, .int .i64 1048576)] (by kernel_rfl) ?_
  obtain ⟨x20, hx21, hm⟩ := bindE hm
  refine WL.call 13 #[.agg #[.string (bs aA_0.Upper), .string (bs aA_0.Color), .string (bs aA_0.Lining), .string (bs aA_0.Sole), .int .i64 aA_0.Thick, .int .i64 aA_0.Heel, .int .i64 aA_0.Eyelets, .int .i64 aA_0.Density, .bool aA_0.Double], .int .i64 1048576] rfl rfl (by kernel_rfl) (c_13 n aA_0 1048576 w11 hx21 ) ?_
  rintro _ w22 ⟨rfl, hE23⟩
  refine ⟨_, rfl, ?_⟩
  have hb25 : Ext w w22 := Ext.trans hb15 hE23
  have hL26 : w.heap.size ≤ w22.heap.size := Nat.le_trans hL16 hE23.size
  have hS27 : SH w22 w.heap.size [aBox 29 b10 [.string (bs aB_1.Upper), .string (bs aB_1.Color), .string (bs aB_1.Lining), .string (bs aB_1.Sole), .int .i64 aB_1.Thick, .int .i64 aB_1.Heel, .int .i64 aB_1.Eyelets, .int .i64 aB_1.Density, .bool aB_1.Double], aBox 29 b2 [.string (bs aA_0.Upper), .string (bs aA_0.Color), .string (bs aA_0.Lining), .string (bs aA_0.Sole), .int .i64 aA_0.Thick, .int .i64 aA_0.Heel, .int .i64 aA_0.Eyelets, .int .i64 aA_0.Density, .bool aA_0.Double]] := SH.ext hS17 hE23
  refine WL.runk 1 [2, 3, 5] [(2, .pointer (some ⟨b2, 0, none⟩)), (3, .pointer (some ⟨b10, 0, none⟩)), (5, .int .i64 x20)] (by kernel_rfl) ?_
  refine WL.nil ?_
  refine WQ.then_normal (hK19 _ _ _ ?_)
  refine WP.seq (fun K28 hK28 => ?_)
  refine WP.seq (fun K29 hK29 => ?_)
  refine WP.region ?_
  refine WL.runk 2 [2, 3, 5, 18] [(2, .pointer (some ⟨b2, 0, none⟩)), (3, .pointer (some ⟨b10, 0, none⟩)), (5, .int .i64 x20), (18, .bool (decide (x20 < 0)))] (by kernel_rfl) ?_
  refine WL.nil ?_
  refine WQ.then_normal (hK29 _ _ _ ?_)
  refine WP.cond (decide (x20 < 0)) rfl rfl (fun hc30 => ?_) (fun hc30 => ?_)
  · have hm := iteT hm hc30
    refine WP.seq (fun K31 hK31 => ?_)
    refine WP.region ?_
    refine WL.runk 1 [4] [(4, .bool true)] (by kernel_rfl) ?_
    refine WL.nil ?_
    refine WQ.then_normal (hK31 _ _ _ ?_)
    refine WP.ret ?_
    refine WQ.then_ret ?_
    obtain rfl := Option.some.inj hm
    exact WQ.ret1 _ rfl rfl ⟨rfl, hb25⟩
  have hm := iteF hm hc30
  refine WP.skip ?_
  refine WQ.then_normal (hK28 _ _ _ ?_)
  refine WP.seq (fun K32 hK32 => ?_)
  refine WP.region ?_
  refine WL.st (.agg #[.string (bs aB_1.Upper), .string (bs aB_1.Color), .string (bs aB_1.Lining), .string (bs aB_1.Sole), .int .i64 aB_1.Thick, .int .i64 aB_1.Heel, .int .i64 aB_1.Eyelets, .int .i64 aB_1.Density, .bool aB_1.Double]) (ST.loadAgg (vs := [.string (bs aB_1.Upper), .string (bs aB_1.Color), .string (bs aB_1.Lining), .string (bs aB_1.Sole), .int .i64 aB_1.Thick, .int .i64 aB_1.Heel, .int .i64 aB_1.Eyelets, .int .i64 aB_1.Density, .bool aB_1.Double]) (fun j v hv => SH.boxPart (us := [.string (bs aB_1.Upper), .string (bs aB_1.Color), .string (bs aB_1.Lining), .string (bs aB_1.Sole), .int .i64 aB_1.Thick, .int .i64 aB_1.Heel, .int .i64 aB_1.Eyelets, .int .i64 aB_1.Density, .bool aB_1.Double]) (SH.front 0 hS27) 0 rfl j v hv) rfl rfl rfl Tryd.underlying29 rfl (info29).1 (info29).2.1) rfl rfl rfl ?_
  refine WL.runk 1 [2, 3, 19, 20] [(2, .pointer (some ⟨b2, 0, none⟩)), (3, .pointer (some ⟨b10, 0, none⟩)), (19, .agg #[.string (bs aB_1.Upper), .string (bs aB_1.Color), .string (bs aB_1.Lining), .string (bs aB_1.Sole), .int .i64 aB_1.Thick, .int .i64 aB_1.Heel, .int .i64 aB_1.Eyelets, .int .i64 aB_1.Density, .bool aB_1.Double]), (20, .int .i64 x20)] (by kernel_rfl) ?_
  obtain ⟨x33, hx34, hm⟩ := bindE hm
  refine WL.call 13 #[.agg #[.string (bs aB_1.Upper), .string (bs aB_1.Color), .string (bs aB_1.Lining), .string (bs aB_1.Sole), .int .i64 aB_1.Thick, .int .i64 aB_1.Heel, .int .i64 aB_1.Eyelets, .int .i64 aB_1.Density, .bool aB_1.Double], .int .i64 x20] rfl rfl (by kernel_rfl) (c_13 n aB_1 x20 w22 hx34 ) ?_
  rintro _ w35 ⟨rfl, hE36⟩
  refine ⟨_, rfl, ?_⟩
  have hb38 : Ext w w35 := Ext.trans hb25 hE36
  have hL39 : w.heap.size ≤ w35.heap.size := Nat.le_trans hL26 hE36.size
  have hS40 : SH w35 w.heap.size [aBox 29 b10 [.string (bs aB_1.Upper), .string (bs aB_1.Color), .string (bs aB_1.Lining), .string (bs aB_1.Sole), .int .i64 aB_1.Thick, .int .i64 aB_1.Heel, .int .i64 aB_1.Eyelets, .int .i64 aB_1.Density, .bool aB_1.Double], aBox 29 b2 [.string (bs aA_0.Upper), .string (bs aA_0.Color), .string (bs aA_0.Lining), .string (bs aA_0.Sole), .int .i64 aA_0.Thick, .int .i64 aA_0.Heel, .int .i64 aA_0.Eyelets, .int .i64 aA_0.Density, .bool aA_0.Double]] := SH.ext hS27 hE36
  refine WL.runk 1 [2, 3, 5] [(2, .pointer (some ⟨b2, 0, none⟩)), (3, .pointer (some ⟨b10, 0, none⟩)), (5, .int .i64 x33)] (by kernel_rfl) ?_
  refine WL.nil ?_
  refine WQ.then_normal (hK32 _ _ _ ?_)
  refine WP.seq (fun K41 hK41 => ?_)
  refine WP.seq (fun K42 hK42 => ?_)
  refine WP.region ?_
  refine WL.runk 2 [2, 3, 23] [(2, .pointer (some ⟨b2, 0, none⟩)), (3, .pointer (some ⟨b10, 0, none⟩)), (23, .bool (decide (x33 < 0)))] (by kernel_rfl) ?_
  refine WL.nil ?_
  refine WQ.then_normal (hK42 _ _ _ ?_)
  refine WP.cond (decide (x33 < 0)) rfl rfl (fun hc43 => ?_) (fun hc43 => ?_)
  · have hm := iteT hm hc43
    refine WP.seq (fun K44 hK44 => ?_)
    refine WP.region ?_
    refine WL.runk 1 [4] [(4, .bool true)] (by kernel_rfl) ?_
    refine WL.nil ?_
    refine WQ.then_normal (hK44 _ _ _ ?_)
    refine WP.ret ?_
    refine WQ.then_ret ?_
    obtain rfl := Option.some.inj hm
    exact WQ.ret1 _ rfl rfl ⟨rfl, hb38⟩
  have hm := iteF hm hc43
  refine WP.skip ?_
  refine WQ.then_normal (hK41 _ _ _ ?_)
  refine WP.seq (fun K45 hK45 => ?_)
  refine WP.open (n := 10) (by kernel_rfl) rfl (fun w46 hE47 => ?_)
  have hb48 : Ext w w46 := Ext.trans hb38 hE47
  have hL49 : w.heap.size ≤ w46.heap.size := Nat.le_trans hL39 hE47.size
  have hS50 : SH w46 w.heap.size [aBox 29 b10 [.string (bs aB_1.Upper), .string (bs aB_1.Color), .string (bs aB_1.Lining), .string (bs aB_1.Sole), .int .i64 aB_1.Thick, .int .i64 aB_1.Heel, .int .i64 aB_1.Eyelets, .int .i64 aB_1.Density, .bool aB_1.Double], aBox 29 b2 [.string (bs aA_0.Upper), .string (bs aA_0.Color), .string (bs aA_0.Lining), .string (bs aA_0.Sole), .int .i64 aA_0.Thick, .int .i64 aA_0.Heel, .int .i64 aA_0.Eyelets, .int .i64 aA_0.Density, .bool aA_0.Double]] := SH.ext hS40 hE47
  refine WA.quiet (f' := 6) (D' := [0, 1, 2, 3]) [0, 1, 2, 3] rfl rfl (by kernel_rfl) ?_
  refine QL.st (.agg #[.string (bs aA_0.Upper), .string (bs aA_0.Color), .string (bs aA_0.Lining), .string (bs aA_0.Sole), .int .i64 aA_0.Thick, .int .i64 aA_0.Heel, .int .i64 aA_0.Eyelets, .int .i64 aA_0.Density, .bool aA_0.Double]) (ST.loadAgg (vs := [.string (bs aA_0.Upper), .string (bs aA_0.Color), .string (bs aA_0.Lining), .string (bs aA_0.Sole), .int .i64 aA_0.Thick, .int .i64 aA_0.Heel, .int .i64 aA_0.Eyelets, .int .i64 aA_0.Density, .bool aA_0.Double]) (fun j v hv => SH.boxPart (us := [.string (bs aA_0.Upper), .string (bs aA_0.Color), .string (bs aA_0.Lining), .string (bs aA_0.Sole), .int .i64 aA_0.Thick, .int .i64 aA_0.Heel, .int .i64 aA_0.Eyelets, .int .i64 aA_0.Density, .bool aA_0.Double]) (SH.front 1 hS50) 0 rfl j v hv) rfl rfl rfl Tryd.underlying29 rfl (info29).1 (info29).2.1) rfl rfl rfl ?_
  obtain ⟨x51, hx52, hm⟩ := bindE hm
  refine QL.call 15 #[.agg #[.string (bs aA_0.Upper), .string (bs aA_0.Color), .string (bs aA_0.Lining), .string (bs aA_0.Sole), .int .i64 aA_0.Thick, .int .i64 aA_0.Heel, .int .i64 aA_0.Eyelets, .int .i64 aA_0.Density, .bool aA_0.Double]] (.agg #[.string (bs x51.Upper), .string (bs x51.Color), .string (bs x51.Lining), .string (bs x51.Sole), .int .i64 x51.Thick, .int .i64 x51.Heel, .int .i64 x51.Eyelets, .int .i64 x51.Density, .bool x51.Double]) (fun _ => by kernel_rfl) (fun w53 hE54 => c_15 n aA_0 w53 hx52 ) rfl rfl rfl ?_
  refine QL.st (.agg #[.string (bs aB_1.Upper), .string (bs aB_1.Color), .string (bs aB_1.Lining), .string (bs aB_1.Sole), .int .i64 aB_1.Thick, .int .i64 aB_1.Heel, .int .i64 aB_1.Eyelets, .int .i64 aB_1.Density, .bool aB_1.Double]) (ST.loadAgg (vs := [.string (bs aB_1.Upper), .string (bs aB_1.Color), .string (bs aB_1.Lining), .string (bs aB_1.Sole), .int .i64 aB_1.Thick, .int .i64 aB_1.Heel, .int .i64 aB_1.Eyelets, .int .i64 aB_1.Density, .bool aB_1.Double]) (fun j v hv => SH.boxPart (us := [.string (bs aB_1.Upper), .string (bs aB_1.Color), .string (bs aB_1.Lining), .string (bs aB_1.Sole), .int .i64 aB_1.Thick, .int .i64 aB_1.Heel, .int .i64 aB_1.Eyelets, .int .i64 aB_1.Density, .bool aB_1.Double]) (SH.front 0 hS50) 0 rfl j v hv) rfl rfl rfl Tryd.underlying29 rfl (info29).1 (info29).2.1) rfl rfl rfl ?_
  obtain ⟨x55, hx56, hm⟩ := bindE hm
  refine QL.call 15 #[.agg #[.string (bs aB_1.Upper), .string (bs aB_1.Color), .string (bs aB_1.Lining), .string (bs aB_1.Sole), .int .i64 aB_1.Thick, .int .i64 aB_1.Heel, .int .i64 aB_1.Eyelets, .int .i64 aB_1.Density, .bool aB_1.Double]] (.agg #[.string (bs x55.Upper), .string (bs x55.Color), .string (bs x55.Lining), .string (bs x55.Sole), .int .i64 x55.Thick, .int .i64 x55.Heel, .int .i64 x55.Eyelets, .int .i64 x55.Density, .bool x55.Double]) (fun _ => by kernel_rfl) (fun w57 hE58 => c_15 n aB_1 w57 hx56 ) rfl rfl rfl ?_
  refine QL.subk [2, 3, 26, 28] [(2, .pointer (some ⟨b2, 0, none⟩)), (3, .pointer (some ⟨b10, 0, none⟩)), (26, .agg #[.string (bs x51.Upper), .string (bs x51.Color), .string (bs x51.Lining), .string (bs x51.Sole), .int .i64 x51.Thick, .int .i64 x51.Heel, .int .i64 x51.Eyelets, .int .i64 x51.Density, .bool x51.Double]), (28, .agg #[.string (bs x55.Upper), .string (bs x55.Color), .string (bs x55.Lining), .string (bs x55.Sole), .int .i64 x55.Thick, .int .i64 x55.Heel, .int .i64 x55.Eyelets, .int .i64 x55.Density, .bool x55.Double])] (by kernel_rfl) ?_
  refine QL.nil ?_
  intro w59 hE60
  have hb61 : Ext w w59 := Ext.trans hb48 hE60
  have hL62 : w.heap.size ≤ w59.heap.size := Nat.le_trans hL49 hE60.size
  have hS63 : SH w59 w.heap.size [aBox 29 b10 [.string (bs aB_1.Upper), .string (bs aB_1.Color), .string (bs aB_1.Lining), .string (bs aB_1.Sole), .int .i64 aB_1.Thick, .int .i64 aB_1.Heel, .int .i64 aB_1.Eyelets, .int .i64 aB_1.Density, .bool aB_1.Double], aBox 29 b2 [.string (bs aA_0.Upper), .string (bs aA_0.Color), .string (bs aA_0.Lining), .string (bs aA_0.Sole), .int .i64 aA_0.Thick, .int .i64 aA_0.Heel, .int .i64 aA_0.Eyelets, .int .i64 aA_0.Density, .bool aA_0.Double]] := SH.ext hS50 hE60
  refine WA.one (i := 4) (D' := [0, 1, 2, 3, 4]) rfl rfl (by kernel_rfl) ?_
  obtain ⟨x64, hx65, hm⟩ := bindE hm
  refine WL.call 14 #[.agg #[.string (bs x51.Upper), .string (bs x51.Color), .string (bs x51.Lining), .string (bs x51.Sole), .int .i64 x51.Thick, .int .i64 x51.Heel, .int .i64 x51.Eyelets, .int .i64 x51.Density, .bool x51.Double], .agg #[.string (bs x55.Upper), .string (bs x55.Color), .string (bs x55.Lining), .string (bs x55.Sole), .int .i64 x55.Thick, .int .i64 x55.Heel, .int .i64 x55.Eyelets, .int .i64 x55.Density, .bool x55.Double]] rfl rfl (by kernel_rfl) (c_14 n x51 x55 w59 hx65 ) ?_
  rintro _ w69 ⟨a66, c67, rfl, hE70, hR71⟩
  refine ⟨_, rfl, ?_⟩
  have hb72 : Ext w w69 := Ext.trans hb61 hE70
  have hL73 : w.heap.size ≤ w69.heap.size := Nat.le_trans hL62 hE70.size
  have hS74 : SH w69 w.heap.size [aOwn fStr 9 a66 c67 x64.1, aBox 29 b10 [.string (bs aB_1.Upper), .string (bs aB_1.Color), .string (bs aB_1.Lining), .string (bs aB_1.Sole), .int .i64 aB_1.Thick, .int .i64 aB_1.Heel, .int .i64 aB_1.Eyelets, .int .i64 aB_1.Density, .bool aB_1.Double], aBox 29 b2 [.string (bs aA_0.Upper), .string (bs aA_0.Color), .string (bs aA_0.Lining), .string (bs aA_0.Sole), .int .i64 aA_0.Thick, .int .i64 aA_0.Heel, .int .i64 aA_0.Eyelets, .int .i64 aA_0.Density, .bool aA_0.Double]] := SH.add hS63 hE70 hL62 hR71
  refine WL.sub [(2, .pointer (some ⟨b2, 0, none⟩)), (3, .pointer (some ⟨b10, 0, none⟩)), (29, .tuple #[.slice a66 x64.1.length c67, .int .i64 x64.2])] ⟨rfl, rfl, rfl, trivial⟩ ?_
  refine WL.nil ?_
  refine WA.one (i := 5) (D' := [0, 1, 2, 3, 4, 5]) rfl rfl (by kernel_rfl) ?_
  refine WL.runk 1 [2, 3, 6, 7, 24, 30, 31] [(2, .pointer (some ⟨b2, 0, none⟩)), (3, .pointer (some ⟨b10, 0, none⟩)), (24, .tuple #[.slice a66 x64.1.length c67, .int .i64 x64.2])] (by kernel_rfl) ?_
  refine WL.nil ?_
  refine WA.quiet (f' := 0) (D' := [0, 1, 2, 3, 4, 5, 6, 7, 8, 9]) [6, 7, 8, 9] rfl rfl (by kernel_rfl) ?_
  refine QL.step1v 30 (.slice a66 x64.1.length c67) rfl (fun _ => by kernel_rfl) ?_
  refine QL.step1v 31 (.int .i64 x64.2) rfl (fun _ => by kernel_rfl) ?_
  refine QL.step1v 6 (.slice a66 x64.1.length c67) rfl (fun _ => by kernel_rfl) ?_
  refine QL.step1v 7 (.int .i64 x64.2) rfl (fun _ => by kernel_rfl) ?_
  refine QL.subk [2, 3, 6, 7] [(2, .pointer (some ⟨b2, 0, none⟩)), (3, .pointer (some ⟨b10, 0, none⟩)), (6, .slice a66 x64.1.length c67), (7, .int .i64 x64.2)] (by kernel_rfl) ?_
  refine QL.nil ?_
  intro w75 hE76
  have hb77 : Ext w w75 := Ext.trans hb72 hE76
  have hL78 : w.heap.size ≤ w75.heap.size := Nat.le_trans hL73 hE76.size
  have hS79 : SH w75 w.heap.size [aOwn fStr 9 a66 c67 x64.1, aBox 29 b10 [.string (bs aB_1.Upper), .string (bs aB_1.Color), .string (bs aB_1.Lining), .string (bs aB_1.Sole), .int .i64 aB_1.Thick, .int .i64 aB_1.Heel, .int .i64 aB_1.Eyelets, .int .i64 aB_1.Density, .bool aB_1.Double], aBox 29 b2 [.string (bs aA_0.Upper), .string (bs aA_0.Color), .string (bs aA_0.Lining), .string (bs aA_0.Sole), .int .i64 aA_0.Thick, .int .i64 aA_0.Heel, .int .i64 aA_0.Eyelets, .int .i64 aA_0.Density, .bool aA_0.Double]] := SH.ext hS74 hE76
  refine WA.done (by kernel_rfl) ?_
  refine WQ.then_normal (hK45 _ _ _ ?_)
  refine WP.seq (fun K80 hK80 => ?_)
  refine WP.open (n := 10) (by kernel_rfl) rfl (fun w81 hE82 => ?_)
  have hb83 : Ext w w81 := Ext.trans hb77 hE82
  have hL84 : w.heap.size ≤ w81.heap.size := Nat.le_trans hL78 hE82.size
  have hS85 : SH w81 w.heap.size [aOwn fStr 9 a66 c67 x64.1, aBox 29 b10 [.string (bs aB_1.Upper), .string (bs aB_1.Color), .string (bs aB_1.Lining), .string (bs aB_1.Sole), .int .i64 aB_1.Thick, .int .i64 aB_1.Heel, .int .i64 aB_1.Eyelets, .int .i64 aB_1.Density, .bool aB_1.Double], aBox 29 b2 [.string (bs aA_0.Upper), .string (bs aA_0.Color), .string (bs aA_0.Lining), .string (bs aA_0.Sole), .int .i64 aA_0.Thick, .int .i64 aA_0.Heel, .int .i64 aA_0.Eyelets, .int .i64 aA_0.Density, .bool aA_0.Double]] := SH.ext hS79 hE82
  refine WA.quiet (f' := 6) (D' := [0, 1, 2, 3]) [0, 1, 2, 3] rfl rfl (by kernel_rfl) ?_
  refine QL.st (.agg #[.string (bs aA_0.Upper), .string (bs aA_0.Color), .string (bs aA_0.Lining), .string (bs aA_0.Sole), .int .i64 aA_0.Thick, .int .i64 aA_0.Heel, .int .i64 aA_0.Eyelets, .int .i64 aA_0.Density, .bool aA_0.Double]) (ST.loadAgg (vs := [.string (bs aA_0.Upper), .string (bs aA_0.Color), .string (bs aA_0.Lining), .string (bs aA_0.Sole), .int .i64 aA_0.Thick, .int .i64 aA_0.Heel, .int .i64 aA_0.Eyelets, .int .i64 aA_0.Density, .bool aA_0.Double]) (fun j v hv => SH.boxPart (us := [.string (bs aA_0.Upper), .string (bs aA_0.Color), .string (bs aA_0.Lining), .string (bs aA_0.Sole), .int .i64 aA_0.Thick, .int .i64 aA_0.Heel, .int .i64 aA_0.Eyelets, .int .i64 aA_0.Density, .bool aA_0.Double]) (SH.front 2 hS85) 0 rfl j v hv) rfl rfl rfl Tryd.underlying29 rfl (info29).1 (info29).2.1) rfl rfl rfl ?_
  obtain ⟨x86, hx87, hm⟩ := bindE hm
  refine QL.call 15 #[.agg #[.string (bs aA_0.Upper), .string (bs aA_0.Color), .string (bs aA_0.Lining), .string (bs aA_0.Sole), .int .i64 aA_0.Thick, .int .i64 aA_0.Heel, .int .i64 aA_0.Eyelets, .int .i64 aA_0.Density, .bool aA_0.Double]] (.agg #[.string (bs x86.Upper), .string (bs x86.Color), .string (bs x86.Lining), .string (bs x86.Sole), .int .i64 x86.Thick, .int .i64 x86.Heel, .int .i64 x86.Eyelets, .int .i64 x86.Density, .bool x86.Double]) (fun _ => by kernel_rfl) (fun w88 hE89 => c_15 n aA_0 w88 hx87 ) rfl rfl rfl ?_
  refine QL.st (.agg #[.string (bs aB_1.Upper), .string (bs aB_1.Color), .string (bs aB_1.Lining), .string (bs aB_1.Sole), .int .i64 aB_1.Thick, .int .i64 aB_1.Heel, .int .i64 aB_1.Eyelets, .int .i64 aB_1.Density, .bool aB_1.Double]) (ST.loadAgg (vs := [.string (bs aB_1.Upper), .string (bs aB_1.Color), .string (bs aB_1.Lining), .string (bs aB_1.Sole), .int .i64 aB_1.Thick, .int .i64 aB_1.Heel, .int .i64 aB_1.Eyelets, .int .i64 aB_1.Density, .bool aB_1.Double]) (fun j v hv => SH.boxPart (us := [.string (bs aB_1.Upper), .string (bs aB_1.Color), .string (bs aB_1.Lining), .string (bs aB_1.Sole), .int .i64 aB_1.Thick, .int .i64 aB_1.Heel, .int .i64 aB_1.Eyelets, .int .i64 aB_1.Density, .bool aB_1.Double]) (SH.front 1 hS85) 0 rfl j v hv) rfl rfl rfl Tryd.underlying29 rfl (info29).1 (info29).2.1) rfl rfl rfl ?_
  obtain ⟨x90, hx91, hm⟩ := bindE hm
  refine QL.call 15 #[.agg #[.string (bs aB_1.Upper), .string (bs aB_1.Color), .string (bs aB_1.Lining), .string (bs aB_1.Sole), .int .i64 aB_1.Thick, .int .i64 aB_1.Heel, .int .i64 aB_1.Eyelets, .int .i64 aB_1.Density, .bool aB_1.Double]] (.agg #[.string (bs x90.Upper), .string (bs x90.Color), .string (bs x90.Lining), .string (bs x90.Sole), .int .i64 x90.Thick, .int .i64 x90.Heel, .int .i64 x90.Eyelets, .int .i64 x90.Density, .bool x90.Double]) (fun _ => by kernel_rfl) (fun w92 hE93 => c_15 n aB_1 w92 hx91 ) rfl rfl rfl ?_
  refine QL.subk [2, 3, 6, 7, 34, 36] [(2, .pointer (some ⟨b2, 0, none⟩)), (3, .pointer (some ⟨b10, 0, none⟩)), (6, .slice a66 x64.1.length c67), (7, .int .i64 x64.2), (34, .agg #[.string (bs x86.Upper), .string (bs x86.Color), .string (bs x86.Lining), .string (bs x86.Sole), .int .i64 x86.Thick, .int .i64 x86.Heel, .int .i64 x86.Eyelets, .int .i64 x86.Density, .bool x86.Double]), (36, .agg #[.string (bs x90.Upper), .string (bs x90.Color), .string (bs x90.Lining), .string (bs x90.Sole), .int .i64 x90.Thick, .int .i64 x90.Heel, .int .i64 x90.Eyelets, .int .i64 x90.Density, .bool x90.Double])] (by kernel_rfl) ?_
  refine QL.nil ?_
  intro w94 hE95
  have hb96 : Ext w w94 := Ext.trans hb83 hE95
  have hL97 : w.heap.size ≤ w94.heap.size := Nat.le_trans hL84 hE95.size
  have hS98 : SH w94 w.heap.size [aOwn fStr 9 a66 c67 x64.1, aBox 29 b10 [.string (bs aB_1.Upper), .string (bs aB_1.Color), .string (bs aB_1.Lining), .string (bs aB_1.Sole), .int .i64 aB_1.Thick, .int .i64 aB_1.Heel, .int .i64 aB_1.Eyelets, .int .i64 aB_1.Density, .bool aB_1.Double], aBox 29 b2 [.string (bs aA_0.Upper), .string (bs aA_0.Color), .string (bs aA_0.Lining), .string (bs aA_0.Sole), .int .i64 aA_0.Thick, .int .i64 aA_0.Heel, .int .i64 aA_0.Eyelets, .int .i64 aA_0.Density, .bool aA_0.Double]] := SH.ext hS85 hE95
  refine WA.one (i := 4) (D' := [0, 1, 2, 3, 4]) rfl rfl (by kernel_rfl) ?_
  obtain ⟨x99, hx100, hm⟩ := bindE hm
  refine WL.call 16 #[.agg #[.string (bs x86.Upper), .string (bs x86.Color), .string (bs x86.Lining), .string (bs x86.Sole), .int .i64 x86.Thick, .int .i64 x86.Heel, .int .i64 x86.Eyelets, .int .i64 x86.Density, .bool x86.Double], .agg #[.string (bs x90.Upper), .string (bs x90.Color), .string (bs x90.Lining), .string (bs x90.Sole), .int .i64 x90.Thick, .int .i64 x90.Heel, .int .i64 x90.Eyelets, .int .i64 x90.Density, .bool x90.Double]] rfl rfl (by kernel_rfl) (c_16 n x86 x90 w94 hx100 (GL.below hG hb96)) ?_
  rintro _ w104 ⟨a101, c102, rfl, hE105, hR106⟩
  refine ⟨_, rfl, ?_⟩
  have hb107 : Ext w w104 := Ext.trans hb96 hE105
  have hL108 : w.heap.size ≤ w104.heap.size := Nat.le_trans hL97 hE105.size
  have hS109 : SH w104 w.heap.size [aOwn fStr 9 a101 c102 x99.1, aOwn fStr 9 a66 c67 x64.1, aBox 29 b10 [.string (bs aB_1.Upper), .string (bs aB_1.Color), .string (bs aB_1.Lining), .string (bs aB_1.Sole), .int .i64 aB_1.Thick, .int .i64 aB_1.Heel, .int .i64 aB_1.Eyelets, .int .i64 aB_1.Density, .bool aB_1.Double], aBox 29 b2 [.string (bs aA_0.Upper), .string (bs aA_0.Color), .string (bs aA_0.Lining), .string (bs aA_0.Sole), .int .i64 aA_0.Thick, .int .i64 aA_0.Heel, .int .i64 aA_0.Eyelets, .int .i64 aA_0.Density, .bool aA_0.Double]] := SH.add hS98 hE105 hL97 hR106
  refine WL.sub [(2, .pointer (some ⟨b2, 0, none⟩)), (3, .pointer (some ⟨b10, 0, none⟩)), (6, .slice a66 x64.1.length c67), (7, .int .i64 x64.2), (37, .tuple #[.slice a101 x99.1.length c102, .int .i64 x99.2])] ⟨rfl, rfl, rfl, rfl, rfl, trivial⟩ ?_
  refine WL.nil ?_
  refine WA.one (i := 5) (D' := [0, 1, 2, 3, 4, 5]) rfl rfl (by kernel_rfl) ?_
  refine WL.runk 1 [2, 3, 6, 7, 8, 9, 32, 38, 39] [(2, .pointer (some ⟨b2, 0, none⟩)), (3, .pointer (some ⟨b10, 0, none⟩)), (6, .slice a66 x64.1.length c67), (7, .int .i64 x64.2), (32, .tuple #[.slice a101 x99.1.length c102, .int .i64 x99.2])] (by kernel_rfl) ?_
  refine WL.nil ?_
  refine WA.quiet (f' := 0) (D' := [0, 1, 2, 3, 4, 5, 6, 7, 8, 9]) [6, 7, 8, 9] rfl rfl (by kernel_rfl) ?_
  refine QL.step1v 38 (.slice a101 x99.1.length c102) rfl (fun _ => by kernel_rfl) ?_
  refine QL.step1v 39 (.int .i64 x99.2) rfl (fun _ => by kernel_rfl) ?_
  refine QL.step1v 8 (.slice a101 x99.1.length c102) rfl (fun _ => by kernel_rfl) ?_
  refine QL.step1v 9 (.int .i64 x99.2) rfl (fun _ => by kernel_rfl) ?_
  refine QL.subk [2, 3, 6, 7, 8, 9] [(2, .pointer (some ⟨b2, 0, none⟩)), (3, .pointer (some ⟨b10, 0, none⟩)), (6, .slice a66 x64.1.length c67), (7, .int .i64 x64.2), (8, .slice a101 x99.1.length c102), (9, .int .i64 x99.2)] (by kernel_rfl) ?_
  refine QL.nil ?_
  intro w110 hE111
  have hb112 : Ext w w110 := Ext.trans hb107 hE111
  have hL113 : w.heap.size ≤ w110.heap.size := Nat.le_trans hL108 hE111.size
  have hS114 : SH w110 w.heap.size [aOwn fStr 9 a101 c102 x99.1, aOwn fStr 9 a66 c67 x64.1, aBox 29 b10 [.string (bs aB_1.Upper), .string (bs aB_1.Color), .string (bs aB_1.Lining), .string (bs aB_1.Sole), .int .i64 aB_1.Thick, .int .i64 aB_1.Heel, .int .i64 aB_1.Eyelets, .int .i64 aB_1.Density, .bool aB_1.Double], aBox 29 b2 [.string (bs aA_0.Upper), .string (bs aA_0.Color), .string (bs aA_0.Lining), .string (bs aA_0.Sole), .int .i64 aA_0.Thick, .int .i64 aA_0.Heel, .int .i64 aA_0.Eyelets, .int .i64 aA_0.Density, .bool aA_0.Double]] := SH.ext hS109 hE111
  refine WA.done (by kernel_rfl) ?_
  refine WQ.then_normal (hK80 _ _ _ ?_)
  refine WP.seq (fun K115 hK115 => ?_)
  refine WP.seq (fun K116 hK116 => ?_)
  obtain ⟨x126, hx127, hm⟩ := bindE hm
  refine WP.cut (fun env' w' => env' = [(2, .pointer (some ⟨b2, 0, none⟩)), (3, .pointer (some ⟨b10, 0, none⟩)), (6, .slice a66 x64.1.length c67), (7, .int .i64 x64.2), (8, .slice a101 x99.1.length c102), (48, .bool x126)] ∧ Ext w w' ∧ w.heap.size ≤ w'.heap.size ∧ SH w' w.heap.size [aOwn fStr 9 a101 c102 x99.1, aOwn fStr 9 a66 c67 x64.1, aBox 29 b10 [.string (bs aB_1.Upper), .string (bs aB_1.Color), .string (bs aB_1.Lining), .string (bs aB_1.Sole), .int .i64 aB_1.Thick, .int .i64 aB_1.Heel, .int .i64 aB_1.Eyelets, .int .i64 aB_1.Density, .bool aB_1.Double], aBox 29 b2 [.string (bs aA_0.Upper), .string (bs aA_0.Color), .string (bs aA_0.Lining), .string (bs aA_0.Sole), .int .i64 aA_0.Thick, .int .i64 aA_0.Heel, .int .i64 aA_0.Eyelets, .int .i64 aA_0.Density, .bool aA_0.Double]]) ?_ ?_
  · have hm := hx127; clear hx127
    refine WP.region ?_
    refine WL.runk 2 [2, 3, 6, 7, 8, 9, 40, 41] [(2, .pointer (some ⟨b2, 0, none⟩)), (3, .pointer (some ⟨b10, 0, none⟩)), (6, .slice a66 x64.1.length c67), (7, .int .i64 x64.2), (8, .slice a101 x99.1.length c102), (9, .int .i64 x99.2), (40, .slice a101 x99.1.length c102), (41, .slice a66 x64.1.length c67)] (by kernel_rfl) ?_
    obtain ⟨x128, hx129, hm⟩ := bindE hm
    refine WL.call 10 #[.slice a101 x99.1.length c102, .slice a66 x64.1.length c67] rfl rfl (by kernel_rfl) (c_10 n x99.1 a101 c102 x64.1 a66 c67 w110 hx129 (SH.rd (SH.front 0 hS114)) (SH.le (SH.front 0 hS114)).1 (SH.rd (SH.front 1 hS114)) (SH.le (SH.front 1 hS114)).1) ?_
    rintro _ w130 ⟨rfl, hE131⟩
    refine ⟨_, rfl, ?_⟩
    have hb133 : Ext w w130 := Ext.trans hb112 hE131
    have hL134 : w.heap.size ≤ w130.heap.size := Nat.le_trans hL113 hE131.size
    have hS135 : SH w130 w.heap.size [aOwn fStr 9 a101 c102 x99.1, aOwn fStr 9 a66 c67 x64.1, aBox 29 b10 [.string (bs aB_1.Upper), .string (bs aB_1.Color), .string (bs aB_1.Lining), .string (bs aB_1.Sole), .int .i64 aB_1.Thick, .int .i64 aB_1.Heel, .int .i64 aB_1.Eyelets, .int .i64 aB_1.Density, .bool aB_1.Double], aBox 29 b2 [.string (bs aA_0.Upper), .string (bs aA_0.Color), .string (bs aA_0.Lining), .string (bs aA_0.Sole), .int .i64 aA_0.Thick, .int .i64 aA_0.Heel, .int .i64 aA_0.Eyelets, .int .i64 aA_0.Density, .bool aA_0.Double]] := SH.ext hS114 hE131
    refine WL.runk 2 [2, 3, 6, 7, 8, 9, 44] [(2, .pointer (some ⟨b2, 0, none⟩)), (3, .pointer (some ⟨b10, 0, none⟩)), (6, .slice a66 x64.1.length c67), (7, .int .i64 x64.2), (8, .slice a101 x99.1.length c102), (9, .int .i64 x99.2), (44, .bool (!x128))] (by kernel_rfl) ?_
    refine WL.case (!x128) [44] ⟨rfl, trivial⟩ (fun hc136 => ?_) (fun hc136 => ?_)
    · have hm := iteT hm hc136
      refine WL.runk 4 [2, 3, 6, 7, 8, 48] [(2, .pointer (some ⟨b2, 0, none⟩)), (3, .pointer (some ⟨b10, 0, none⟩)), (6, .slice a66 x64.1.length c67), (7, .int .i64 x64.2), (8, .slice a101 x99.1.length c102), (48, .bool true)] (by kernel_rfl) ?_
      refine WL.nil ?_
      obtain rfl := Option.some.inj hm
      exact WQ.post' ⟨rfl, hb133, hL134, hS135⟩ ⟨rfl, rfl, rfl, rfl, rfl, rfl, trivial⟩
    have hm := iteF hm hc136
    refine WL.runk 4 [2, 3, 6, 7, 8, 48] [(2, .pointer (some ⟨b2, 0, none⟩)), (3, .pointer (some ⟨b10, 0, none⟩)), (6, .slice a66 x64.1.length c67), (7, .int .i64 x64.2), (8, .slice a101 x99.1.length c102), (48, .bool (x99.2 != x64.2))] (by kernel_rfl) ?_
    refine WL.nil ?_
    obtain rfl := Option.some.inj hm
    exact WQ.post' ⟨rfl, hb133, hL134, hS135⟩ ⟨rfl, rfl, rfl, rfl, rfl, rfl, trivial⟩
  clear hx127
  rintro _ w137 ⟨rfl, hb138, hL139, hS140⟩
  refine WQ.then_normal (hK116 _ _ _ ?_)
  refine WP.cond x126 rfl rfl (fun hc141 => ?_) (fun hc141 => ?_)
  · have hm := iteT hm hc141
    refine WP.seq (fun K142 hK142 => ?_)
    refine WP.region ?_
    refine WL.runk 1 [4] [(4, .bool false)] (by kernel_rfl) ?_
    refine WL.nil ?_
    refine WQ.then_normal (hK142 _ _ _ ?_)
    refine WP.ret ?_
    refine WQ.then_ret ?_
    obtain rfl := Option.some.inj hm
    exact WQ.ret1 _ rfl rfl ⟨rfl, hb138⟩
  have hm := iteF hm hc141
  refine WP.skip ?_
  refine WQ.then_normal (hK115 _ _ _ ?_)
  refine WP.seq (fun K143 hK143 => ?_)
  refine WP.region ?_
  refine WL.runk 1 [2, 3, 6, 7, 8, 10] [(2, .pointer (some ⟨b2, 0, none⟩)), (3, .pointer (some ⟨b10, 0, none⟩)), (6, .slice a66 x64.1.length c67), (7, .int .i64 x64.2), (8, .slice a101 x99.1.length c102), (10, .int .i64 1)] (by kernel_rfl) ?_
  refine WL.nil ?_
  refine WQ.then_normal (hK143 _ _ _ ?_)
  refine WP.seq (fun K144 hK144 => ?_)
  refine WP.region ?_
  refine WL.runk 2 [2, 3, 6, 7, 8, 49, 50] [(2, .pointer (some ⟨b2, 0, none⟩)), (3, .pointer (some ⟨b10, 0, none⟩)), (6, .slice a66 x64.1.length c67), (7, .int .i64 x64.2), (8, .slice a101 x99.1.length c102), (49, .slice a101 x99.1.length c102), (50, .int .i64 1)] (by kernel_rfl) ?_
  obtain ⟨x145, hx146, hm⟩ := bindE hm
  refine WL.call 11 #[.slice a101 x99.1.length c102, .int .i64 1] rfl rfl (by kernel_rfl) (c_11 n x99.1 a101 c102 1 w137 w w.heap.size [aOwn fStr 9 a66 c67 x64.1, aBox 29 b10 [.string (bs aB_1.Upper), .string (bs aB_1.Color), .string (bs aB_1.Lining), .string (bs aB_1.Sole), .int .i64 aB_1.Thick, .int .i64 aB_1.Heel, .int .i64 aB_1.Eyelets, .int .i64 aB_1.Density, .bool aB_1.Double], aBox 29 b2 [.string (bs aA_0.Upper), .string (bs aA_0.Color), .string (bs aA_0.Lining), .string (bs aA_0.Sole), .int .i64 aA_0.Thick, .int .i64 aA_0.Heel, .int .i64 aA_0.Eyelets, .int .i64 aA_0.Density, .bool aA_0.Double]] hx146 hb138 (Nat.le_refl _) hL139  hS140) ?_
  rintro _ w147 ⟨rfl, hB151, hS150, hlen152⟩
  refine ⟨_, rfl, ?_⟩
  have hb153 : Ext w w147 := Below.trans hb138 hB151
  have hL154 : w.heap.size ≤ w147.heap.size := Nat.le_trans hL139 hB151.size
  refine WL.sub [(2, .pointer (some ⟨b2, 0, none⟩)), (3, .pointer (some ⟨b10, 0, none⟩)), (6, .slice a66 x64.1.length c67), (7, .int .i64 x64.2), (8, .slice a101 x145.2.length c102), (49, .slice a101 x145.2.length c102), (50, .int .i64 1), (51, .int .i64 x145.1)] ⟨rfl, rfl, rfl, rfl, by rw [hlen152]; rfl, by rw [hlen152]; rfl, rfl, rfl, trivial⟩ ?_
  refine WL.runk 1 [2, 3, 6, 7, 8, 10] [(2, .pointer (some ⟨b2, 0, none⟩)), (3, .pointer (some ⟨b10, 0, none⟩)), (6, .slice a66 x64.1.length c67), (7, .int .i64 x64.2), (8, .slice a101 x145.2.length c102), (10, .int .i64 x145.1)] (by kernel_rfl) ?_
  refine WL.nil ?_
  refine WQ.then_normal (hK144 _ _ _ ?_)
  refine WP.seq (fun K155 hK155 => ?_)
  refine WP.region ?_
  refine WL.runk 1 [2, 3, 6, 7, 8, 10, 11] [(2, .pointer (some ⟨b2, 0, none⟩)), (3, .pointer (some ⟨b10, 0, none⟩)), (6, .slice a66 x64.1.length c67), (7, .int .i64 x64.2), (8, .slice a101 x145.2.length c102), (10, .int .i64 x145.1), (11, .int .i64 1)] (by kernel_rfl) ?_
  refine WL.nil ?_
  refine WQ.then_normal (hK155 _ _ _ ?_)
  refine WP.seq (fun K156 hK156 => ?_)
  refine WP.region ?_
  refine WL.runk 2 [2, 3, 6, 7, 8, 10, 52, 53] [(2, .pointer (some ⟨b2, 0, none⟩)), (3, .pointer (some ⟨b10, 0, none⟩)), (6, .slice a66 x64.1.length c67), (7, .int .i64 x64.2), (8, .slice a101 x145.2.length c102), (10, .int .i64 x145.1), (52, .slice a101 x145.2.length c102), (53, .int .i64 1)] (by kernel_rfl) ?_
  obtain ⟨x157, hx158, hm⟩ := bindE hm
  refine WL.call 12 #[.slice a101 x145.2.length c102, .int .i64 1] rfl rfl (by kernel_rfl) (c_12 n x145.2 a101 c102 1 w147 hx158 (SH.rd (SH.front 0 hS150)) (SH.le (SH.front 0 hS150)).1) ?_
  rintro _ w159 ⟨rfl, hE160⟩
  refine ⟨_, rfl, ?_⟩
  have hb162 : Ext w w159 := Ext.trans hb153 hE160
  have hL163 : w.heap.size ≤ w159.heap.size := Nat.le_trans hL154 hE160.size
  have hS164 : SH w159 w.heap.size [aOwn fStr 9 a101 c102 x145.2, aOwn fStr 9 a66 c67 x64.1, aBox 29 b10 [.string (bs aB_1.Upper), .string (bs aB_1.Color), .string (bs aB_1.Lining), .string (bs aB_1.Sole), .int .i64 aB_1.Thick, .int .i64 aB_1.Heel, .int .i64 aB_1.Eyelets, .int .i64 aB_1.Density, .bool aB_1.Double], aBox 29 b2 [.string (bs aA_0.Upper), .string (bs aA_0.Color), .string (bs aA_0.Lining), .string (bs aA_0.Sole), .int .i64 aA_0.Thick, .int .i64 aA_0.Heel, .int .i64 aA_0.Eyelets, .int .i64 aA_0.Density, .bool aA_0.Double]] := SH.ext hS150 hE160
  refine WL.runk 1 [2, 3, 6, 7, 8, 10, 11] [(2, .pointer (some ⟨b2, 0, none⟩)), (3, .pointer (some ⟨b10, 0, none⟩)), (6, .slice a66 x64.1.length c67), (7, .int .i64 x64.2), (8, .slice a101 x145.2.length c102), (10, .int .i64 x145.1), (11, .int .i64 x157)] (by kernel_rfl) ?_
  refine WL.nil ?_
  refine WQ.then_normal (hK156 _ _ _ ?_)
  refine WP.seq (fun K165 hK165 => ?_)
  refine WP.seq (fun K166 hK166 => ?_)
  refine WP.region ?_
  refine WL.runk 2 [2, 3, 6, 7, 8, 10, 11, 56] [(2, .pointer (some ⟨b2, 0, none⟩)), (3, .pointer (some ⟨b10, 0, none⟩)), (6, .slice a66 x64.1.length c67), (7, .int .i64 x64.2), (8, .slice a101 x145.2.length c102), (10, .int .i64 x145.1), (11, .int .i64 x157), (56, .bool (decide (x157 < 0)))] (by kernel_rfl) ?_
  refine WL.nil ?_
  refine WQ.then_normal (hK166 _ _ _ ?_)
  refine WP.cond (decide (x157 < 0)) rfl rfl (fun hc167 => ?_) (fun hc167 => ?_)
  · have hm := iteT hm hc167
    refine WP.seq (fun K168 hK168 => ?_)
    refine WP.region ?_
    refine WL.runk 1 [4] [(4, .bool false)] (by kernel_rfl) ?_
    refine WL.nil ?_
    refine WQ.then_normal (hK168 _ _ _ ?_)
    refine WP.ret ?_
    refine WQ.then_ret ?_
    obtain rfl := Option.some.inj hm
    exact WQ.ret1 _ rfl rfl ⟨rfl, hb162⟩
  have hm := iteF hm hc167
  refine WP.skip ?_
  refine WQ.then_normal (hK165 _ _ _ ?_)
  refine WP.seq (fun K169 hK169 => ?_)
  refine WP.seq (fun K170 hK170 => ?_)
  refine WP.region ?_
  refine WL.runk 3 [2, 3, 6, 7, 8, 10, 59] [(2, .pointer (some ⟨b2, 0, none⟩)), (3, .pointer (some ⟨b10, 0, none⟩)), (6, .slice a66 x64.1.length c67), (7, .int .i64 x64.2), (8, .slice a101 x145.2.length c102), (10, .int .i64 x145.1), (59, .bool (x157 != x145.1))] (by kernel_rfl) ?_
  refine WL.nil ?_
  refine WQ.then_normal (hK170 _ _ _ ?_)
  refine WP.cond (x157 != x145.1) rfl rfl (fun hc171 => ?_) (fun hc171 => ?_)
  · have hm := iteT hm hc171
    refine WP.seq (fun K172 hK172 => ?_)
    refine WP.region ?_
    refine WL.runk 1 [4] [(4, .bool false)] (by kernel_rfl) ?_
    refine WL.nil ?_
    refine WQ.then_normal (hK172 _ _ _ ?_)
    refine WP.ret ?_
    refine WQ.then_ret ?_
    obtain rfl := Option.some.inj hm
    exact WQ.ret1 _ rfl rfl ⟨rfl, hb162⟩
  have hm := iteF hm hc171
  refine WP.skip ?_
  refine WQ.then_normal (hK169 _ _ _ ?_)
  refine WP.seq (fun K173 hK173 => ?_)
  refine WP.open (n := 10) (by kernel_rfl) rfl (fun w174 hE175 => ?_)
  have hb176 : Ext w w174 := Ext.trans hb162 hE175
  have hL177 : w.heap.size ≤ w174.heap.size := Nat.le_trans hL163 hE175.size
  have hS178 : SH w174 w.heap.size [aOwn fStr 9 a101 c102 x145.2, aOwn fStr 9 a66 c67 x64.1, aBox 29 b10 [.string (bs aB_1.Upper), .string (bs aB_1.Color), .string (bs aB_1.Lining), .string (bs aB_1.Sole), .int .i64 aB_1.Thick, .int .i64 aB_1.Heel, .int .i64 aB_1.Eyelets, .int .i64 aB_1.Density, .bool aB_1.Double], aBox 29 b2 [.string (bs aA_0.Upper), .string (bs aA_0.Color), .string (bs aA_0.Lining), .string (bs aA_0.Sole), .int .i64 aA_0.Thick, .int .i64 aA_0.Heel, .int .i64 aA_0.Eyelets, .int .i64 aA_0.Density, .bool aA_0.Double]] := SH.ext hS164 hE175
  refine WA.quiet (f' := 6) (D' := [0, 1, 2, 3]) [0, 1, 2, 3] rfl rfl (by kernel_rfl) ?_
  refine QL.st (.agg #[.string (bs aA_0.Upper), .string (bs aA_0.Color), .string (bs aA_0.Lining), .string (bs aA_0.Sole), .int .i64 aA_0.Thick, .int .i64 aA_0.Heel, .int .i64 aA_0.Eyelets, .int .i64 aA_0.Density, .bool aA_0.Double]) (ST.loadAgg (vs := [.string (bs aA_0.Upper), .string (bs aA_0.Color), .string (bs aA_0.Lining), .string (bs aA_0.Sole), .int .i64 aA_0.Thick, .int .i64 aA_0.Heel, .int .i64 aA_0.Eyelets, .int .i64 aA_0.Density, .bool aA_0.Double]) (fun j v hv => SH.boxPart (us := [.string (bs aA_0.Upper), .string (bs aA_0.Color), .string (bs aA_0.Lining), .string (bs aA_0.Sole), .int .i64 aA_0.Thick, .int .i64 aA_0.Heel, .int .i64 aA_0.Eyelets, .int .i64 aA_0.Density, .bool aA_0.Double]) (SH.front 3 hS178) 0 rfl j v hv) rfl rfl rfl Tryd.underlying29 rfl (info29).1 (info29).2.1) rfl rfl rfl ?_
  obtain ⟨x179, hx180, hm⟩ := bindE hm
  refine QL.call 15 #[.agg #[.string (bs aA_0.Upper), .string (bs aA_0.Color), .string (bs aA_0.Lining), .string (bs aA_0.Sole), .int .i64 aA_0.Thick, .int .i64 aA_0.Heel, .int .i64 aA_0.Eyelets, .int .i64 aA_0.Density, .bool aA_0.Double]] (.agg #[.string (bs x179.Upper), .string (bs x179.Color), .string (bs x179.Lining), .string (bs x179.Sole), .int .i64 x179.Thick, .int .i64 x179.Heel, .int .i64 x179.Eyelets, .int .i64 x179.Density, .bool x179.Double]) (fun _ => by kernel_rfl) (fun w181 hE182 => c_15 n aA_0 w181 hx180 ) rfl rfl rfl ?_
  refine QL.st (.agg #[.string (bs aB_1.Upper), .string (bs aB_1.Color), .string (bs aB_1.Lining), .string (bs aB_1.Sole), .int .i64 aB_1.Thick, .int .i64 aB_1.Heel, .int .i64 aB_1.Eyelets, .int .i64 aB_1.Density, .bool aB_1.Double]) (ST.loadAgg (vs := [.string (bs aB_1.Upper), .string (bs aB_1.Color), .string (bs aB_1.Lining), .string (bs aB_1.Sole), .int .i64 aB_1.Thick, .int .i64 aB_1.Heel, .int .i64 aB_1.Eyelets, .int .i64 aB_1.Density, .bool aB_1.Double]) (fun j v hv => SH.boxPart (us := [.string (bs aB_1.Upper), .string (bs aB_1.Color), .string (bs aB_1.Lining), .string (bs aB_1.Sole), .int .i64 aB_1.Thick, .int .i64 aB_1.Heel, .int .i64 aB_1.Eyelets, .int .i64 aB_1.Density, .bool aB_1.Double]) (SH.front 2 hS178) 0 rfl j v hv) rfl rfl rfl Tryd.underlying29 rfl (info29).1 (info29).2.1) rfl rfl rfl ?_
  obtain ⟨x183, hx184, hm⟩ := bindE hm
  refine QL.call 15 #[.agg #[.string (bs aB_1.Upper), .string (bs aB_1.Color), .string (bs aB_1.Lining), .string (bs aB_1.Sole), .int .i64 aB_1.Thick, .int .i64 aB_1.Heel, .int .i64 aB_1.Eyelets, .int .i64 aB_1.Density, .bool aB_1.Double]] (.agg #[.string (bs x183.Upper), .string (bs x183.Color), .string (bs x183.Lining), .string (bs x183.Sole), .int .i64 x183.Thick, .int .i64 x183.Heel, .int .i64 x183.Eyelets, .int .i64 x183.Density, .bool x183.Double]) (fun _ => by kernel_rfl) (fun w185 hE186 => c_15 n aB_1 w185 hx184 ) rfl rfl rfl ?_
  refine QL.subk [6, 7, 8, 10, 62, 64] [(6, .slice a66 x64.1.length c67), (7, .int .i64 x64.2), (8, .slice a101 x145.2.length c102), (10, .int .i64 x145.1), (62, .agg #[.string (bs x179.Upper), .string (bs x179.Color), .string (bs x179.Lining), .string (bs x179.Sole), .int .i64 x179.Thick, .int .i64 x179.Heel, .int .i64 x179.Eyelets, .int .i64 x179.Density, .bool x179.Double]), (64, .agg #[.string (bs x183.Upper), .string (bs x183.Color), .string (bs x183.Lining), .string (bs x183.Sole), .int .i64 x183.Thick, .int .i64 x183.Heel, .int .i64 x183.Eyelets, .int .i64 x183.Density, .bool x183.Double])] (by kernel_rfl) ?_
  refine QL.nil ?_
  intro w187 hE188
  have hb189 : Ext w w187 := Ext.trans hb176 hE188
  have hL190 : w.heap.size ≤ w187.heap.size := Nat.le_trans hL177 hE188.size
  have hS191 : SH w187 w.heap.size [aOwn fStr 9 a101 c102 x145.2, aOwn fStr 9 a66 c67 x64.1, aBox 29 b10 [.string (bs aB_1.Upper), .string (bs aB_1.Color), .string (bs aB_1.Lining), .string (bs aB_1.Sole), .int .i64 aB_1.Thick, .int .i64 aB_1.Heel, .int .i64 aB_1.Eyelets, .int .i64 aB_1.Density, .bool aB_1.Double], aBox 29 b2 [.string (bs aA_0.Upper), .string (bs aA_0.Color), .string (bs aA_0.Lining), .string (bs aA_0.Sole), .int .i64 aA_0.Thick, .int .i64 aA_0.Heel, .int .i64 aA_0.Eyelets, .int .i64 aA_0.Density, .bool aA_0.Double]] := SH.ext hS178 hE188
  refine WA.one (i := 4) (D' := [0, 1, 2, 3, 4]) rfl rfl (by kernel_rfl) ?_
  obtain ⟨x192, hx193, hm⟩ := bindE hm
  refine WL.call 16 #[.agg #[.string (bs x179.Upper), .string (bs x179.Color), .string (bs x179.Lining), .string (bs x179.Sole), .int .i64 x179.Thick, .int .i64 x179.Heel, .int .i64 x179.Eyelets, .int .i64 x179.Density, .bool x179.Double], .agg #[.string (bs x183.Upper), .string (bs x183.Color), .string (bs x183.Lining), .string (bs x183.Sole), .int .i64 x183.Thick, .int .i64 x183.Heel, .int .i64 x183.Eyelets, .int .i64 x183.Density, .bool x183.Double]] rfl rfl (by kernel_rfl) (c_16 n x179 x183 w187 hx193 (GL.below hG hb189)) ?_
  rintro _ w197 ⟨a194, c195, rfl, hE198, hR199⟩
  refine ⟨_, rfl, ?_⟩
  have hb200 : Ext w w197 := Ext.trans hb189 hE198
  have hL201 : w.heap.size ≤ w197.heap.size := Nat.le_trans hL190 hE198.size
  have hS202 : SH w197 w.heap.size [aOwn fStr 9 a194 c195 x192.1, aOwn fStr 9 a101 c102 x145.2, aOwn fStr 9 a66 c67 x64.1, aBox 29 b10 [.string (bs aB_1.Upper), .string (bs aB_1.Color), .string (bs aB_1.Lining), .string (bs aB_1.Sole), .int .i64 aB_1.Thick, .int .i64 aB_1.Heel, .int .i64 aB_1.Eyelets, .int .i64 aB_1.Density, .bool aB_1.Double], aBox 29 b2 [.string (bs aA_0.Upper), .string (bs aA_0.Color), .string (bs aA_0.Lining), .string (bs aA_0.Sole), .int .i64 aA_0.Thick, .int .i64 aA_0.Heel, .int .i64 aA_0.Eyelets, .int .i64 aA_0.Density, .bool aA_0.Double]] := SH.add hS191 hE198 hL190 hR199
  refine WL.sub [(6, .slice a66 x64.1.length c67), (7, .int .i64 x64.2), (8, .slice a101 x145.2.length c102), (10, .int .i64 x145.1), (65, .tuple #[.slice a194 x192.1.length c195, .int .i64 x192.2])] ⟨rfl, rfl, rfl, rfl, rfl, trivial⟩ ?_
  refine WL.nil ?_
  refine WA.one (i := 5) (D' := [0, 1, 2, 3, 4, 5]) rfl rfl (by kernel_rfl) ?_
  refine WL.runk 1 [6, 7, 8, 10, 12, 13, 60, 66, 67] [(6, .slice a66 x64.1.length c67), (7, .int .i64 x64.2), (8, .slice a101 x145.2.length c102), (10, .int .i64 x145.1), (60, .tuple #[.slice a194 x192.1.length c195, .int .i64 x192.2])] (by kernel_rfl) ?_
  refine WL.nil ?_
  refine WA.quiet (f' := 0) (D' := [0, 1, 2, 3, 4, 5, 6, 7, 8, 9]) [6, 7, 8, 9] rfl rfl (by kernel_rfl) ?_
  refine QL.step1v 66 (.slice a194 x192.1.length c195) rfl (fun _ => by kernel_rfl) ?_
  refine QL.step1v 67 (.int .i64 x192.2) rfl (fun _ => by kernel_rfl) ?_
  refine QL.step1v 12 (.slice a194 x192.1.length c195) rfl (fun _ => by kernel_rfl) ?_
  refine QL.step1v 13 (.int .i64 x192.2) rfl (fun _ => by kernel_rfl) ?_
  refine QL.subk [6, 7, 8, 10, 12, 13] [(6, .slice a66 x64.1.length c67), (7, .int .i64 x64.2), (8, .slice a101 x145.2.length c102), (10, .int .i64 x145.1), (12, .slice a194 x192.1.length c195), (13, .int .i64 x192.2)] (by kernel_rfl) ?_
  refine QL.nil ?_
  intro w203 hE204
  have hb205 : Ext w w203 := Ext.trans hb200 hE204
  have hL206 : w.heap.size ≤ w203.heap.size := Nat.le_trans hL201 hE204.size
  have hS207 : SH w203 w.heap.size [aOwn fStr 9 a194 c195 x192.1, aOwn fStr 9 a101 c102 x145.2, aOwn fStr 9 a66 c67 x64.1, aBox 29 b10 [.string (bs aB_1.Upper), .string (bs aB_1.Color), .string (bs aB_1.Lining), .string (bs aB_1.Sole), .int .i64 aB_1.Thick, .int .i64 aB_1.Heel, .int .i64 aB_1.Eyelets, .int .i64 aB_1.Density, .bool aB_1.Double], aBox 29 b2 [.string (bs aA_0.Upper), .string (bs aA_0.Color), .string (bs aA_0.Lining), .string (bs aA_0.Sole), .int .i64 aA_0.Thick, .int .i64 aA_0.Heel, .int .i64 aA_0.Eyelets, .int .i64 aA_0.Density, .bool aA_0.Double]] := SH.ext hS202 hE204
  refine WA.done (by kernel_rfl) ?_
  refine WQ.then_normal (hK173 _ _ _ ?_)
  refine WP.seq (fun K208 hK208 => ?_)
  refine WP.seq (fun K209 hK209 => ?_)
  obtain ⟨x219, hx220, hm⟩ := bindE hm
  refine WP.cut (fun env' w' => env' = [(8, .slice a101 x145.2.length c102), (10, .int .i64 x145.1), (76, .bool x219)] ∧ Ext w w' ∧ w.heap.size ≤ w'.heap.size ∧ SH w' w.heap.size [aOwn fStr 9 a101 c102 x145.2, aBox 29 b10 [.string (bs aB_1.Upper), .string (bs aB_1.Color), .string (bs aB_1.Lining), .string (bs aB_1.Sole), .int .i64 aB_1.Thick, .int .i64 aB_1.Heel, .int .i64 aB_1.Eyelets, .int .i64 aB_1.Density, .bool aB_1.Double], aBox 29 b2 [.string (bs aA_0.Upper), .string (bs aA_0.Color), .string (bs aA_0.Lining), .string (bs aA_0.Sole), .int .i64 aA_0.Thick, .int .i64 aA_0.Heel, .int .i64 aA_0.Eyelets, .int .i64 aA_0.Density, .bool aA_0.Double]]) ?_ ?_
  · have hm := hx220; clear hx220
    refine WP.region ?_
    refine WL.runk 2 [7, 8, 10, 13, 68, 69] [(7, .int .i64 x64.2), (8, .slice a101 x145.2.length c102), (10, .int .i64 x145.1), (13, .int .i64 x192.2), (68, .slice a194 x192.1.length c195), (69, .slice a66 x64.1.length c67)] (by kernel_rfl) ?_
    obtain ⟨x221, hx222, hm⟩ := bindE hm
    refine WL.call 10 #[.slice a194 x192.1.length c195, .slice a66 x64.1.length c67] rfl rfl (by kernel_rfl) (c_10 n x192.1 a194 c195 x64.1 a66 c67 w203 hx222 (SH.rd (SH.front 0 hS207)) (SH.le (SH.front 0 hS207)).1 (SH.rd (SH.front 2 hS207)) (SH.le (SH.front 2 hS207)).1) ?_
    rintro _ w223 ⟨rfl, hE224⟩
    refine ⟨_, rfl, ?_⟩
    have hb226 : Ext w w223 := Ext.trans hb205 hE224
    have hL227 : w.heap.size ≤ w223.heap.size := Nat.le_trans hL206 hE224.size
    have hS228 : SH w223 w.heap.size [aOwn fStr 9 a194 c195 x192.1, aOwn fStr 9 a101 c102 x145.2, aOwn fStr 9 a66 c67 x64.1, aBox 29 b10 [.string (bs aB_1.Upper), .string (bs aB_1.Color), .string (bs aB_1.Lining), .string (bs aB_1.Sole), .int .i64 aB_1.Thick, .int .i64 aB_1.Heel, .int .i64 aB_1.Eyelets, .int .i64 aB_1.Density, .bool aB_1.Double], aBox 29 b2 [.string (bs aA_0.Upper), .string (bs aA_0.Color), .string (bs aA_0.Lining), .string (bs aA_0.Sole), .int .i64 aA_0.Thick, .int .i64 aA_0.Heel, .int .i64 aA_0.Eyelets, .int .i64 aA_0.Density, .bool aA_0.Double]] := SH.ext hS207 hE224
    refine WL.runk 2 [7, 8, 10, 13, 72] [(7, .int .i64 x64.2), (8, .slice a101 x145.2.length c102), (10, .int .i64 x145.1), (13, .int .i64 x192.2), (72, .bool (!x221))] (by kernel_rfl) ?_
    refine WL.case (!x221) [72] ⟨rfl, trivial⟩ (fun hc229 => ?_) (fun hc229 => ?_)
    · have hm := iteT hm hc229
      refine WL.runk 4 [8, 10, 76] [(8, .slice a101 x145.2.length c102), (10, .int .i64 x145.1), (76, .bool true)] (by kernel_rfl) ?_
      refine WL.nil ?_
      obtain rfl := Option.some.inj hm
      exact WQ.post' ⟨rfl, hb226, hL227, (SH.take 3 (SH.front 3 (SH.front 4 (SH.front 4 hS228))))⟩ ⟨rfl, rfl, rfl, trivial⟩
    have hm := iteF hm hc229
    refine WL.runk 4 [8, 10, 76] [(8, .slice a101 x145.2.length c102), (10, .int .i64 x145.1), (76, .bool (x192.2 != x64.2))] (by kernel_rfl) ?_
    refine WL.nil ?_
    obtain rfl := Option.some.inj hm
    exact WQ.post' ⟨rfl, hb226, hL227, (SH.take 3 (SH.front 3 (SH.front 4 (SH.front 4 hS228))))⟩ ⟨rfl, rfl, rfl, trivial⟩
  clear hx220
  rintro _ w230 ⟨rfl, hb231, hL232, hS233⟩
  refine WQ.then_normal (hK209 _ _ _ ?_)
  refine WP.cond x219 rfl rfl (fun hc234 => ?_) (fun hc234 => ?_)
  · have hm := iteT hm hc234
    refine WP.seq (fun K235 hK235 => ?_)
    refine WP.region ?_
    refine WL.runk 1 [4] [(4, .bool false)] (by kernel_rfl) ?_
    refine WL.nil ?_
    refine WQ.then_normal (hK235 _ _ _ ?_)
    refine WP.ret ?_
    refine WQ.then_ret ?_
    obtain rfl := Option.some.inj hm
    exact WQ.ret1 _ rfl rfl ⟨rfl, hb231⟩
  have hm := iteF hm hc234
  refine WP.skip ?_
  refine WQ.then_normal (hK208 _ _ _ ?_)
  refine WP.seq (fun K236 hK236 => ?_)
  refine WP.region ?_
  refine WL.runk 1 [8, 10, 11] [(8, .slice a101 x145.2.length c102), (10, .int .i64 x145.1), (11, .int .i64 1)] (by kernel_rfl) ?_
  refine WL.nil ?_
  refine WQ.then_normal (hK236 _ _ _ ?_)
  refine WP.seq (fun K237 hK237 => ?_)
  refine WP.region ?_
  refine WL.runk 2 [10, 77, 78] [(10, .int .i64 x145.1), (77, .slice a101 x145.2.length c102), (78, .int .i64 1)] (by kernel_rfl) ?_
  obtain ⟨x238, hx239, hm⟩ := bindE hm
  refine WL.call 12 #[.slice a101 x145.2.length c102, .int .i64 1] rfl rfl (by kernel_rfl) (c_12 n x145.2 a101 c102 1 w230 hx239 (SH.rd (SH.front 0 hS233)) (SH.le (SH.front 0 hS233)).1) ?_
  rintro _ w240 ⟨rfl, hE241⟩
  refine ⟨_, rfl, ?_⟩
  have hb243 : Ext w w240 := Ext.trans hb231 hE241
  have hL244 : w.heap.size ≤ w240.heap.size := Nat.le_trans hL232 hE241.size
  have hS245 : SH w240 w.heap.size [aOwn fStr 9 a101 c102 x145.2, aBox 29 b10 [.string (bs aB_1.Upper), .string (bs aB_1.Color), .string (bs aB_1.Lining), .string (bs aB_1.Sole), .int .i64 aB_1.Thick, .int .i64 aB_1.Heel, .int .i64 aB_1.Eyelets, .int .i64 aB_1.Density, .bool aB_1.Double], aBox 29 b2 [.string (bs aA_0.Upper), .string (bs aA_0.Color), .string (bs aA_0.Lining), .string (bs aA_0.Sole), .int .i64 aA_0.Thick, .int .i64 aA_0.Heel, .int .i64 aA_0.Eyelets, .int .i64 aA_0.Density, .bool aA_0.Double]] := SH.ext hS233 hE241
  refine WL.runk 1 [10, 11] [(10, .int .i64 x145.1), (11, .int .i64 x238)] (by kernel_rfl) ?_
  refine WL.nil ?_
  refine WQ.then_normal (hK237 _ _ _ ?_)
  refine WP.seq (fun K246 hK246 => ?_)
  refine WP.seq (fun K247 hK247 => ?_)
  refine WP.region ?_
  refine WL.runk 2 [10, 11, 81] [(10, .int .i64 x145.1), (11, .int .i64 x238), (81, .bool (decide (x238 < 0)))] (by kernel_rfl) ?_
  refine WL.nil ?_
  refine WQ.then_normal (hK247 _ _ _ ?_)
  refine WP.cond (decide (x238 < 0)) rfl rfl (fun hc248 => ?_) (fun hc248 => ?_)
  · have hm := iteT hm hc248
    refine WP.seq (fun K249 hK249 => ?_)
    refine WP.region ?_
    refine WL.runk 1 [4] [(4, .bool false)] (by kernel_rfl) ?_
    refine WL.nil ?_
    refine WQ.then_normal (hK249 _ _ _ ?_)
    refine WP.ret ?_
    refine WQ.then_ret ?_
    obtain rfl := Option.some.inj hm
    exact WQ.ret1 _ rfl rfl ⟨rfl, hb243⟩
  have hm := iteF hm hc248
  refine WP.skip ?_
  refine WQ.then_normal (hK246 _ _ _ ?_)
  refine WP.seq (fun K250 hK250 => ?_)
  refine WP.seq (fun K251 hK251 => ?_)
  refine WP.region ?_
  refine WL.runk 3 [84] [(84, .bool (x238 != x145.1))] (by kernel_rfl) ?_
  refine WL.nil ?_
  refine WQ.then_normal (hK251 _ _ _ ?_)
  refine WP.cond (x238 != x145.1) rfl rfl (fun hc252 => ?_) (fun hc252 => ?_)
  · have hm := iteT hm hc252
    refine WP.seq (fun K253 hK253 => ?_)
    refine WP.region ?_
    refine WL.runk 1 [4] [(4, .bool false)] (by kernel_rfl) ?_
    refine WL.nil ?_
    refine WQ.then_normal (hK253 _ _ _ ?_)
    refine WP.ret ?_
    refine WQ.then_ret ?_
    obtain rfl := Option.some.inj hm
    exact WQ.ret1 _ rfl rfl ⟨rfl, hb243⟩
  have hm := iteF hm hc252
  refine WP.skip ?_
  refine WQ.then_normal (hK250 _ _ _ ?_)
  refine WP.seq (fun K254 hK254 => ?_)
  refine WP.region ?_
  refine WL.runk 1 [4] [(4, .bool true)] (by kernel_rfl) ?_
  refine WL.nil ?_
  refine WQ.then_normal (hK254 _ _ _ ?_)
  refine WP.ret ?_
  obtain rfl := Option.some.inj hm
  exact WQ.ret1 _ rfl rfl ⟨rfl, hb243⟩

end Go.Proofs.YtkjjjbfpecmieaaDoor
