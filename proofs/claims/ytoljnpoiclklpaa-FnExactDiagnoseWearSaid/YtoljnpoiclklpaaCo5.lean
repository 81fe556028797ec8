/- Each call does what its Lean function says. -/
import Derived.Test.YtoljnpoiclklpaaCo4
set_option maxRecDepth 20000
set_option maxHeartbeats 4000000
namespace Go.Proofs.Ytoljnpoiclklpaa
open Go Go.Gv Go.RowKit

theorem c_72 (n : Nat) (n_0 : Int) (w : World) {r : Int} (hm : m_spec_l02Size n n_0 = some r)  :
    CallV Try.prog 72 #[.int .i64 n_0] w (fun v w' => v = .int .i64 r ∧ Ext w w') := by
  unfold m_spec_l02Size at hm
  refine CallV.enter Try.func72 rfl (by kernel_rfl) Try.ntmps72 (env := [(0, .int .i64 n_0)]) ⟨rfl, trivial⟩ ?_
  refine WP.seq (fun K1 hK1 => ?_)
  refine WP.region ?_
  refine WL.runk 1 [0] [(0, .int .i64 n_0)] (by kernel_rfl) ?_
  refine WL.nil ?_
  refine WQ.then_normal (hK1 _ _ _ ?_)
  refine WP.seq (fun K2 hK2 => ?_)
  refine WP.seq (fun K3 hK3 => ?_)
  refine WP.region ?_
  refine WL.runk 2 [0, 4] [(0, .int .i64 n_0), (4, .bool (decide (n_0 < 0)))] (by kernel_rfl) ?_
  refine WL.nil ?_
  refine WQ.then_normal (hK3 _ _ _ ?_)
  refine WP.cond (decide (n_0 < 0)) rfl rfl (fun hc4 => ?_) (fun hc4 => ?_)
  · have hm := iteT hm hc4
    refine WP.seq (fun K5 hK5 => ?_)
    refine WP.region ?_
    refine WL.runk 3 [2] [(2, .int .i64 (wI64 (0 - n_0)))] (by kernel_rfl) ?_
    refine WL.nil ?_
    refine WQ.then_normal (hK5 _ _ _ ?_)
    refine WP.ret ?_
    refine WQ.then_ret ?_
    obtain rfl := Option.some.inj hm
    exact WQ.ret1 _ rfl rfl ⟨rfl, (Ext.refl w)⟩
  · have hm := iteF hm hc4
    refine WP.skip ?_
    refine WQ.then_normal (hK2 _ _ _ ?_)
    refine WP.seq (fun K6 hK6 => ?_)
    refine WP.region ?_
    refine WL.runk 2 [2] [(2, .int .i64 n_0)] (by kernel_rfl) ?_
    refine WL.nil ?_
    refine WQ.then_normal (hK6 _ _ _ ?_)
    refine WP.ret ?_
    obtain rfl := Option.some.inj hm
    exact WQ.ret1 _ rfl rfl ⟨rfl, (Ext.refl w)⟩

theorem c_78 (n : Nat) (a_0 : Int) (b_1 : Int) (w : World) {r : Int} (hm : m_spec_l02Gcd n a_0 b_1 = some r)  :
    CallV Try.prog 78 #[.int .i64 a_0, .int .i64 b_1] w (fun v w' => v = .int .i64 r ∧ Ext w w') := by
  unfold m_spec_l02Gcd at hm
  refine CallV.enter Try.func78 rfl (by kernel_rfl) Try.ntmps78 (env := [(0, .int .i64 a_0), (1, .int .i64 b_1)]) ⟨rfl, rfl, trivial⟩ ?_
  refine WP.seq (fun K1 hK1 => ?_)
  refine WP.region ?_
  refine WL.runk 1 [0, 1] [(0, .int .i64 a_0), (1, .int .i64 b_1)] (by kernel_rfl) ?_
  refine WL.nil ?_
  refine WQ.then_normal (hK1 _ _ _ ?_)
  refine WP.seq (fun K2 hK2 => ?_)
  refine WP.block ?_
  obtain ⟨t14, ht15, hm⟩ := bindE hm
  have hmo9 := hm; clear hm
  refine WP.sub [(0, .int .i64 a_0), (1, .int .i64 b_1)] ⟨rfl, rfl, trivial⟩ ?_
  refine WP.loop (fun n' env' w' => ∃ (st3 : Int × Int) , env' = [(0, .int .i64 st3.1), (1, .int .i64 st3.2)] ∧ Ext w w' ∧ w.heap.size ≤ w'.heap.size ∧ SH w' w.heap.size [] ∧ loopN (m_spec_l02Gcd_l1 n) n' st3 = some t14) n ⟨(a_0, b_1), rfl, (Ext.refl w), (Nat.le_refl _), (SH.nil _ _), ht15⟩ ?_
  rintro n11 _ w4 ⟨st3, rfl, hb5, hL6, hS7, hl8⟩ K10 hK10
  obtain ⟨n12, s13, rfl, hm, hl8⟩ := loopN_some hl8
  unfold m_spec_l02Gcd_l1 at hm
  refine WP.seq (fun K16 hK16 => ?_)
  refine WP.seq (fun K17 hK17 => ?_)
  refine WP.region ?_
  refine WL.runk 2 [0, 1, 7] [(0, .int .i64 st3.1), (1, .int .i64 st3.2), (7, .bool (st3.2 != 0))] (by kernel_rfl) ?_
  refine WL.nil ?_
  refine WQ.then_normal (hK17 _ _ _ ?_)
  refine WP.cond (st3.2 != 0) rfl rfl (fun hc18 => ?_) (fun hc18 => ?_)
  · have hm := iteT hm hc18
    refine WP.skip ?_
    refine WQ.then_normal (hK16 _ _ _ ?_)
    refine WP.block ?_
    refine WP.seq (fun K19 hK19 => ?_)
    refine WP.region ?_
    refine WL.runk 2 [1, 8, 9] [(1, .int .i64 st3.2), (8, .int .i64 st3.1), (9, .int .i64 st3.2)] (by kernel_rfl) ?_
    obtain ⟨x20, hx21, hm⟩ := bindE hm
    refine WL.st (.int .i64 x20) (ST.rem (k := .i64) hx21 rfl rfl rfl) rfl rfl rfl ?_
    refine WL.runk 1 [1, 5] [(1, .int .i64 st3.2), (5, .int .i64 x20)] (by kernel_rfl) ?_
    refine WL.nil ?_
    refine WQ.then_normal (hK19 _ _ _ ?_)
    refine WP.seq (fun K22 hK22 => ?_)
    refine WP.region ?_
    refine WL.runk 2 [0, 5] [(5, .int .i64 x20), (0, .int .i64 st3.2)] (by kernel_rfl) ?_
    refine WL.nil ?_
    refine WQ.then_normal (hK22 _ _ _ ?_)
    refine WP.region ?_
    refine WL.runk 2 [0, 1] [(0, .int .i64 st3.2), (1, .int .i64 x20)] (by kernel_rfl) ?_
    refine WL.nil ?_
    refine WQ.block_normal ?_
    obtain rfl := Option.some.inj hm
    exact WQ.round hK10 ⟨(st3.2, x20), rfl, hb5, hL6, hS7, hl8⟩ (Nat.lt_succ_self _) ⟨rfl, rfl, trivial⟩
  · have hm := iteF hm hc18
    refine WP.exit ?_
    refine WQ.then_exit ?_
    refine WQ.then_exit ?_
    refine WQ.block_here ?_
    obtain rfl := Option.some.inj hm
    obtain rfl := afterN_done hl8
    have hm := hmo9
    refine WQ.then_normal (hK2 _ _ _ ?_)
    refine WP.seq (fun K23 hK23 => ?_)
    refine WP.region ?_
    refine WL.runk 2 [4] [(4, .int .i64 st3.1)] (by kernel_rfl) ?_
    refine WL.nil ?_
    refine WQ.then_normal (hK23 _ _ _ ?_)
    refine WP.ret ?_
    obtain rfl := Option.some.inj hm
    exact WQ.ret1 _ rfl rfl ⟨rfl, hb5⟩

theorem c_61 (n : Nat) (num_0 : Int) (den_1 : Int) (w : World) {r : SFraction} (hm : m_spec_l02Make n num_0 den_1 = some r)  :
    CallV Try.prog 61 #[.int .i64 num_0, .int .i64 den_1] w (fun v w' => v = .agg #[.int .i64 r.Num, .int .i64 r.Den] ∧ Ext w w') := by
  unfold m_spec_l02Make at hm
  refine CallV.enter Try.func61 rfl (by kernel_rfl) Try.ntmps61 (env := [(0, .int .i64 num_0), (1, .int .i64 den_1)]) ⟨rfl, rfl, trivial⟩ ?_
  refine WP.seq (fun K1 hK1 => ?_)
  refine WP.region ?_
  refine WL.box 34 [.int .i64 0, .int .i64 0] 4 (by kernel_rfl) rfl rfl rfl rfl ?_
  intro b2 w3 hE4 hR5
  have hb7 : Ext w w3 := Ext.trans (Ext.refl w) hE4
  have hL8 : w.heap.size ≤ w3.heap.size := Nat.le_trans (Nat.le_refl _) hE4.size
  have hS9 : SH w3 w.heap.size [aBox 34 b2 [.int .i64 0, .int .i64 0]] := SH.add (SH.nil _ _) hE4 (Nat.le_refl _) hR5
  refine WL.sub [(0, .int .i64 num_0), (1, .int .i64 den_1), (4, .pointer (some ⟨b2, 0, none⟩))] ⟨rfl, rfl, rfl, trivial⟩ ?_
  refine WL.nil ?_
  refine WQ.then_normal (hK1 _ _ _ ?_)
  refine WP.seq (fun K10 hK10 => ?_)
  refine WP.region ?_
  refine WL.runk 1 [0, 1, 4, 6] [(0, .int .i64 num_0), (1, .int .i64 den_1), (4, .pointer (some ⟨b2, 0, none⟩)), (6, .int .i64 num_0)] (by kernel_rfl) ?_
  obtain ⟨x11, hx12, hm⟩ := bindE hm
  refine WL.call 72 #[.int .i64 num_0] rfl rfl (by kernel_rfl) (c_72 n num_0 w3 hx12 ) ?_
  rintro _ w13 ⟨rfl, hE14⟩
  refine ⟨_, rfl, ?_⟩
  have hb16 : Ext w w13 := Ext.trans hb7 hE14
  have hL17 : w.heap.size ≤ w13.heap.size := Nat.le_trans hL8 hE14.size
  have hS18 : SH w13 w.heap.size [aBox 34 b2 [.int .i64 0, .int .i64 0]] := SH.ext hS9 hE14
  refine WL.runk 1 [0, 1, 4, 7, 8] [(0, .int .i64 num_0), (1, .int .i64 den_1), (4, .pointer (some ⟨b2, 0, none⟩)), (7, .int .i64 x11), (8, .int .i64 den_1)] (by kernel_rfl) ?_
  obtain ⟨x19, hx20, hm⟩ := bindE hm
  refine WL.call 78 #[.int .i64 x11, .int .i64 den_1] rfl rfl (by kernel_rfl) (c_78 n x11 den_1 w13 hx20 ) ?_
  rintro _ w21 ⟨rfl, hE22⟩
  refine ⟨_, rfl, ?_⟩
  have hb24 : Ext w w21 := Ext.trans hb16 hE22
  have hL25 : w.heap.size ≤ w21.heap.size := Nat.le_trans hL17 hE22.size
  have hS26 : SH w21 w.heap.size [aBox 34 b2 [.int .i64 0, .int .i64 0]] := SH.ext hS18 hE22
  refine WL.runk 1 [0, 1, 4, 5] [(0, .int .i64 num_0), (1, .int .i64 den_1), (4, .pointer (some ⟨b2, 0, none⟩)), (5, .int .i64 x19)] (by kernel_rfl) ?_
  refine WL.nil ?_
  refine WQ.then_normal (hK10 _ _ _ ?_)
  refine WP.seq (fun K27 hK27 => ?_)
  refine WP.open (n := 8) (by kernel_rfl) rfl (fun w28 hE29 => ?_)
  have hb30 : Ext w w28 := Ext.trans hb24 hE29
  have hL31 : w.heap.size ≤ w28.heap.size := Nat.le_trans hL25 hE29.size
  have hS32 : SH w28 w.heap.size [aBox 34 b2 [.int .i64 0, .int .i64 0]] := SH.ext hS26 hE29
  refine WA.quiet (f' := 1) (D' := [0, 1, 2, 3, 4, 5, 6]) [0, 1, 2, 3, 4, 5, 6] rfl rfl (by kernel_rfl) ?_
  refine QL.step1 rfl (env' := [(0, .int .i64 num_0), (1, .int .i64 den_1), (4, .pointer (some ⟨b2, 0, none⟩)), (5, .int .i64 x19), (10, .int .i64 num_0)]) (fun _ => by kernel_rfl) ?_
  refine QL.sub [(1, .int .i64 den_1), (4, .pointer (some ⟨b2, 0, none⟩)), (5, .int .i64 x19), (10, .int .i64 num_0)] ⟨rfl, rfl, rfl, rfl, trivial⟩ ?_
  refine QL.step1 rfl (env' := [(1, .int .i64 den_1), (4, .pointer (some ⟨b2, 0, none⟩)), (5, .int .i64 x19), (10, .int .i64 num_0), (11, .int .i64 x19)]) (fun _ => by kernel_rfl) ?_
  obtain ⟨x33, hx34, hm⟩ := bindE hm
  refine QL.st (.int .i64 x33) (ST.quo (k := .i64) hx34 rfl rfl rfl) rfl rfl rfl ?_
  refine QL.step1 rfl (env' := [(1, .int .i64 den_1), (4, .pointer (some ⟨b2, 0, none⟩)), (5, .int .i64 x19), (10, .int .i64 num_0), (11, .int .i64 x19), (12, .int .i64 x33), (13, .int .i64 den_1)]) (fun _ => by kernel_rfl) ?_
  refine QL.sub [(4, .pointer (some ⟨b2, 0, none⟩)), (5, .int .i64 x19), (12, .int .i64 x33), (13, .int .i64 den_1)] ⟨rfl, rfl, rfl, rfl, trivial⟩ ?_
  refine QL.step1 rfl (env' := [(4, .pointer (some ⟨b2, 0, none⟩)), (5, .int .i64 x19), (12, .int .i64 x33), (13, .int .i64 den_1), (14, .int .i64 x19)]) (fun _ => by kernel_rfl) ?_
  refine QL.sub [(4, .pointer (some ⟨b2, 0, none⟩)), (12, .int .i64 x33), (13, .int .i64 den_1), (14, .int .i64 x19)] ⟨rfl, rfl, rfl, rfl, trivial⟩ ?_
  obtain ⟨x35, hx36, hm⟩ := bindE hm
  refine QL.st (.int .i64 x35) (ST.quo (k := .i64) hx36 rfl rfl rfl) rfl rfl rfl ?_
  refine QL.step1 rfl (env' := [(4, .pointer (some ⟨b2, 0, none⟩)), (12, .int .i64 x33), (13, .int .i64 den_1), (14, .int .i64 x19), (15, .int .i64 x35), (16, .agg #[.int .i64 x33, .int .i64 x35])]) (fun _ => by kernel_rfl) ?_
  refine QL.sub [(4, .pointer (some ⟨b2, 0, none⟩)), (16, .agg #[.int .i64 x33, .int .i64 x35])] ⟨rfl, rfl, trivial⟩ ?_
  refine QL.sub [(4, .pointer (some ⟨b2, 0, none⟩)), (16, .agg #[.int .i64 x33, .int .i64 x35])] ⟨rfl, rfl, trivial⟩ ?_
  refine QL.nil ?_
  intro w37 hE38
  have hb39 : Ext w w37 := Ext.trans hb30 hE38
  have hL40 : w.heap.size ≤ w37.heap.size := Nat.le_trans hL31 hE38.size
  have hS41 : SH w37 w.heap.size [aBox 34 b2 [.int .i64 0, .int .i64 0]] := SH.ext hS32 hE38
  refine WA.one (i := 7) (D' := [0, 1, 2, 3, 4, 5, 6, 7]) rfl rfl (by kernel_rfl) ?_
  refine WL.boxStore 0 [.int .i64 x33, .int .i64 x35] [.int .i64 x33, .int .i64 x35] (SH.front 0 hS41) hL40 rfl rfl rfl rfl rfl rfl rfl (info34).1 (info34).2.1 rfl rfl rfl ?_
  intro w42 hB43 hS44
  have hb45 : Ext w w42 := Below.trans hb39 hB43
  have hL46 : w.heap.size ≤ w42.heap.size := Nat.le_trans hL40 hB43.size
  refine WL.sub [(4, .pointer (some ⟨b2, 0, none⟩))] ⟨rfl, trivial⟩ ?_
  refine WL.nil ?_
  refine WA.done (by kernel_rfl) ?_
  refine WQ.then_normal (hK27 _ _ _ ?_)
  refine WP.ret ?_
  obtain rfl := Option.some.inj hm
  exact WQ.retv1 _ rfl (RVal.box (SH.front 0 hS44) rfl Try.underlying34 rfl (info34).1 (info34).2.1) ⟨rfl, hb45⟩

theorem c_28 (n : Nat) (rows_0 : List (List UInt8)) (a0' : Option Addr) (c0' : Nat) (w : World) {r : SFraction × SFraction × Int} (hm : m_spec_CentreOfWear n rows_0 = some r) (h0 : Rd fStr.ty w a0' rows_0) (hle0 : rows_0.length ≤ c0') :
    CallV Try.prog 28 #[.slice a0' rows_0.length c0'] w (fun v w' => v = .tuple #[.agg #[.int .i64 r.1.Num, .int .i64 r.1.Den], .agg #[.int .i64 r.2.1.Num, .int .i64 r.2.1.Den], .int .i64 r.2.2] ∧ Ext w w') := by
  unfold m_spec_CentreOfWear at hm
  refine CallV.enter Try.func28 rfl (by kernel_rfl) Try.ntmps28 (env := [(0, .slice a0' rows_0.length c0')]) ⟨rfl, trivial⟩ ?_
  refine WP.seq (fun K1 hK1 => ?_)
  refine WP.region ?_
  refine WL.box 34 [.int .i64 0, .int .i64 0] 2 (by kernel_rfl) rfl rfl rfl rfl ?_
  intro b2 w3 hE4 hR5
  have hb7 : Ext w w3 := Ext.trans (Ext.refl w) hE4
  have hL8 : w.heap.size ≤ w3.heap.size := Nat.le_trans (Nat.le_refl _) hE4.size
  have hS9 : SH w3 w.heap.size [aBox 34 b2 [.int .i64 0, .int .i64 0]] := SH.add (SH.nil _ _) hE4 (Nat.le_refl _) hR5
  refine WL.box 34 [.int .i64 0, .int .i64 0] 3 (by kernel_rfl) rfl rfl rfl rfl ?_
  intro b10 w11 hE12 hR13
  have hb15 : Ext w w11 := Ext.trans hb7 hE12
  have hL16 : w.heap.size ≤ w11.heap.size := Nat.le_trans hL8 hE12.size
  have hS17 : SH w11 w.heap.size [aBox 34 b10 [.int .i64 0, .int .i64 0], aBox 34 b2 [.int .i64 0, .int .i64 0]] := SH.add hS9 hE12 hL8 hR13
  refine WL.runk 1 [0, 2, 3] [(0, .slice a0' rows_0.length c0'), (2, .pointer (some ⟨b2, 0, none⟩)), (3, .pointer (some ⟨b10, 0, none⟩))] (by kernel_rfl) ?_
  refine WL.nil ?_
  refine WQ.then_normal (hK1 _ _ _ ?_)
  refine WP.seq (fun K18 hK18 => ?_)
  refine WP.seq (fun K19 hK19 => ?_)
  refine WP.region ?_
  refine WL.runk 1 [0, 2, 3, 11] [(0, .slice a0' rows_0.length c0'), (2, .pointer (some ⟨b2, 0, none⟩)), (3, .pointer (some ⟨b10, 0, none⟩)), (11, .slice a0' rows_0.length c0')] (by kernel_rfl) ?_
  obtain ⟨x20, hx21, hm⟩ := bindE hm
  refine WL.call 49 #[.slice a0' rows_0.length c0'] rfl rfl (by kernel_rfl) (c_49 n rows_0 a0' c0' w11 hx21 (Rd.below h0 hb15) hle0) ?_
  rintro _ w22 ⟨rfl, hE23⟩
  refine ⟨_, rfl, ?_⟩
  have hb25 : Ext w w22 := Ext.trans hb15 hE23
  have hL26 : w.heap.size ≤ w22.heap.size := Nat.le_trans hL16 hE23.size
  have hS27 : SH w22 w.heap.size [aBox 34 b10 [.int .i64 0, .int .i64 0], aBox 34 b2 [.int .i64 0, .int .i64 0]] := SH.ext hS17 hE23
  refine WL.runk 1 [0, 2, 3, 13] [(0, .slice a0' rows_0.length c0'), (2, .pointer (some ⟨b2, 0, none⟩)), (3, .pointer (some ⟨b10, 0, none⟩)), (13, .bool (!x20))] (by kernel_rfl) ?_
  refine WL.nil ?_
  refine WQ.then_normal (hK19 _ _ _ ?_)
  refine WP.cond (!x20) rfl rfl (fun hc28 => ?_) (fun hc28 => ?_)
  · have hm := iteT hm hc28
    refine WP.seq (fun K29 hK29 => ?_)
    refine WP.region ?_
    refine WL.runk 2 [2, 3, 14, 15] [(2, .pointer (some ⟨b2, 0, none⟩)), (3, .pointer (some ⟨b10, 0, none⟩)), (14, .agg #[.int .i64 0, .int .i64 0]), (15, .agg #[.int .i64 0, .int .i64 0])] (by kernel_rfl) ?_
    refine WL.boxStore 0 [.int .i64 0, .int .i64 0] [.int .i64 0, .int .i64 0] (SH.front 1 hS27) hL26 rfl rfl rfl rfl rfl rfl rfl (info34).1 (info34).2.1 rfl rfl rfl ?_
    intro w30 hB31 hS32
    have hb33 : Ext w w30 := Below.trans hb25 hB31
    have hL34 : w.heap.size ≤ w30.heap.size := Nat.le_trans hL26 hB31.size
    refine WL.boxStore 0 [.int .i64 0, .int .i64 0] [.int .i64 0, .int .i64 0] (SH.front 1 hS32) hL34 rfl rfl rfl rfl rfl rfl rfl (info34).1 (info34).2.1 rfl rfl rfl ?_
    intro w35 hB36 hS37
    have hb38 : Ext w w35 := Below.trans hb33 hB36
    have hL39 : w.heap.size ≤ w35.heap.size := Nat.le_trans hL34 hB36.size
    refine WL.runk 1 [2, 3, 4] [(2, .pointer (some ⟨b2, 0, none⟩)), (3, .pointer (some ⟨b10, 0, none⟩)), (4, .int .i64 1)] (by kernel_rfl) ?_
    refine WL.nil ?_
    refine WQ.then_normal (hK29 _ _ _ ?_)
    refine WP.ret ?_
    refine WQ.then_ret ?_
    obtain rfl := Option.some.inj hm
    exact WQ.retv3 _ _ _ rfl (RVal.box (SH.front 1 hS37) rfl Try.underlying34 rfl (info34).1 (info34).2.1) (RVal.box (SH.front 0 hS37) rfl Try.underlying34 rfl (info34).1 (info34).2.1) (RVal.tmp rfl) ⟨rfl, hb38⟩
  · have hm := iteF hm hc28
    refine WP.skip ?_
    refine WQ.then_normal (hK18 _ _ _ ?_)
    refine WP.seq (fun K40 hK40 => ?_)
    refine WP.region ?_
    refine WL.runk 1 [0, 2, 3, 5] [(0, .slice a0' rows_0.length c0'), (2, .pointer (some ⟨b2, 0, none⟩)), (3, .pointer (some ⟨b10, 0, none⟩)), (5, .int .i64 0)] (by kernel_rfl) ?_
    refine WL.nil ?_
    refine WQ.then_normal (hK40 _ _ _ ?_)
    refine WP.seq (fun K41 hK41 => ?_)
    refine WP.region ?_
    refine WL.runk 1 [0, 2, 3, 5, 6] [(0, .slice a0' rows_0.length c0'), (2, .pointer (some ⟨b2, 0, none⟩)), (3, .pointer (some ⟨b10, 0, none⟩)), (5, .int .i64 0), (6, .int .i64 0)] (by kernel_rfl) ?_
    refine WL.nil ?_
    refine WQ.then_normal (hK41 _ _ _ ?_)
    refine WP.seq (fun K42 hK42 => ?_)
    refine WP.region ?_
    refine WL.runk 1 [0, 2, 3, 5, 6, 7] [(0, .slice a0' rows_0.length c0'), (2, .pointer (some ⟨b2, 0, none⟩)), (3, .pointer (some ⟨b10, 0, none⟩)), (5, .int .i64 0), (6, .int .i64 0), (7, .int .i64 0)] (by kernel_rfl) ?_
    refine WL.nil ?_
    refine WQ.then_normal (hK42 _ _ _ ?_)
    refine WP.seq (fun K43 hK43 => ?_)
    refine WP.seq (fun K44 hK44 => ?_)
    refine WP.region ?_
    refine WL.runk 1 [0, 2, 3, 5, 6, 7, 8] [(0, .slice a0' rows_0.length c0'), (2, .pointer (some ⟨b2, 0, none⟩)), (3, .pointer (some ⟨b10, 0, none⟩)), (5, .int .i64 0), (6, .int .i64 0), (7, .int .i64 0), (8, .int .i64 0)] (by kernel_rfl) ?_
    refine WL.nil ?_
    refine WQ.then_normal (hK44 _ _ _ ?_)
    refine WP.block ?_
    obtain ⟨t56, ht57, hm⟩ := bindE hm
    have hmo51 := hm; clear hm
    refine WP.sub [(0, .slice a0' rows_0.length c0'), (2, .pointer (some ⟨b2, 0, none⟩)), (3, .pointer (some ⟨b10, 0, none⟩)), (5, .int .i64 0), (6, .int .i64 0), (7, .int .i64 0), (8, .int .i64 0)] ⟨rfl, rfl, rfl, rfl, rfl, rfl, rfl, trivial⟩ ?_
    refine WP.loop (fun n' env' w' => ∃ (st45 : Int × Int × Int × Int) , env' = [(0, .slice a0' rows_0.length c0'), (2, .pointer (some ⟨b2, 0, none⟩)), (3, .pointer (some ⟨b10, 0, none⟩)), (5, .int .i64 st45.1), (6, .int .i64 st45.2.1), (7, .int .i64 st45.2.2.1), (8, .int .i64 st45.2.2.2)] ∧ Ext w w' ∧ w.heap.size ≤ w'.heap.size ∧ SH w' w.heap.size [aBox 34 b10 [.int .i64 0, .int .i64 0], aBox 34 b2 [.int .i64 0, .int .i64 0]] ∧ loopN (m_spec_CentreOfWear_l1 n rows_0) n' st45 = some t56) n ⟨(0, 0, 0, 0), rfl, hb25, hL26, hS27, ht57⟩ ?_
    rintro n53 _ w46 ⟨st45, rfl, hb47, hL48, hS49, hl50⟩ K52 hK52
    obtain ⟨n54, s55, rfl, hm, hl50⟩ := loopN_some hl50
    unfold m_spec_CentreOfWear_l1 at hm
    refine WP.seq (fun K58 hK58 => ?_)
    refine WP.seq (fun K59 hK59 => ?_)
    refine WP.region ?_
    refine WL.runk 4 [0, 2, 3, 5, 6, 7, 8, 19] [(0, .slice a0' rows_0.length c0'), (2, .pointer (some ⟨b2, 0, none⟩)), (3, .pointer (some ⟨b10, 0, none⟩)), (5, .int .i64 st45.1), (6, .int .i64 st45.2.1), (7, .int .i64 st45.2.2.1), (8, .int .i64 st45.2.2.2), (19, .bool (decide (st45.2.2.2 < (rows_0.length : Int))))] (by kernel_rfl) ?_
    refine WL.nil ?_
    refine WQ.then_normal (hK59 _ _ _ ?_)
    refine WP.cond (decide (st45.2.2.2 < (rows_0.length : Int))) rfl rfl (fun hc60 => ?_) (fun hc60 => ?_)
    · have hm := iteT hm hc60
      refine WP.skip ?_
      refine WQ.then_normal (hK58 _ _ _ ?_)
      refine WP.seq (fun K61 hK61 => ?_)
      refine WP.block ?_
      refine WP.seq (fun K62 hK62 => ?_)
      refine WP.region ?_
      refine WL.runk 1 [0, 2, 3, 5, 6, 7, 8, 9] [(0, .slice a0' rows_0.length c0'), (2, .pointer (some ⟨b2, 0, none⟩)), (3, .pointer (some ⟨b10, 0, none⟩)), (5, .int .i64 st45.1), (6, .int .i64 st45.2.1), (7, .int .i64 st45.2.2.1), (8, .int .i64 st45.2.2.2), (9, .int .i64 0)] (by kernel_rfl) ?_
      refine WL.nil ?_
      refine WQ.then_normal (hK62 _ _ _ ?_)
      refine WP.block ?_
      obtain ⟨t74, ht75, hm⟩ := bindE hm
      have hmo69 := hm; clear hm
      refine WP.sub [(0, .slice a0' rows_0.length c0'), (2, .pointer (some ⟨b2, 0, none⟩)), (3, .pointer (some ⟨b10, 0, none⟩)), (5, .int .i64 st45.1), (6, .int .i64 st45.2.1), (7, .int .i64 st45.2.2.1), (8, .int .i64 st45.2.2.2), (9, .int .i64 0)] ⟨rfl, rfl, rfl, rfl, rfl, rfl, rfl, rfl, trivial⟩ ?_
      refine WP.loop (fun n' env' w' => ∃ (st63 : Int × Int × Int × Int) , env' = [(0, .slice a0' rows_0.length c0'), (2, .pointer (some ⟨b2, 0, none⟩)), (3, .pointer (some ⟨b10, 0, none⟩)), (5, .int .i64 st63.1), (6, .int .i64 st63.2.1), (7, .int .i64 st63.2.2.1), (8, .int .i64 st45.2.2.2), (9, .int .i64 st63.2.2.2)] ∧ Ext w w' ∧ w.heap.size ≤ w'.heap.size ∧ SH w' w.heap.size [aBox 34 b10 [.int .i64 0, .int .i64 0], aBox 34 b2 [.int .i64 0, .int .i64 0]] ∧ loopN (m_spec_CentreOfWear_l2 n rows_0 st45) n' st63 = some t74) n ⟨(st45.1, st45.2.1, st45.2.2.1, 0), rfl, hb47, hL48, hS49, ht75⟩ ?_
      rintro n71 _ w64 ⟨st63, rfl, hb65, hL66, hS67, hl68⟩ K70 hK70
      obtain ⟨n72, s73, rfl, hm, hl68⟩ := loopN_some hl68
      unfold m_spec_CentreOfWear_l2 at hm
      refine WP.seq (fun K76 hK76 => ?_)
      refine WP.seq (fun K77 hK77 => ?_)
      refine WP.region ?_
      refine WL.runk 3 [0, 2, 3, 5, 6, 7, 8, 9, 22, 23, 24] [(0, .slice a0' rows_0.length c0'), (2, .pointer (some ⟨b2, 0, none⟩)), (3, .pointer (some ⟨b10, 0, none⟩)), (5, .int .i64 st63.1), (6, .int .i64 st63.2.1), (7, .int .i64 st63.2.2.1), (8, .int .i64 st45.2.2.2), (9, .int .i64 st63.2.2.2), (22, .int .i64 st63.2.2.2), (23, .slice a0' rows_0.length c0'), (24, .int .i64 st45.2.2.2)] (by kernel_rfl) ?_
      obtain ⟨x78, hx79, hm⟩ := bindE hm
      refine WL.st (.pointer (some (at_ a0' (Int.toNat st45.2.2.2 * 1)))) (ST.index (T := fStr.ty) (xs := rows_0) (Rd.below h0 hb65) hx79 rfl rfl rfl Try.underlying22 (info9).1 (info9).2.1) rfl rfl rfl ?_
      refine WL.st (.string (bs x78)) (ST.load (cell_ext (Rd.flat (F := fStr) (Rd.below h0 hb65) hx79 0 rfl)) rfl rfl Try.underlying9 rfl) rfl rfl rfl ?_
      refine WL.runk 2 [0, 2, 3, 5, 6, 7, 8, 9, 28] [(0, .slice a0' rows_0.length c0'), (2, .pointer (some ⟨b2, 0, none⟩)), (3, .pointer (some ⟨b10, 0, none⟩)), (5, .int .i64 st63.1), (6, .int .i64 st63.2.1), (7, .int .i64 st63.2.2.1), (8, .int .i64 st45.2.2.2), (9, .int .i64 st63.2.2.2), (28, .bool (decide (st63.2.2.2 < (x78.length : Int))))] (by kernel_rfl) ?_
      refine WL.nil ?_
      refine WQ.then_normal (hK77 _ _ _ ?_)
      refine WP.cond (decide (st63.2.2.2 < (x78.length : Int))) rfl rfl (fun hc80 => ?_) (fun hc80 => ?_)
      · have hm := iteT hm hc80
        refine WP.skip ?_
        refine WQ.then_normal (hK76 _ _ _ ?_)
        refine WP.seq (fun K81 hK81 => ?_)
        refine WP.block ?_
        refine WP.seq (fun K82 hK82 => ?_)
        refine WP.region ?_
        refine WL.runk 3 [0, 2, 3, 5, 6, 7, 8, 9, 31, 32, 33] [(0, .slice a0' rows_0.length c0'), (2, .pointer (some ⟨b2, 0, none⟩)), (3, .pointer (some ⟨b10, 0, none⟩)), (5, .int .i64 st63.1), (6, .int .i64 st63.2.1), (7, .int .i64 st63.2.2.1), (8, .int .i64 st45.2.2.2), (9, .int .i64 st63.2.2.2), (31, .slice a0' rows_0.length c0'), (32, .int .i64 st45.2.2.2), (33, .int .i64 st63.2.2.2)] (by kernel_rfl) ?_
        obtain ⟨x83, hx84, hm⟩ := bindE hm
        refine WL.call 52 #[.slice a0' rows_0.length c0', .int .i64 st45.2.2.2, .int .i64 st63.2.2.2] rfl rfl (by kernel_rfl) (c_52 n rows_0 a0' c0' st45.2.2.2 st63.2.2.2 w64 hx84 (Rd.below h0 hb65) hle0) ?_
        rintro _ w85 ⟨rfl, hE86⟩
        refine ⟨_, rfl, ?_⟩
        have hb88 : Ext w w85 := Ext.trans hb65 hE86
        have hL89 : w.heap.size ≤ w85.heap.size := Nat.le_trans hL66 hE86.size
        have hS90 : SH w85 w.heap.size [aBox 34 b10 [.int .i64 0, .int .i64 0], aBox 34 b2 [.int .i64 0, .int .i64 0]] := SH.ext hS67 hE86
        refine WL.runk 1 [0, 2, 3, 5, 6, 7, 8, 9, 10] [(0, .slice a0' rows_0.length c0'), (2, .pointer (some ⟨b2, 0, none⟩)), (3, .pointer (some ⟨b10, 0, none⟩)), (5, .int .i64 st63.1), (6, .int .i64 st63.2.1), (7, .int .i64 st63.2.2.1), (8, .int .i64 st45.2.2.2), (9, .int .i64 st63.2.2.2), (10, .int .i64 x83)] (by kernel_rfl) ?_
        refine WL.nil ?_
        refine WQ.then_normal (hK82 _ _ _ ?_)
        refine WP.seq (fun K91 hK91 => ?_)
        refine WP.region ?_
        refine WL.runk 4 [0, 2, 3, 5, 6, 7, 8, 9, 10] [(0, .slice a0' rows_0.length c0'), (2, .pointer (some ⟨b2, 0, none⟩)), (3, .pointer (some ⟨b10, 0, none⟩)), (5, .int .i64 (wI64 (st63.1 + x83))), (6, .int .i64 st63.2.1), (7, .int .i64 st63.2.2.1), (8, .int .i64 st45.2.2.2), (9, .int .i64 st63.2.2.2), (10, .int .i64 x83)] (by kernel_rfl) ?_
        refine WL.nil ?_
        refine WQ.then_normal (hK91 _ _ _ ?_)
        refine WP.seq (fun K92 hK92 => ?_)
        refine WP.region ?_
        refine WL.runk 6 [0, 2, 3, 5, 6, 7, 8, 9, 10] [(0, .slice a0' rows_0.length c0'), (2, .pointer (some ⟨b2, 0, none⟩)), (3, .pointer (some ⟨b10, 0, none⟩)), (5, .int .i64 (wI64 (st63.1 + x83))), (6, .int .i64 (wI64 (st63.2.1 + (wI64 (x83 * st45.2.2.2))))), (7, .int .i64 st63.2.2.1), (8, .int .i64 st45.2.2.2), (9, .int .i64 st63.2.2.2), (10, .int .i64 x83)] (by kernel_rfl) ?_
        refine WL.nil ?_
        refine WQ.then_normal (hK92 _ _ _ ?_)
        refine WP.region ?_
        refine WL.runk 6 [0, 2, 3, 5, 6, 7, 8, 9] [(0, .slice a0' rows_0.length c0'), (2, .pointer (some ⟨b2, 0, none⟩)), (3, .pointer (some ⟨b10, 0, none⟩)), (5, .int .i64 (wI64 (st63.1 + x83))), (6, .int .i64 (wI64 (st63.2.1 + (wI64 (x83 * st45.2.2.2))))), (7, .int .i64 (wI64 (st63.2.2.1 + (wI64 (x83 * st63.2.2.2))))), (8, .int .i64 st45.2.2.2), (9, .int .i64 st63.2.2.2)] (by kernel_rfl) ?_
        refine WL.nil ?_
        refine WQ.block_normal ?_
        refine WQ.then_normal (hK81 _ _ _ ?_)
        refine WP.region ?_
        refine WL.runk 3 [0, 2, 3, 5, 6, 7, 8, 9] [(0, .slice a0' rows_0.length c0'), (2, .pointer (some ⟨b2, 0, none⟩)), (3, .pointer (some ⟨b10, 0, none⟩)), (5, .int .i64 (wI64 (st63.1 + x83))), (6, .int .i64 (wI64 (st63.2.1 + (wI64 (x83 * st45.2.2.2))))), (7, .int .i64 (wI64 (st63.2.2.1 + (wI64 (x83 * st63.2.2.2))))), (8, .int .i64 st45.2.2.2), (9, .int .i64 (wI64 (st63.2.2.2 + 1)))] (by kernel_rfl) ?_
        refine WL.nil ?_
        obtain rfl := Option.some.inj hm
        exact WQ.round hK70 ⟨((wI64 (st63.1 + x83)), (wI64 (st63.2.1 + (wI64 (x83 * st45.2.2.2)))), (wI64 (st63.2.2.1 + (wI64 (x83 * st63.2.2.2)))), (wI64 (st63.2.2.2 + 1))), rfl, hb88, hL89, hS90, hl68⟩ (Nat.lt_succ_self _) ⟨rfl, rfl, rfl, rfl, rfl, rfl, rfl, rfl, trivial⟩
      · have hm := iteF hm hc80
        refine WP.exit ?_
        refine WQ.then_exit ?_
        refine WQ.then_exit ?_
        refine WQ.block_here ?_
        obtain rfl := Option.some.inj hm
        obtain rfl := afterN_done hl68
        have hm := hmo69
        refine WQ.block_normal ?_
        refine WQ.then_normal (hK61 _ _ _ ?_)
        refine WP.region ?_
        refine WL.runk 3 [0, 2, 3, 5, 6, 7, 8] [(0, .slice a0' rows_0.length c0'), (2, .pointer (some ⟨b2, 0, none⟩)), (3, .pointer (some ⟨b10, 0, none⟩)), (5, .int .i64 st63.1), (6, .int .i64 st63.2.1), (7, .int .i64 st63.2.2.1), (8, .int .i64 (wI64 (st45.2.2.2 + 1)))] (by kernel_rfl) ?_
        refine WL.nil ?_
        obtain rfl := Option.some.inj hm
        exact WQ.round hK52 ⟨(st63.1, st63.2.1, st63.2.2.1, (wI64 (st45.2.2.2 + 1))), rfl, hb65, hL66, hS67, hl50⟩ (Nat.lt_succ_self _) ⟨rfl, rfl, rfl, rfl, rfl, rfl, rfl, trivial⟩
    · have hm := iteF hm hc60
      refine WP.exit ?_
      refine WQ.then_exit ?_
      refine WQ.then_exit ?_
      refine WQ.block_here ?_
      obtain rfl := Option.some.inj hm
      obtain rfl := afterN_done hl50
      have hm := hmo51
      refine WQ.then_normal (hK43 _ _ _ ?_)
      refine WP.seq (fun K94 hK94 => ?_)
      refine WP.seq (fun K95 hK95 => ?_)
      refine WP.region ?_
      refine WL.runk 2 [2, 3, 5, 6, 7, 49] [(2, .pointer (some ⟨b2, 0, none⟩)), (3, .pointer (some ⟨b10, 0, none⟩)), (5, .int .i64 st45.1), (6, .int .i64 st45.2.1), (7, .int .i64 st45.2.2.1), (49, .bool (st45.1 == 0))] (by kernel_rfl) ?_
      refine WL.nil ?_
      refine WQ.then_normal (hK95 _ _ _ ?_)
      refine WP.cond (st45.1 == 0) rfl rfl (fun hc96 => ?_) (fun hc96 => ?_)
      · have hm := iteT hm hc96
        refine WP.seq (fun K97 hK97 => ?_)
        refine WP.region ?_
        refine WL.runk 2 [2, 3, 50, 51] [(2, .pointer (some ⟨b2, 0, none⟩)), (3, .pointer (some ⟨b10, 0, none⟩)), (50, .agg #[.int .i64 0, .int .i64 0]), (51, .agg #[.int .i64 0, .int .i64 0])] (by kernel_rfl) ?_
        refine WL.boxStore 0 [.int .i64 0, .int .i64 0] [.int .i64 0, .int .i64 0] (SH.front 1 hS49) hL48 rfl rfl rfl rfl rfl rfl rfl (info34).1 (info34).2.1 rfl rfl rfl ?_
        intro w98 hB99 hS100
        have hb101 : Ext w w98 := Below.trans hb47 hB99
        have hL102 : w.heap.size ≤ w98.heap.size := Nat.le_trans hL48 hB99.size
        refine WL.boxStore 0 [.int .i64 0, .int .i64 0] [.int .i64 0, .int .i64 0] (SH.front 1 hS100) hL102 rfl rfl rfl rfl rfl rfl rfl (info34).1 (info34).2.1 rfl rfl rfl ?_
        intro w103 hB104 hS105
        have hb106 : Ext w w103 := Below.trans hb101 hB104
        have hL107 : w.heap.size ≤ w103.heap.size := Nat.le_trans hL102 hB104.size
        refine WL.runk 1 [2, 3, 4] [(2, .pointer (some ⟨b2, 0, none⟩)), (3, .pointer (some ⟨b10, 0, none⟩)), (4, .int .i64 3)] (by kernel_rfl) ?_
        refine WL.nil ?_
        refine WQ.then_normal (hK97 _ _ _ ?_)
        refine WP.ret ?_
        refine WQ.then_ret ?_
        obtain rfl := Option.some.inj hm
        exact WQ.retv3 _ _ _ rfl (RVal.box (SH.front 1 hS105) rfl Try.underlying34 rfl (info34).1 (info34).2.1) (RVal.box (SH.front 0 hS105) rfl Try.underlying34 rfl (info34).1 (info34).2.1) (RVal.tmp rfl) ⟨rfl, hb106⟩
      · have hm := iteF hm hc96
        refine WP.skip ?_
        refine WQ.then_normal (hK94 _ _ _ ?_)
        refine WP.seq (fun K108 hK108 => ?_)
        refine WP.region ?_
        refine WL.runk 2 [2, 3, 5, 7, 52, 53] [(2, .pointer (some ⟨b2, 0, none⟩)), (3, .pointer (some ⟨b10, 0, none⟩)), (5, .int .i64 st45.1), (7, .int .i64 st45.2.2.1), (52, .int .i64 st45.2.1), (53, .int .i64 st45.1)] (by kernel_rfl) ?_
        obtain ⟨x109, hx110, hm⟩ := bindE hm
        refine WL.call 61 #[.int .i64 st45.2.1, .int .i64 st45.1] rfl rfl (by kernel_rfl) (c_61 n st45.2.1 st45.1 w46 hx110 ) ?_
        rintro _ w111 ⟨rfl, hE112⟩
        refine ⟨_, rfl, ?_⟩
        have hb114 : Ext w w111 := Ext.trans hb47 hE112
        have hL115 : w.heap.size ≤ w111.heap.size := Nat.le_trans hL48 hE112.size
        have hS116 : SH w111 w.heap.size [aBox 34 b10 [.int .i64 0, .int .i64 0], aBox 34 b2 [.int .i64 0, .int .i64 0]] := SH.ext hS49 hE112
        refine WL.runk 2 [2, 3, 54, 55, 56] [(2, .pointer (some ⟨b2, 0, none⟩)), (3, .pointer (some ⟨b10, 0, none⟩)), (54, .agg #[.int .i64 x109.Num, .int .i64 x109.Den]), (55, .int .i64 st45.2.2.1), (56, .int .i64 st45.1)] (by kernel_rfl) ?_
        obtain ⟨x117, hx118, hm⟩ := bindE hm
        refine WL.call 61 #[.int .i64 st45.2.2.1, .int .i64 st45.1] rfl rfl (by kernel_rfl) (c_61 n st45.2.2.1 st45.1 w111 hx118 ) ?_
        rintro _ w119 ⟨rfl, hE120⟩
        refine ⟨_, rfl, ?_⟩
        have hb122 : Ext w w119 := Ext.trans hb114 hE120
        have hL123 : w.heap.size ≤ w119.heap.size := Nat.le_trans hL115 hE120.size
        have hS124 : SH w119 w.heap.size [aBox 34 b10 [.int .i64 0, .int .i64 0], aBox 34 b2 [.int .i64 0, .int .i64 0]] := SH.ext hS116 hE120
        refine WL.boxStore 0 [.int .i64 x109.Num, .int .i64 x109.Den] [.int .i64 x109.Num, .int .i64 x109.Den] (SH.front 1 hS124) hL123 rfl rfl rfl rfl rfl rfl rfl (info34).1 (info34).2.1 rfl rfl rfl ?_
        intro w125 hB126 hS127
        have hb128 : Ext w w125 := Below.trans hb122 hB126
        have hL129 : w.heap.size ≤ w125.heap.size := Nat.le_trans hL123 hB126.size
        refine WL.boxStore 0 [.int .i64 x117.Num, .int .i64 x117.Den] [.int .i64 x117.Num, .int .i64 x117.Den] (SH.front 1 hS127) hL129 rfl rfl rfl rfl rfl rfl rfl (info34).1 (info34).2.1 rfl rfl rfl ?_
        intro w130 hB131 hS132
        have hb133 : Ext w w130 := Below.trans hb128 hB131
        have hL134 : w.heap.size ≤ w130.heap.size := Nat.le_trans hL129 hB131.size
        refine WL.runk 1 [2, 3, 4] [(2, .pointer (some ⟨b2, 0, none⟩)), (3, .pointer (some ⟨b10, 0, none⟩)), (4, .int .i64 0)] (by kernel_rfl) ?_
        refine WL.nil ?_
        refine WQ.then_normal (hK108 _ _ _ ?_)
        refine WP.ret ?_
        obtain rfl := Option.some.inj hm
        exact WQ.retv3 _ _ _ rfl (RVal.box (SH.front 1 hS132) rfl Try.underlying34 rfl (info34).1 (info34).2.1) (RVal.box (SH.front 0 hS132) rfl Try.underlying34 rfl (info34).1 (info34).2.1) (RVal.tmp rfl) ⟨rfl, hb133⟩

theorem c_79 (n : Nat) (a_0 : Int) (b_1 : Int) (w : World) {r : Int} (hm : m_impl_gcd n a_0 b_1 = some r)  :
    CallV Try.prog 79 #[.int .i64 a_0, .int .i64 b_1] w (fun v w' => v = .int .i64 r ∧ Ext w w') := by
  unfold m_impl_gcd at hm
  refine CallV.enter Try.func79 rfl (by kernel_rfl) Try.ntmps79 (env := [(0, .int .i64 a_0), (1, .int .i64 b_1)]) ⟨rfl, rfl, trivial⟩ ?_
  refine WP.seq (fun K1 hK1 => ?_)
  refine WP.region ?_
  refine WL.runk 1 [0, 1] [(0, .int .i64 a_0), (1, .int .i64 b_1)] (by kernel_rfl) ?_
  refine WL.nil ?_
  refine WQ.then_normal (hK1 _ _ _ ?_)
  refine WP.seq (fun K2 hK2 => ?_)
  refine WP.block ?_
  obtain ⟨t14, ht15, hm⟩ := bindE hm
  have hmo9 := hm; clear hm
  refine WP.sub [(0, .int .i64 a_0), (1, .int .i64 b_1)] ⟨rfl, rfl, trivial⟩ ?_
  refine WP.loop (fun n' env' w' => ∃ (st3 : Int × Int) , env' = [(0, .int .i64 st3.1), (1, .int .i64 st3.2)] ∧ Ext w w' ∧ w.heap.size ≤ w'.heap.size ∧ SH w' w.heap.size [] ∧ loopN (m_impl_gcd_l1 n) n' st3 = some t14) n ⟨(a_0, b_1), rfl, (Ext.refl w), (Nat.le_refl _), (SH.nil _ _), ht15⟩ ?_
  rintro n11 _ w4 ⟨st3, rfl, hb5, hL6, hS7, hl8⟩ K10 hK10
  obtain ⟨n12, s13, rfl, hm, hl8⟩ := loopN_some hl8
  unfold m_impl_gcd_l1 at hm
  refine WP.seq (fun K16 hK16 => ?_)
  refine WP.seq (fun K17 hK17 => ?_)
  refine WP.region ?_
  refine WL.runk 2 [0, 1, 6] [(0, .int .i64 st3.1), (1, .int .i64 st3.2), (6, .bool (st3.2 != 0))] (by kernel_rfl) ?_
  refine WL.nil ?_
  refine WQ.then_normal (hK17 _ _ _ ?_)
  refine WP.cond (st3.2 != 0) rfl rfl (fun hc18 => ?_) (fun hc18 => ?_)
  · have hm := iteT hm hc18
    refine WP.skip ?_
    refine WQ.then_normal (hK16 _ _ _ ?_)
    refine WP.block ?_
    refine WP.quiet (by kernel_rfl) (by kernel_rfl) ?_
    refine QL.step1 rfl (env' := [(0, .int .i64 st3.1), (1, .int .i64 st3.2), (6, .bool (st3.2 != 0)), (7, .int .i64 st3.2)]) (fun _ => by kernel_rfl) ?_
    refine QL.sub [(0, .int .i64 st3.1), (1, .int .i64 st3.2), (7, .int .i64 st3.2)] ⟨rfl, rfl, rfl, trivial⟩ ?_
    refine QL.step1 rfl (env' := [(0, .int .i64 st3.1), (1, .int .i64 st3.2), (7, .int .i64 st3.2), (8, .int .i64 st3.1)]) (fun _ => by kernel_rfl) ?_
    refine QL.sub [(1, .int .i64 st3.2), (7, .int .i64 st3.2), (8, .int .i64 st3.1)] ⟨rfl, rfl, rfl, trivial⟩ ?_
    refine QL.step1 rfl (env' := [(1, .int .i64 st3.2), (7, .int .i64 st3.2), (8, .int .i64 st3.1), (9, .int .i64 st3.2)]) (fun _ => by kernel_rfl) ?_
    refine QL.sub [(7, .int .i64 st3.2), (8, .int .i64 st3.1), (9, .int .i64 st3.2)] ⟨rfl, rfl, rfl, trivial⟩ ?_
    obtain ⟨x19, hx20, hm⟩ := bindE hm
    refine QL.st (.int .i64 x19) (ST.rem (k := .i64) hx20 rfl rfl rfl) rfl rfl rfl ?_
    refine QL.step1 rfl (env' := [(7, .int .i64 st3.2), (8, .int .i64 st3.1), (9, .int .i64 st3.2), (10, .int .i64 x19), (0, .int .i64 st3.2)]) (fun _ => by kernel_rfl) ?_
    refine QL.sub [(10, .int .i64 x19), (0, .int .i64 st3.2)] ⟨rfl, rfl, trivial⟩ ?_
    refine QL.step1 rfl (env' := [(10, .int .i64 x19), (0, .int .i64 st3.2), (1, .int .i64 x19)]) (fun _ => by kernel_rfl) ?_
    refine QL.sub [(0, .int .i64 st3.2), (1, .int .i64 x19)] ⟨rfl, rfl, trivial⟩ ?_
    refine QL.sub [(0, .int .i64 st3.2), (1, .int .i64 x19)] ⟨rfl, rfl, trivial⟩ ?_
    refine QL.nil ?_
    intro w21 hE22
    have hb23 : Ext w w21 := Ext.trans hb5 hE22
    have hL24 : w.heap.size ≤ w21.heap.size := Nat.le_trans hL6 hE22.size
    have hS25 : SH w21 w.heap.size [] := SH.ext hS7 hE22
    refine WQ.block_normal ?_
    obtain rfl := Option.some.inj hm
    exact WQ.round hK10 ⟨(st3.2, x19), rfl, hb23, hL24, hS25, hl8⟩ (Nat.lt_succ_self _) ⟨rfl, rfl, trivial⟩
  · have hm := iteF hm hc18
    refine WP.exit ?_
    refine WQ.then_exit ?_
    refine WQ.then_exit ?_
    refine WQ.block_here ?_
    obtain rfl := Option.some.inj hm
    obtain rfl := afterN_done hl8
    have hm := hmo9
    refine WQ.then_normal (hK2 _ _ _ ?_)
    refine WP.seq (fun K26 hK26 => ?_)
    refine WP.region ?_
    refine WL.runk 5 [4] [(4, .int .i64 (imax st3.1 (wI64 (0 - st3.1))))] (by kernel_rfl) ?_
    refine WL.nil ?_
    refine WQ.then_normal (hK26 _ _ _ ?_)
    refine WP.ret ?_
    obtain rfl := Option.some.inj hm
    exact WQ.ret1 _ rfl rfl ⟨rfl, hb5⟩

theorem c_62 (n : Nat) (num_0 : Int) (den_1 : Int) (w : World) {r : SFraction} (hm : m_impl_lowest n num_0 den_1 = some r)  :
    CallV Try.prog 62 #[.int .i64 num_0, .int .i64 den_1] w (fun v w' => v = .agg #[.int .i64 r.Num, .int .i64 r.Den] ∧ Ext w w') := by
  unfold m_impl_lowest at hm
  refine CallV.enter Try.func62 rfl (by kernel_rfl) Try.ntmps62 (env := [(0, .int .i64 num_0), (1, .int .i64 den_1)]) ⟨rfl, rfl, trivial⟩ ?_
  refine WP.seq (fun K1 hK1 => ?_)
  refine WP.region ?_
  refine WL.box 34 [.int .i64 0, .int .i64 0] 4 (by kernel_rfl) rfl rfl rfl rfl ?_
  intro b2 w3 hE4 hR5
  have hb7 : Ext w w3 := Ext.trans (Ext.refl w) hE4
  have hL8 : w.heap.size ≤ w3.heap.size := Nat.le_trans (Nat.le_refl _) hE4.size
  have hS9 : SH w3 w.heap.size [aBox 34 b2 [.int .i64 0, .int .i64 0]] := SH.add (SH.nil _ _) hE4 (Nat.le_refl _) hR5
  refine WL.sub [(0, .int .i64 num_0), (1, .int .i64 den_1), (4, .pointer (some ⟨b2, 0, none⟩))] ⟨rfl, rfl, rfl, trivial⟩ ?_
  refine WL.nil ?_
  refine WQ.then_normal (hK1 _ _ _ ?_)
  refine WP.seq (fun K10 hK10 => ?_)
  refine WP.seq (fun K11 hK11 => ?_)
  refine WP.region ?_
  refine WL.runk 2 [0, 1, 4, 7] [(0, .int .i64 num_0), (1, .int .i64 den_1), (4, .pointer (some ⟨b2, 0, none⟩)), (7, .bool (decide (den_1 < 0)))] (by kernel_rfl) ?_
  refine WL.nil ?_
  refine WQ.then_normal (hK11 _ _ _ ?_)
  obtain ⟨x13, hx14, hm⟩ := bindE hm
  refine WP.cut (fun env' w' => env' = [(0, .int .i64 x13.1), (1, .int .i64 x13.2), (4, .pointer (some ⟨b2, 0, none⟩))] ∧ Ext w w' ∧ w.heap.size ≤ w'.heap.size ∧ SH w' w.heap.size [aBox 34 b2 [.int .i64 0, .int .i64 0]]) ?_ ?_
  · have hm := hx14; clear hx14
    refine WP.cond (decide (den_1 < 0)) rfl rfl (fun hc12 => ?_) (fun hc12 => ?_)
    · have hm := iteT hm hc12
      refine WP.region ?_
      refine WL.runk 6 [0, 1, 4] [(0, .int .i64 (wI64 (0 - num_0))), (1, .int .i64 (wI64 (0 - den_1))), (4, .pointer (some ⟨b2, 0, none⟩))] (by kernel_rfl) ?_
      refine WL.nil ?_
      obtain rfl := Option.some.inj hm
      exact WQ.post' ⟨rfl, hb7, hL8, hS9⟩ ⟨rfl, rfl, rfl, trivial⟩
    · have hm := iteF hm hc12
      refine WP.skip ?_
      obtain rfl := Option.some.inj hm
      exact WQ.post' ⟨rfl, hb7, hL8, hS9⟩ ⟨rfl, rfl, rfl, trivial⟩
  · clear hx14
    rintro _ w15 ⟨rfl, hb16, hL17, hS18⟩
    refine WQ.then_normal (hK10 _ _ _ ?_)
    refine WP.seq (fun K19 hK19 => ?_)
    refine WP.region ?_
    refine WL.runk 2 [0, 1, 4, 12, 13] [(0, .int .i64 x13.1), (1, .int .i64 x13.2), (4, .pointer (some ⟨b2, 0, none⟩)), (12, .int .i64 x13.1), (13, .int .i64 x13.2)] (by kernel_rfl) ?_
    obtain ⟨x20, hx21, hm⟩ := bindE hm
    refine WL.call 79 #[.int .i64 x13.1, .int .i64 x13.2] rfl rfl (by kernel_rfl) (c_79 n x13.1 x13.2 w15 hx21 ) ?_
    rintro _ w22 ⟨rfl, hE23⟩
    refine ⟨_, rfl, ?_⟩
    have hb25 : Ext w w22 := Ext.trans hb16 hE23
    have hL26 : w.heap.size ≤ w22.heap.size := Nat.le_trans hL17 hE23.size
    have hS27 : SH w22 w.heap.size [aBox 34 b2 [.int .i64 0, .int .i64 0]] := SH.ext hS18 hE23
    refine WL.runk 1 [0, 1, 4, 5] [(0, .int .i64 x13.1), (1, .int .i64 x13.2), (4, .pointer (some ⟨b2, 0, none⟩)), (5, .int .i64 x20)] (by kernel_rfl) ?_
    refine WL.nil ?_
    refine WQ.then_normal (hK19 _ _ _ ?_)
    refine WP.seq (fun K28 hK28 => ?_)
    refine WP.open (n := 8) (by kernel_rfl) rfl (fun w29 hE30 => ?_)
    have hb31 : Ext w w29 := Ext.trans hb25 hE30
    have hL32 : w.heap.size ≤ w29.heap.size := Nat.le_trans hL26 hE30.size
    have hS33 : SH w29 w.heap.size [aBox 34 b2 [.int .i64 0, .int .i64 0]] := SH.ext hS27 hE30
    refine WA.quiet (f' := 1) (D' := [0, 1, 2, 3, 4, 5, 6]) [0, 1, 2, 3, 4, 5, 6] rfl rfl (by kernel_rfl) ?_
    refine QL.step1 rfl (env' := [(0, .int .i64 x13.1), (1, .int .i64 x13.2), (4, .pointer (some ⟨b2, 0, none⟩)), (5, .int .i64 x20), (15, .int .i64 x13.1)]) (fun _ => by kernel_rfl) ?_
    refine QL.sub [(1, .int .i64 x13.2), (4, .pointer (some ⟨b2, 0, none⟩)), (5, .int .i64 x20), (15, .int .i64 x13.1)] ⟨rfl, rfl, rfl, rfl, trivial⟩ ?_
    refine QL.step1 rfl (env' := [(1, .int .i64 x13.2), (4, .pointer (some ⟨b2, 0, none⟩)), (5, .int .i64 x20), (15, .int .i64 x13.1), (16, .int .i64 x20)]) (fun _ => by kernel_rfl) ?_
    obtain ⟨x34, hx35, hm⟩ := bindE hm
    refine QL.st (.int .i64 x34) (ST.quo (k := .i64) hx35 rfl rfl rfl) rfl rfl rfl ?_
    refine QL.step1 rfl (env' := [(1, .int .i64 x13.2), (4, .pointer (some ⟨b2, 0, none⟩)), (5, .int .i64 x20), (15, .int .i64 x13.1), (16, .int .i64 x20), (17, .int .i64 x34), (18, .int .i64 x13.2)]) (fun _ => by kernel_rfl) ?_
    refine QL.sub [(4, .pointer (some ⟨b2, 0, none⟩)), (5, .int .i64 x20), (17, .int .i64 x34), (18, .int .i64 x13.2)] ⟨rfl, rfl, rfl, rfl, trivial⟩ ?_
    refine QL.step1 rfl (env' := [(4, .pointer (some ⟨b2, 0, none⟩)), (5, .int .i64 x20), (17, .int .i64 x34), (18, .int .i64 x13.2), (19, .int .i64 x20)]) (fun _ => by kernel_rfl) ?_
    refine QL.sub [(4, .pointer (some ⟨b2, 0, none⟩)), (17, .int .i64 x34), (18, .int .i64 x13.2), (19, .int .i64 x20)] ⟨rfl, rfl, rfl, rfl, trivial⟩ ?_
    obtain ⟨x36, hx37, hm⟩ := bindE hm
    refine QL.st (.int .i64 x36) (ST.quo (k := .i64) hx37 rfl rfl rfl) rfl rfl rfl ?_
    refine QL.step1 rfl (env' := [(4, .pointer (some ⟨b2, 0, none⟩)), (17, .int .i64 x34), (18, .int .i64 x13.2), (19, .int .i64 x20), (20, .int .i64 x36), (21, .agg #[.int .i64 x34, .int .i64 x36])]) (fun _ => by kernel_rfl) ?_
    refine QL.sub [(4, .pointer (some ⟨b2, 0, none⟩)), (21, .agg #[.int .i64 x34, .int .i64 x36])] ⟨rfl, rfl, trivial⟩ ?_
    refine QL.sub [(4, .pointer (some ⟨b2, 0, none⟩)), (21, .agg #[.int .i64 x34, .int .i64 x36])] ⟨rfl, rfl, trivial⟩ ?_
    refine QL.nil ?_
    intro w38 hE39
    have hb40 : Ext w w38 := Ext.trans hb31 hE39
    have hL41 : w.heap.size ≤ w38.heap.size := Nat.le_trans hL32 hE39.size
    have hS42 : SH w38 w.heap.size [aBox 34 b2 [.int .i64 0, .int .i64 0]] := SH.ext hS33 hE39
    refine WA.one (i := 7) (D' := [0, 1, 2, 3, 4, 5, 6, 7]) rfl rfl (by kernel_rfl) ?_
    refine WL.boxStore 0 [.int .i64 x34, .int .i64 x36] [.int .i64 x34, .int .i64 x36] (SH.front 0 hS42) hL41 rfl rfl rfl rfl rfl rfl rfl (info34).1 (info34).2.1 rfl rfl rfl ?_
    intro w43 hB44 hS45
    have hb46 : Ext w w43 := Below.trans hb40 hB44
    have hL47 : w.heap.size ≤ w43.heap.size := Nat.le_trans hL41 hB44.size
    refine WL.sub [(4, .pointer (some ⟨b2, 0, none⟩))] ⟨rfl, trivial⟩ ?_
    refine WL.nil ?_
    refine WA.done (by kernel_rfl) ?_
    refine WQ.then_normal (hK28 _ _ _ ?_)
    refine WP.ret ?_
    obtain rfl := Option.some.inj hm
    exact WQ.retv1 _ rfl (RVal.box (SH.front 0 hS45) rfl Try.underlying34 rfl (info34).1 (info34).2.1) ⟨rfl, hb46⟩

theorem c_29 (n : Nat) (rows_0 : List (List UInt8)) (a0' : Option Addr) (c0' : Nat) (w : World) {r : SFraction × SFraction × Int} (hm : m_impl_CentreOfWear n rows_0 = some r) (h0 : Rd fStr.ty w a0' rows_0) (hle0 : rows_0.length ≤ c0') :
    CallV Try.prog 29 #[.slice a0' rows_0.length c0'] w (fun v w' => v = .tuple #[.agg #[.int .i64 r.1.Num, .int .i64 r.1.Den], .agg #[.int .i64 r.2.1.Num, .int .i64 r.2.1.Den], .int .i64 r.2.2] ∧ Ext w w') := by
  unfold m_impl_CentreOfWear at hm
  refine CallV.enter Try.func29 rfl (by kernel_rfl) Try.ntmps29 (env := [(0, .slice a0' rows_0.length c0')]) ⟨rfl, trivial⟩ ?_
  refine WP.seq (fun K1 hK1 => ?_)
  refine WP.region ?_
  refine WL.box 34 [.int .i64 0, .int .i64 0] 2 (by kernel_rfl) rfl rfl rfl rfl ?_
  intro b2 w3 hE4 hR5
  have hb7 : Ext w w3 := Ext.trans (Ext.refl w) hE4
  have hL8 : w.heap.size ≤ w3.heap.size := Nat.le_trans (Nat.le_refl _) hE4.size
  have hS9 : SH w3 w.heap.size [aBox 34 b2 [.int .i64 0, .int .i64 0]] := SH.add (SH.nil _ _) hE4 (Nat.le_refl _) hR5
  refine WL.box 34 [.int .i64 0, .int .i64 0] 3 (by kernel_rfl) rfl rfl rfl rfl ?_
  intro b10 w11 hE12 hR13
  have hb15 : Ext w w11 := Ext.trans hb7 hE12
  have hL16 : w.heap.size ≤ w11.heap.size := Nat.le_trans hL8 hE12.size
  have hS17 : SH w11 w.heap.size [aBox 34 b10 [.int .i64 0, .int .i64 0], aBox 34 b2 [.int .i64 0, .int .i64 0]] := SH.add hS9 hE12 hL8 hR13
  refine WL.runk 1 [0, 2, 3] [(0, .slice a0' rows_0.length c0'), (2, .pointer (some ⟨b2, 0, none⟩)), (3, .pointer (some ⟨b10, 0, none⟩))] (by kernel_rfl) ?_
  refine WL.nil ?_
  refine WQ.then_normal (hK1 _ _ _ ?_)
  refine WP.seq (fun K18 hK18 => ?_)
  refine WP.seq (fun K19 hK19 => ?_)
  refine WP.region ?_
  refine WL.runk 1 [0, 2, 3, 11] [(0, .slice a0' rows_0.length c0'), (2, .pointer (some ⟨b2, 0, none⟩)), (3, .pointer (some ⟨b10, 0, none⟩)), (11, .slice a0' rows_0.length c0')] (by kernel_rfl) ?_
  obtain ⟨x20, hx21, hm⟩ := bindE hm
  refine WL.call 18 #[.slice a0' rows_0.length c0'] rfl rfl (by kernel_rfl) (c_18 n rows_0 a0' c0' w11 hx21 (Rd.below h0 hb15) hle0) ?_
  rintro _ w22 ⟨rfl, hE23⟩
  refine ⟨_, rfl, ?_⟩
  have hb25 : Ext w w22 := Ext.trans hb15 hE23
  have hL26 : w.heap.size ≤ w22.heap.size := Nat.le_trans hL16 hE23.size
  have hS27 : SH w22 w.heap.size [aBox 34 b10 [.int .i64 0, .int .i64 0], aBox 34 b2 [.int .i64 0, .int .i64 0]] := SH.ext hS17 hE23
  refine WL.runk 1 [0, 2, 3, 13] [(0, .slice a0' rows_0.length c0'), (2, .pointer (some ⟨b2, 0, none⟩)), (3, .pointer (some ⟨b10, 0, none⟩)), (13, .bool (!x20))] (by kernel_rfl) ?_
  refine WL.nil ?_
  refine WQ.then_normal (hK19 _ _ _ ?_)
  refine WP.cond (!x20) rfl rfl (fun hc28 => ?_) (fun hc28 => ?_)
  · have hm := iteT hm hc28
    refine WP.seq (fun K29 hK29 => ?_)
    refine WP.region ?_
    refine WL.runk 2 [2, 3, 14, 15] [(2, .pointer (some ⟨b2, 0, none⟩)), (3, .pointer (some ⟨b10, 0, none⟩)), (14, .agg #[.int .i64 0, .int .i64 0]), (15, .agg #[.int .i64 0, .int .i64 0])] (by kernel_rfl) ?_
    refine WL.boxStore 0 [.int .i64 0, .int .i64 0] [.int .i64 0, .int .i64 0] (SH.front 1 hS27) hL26 rfl rfl rfl rfl rfl rfl rfl (info34).1 (info34).2.1 rfl rfl rfl ?_
    intro w30 hB31 hS32
    have hb33 : Ext w w30 := Below.trans hb25 hB31
    have hL34 : w.heap.size ≤ w30.heap.size := Nat.le_trans hL26 hB31.size
    refine WL.boxStore 0 [.int .i64 0, .int .i64 0] [.int .i64 0, .int .i64 0] (SH.front 1 hS32) hL34 rfl rfl rfl rfl rfl rfl rfl (info34).1 (info34).2.1 rfl rfl rfl ?_
    intro w35 hB36 hS37
    have hb38 : Ext w w35 := Below.trans hb33 hB36
    have hL39 : w.heap.size ≤ w35.heap.size := Nat.le_trans hL34 hB36.size
    refine WL.runk 1 [2, 3, 4] [(2, .pointer (some ⟨b2, 0, none⟩)), (3, .pointer (some ⟨b10, 0, none⟩)), (4, .int .i64 1)] (by kernel_rfl) ?_
    refine WL.nil ?_
    refine WQ.then_normal (hK29 _ _ _ ?_)
    refine WP.ret ?_
    refine WQ.then_ret ?_
    obtain rfl := Option.some.inj hm
    exact WQ.retv3 _ _ _ rfl (RVal.box (SH.front 1 hS37) rfl Try.underlying34 rfl (info34).1 (info34).2.1) (RVal.box (SH.front 0 hS37) rfl Try.underlying34 rfl (info34).1 (info34).2.1) (RVal.tmp rfl) ⟨rfl, hb38⟩
  · have hm := iteF hm hc28
    refine WP.skip ?_
    refine WQ.then_normal (hK18 _ _ _ ?_)
    refine WP.seq (fun K40 hK40 => ?_)
    refine WP.region ?_
    refine WL.runk 1 [0, 2, 3, 16] [(0, .slice a0' rows_0.length c0'), (2, .pointer (some ⟨b2, 0, none⟩)), (3, .pointer (some ⟨b10, 0, none⟩)), (16, .slice a0' rows_0.length c0')] (by kernel_rfl) ?_
    obtain ⟨x41, hx42, hm⟩ := bindE hm
    refine WL.st (.pointer (some (at_ a0' (Int.toNat 0 * 1)))) (ST.index (T := fStr.ty) (xs := rows_0) (Rd.below h0 hb25) hx42 rfl rfl rfl Try.underlying22 (info9).1 (info9).2.1) rfl rfl rfl ?_
    refine WL.st (.string (bs x41)) (ST.load (cell_ext (Rd.flat (F := fStr) (Rd.below h0 hb25) hx42 0 rfl)) rfl rfl Try.underlying9 rfl) rfl rfl rfl ?_
    refine WL.runk 5 [0, 2, 3, 5, 6, 7, 8] [(0, .slice a0' rows_0.length c0'), (2, .pointer (some ⟨b2, 0, none⟩)), (3, .pointer (some ⟨b10, 0, none⟩)), (5, .int .i64 (x41.length : Int)), (6, .int .i64 0), (7, .int .i64 0), (8, .int .i64 0)] (by kernel_rfl) ?_
    refine WL.nil ?_
    refine WQ.then_normal (hK40 _ _ _ ?_)
    refine WP.seq (fun K43 hK43 => ?_)
    refine WP.seq (fun K44 hK44 => ?_)
    refine WP.region ?_
    refine WL.runk 1 [2, 3, 5, 6, 7, 8, 20] [(2, .pointer (some ⟨b2, 0, none⟩)), (3, .pointer (some ⟨b10, 0, none⟩)), (5, .int .i64 (x41.length : Int)), (6, .int .i64 0), (7, .int .i64 0), (8, .int .i64 0), (20, .slice a0' rows_0.length c0')] (by kernel_rfl) ?_
    obtain ⟨x45, hx46, hm⟩ := bindE hm
    refine WL.call 54 #[.slice a0' rows_0.length c0'] rfl rfl (by kernel_rfl) (c_54 n rows_0 a0' c0' w22 hx46 (Rd.below h0 hb25) hle0) ?_
    rintro _ w50 ⟨a47, c48, rfl, hE51, hR52⟩
    refine ⟨_, rfl, ?_⟩
    have hb53 : Ext w w50 := Ext.trans hb25 hE51
    have hL54 : w.heap.size ≤ w50.heap.size := Nat.le_trans hL26 hE51.size
    have hS55 : SH w50 w.heap.size [aOwn fInt 2 a47 c48 x45, aBox 34 b10 [.int .i64 0, .int .i64 0], aBox 34 b2 [.int .i64 0, .int .i64 0]] := SH.add hS27 hE51 hL26 hR52
    refine WL.runk 2 [2, 3, 5, 6, 7, 8, 21, 22, 23] [(2, .pointer (some ⟨b2, 0, none⟩)), (3, .pointer (some ⟨b10, 0, none⟩)), (5, .int .i64 (x41.length : Int)), (6, .int .i64 0), (7, .int .i64 0), (8, .int .i64 0), (21, .slice a47 x45.length c48), (22, .int .i64 (x45.length : Int)), (23, .int .i64 0)] (by kernel_rfl) ?_
    refine WL.nil ?_
    refine WQ.then_normal (hK44 _ _ _ ?_)
    refine WP.block ?_
    obtain ⟨t67, ht68, hm⟩ := bindE hm
    have hmo62 := hm; clear hm
    refine WP.sub [(2, .pointer (some ⟨b2, 0, none⟩)), (3, .pointer (some ⟨b10, 0, none⟩)), (5, .int .i64 (x41.length : Int)), (6, .int .i64 0), (7, .int .i64 0), (8, .int .i64 0), (21, .slice a47 x45.length c48), (22, .int .i64 (x45.length : Int)), (23, .int .i64 0)] ⟨rfl, rfl, rfl, rfl, rfl, rfl, rfl, rfl, rfl, trivial⟩ ?_
    refine WP.loop (fun n' env' w' => ∃ (st56 : Int × Int × Int × Int) , env' = [(2, .pointer (some ⟨b2, 0, none⟩)), (3, .pointer (some ⟨b10, 0, none⟩)), (5, .int .i64 (x41.length : Int)), (6, .int .i64 st56.1), (7, .int .i64 st56.2.1), (8, .int .i64 st56.2.2.1), (21, .slice a47 x45.length c48), (22, .int .i64 (x45.length : Int)), (23, .int .i64 st56.2.2.2)] ∧ Ext w w' ∧ w.heap.size ≤ w'.heap.size ∧ SH w' w.heap.size [aOwn fInt 2 a47 c48 x45, aBox 34 b10 [.int .i64 0, .int .i64 0], aBox 34 b2 [.int .i64 0, .int .i64 0]] ∧ loopN (m_impl_CentreOfWear_l1 n x41 x45) n' st56 = some t67) n ⟨(0, 0, 0, 0), rfl, hb53, hL54, hS55, ht68⟩ ?_
    rintro n64 _ w57 ⟨st56, rfl, hb58, hL59, hS60, hl61⟩ K63 hK63
    obtain ⟨n65, s66, rfl, hm, hl61⟩ := loopN_some hl61
    unfold m_impl_CentreOfWear_l1 at hm
    refine WP.seq (fun K69 hK69 => ?_)
    refine WP.region ?_
    refine WL.runk 1 [2, 3, 5, 6, 7, 8, 21, 22, 23, 24] [(2, .pointer (some ⟨b2, 0, none⟩)), (3, .pointer (some ⟨b10, 0, none⟩)), (5, .int .i64 (x41.length : Int)), (6, .int .i64 st56.1), (7, .int .i64 st56.2.1), (8, .int .i64 st56.2.2.1), (21, .slice a47 x45.length c48), (22, .int .i64 (x45.length : Int)), (23, .int .i64 st56.2.2.2), (24, .bool (decide (st56.2.2.2 < (x45.length : Int))))] (by kernel_rfl) ?_
    refine WL.nil ?_
    refine WQ.then_normal (hK69 _ _ _ ?_)
    refine WP.seq (fun K70 hK70 => ?_)
    refine WP.cond (decide (st56.2.2.2 < (x45.length : Int))) rfl rfl (fun hc71 => ?_) (fun hc71 => ?_)
    · have hm := iteT hm hc71
      refine WP.skip ?_
      refine WQ.then_normal (hK70 _ _ _ ?_)
      refine WP.seq (fun K72 hK72 => ?_)
      refine WP.block ?_
      refine WP.seq (fun K73 hK73 => ?_)
      refine WP.region ?_
      refine WL.runk 1 [2, 3, 5, 6, 7, 8, 21, 22, 23, 25] [(2, .pointer (some ⟨b2, 0, none⟩)), (3, .pointer (some ⟨b10, 0, none⟩)), (5, .int .i64 (x41.length : Int)), (6, .int .i64 st56.1), (7, .int .i64 st56.2.1), (8, .int .i64 st56.2.2.1), (21, .slice a47 x45.length c48), (22, .int .i64 (x45.length : Int)), (23, .int .i64 st56.2.2.2), (25, .int .i64 st56.2.2.2)] (by kernel_rfl) ?_
      obtain ⟨x74, hx75, hm⟩ := bindE hm
      refine WL.st (.pointer (some (at_ a47 (Int.toNat st56.2.2.2 * 1)))) (ST.index (T := fInt.ty) (xs := x45) (SH.rd (SH.front 0 hS60)) hx75 rfl rfl rfl Try.underlying40 (info2).1 (info2).2.1) rfl rfl rfl ?_
      refine WL.st (.int .i64 x74) (ST.load (cell_ext (Rd.flat (F := fInt) (SH.rd (SH.front 0 hS60)) hx75 0 rfl)) rfl rfl Try.underlying2 rfl) rfl rfl rfl ?_
      refine WL.runk 2 [2, 3, 5, 6, 7, 8, 9, 10, 21, 22, 23] [(2, .pointer (some ⟨b2, 0, none⟩)), (3, .pointer (some ⟨b10, 0, none⟩)), (5, .int .i64 (x41.length : Int)), (6, .int .i64 st56.1), (7, .int .i64 st56.2.1), (8, .int .i64 st56.2.2.1), (21, .slice a47 x45.length c48), (22, .int .i64 (x45.length : Int)), (23, .int .i64 st56.2.2.2), (9, .int .i64 st56.2.2.2), (10, .int .i64 x74)] (by kernel_rfl) ?_
      refine WL.nil ?_
      refine WQ.then_normal (hK73 _ _ _ ?_)
      refine WP.seq (fun K76 hK76 => ?_)
      refine WP.region ?_
      refine WL.runk 4 [2, 3, 5, 6, 7, 8, 9, 10, 21, 22, 23] [(2, .pointer (some ⟨b2, 0, none⟩)), (3, .pointer (some ⟨b10, 0, none⟩)), (5, .int .i64 (x41.length : Int)), (6, .int .i64 (wI64 (st56.1 + x74))), (7, .int .i64 st56.2.1), (8, .int .i64 st56.2.2.1), (21, .slice a47 x45.length c48), (22, .int .i64 (x45.length : Int)), (23, .int .i64 st56.2.2.2), (9, .int .i64 st56.2.2.2), (10, .int .i64 x74)] (by kernel_rfl) ?_
      refine WL.nil ?_
      refine WQ.then_normal (hK76 _ _ _ ?_)
      refine WP.seq (fun K77 hK77 => ?_)
      refine WP.region ?_
      refine WL.runk 4 [2, 3, 5, 6, 8, 9, 10, 21, 22, 23, 31, 32, 33, 34] [(2, .pointer (some ⟨b2, 0, none⟩)), (3, .pointer (some ⟨b10, 0, none⟩)), (5, .int .i64 (x41.length : Int)), (6, .int .i64 (wI64 (st56.1 + x74))), (8, .int .i64 st56.2.2.1), (21, .slice a47 x45.length c48), (22, .int .i64 (x45.length : Int)), (23, .int .i64 st56.2.2.2), (9, .int .i64 st56.2.2.2), (10, .int .i64 x74), (31, .int .i64 st56.2.1), (32, .int .i64 x74), (33, .int .i64 st56.2.2.2), (34, .int .i64 (x41.length : Int))] (by kernel_rfl) ?_
      obtain ⟨x78, hx79, hm⟩ := bindE hm
      refine WL.st (.int .i64 x78) (ST.quo (k := .i64) hx79 rfl rfl rfl) rfl rfl rfl ?_
      refine WL.runk 3 [2, 3, 5, 6, 7, 8, 9, 10, 21, 22, 23] [(2, .pointer (some ⟨b2, 0, none⟩)), (3, .pointer (some ⟨b10, 0, none⟩)), (5, .int .i64 (x41.length : Int)), (6, .int .i64 (wI64 (st56.1 + x74))), (8, .int .i64 st56.2.2.1), (21, .slice a47 x45.length c48), (22, .int .i64 (x45.length : Int)), (23, .int .i64 st56.2.2.2), (9, .int .i64 st56.2.2.2), (10, .int .i64 x74), (7, .int .i64 (wI64 (st56.2.1 + (wI64 (x74 * x78)))))] (by kernel_rfl) ?_
      refine WL.nil ?_
      refine WQ.then_normal (hK77 _ _ _ ?_)
      refine WP.region ?_
      refine WL.runk 4 [2, 3, 5, 6, 7, 21, 22, 23, 38, 39, 40, 41] [(2, .pointer (some ⟨b2, 0, none⟩)), (3, .pointer (some ⟨b10, 0, none⟩)), (5, .int .i64 (x41.length : Int)), (6, .int .i64 (wI64 (st56.1 + x74))), (21, .slice a47 x45.length c48), (22, .int .i64 (x45.length : Int)), (23, .int .i64 st56.2.2.2), (7, .int .i64 (wI64 (st56.2.1 + (wI64 (x74 * x78))))), (38, .int .i64 st56.2.2.1), (39, .int .i64 x74), (40, .int .i64 st56.2.2.2), (41, .int .i64 (x41.length : Int))] (by kernel_rfl) ?_
      obtain ⟨x80, hx81, hm⟩ := bindE hm
      refine WL.st (.int .i64 x80) (ST.rem (k := .i64) hx81 rfl rfl rfl) rfl rfl rfl ?_
      refine WL.runk 3 [2, 3, 5, 6, 7, 8, 21, 22, 23] [(2, .pointer (some ⟨b2, 0, none⟩)), (3, .pointer (some ⟨b10, 0, none⟩)), (5, .int .i64 (x41.length : Int)), (6, .int .i64 (wI64 (st56.1 + x74))), (21, .slice a47 x45.length c48), (22, .int .i64 (x45.length : Int)), (23, .int .i64 st56.2.2.2), (7, .int .i64 (wI64 (st56.2.1 + (wI64 (x74 * x78))))), (8, .int .i64 (wI64 (st56.2.2.1 + (wI64 (x74 * x80)))))] (by kernel_rfl) ?_
      refine WL.nil ?_
      refine WQ.block_normal ?_
      refine WQ.then_normal (hK72 _ _ _ ?_)
      refine WP.region ?_
      refine WL.runk 2 [2, 3, 5, 6, 7, 8, 21, 22, 23] [(2, .pointer (some ⟨b2, 0, none⟩)), (3, .pointer (some ⟨b10, 0, none⟩)), (5, .int .i64 (x41.length : Int)), (6, .int .i64 (wI64 (st56.1 + x74))), (21, .slice a47 x45.length c48), (22, .int .i64 (x45.length : Int)), (23, .int .i64 (wI64 (st56.2.2.2 + 1))), (7, .int .i64 (wI64 (st56.2.1 + (wI64 (x74 * x78))))), (8, .int .i64 (wI64 (st56.2.2.1 + (wI64 (x74 * x80)))))] (by kernel_rfl) ?_
      refine WL.nil ?_
      obtain rfl := Option.some.inj hm
      exact WQ.round hK63 ⟨((wI64 (st56.1 + x74)), (wI64 (st56.2.1 + (wI64 (x74 * x78)))), (wI64 (st56.2.2.1 + (wI64 (x74 * x80)))), (wI64 (st56.2.2.2 + 1))), rfl, hb58, hL59, hS60, hl61⟩ (Nat.lt_succ_self _) ⟨rfl, rfl, rfl, rfl, rfl, rfl, rfl, rfl, rfl, trivial⟩
    · have hm := iteF hm hc71
      refine WP.exit ?_
      refine WQ.then_exit ?_
      refine WQ.then_exit ?_
      refine WQ.block_here ?_
      obtain rfl := Option.some.inj hm
      obtain rfl := afterN_done hl61
      have hm := hmo62
      refine WQ.then_normal (hK43 _ _ _ ?_)
      refine WP.seq (fun K82 hK82 => ?_)
      refine WP.seq (fun K83 hK83 => ?_)
      refine WP.region ?_
      refine WL.runk 2 [2, 3, 6, 7, 8, 47] [(2, .pointer (some ⟨b2, 0, none⟩)), (3, .pointer (some ⟨b10, 0, none⟩)), (6, .int .i64 st56.1), (7, .int .i64 st56.2.1), (8, .int .i64 st56.2.2.1), (47, .bool (st56.1 == 0))] (by kernel_rfl) ?_
      refine WL.nil ?_
      refine WQ.then_normal (hK83 _ _ _ ?_)
      refine WP.cond (st56.1 == 0) rfl rfl (fun hc84 => ?_) (fun hc84 => ?_)
      · have hm := iteT hm hc84
        refine WP.seq (fun K85 hK85 => ?_)
        refine WP.region ?_
        refine WL.runk 2 [2, 3, 48, 49] [(2, .pointer (some ⟨b2, 0, none⟩)), (3, .pointer (some ⟨b10, 0, none⟩)), (48, .agg #[.int .i64 0, .int .i64 0]), (49, .agg #[.int .i64 0, .int .i64 0])] (by kernel_rfl) ?_
        refine WL.boxStore 0 [.int .i64 0, .int .i64 0] [.int .i64 0, .int .i64 0] (SH.front 2 hS60) hL59 rfl rfl rfl rfl rfl rfl rfl (info34).1 (info34).2.1 rfl rfl rfl ?_
        intro w86 hB87 hS88
        have hb89 : Ext w w86 := Below.trans hb58 hB87
        have hL90 : w.heap.size ≤ w86.heap.size := Nat.le_trans hL59 hB87.size
        refine WL.boxStore 0 [.int .i64 0, .int .i64 0] [.int .i64 0, .int .i64 0] (SH.front 2 hS88) hL90 rfl rfl rfl rfl rfl rfl rfl (info34).1 (info34).2.1 rfl rfl rfl ?_
        intro w91 hB92 hS93
        have hb94 : Ext w w91 := Below.trans hb89 hB92
        have hL95 : w.heap.size ≤ w91.heap.size := Nat.le_trans hL90 hB92.size
        refine WL.runk 1 [2, 3, 4] [(2, .pointer (some ⟨b2, 0, none⟩)), (3, .pointer (some ⟨b10, 0, none⟩)), (4, .int .i64 3)] (by kernel_rfl) ?_
        refine WL.nil ?_
        refine WQ.then_normal (hK85 _ _ _ ?_)
        refine WP.ret ?_
        refine WQ.then_ret ?_
        obtain rfl := Option.some.inj hm
        exact WQ.retv3 _ _ _ rfl (RVal.box (SH.front 1 hS93) rfl Try.underlying34 rfl (info34).1 (info34).2.1) (RVal.box (SH.front 0 hS93) rfl Try.underlying34 rfl (info34).1 (info34).2.1) (RVal.tmp rfl) ⟨rfl, hb94⟩
      · have hm := iteF hm hc84
        refine WP.skip ?_
        refine WQ.then_normal (hK82 _ _ _ ?_)
        refine WP.seq (fun K96 hK96 => ?_)
        refine WP.region ?_
        refine WL.runk 2 [2, 3, 6, 8, 50, 51] [(2, .pointer (some ⟨b2, 0, none⟩)), (3, .pointer (some ⟨b10, 0, none⟩)), (6, .int .i64 st56.1), (8, .int .i64 st56.2.2.1), (50, .int .i64 st56.2.1), (51, .int .i64 st56.1)] (by kernel_rfl) ?_
        obtain ⟨x97, hx98, hm⟩ := bindE hm
        refine WL.call 62 #[.int .i64 st56.2.1, .int .i64 st56.1] rfl rfl (by kernel_rfl) (c_62 n st56.2.1 st56.1 w57 hx98 ) ?_
        rintro _ w99 ⟨rfl, hE100⟩
        refine ⟨_, rfl, ?_⟩
        have hb102 : Ext w w99 := Ext.trans hb58 hE100
        have hL103 : w.heap.size ≤ w99.heap.size := Nat.le_trans hL59 hE100.size
        have hS104 : SH w99 w.heap.size [aOwn fInt 2 a47 c48 x45, aBox 34 b10 [.int .i64 0, .int .i64 0], aBox 34 b2 [.int .i64 0, .int .i64 0]] := SH.ext hS60 hE100
        refine WL.runk 2 [2, 3, 52, 53, 54] [(2, .pointer (some ⟨b2, 0, none⟩)), (3, .pointer (some ⟨b10, 0, none⟩)), (52, .agg #[.int .i64 x97.Num, .int .i64 x97.Den]), (53, .int .i64 st56.2.2.1), (54, .int .i64 st56.1)] (by kernel_rfl) ?_
        obtain ⟨x105, hx106, hm⟩ := bindE hm
        refine WL.call 62 #[.int .i64 st56.2.2.1, .int .i64 st56.1] rfl rfl (by kernel_rfl) (c_62 n st56.2.2.1 st56.1 w99 hx106 ) ?_
        rintro _ w107 ⟨rfl, hE108⟩
        refine ⟨_, rfl, ?_⟩
        have hb110 : Ext w w107 := Ext.trans hb102 hE108
        have hL111 : w.heap.size ≤ w107.heap.size := Nat.le_trans hL103 hE108.size
        have hS112 : SH w107 w.heap.size [aOwn fInt 2 a47 c48 x45, aBox 34 b10 [.int .i64 0, .int .i64 0], aBox 34 b2 [.int .i64 0, .int .i64 0]] := SH.ext hS104 hE108
        refine WL.boxStore 0 [.int .i64 x97.Num, .int .i64 x97.Den] [.int .i64 x97.Num, .int .i64 x97.Den] (SH.front 2 hS112) hL111 rfl rfl rfl rfl rfl rfl rfl (info34).1 (info34).2.1 rfl rfl rfl ?_
        intro w113 hB114 hS115
        have hb116 : Ext w w113 := Below.trans hb110 hB114
        have hL117 : w.heap.size ≤ w113.heap.size := Nat.le_trans hL111 hB114.size
        refine WL.boxStore 0 [.int .i64 x105.Num, .int .i64 x105.Den] [.int .i64 x105.Num, .int .i64 x105.Den] (SH.front 2 hS115) hL117 rfl rfl rfl rfl rfl rfl rfl (info34).1 (info34).2.1 rfl rfl rfl ?_
        intro w118 hB119 hS120
        have hb121 : Ext w w118 := Below.trans hb116 hB119
        have hL122 : w.heap.size ≤ w118.heap.size := Nat.le_trans hL117 hB119.size
        refine WL.runk 1 [2, 3, 4] [(2, .pointer (some ⟨b2, 0, none⟩)), (3, .pointer (some ⟨b10, 0, none⟩)), (4, .int .i64 0)] (by kernel_rfl) ?_
        refine WL.nil ?_
        refine WQ.then_normal (hK96 _ _ _ ?_)
        refine WP.ret ?_
        obtain rfl := Option.some.inj hm
        exact WQ.retv3 _ _ _ rfl (RVal.box (SH.front 1 hS120) rfl Try.underlying34 rfl (info34).1 (info34).2.1) (RVal.box (SH.front 0 hS120) rfl Try.underlying34 rfl (info34).1 (info34).2.1) (RVal.tmp rfl) ⟨rfl, hb121⟩

theorem c_30 (n : Nat) (a_0 : SFraction) (b_1 : SFraction) (w : World) {r : Bool} (hm : m_laws_eqFraction n a_0 b_1 = some r)  :
    CallV Try.prog 30 #[.agg #[.int .i64 a_0.Num, .int .i64 a_0.Den], .agg #[.int .i64 b_1.Num, .int .i64 b_1.Den]] w (fun v w' => v = .bool r ∧ Ext w w') := by
  unfold m_laws_eqFraction at hm
  refine CallV.enter Try.func30 rfl (by kernel_rfl) Try.ntmps30 (env := [(0, .agg #[.int .i64 a_0.Num, .int .i64 a_0.Den]), (1, .agg #[.int .i64 b_1.Num, .int .i64 b_1.Den])]) ⟨rfl, rfl, trivial⟩ ?_
  refine WP.seq (fun K1 hK1 => ?_)
  refine WP.region ?_
  refine WL.box 34 [.int .i64 a_0.Num, .int .i64 a_0.Den] 2 (by kernel_rfl) rfl rfl rfl rfl ?_
  intro b2 w3 hE4 hR5
  have hb7 : Ext w w3 := Ext.trans (Ext.refl w) hE4
  have hL8 : w.heap.size ≤ w3.heap.size := Nat.le_trans (Nat.le_refl _) hE4.size
  have hS9 : SH w3 w.heap.size [aBox 34 b2 [.int .i64 a_0.Num, .int .i64 a_0.Den]] := SH.add (SH.nil _ _) hE4 (Nat.le_refl _) hR5
  refine WL.box 34 [.int .i64 b_1.Num, .int .i64 b_1.Den] 3 (by kernel_rfl) rfl rfl rfl rfl ?_
  intro b10 w11 hE12 hR13
  have hb15 : Ext w w11 := Ext.trans hb7 hE12
  have hL16 : w.heap.size ≤ w11.heap.size := Nat.le_trans hL8 hE12.size
  have hS17 : SH w11 w.heap.size [aBox 34 b10 [.int .i64 b_1.Num, .int .i64 b_1.Den], aBox 34 b2 [.int .i64 a_0.Num, .int .i64 a_0.Den]] := SH.add hS9 hE12 hL8 hR13
  refine WL.runk 1 [2, 3] [(2, .pointer (some ⟨b2, 0, none⟩)), (3, .pointer (some ⟨b10, 0, none⟩))] (by kernel_rfl) ?_
  refine WL.nil ?_
  refine WQ.then_normal (hK1 _ _ _ ?_)
  refine WP.seq (fun K18 hK18 => ?_)
  refine WP.seq (fun K19 hK19 => ?_)
  refine WP.region ?_
  refine WL.runk 1 [2, 3, 5] [(2, .pointer (some ⟨b2, 0, none⟩)), (3, .pointer (some ⟨b10, 0, none⟩)), (5, .pointer (some ⟨b2, 0, none⟩))] (by kernel_rfl) ?_
  refine WL.st (.int .i64 a_0.Num) (ST.load (cell_ext (SH.boxAt (SH.front 1 hS17) 0 _ rfl)) rfl rfl Try.underlying2 rfl) rfl rfl rfl ?_
  refine WL.runk 1 [2, 3, 6, 7] [(2, .pointer (some ⟨b2, 0, none⟩)), (3, .pointer (some ⟨b10, 0, none⟩)), (6, .int .i64 a_0.Num), (7, .pointer (some ⟨b10, 0, none⟩))] (by kernel_rfl) ?_
  refine WL.st (.int .i64 b_1.Num) (ST.load (cell_ext (SH.boxAt (SH.front 0 hS17) 0 _ rfl)) rfl rfl Try.underlying2 rfl) rfl rfl rfl ?_
  refine WL.runk 1 [2, 3, 9] [(2, .pointer (some ⟨b2, 0, none⟩)), (3, .pointer (some ⟨b10, 0, none⟩)), (9, .bool (a_0.Num != b_1.Num))] (by kernel_rfl) ?_
  refine WL.nil ?_
  refine WQ.then_normal (hK19 _ _ _ ?_)
  refine WP.cond (a_0.Num != b_1.Num) rfl rfl (fun hc20 => ?_) (fun hc20 => ?_)
  · have hm := iteT hm hc20
    refine WP.seq (fun K21 hK21 => ?_)
    refine WP.region ?_
    refine WL.runk 1 [4] [(4, .bool false)] (by kernel_rfl) ?_
    refine WL.nil ?_
    refine WQ.then_normal (hK21 _ _ _ ?_)
    refine WP.ret ?_
    refine WQ.then_ret ?_
    obtain rfl := Option.some.inj hm
    exact WQ.ret1 _ rfl rfl ⟨rfl, hb15⟩
  · have hm := iteF hm hc20
    refine WP.skip ?_
    refine WQ.then_normal (hK18 _ _ _ ?_)
    refine WP.seq (fun K22 hK22 => ?_)
    refine WP.seq (fun K23 hK23 => ?_)
    refine WP.region ?_
    refine WL.runk 1 [3, 10] [(3, .pointer (some ⟨b10, 0, none⟩)), (10, .pointer (some ⟨b2, 1, none⟩))] (by kernel_rfl) ?_
    refine WL.st (.int .i64 a_0.Den) (ST.load (cell_ext (SH.boxAt (SH.front 1 hS17) 1 _ rfl)) rfl rfl Try.underlying2 rfl) rfl rfl rfl ?_
    refine WL.runk 1 [11, 12] [(11, .int .i64 a_0.Den), (12, .pointer (some ⟨b10, 1, none⟩))] (by kernel_rfl) ?_
    refine WL.st (.int .i64 b_1.Den) (ST.load (cell_ext (SH.boxAt (SH.front 0 hS17) 1 _ rfl)) rfl rfl Try.underlying2 rfl) rfl rfl rfl ?_
    refine WL.runk 1 [14] [(14, .bool (a_0.Den != b_1.Den))] (by kernel_rfl) ?_
    refine WL.nil ?_
    refine WQ.then_normal (hK23 _ _ _ ?_)
    refine WP.cond (a_0.Den != b_1.Den) rfl rfl (fun hc24 => ?_) (fun hc24 => ?_)
    · have hm := iteT hm hc24
      refine WP.seq (fun K25 hK25 => ?_)
      refine WP.region ?_
      refine WL.runk 1 [4] [(4, .bool false)] (by kernel_rfl) ?_
      refine WL.nil ?_
      refine WQ.then_normal (hK25 _ _ _ ?_)
      refine WP.ret ?_
      refine WQ.then_ret ?_
      obtain rfl := Option.some.inj hm
      exact WQ.ret1 _ rfl rfl ⟨rfl, hb15⟩
    · have hm := iteF hm hc24
      refine WP.skip ?_
      refine WQ.then_normal (hK22 _ _ _ ?_)
      refine WP.seq (fun K26 hK26 => ?_)
      refine WP.region ?_
      refine WL.runk 1 [4] [(4, .bool true)] (by kernel_rfl) ?_
      refine WL.nil ?_
      refine WQ.then_normal (hK26 _ _ _ ?_)
      refine WP.ret ?_
      obtain rfl := Option.some.inj hm
      exact WQ.ret1 _ rfl rfl ⟨rfl, hb15⟩

end Go.Proofs.Ytoljnpoiclklpaa
