/- Each call does what its Lean function says. -/
import Derived.Test.YtkjjjbfpecmieaaDoorKStyleText1
set_option maxRecDepth 20000
set_option maxHeartbeats 40000000
namespace Go.Proofs.YtkjjjbfpecmieaaDoor
open Go Go.Gv Go.RowKit

theorem c_18 (n : Nat) (x_0 : SStyle) (w : World) {r : List UInt8} (hm : m_impl_StyleText n x_0 = some r) (hG : GL 2 w) :
    CallV Tryd.prog 18 #[.agg #[.string (bs x_0.Upper), .string (bs x_0.Color), .string (bs x_0.Lining), .string (bs x_0.Sole), .int .i64 x_0.Thick, .int .i64 x_0.Heel, .int .i64 x_0.Eyelets, .int .i64 x_0.Density, .bool x_0.Double]] w (fun v w' => v = .string (bs r) ∧ Ext w w') := by
  unfold m_impl_StyleText at hm
  refine CallV.enter Tryd.func18 rfl (by kernel_rfl) Tryd.ntmps18 (env := [(0, .agg #[.string (bs x_0.Upper), .string (bs x_0.Color), .string (bs x_0.Lining), .string (bs x_0.Sole), .int .i64 x_0.Thick, .int .i64 x_0.Heel, .int .i64 x_0.Eyelets, .int .i64 x_0.Density, .bool x_0.Double])]) ⟨rfl, trivial⟩ ?_
  refine WP.seq (fun K1 hK1 => ?_)
  refine WP.region ?_
  refine WL.box 32 [.string (bs x_0.Upper), .string (bs x_0.Color), .string (bs x_0.Lining), .string (bs x_0.Sole), .int .i64 x_0.Thick, .int .i64 x_0.Heel, .int .i64 x_0.Eyelets, .int .i64 x_0.Density, .bool x_0.Double] 1 (by kernel_rfl) rfl rfl rfl rfl ?_
  intro b2 w3 hE4 hR5
  have hb7 : Ext w w3 := Ext.trans (Ext.refl w) hE4
  have hL8 : w.heap.size ≤ w3.heap.size := Nat.le_trans (Nat.le_refl _) hE4.size
  have hS9 : SH w3 w.heap.size [aBox 32 b2 [.string (bs x_0.Upper), .string (bs x_0.Color), .string (bs x_0.Lining), .string (bs x_0.Sole), .int .i64 x_0.Thick, .int .i64 x_0.Heel, .int .i64 x_0.Eyelets, .int .i64 x_0.Density, .bool x_0.Double]] := SH.add (SH.nil _ _) hE4 (Nat.le_refl _) hR5
  refine WL.runk 1 [1] [(1, .pointer (some ⟨b2, 0, none⟩))] (by kernel_rfl) ?_
  refine WL.nil ?_
  refine WQ.then_normal (hK1 _ _ _ ?_)
  refine WP.seq (fun K10 hK10 => ?_)
  refine WP.seq (fun K11 hK11 => ?_)
  refine WP.region ?_
  refine WL.st (.agg #[.string (bs x_0.Upper), .string (bs x_0.Color), .string (bs x_0.Lining), .string (bs x_0.Sole), .int .i64 x_0.Thick, .int .i64 x_0.Heel, .int .i64 x_0.Eyelets, .int .i64 x_0.Density, .bool x_0.Double]) (ST.loadAgg (vs := [.string (bs x_0.Upper), .string (bs x_0.Color), .string (bs x_0.Lining), .string (bs x_0.Sole), .int .i64 x_0.Thick, .int .i64 x_0.Heel, .int .i64 x_0.Eyelets, .int .i64 x_0.Density, .bool x_0.Double]) (fun j v hv => SH.boxPart (us := [.string (bs x_0.Upper), .string (bs x_0.Color), .string (bs x_0.Lining), .string (bs x_0.Sole), .int .i64 x_0.Thick, .int .i64 x_0.Heel, .int .i64 x_0.Eyelets, .int .i64 x_0.Density, .bool x_0.Double]) (SH.front 0 hS9) 0 rfl j v hv) rfl rfl rfl Tryd.underlying32 rfl (info32).1 (info32).2.1) rfl rfl rfl ?_
  obtain ⟨x12, hx13, hm⟩ := bindE hm
  refine WL.call 33 #[.agg #[.string (bs x_0.Upper), .string (bs x_0.Color), .string (bs x_0.Lining), .string (bs x_0.Sole), .int .i64 x_0.Thick, .int .i64 x_0.Heel, .int .i64 x_0.Eyelets, .int .i64 x_0.Density, .bool x_0.Double]] rfl rfl (by kernel_rfl) (c_33 n x_0 w3 hx13 ) ?_
  rintro _ w14 ⟨rfl, hE15⟩
  refine ⟨_, rfl, ?_⟩
  have hb17 : Ext w w14 := Ext.trans hb7 hE15
  have hL18 : w.heap.size ≤ w14.heap.size := Nat.le_trans hL8 hE15.size
  have hS19 : SH w14 w.heap.size [aBox 32 b2 [.string (bs x_0.Upper), .string (bs x_0.Color), .string (bs x_0.Lining), .string (bs x_0.Sole), .int .i64 x_0.Thick, .int .i64 x_0.Heel, .int .i64 x_0.Eyelets, .int .i64 x_0.Density, .bool x_0.Double]] := SH.ext hS9 hE15
  refine WL.runk 1 [1, 9] [(1, .pointer (some ⟨b2, 0, none⟩)), (9, .bool (!x12))] (by kernel_rfl) ?_
  refine WL.nil ?_
  refine WQ.then_normal (hK11 _ _ _ ?_)
  refine WP.cond (!x12) rfl rfl (fun hc20 => ?_) (fun hc20 => ?_)
  · have hm := iteT hm hc20
    refine WP.seq (fun K21 hK21 => ?_)
    refine WP.region ?_
    refine WL.runk 1 [2] [(2, .string (bs []))] (by kernel_rfl) ?_
    refine WL.nil ?_
    refine WQ.then_normal (hK21 _ _ _ ?_)
    refine WP.ret ?_
    refine WQ.then_ret ?_
    obtain rfl := Option.some.inj hm
    exact WQ.ret1 _ rfl rfl ⟨rfl, hb17⟩
  have hm := iteF hm hc20
  refine WP.skip ?_
  refine WQ.then_normal (hK10 _ _ _ ?_)
  refine WP.seq (fun K22 hK22 => ?_)
  refine WP.region ?_
  refine WL.row fStr 9 ([] : List (List UInt8)) 0 #[] 10 (by kernel_rfl) rfl rfl rfl rfl rfl rfl rfl ?_
  intro a23 c24 w25 hE26 hR27
  have hb29 : Ext w w25 := Ext.trans hb17 hE26
  have hL30 : w.heap.size ≤ w25.heap.size := Nat.le_trans hL18 hE26.size
  have hS31 : SH w25 w.heap.size [aOwn fStr 9 a23 c24 ([] : List (List UInt8)), aBox 32 b2 [.string (bs x_0.Upper), .string (bs x_0.Color), .string (bs x_0.Lining), .string (bs x_0.Sole), .int .i64 x_0.Thick, .int .i64 x_0.Heel, .int .i64 x_0.Eyelets, .int .i64 x_0.Density, .bool x_0.Double]] := SH.add hS19 hE26 hL18 hR27
  refine WL.runk 1 [1, 3] [(1, .pointer (some ⟨b2, 0, none⟩)), (3, .slice a23 (([] : List (List UInt8)).length) c24)] (by kernel_rfl) ?_
  refine WL.nil ?_
  refine WQ.then_normal (hK22 _ _ _ ?_)
  refine WP.seq (fun K32 hK32 => ?_)
  refine WP.seq (fun K33 hK33 => ?_)
  refine WP.region ?_
  obtain ⟨x34, hx35, hm⟩ := bindE hm
  refine WL.call 35 #[] rfl rfl (by kernel_rfl) (c_35 n  w25 hx35 ) ?_
  rintro _ w39 ⟨a36, c37, rfl, hE40, hR41⟩
  refine ⟨_, rfl, ?_⟩
  have hb42 : Ext w w39 := Ext.trans hb29 hE40
  have hL43 : w.heap.size ≤ w39.heap.size := Nat.le_trans hL30 hE40.size
  have hS44 : SH w39 w.heap.size [aOwn fStr 9 a36 c37 x34, aOwn fStr 9 a23 c24 ([] : List (List UInt8)), aBox 32 b2 [.string (bs x_0.Upper), .string (bs x_0.Color), .string (bs x_0.Lining), .string (bs x_0.Sole), .int .i64 x_0.Thick, .int .i64 x_0.Heel, .int .i64 x_0.Eyelets, .int .i64 x_0.Density, .bool x_0.Double]] := SH.add hS31 hE40 hL30 hR41
  refine WL.runk 2 [1, 3, 11, 12, 13] [(1, .pointer (some ⟨b2, 0, none⟩)), (3, .slice a23 (([] : List (List UInt8)).length) c24), (11, .slice a36 x34.length c37), (12, .int .i64 (x34.length : Int)), (13, .int .i64 0)] (by kernel_rfl) ?_
  refine WL.nil ?_
  refine WQ.then_normal (hK33 _ _ _ ?_)
  refine WP.block ?_
  obtain ⟨t59, ht60, hm⟩ := bindE hm
  have hmo54 := hm; clear hm
  refine WP.sub [(1, .pointer (some ⟨b2, 0, none⟩)), (3, .slice a23 (([] : List (List UInt8)).length) c24), (11, .slice a36 x34.length c37), (12, .int .i64 (x34.length : Int)), (13, .int .i64 0)] ⟨rfl, rfl, rfl, rfl, rfl, trivial⟩ ?_
  refine WP.loop (fun n' env' w' => ∃ (st45 : List (List UInt8) × Int) (a46 : Option Addr) (c47 : Nat), env' = [(1, .pointer (some ⟨b2, 0, none⟩)), (3, .slice a46 st45.1.length c47), (11, .slice a36 x34.length c37), (12, .int .i64 (x34.length : Int)), (13, .int .i64 st45.2)] ∧ Ext w w' ∧ w.heap.size ≤ w'.heap.size ∧ SH w' w.heap.size [aOwn fStr 9 a46 c47 st45.1, aOwn fStr 9 a36 c37 x34, aBox 32 b2 [.string (bs x_0.Upper), .string (bs x_0.Color), .string (bs x_0.Lining), .string (bs x_0.Sole), .int .i64 x_0.Thick, .int .i64 x_0.Heel, .int .i64 x_0.Eyelets, .int .i64 x_0.Density, .bool x_0.Double]] ∧ loopN (m_impl_StyleText_l1 n x_0 x34) n' st45 = some t59) n ⟨(([] : List (List UInt8)), 0), _, _, rfl, hb42, hL43, (SH.front 2 (SH.front 1 (SH.front 2 hS44))), ht60⟩ ?_
  rintro n56 _ w49 ⟨st45, a46, c47, rfl, hb50, hL51, hS52, hl53⟩ K55 hK55
  obtain ⟨n57, s58, rfl, hm, hl53⟩ := loopN_some hl53
  unfold m_impl_StyleText_l1 at hm
  refine WP.seq (fun K61 hK61 => ?_)
  refine WP.region ?_
  refine WL.runk 1 [1, 3, 11, 12, 13, 14] [(1, .pointer (some ⟨b2, 0, none⟩)), (3, .slice a46 st45.1.length c47), (11, .slice a36 x34.length c37), (12, .int .i64 (x34.length : Int)), (13, .int .i64 st45.2), (14, .bool (decide (st45.2 < (x34.length : Int))))] (by kernel_rfl) ?_
  refine WL.nil ?_
  refine WQ.then_normal (hK61 _ _ _ ?_)
  refine WP.seq (fun K62 hK62 => ?_)
  refine WP.cond (decide (st45.2 < (x34.length : Int))) rfl rfl (fun hc63 => ?_) (fun hc63 => ?_)
  rotate_left
  · have hm := iteF hm hc63
    refine WP.exit ?_
    refine WQ.then_exit ?_
    refine WQ.then_exit ?_
    refine WQ.block_here ?_
    obtain rfl := Option.some.inj hm
    obtain rfl := afterN_done hl53
    have hm := hmo54
    refine WQ.then_normal (hK32 _ _ _ ?_)
    refine WP.seq (fun K124 hK124 => ?_)
    refine WP.region ?_
    refine WL.runk 1 [27] [(27, .slice a46 st45.1.length c47)] (by kernel_rfl) ?_
    obtain ⟨x125, hx126, hm⟩ := bindE hm
    refine WL.call 39 #[.slice a46 st45.1.length c47, .string (bs [59, 32])] rfl rfl (by kernel_rfl) (c_39 n st45.1 a46 c47 [59, 32] w49 hx126 (SH.rd (SH.front 0 hS52)) (SH.le (SH.front 0 hS52)).1) ?_
    rintro _ w127 ⟨rfl, hE128⟩
    refine ⟨_, rfl, ?_⟩
    have hb130 : Ext w w127 := Ext.trans hb50 hE128
    have hL131 : w.heap.size ≤ w127.heap.size := Nat.le_trans hL51 hE128.size
    have hS132 : SH w127 w.heap.size [aOwn fStr 9 a46 c47 st45.1, aOwn fStr 9 a36 c37 x34, aBox 32 b2 [.string (bs x_0.Upper), .string (bs x_0.Color), .string (bs x_0.Lining), .string (bs x_0.Sole), .int .i64 x_0.Thick, .int .i64 x_0.Heel, .int .i64 x_0.Eyelets, .int .i64 x_0.Density, .bool x_0.Double]] := SH.ext hS52 hE128
    refine WL.runk 1 [2] [(2, .string (bs x125))] (by kernel_rfl) ?_
    refine WL.nil ?_
    refine WQ.then_normal (hK124 _ _ _ ?_)
    refine WP.ret ?_
    obtain rfl := Option.some.inj hm
    exact WQ.ret1 _ rfl rfl ⟨rfl, hb130⟩
  have hm := iteT hm hc63
  refine WP.skip ?_
  refine WQ.then_normal (hK62 _ _ _ ?_)
  refine WP.seq (fun K64 hK64 => ?_)
  refine WP.block ?_
  refine WP.seq (fun K65 hK65 => ?_)
  refine WP.region ?_
  obtain ⟨x66, hx67, hm⟩ := bindE hm
  refine WL.st (.pointer (some (at_ a36 (Int.toNat st45.2 * 1)))) (ST.index (T := fStr.ty) (xs := x34) (SH.rd (SH.front 1 hS52)) hx67 rfl rfl rfl Tryd.underlying22 (info9).1 (info9).2.1) rfl rfl rfl ?_
  refine WL.st (.string (bs x66)) (ST.load (cell_ext (Rd.flat (F := fStr) (SH.rd (SH.front 1 hS52)) hx67 0 rfl)) rfl rfl Tryd.underlying9 rfl) rfl rfl rfl ?_
  refine WL.runk 1 [1, 3, 5, 11, 12, 13] [(1, .pointer (some ⟨b2, 0, none⟩)), (3, .slice a46 st45.1.length c47), (11, .slice a36 x34.length c37), (12, .int .i64 (x34.length : Int)), (13, .int .i64 st45.2), (5, .string (bs x66))] (by kernel_rfl) ?_
  refine WL.nil ?_
  refine WQ.then_normal (hK65 _ _ _ ?_)
  refine WP.seq (fun K68 hK68 => ?_)
  refine WP.region ?_
  refine WL.st (.agg #[.string (bs x_0.Upper), .string (bs x_0.Color), .string (bs x_0.Lining), .string (bs x_0.Sole), .int .i64 x_0.Thick, .int .i64 x_0.Heel, .int .i64 x_0.Eyelets, .int .i64 x_0.Density, .bool x_0.Double]) (ST.loadAgg (vs := [.string (bs x_0.Upper), .string (bs x_0.Color), .string (bs x_0.Lining), .string (bs x_0.Sole), .int .i64 x_0.Thick, .int .i64 x_0.Heel, .int .i64 x_0.Eyelets, .int .i64 x_0.Density, .bool x_0.Double]) (fun j v hv => SH.boxPart (us := [.string (bs x_0.Upper), .string (bs x_0.Color), .string (bs x_0.Lining), .string (bs x_0.Sole), .int .i64 x_0.Thick, .int .i64 x_0.Heel, .int .i64 x_0.Eyelets, .int .i64 x_0.Density, .bool x_0.Double]) (SH.front 2 hS52) 0 rfl j v hv) rfl rfl rfl Tryd.underlying32 rfl (info32).1 (info32).2.1) rfl rfl rfl ?_
  refine WL.runk 1 [1, 3, 11, 12, 13, 17, 18] [(1, .pointer (some ⟨b2, 0, none⟩)), (3, .slice a46 st45.1.length c47), (11, .slice a36 x34.length c37), (12, .int .i64 (x34.length : Int)), (13, .int .i64 st45.2), (17, .agg #[.string (bs x_0.Upper), .string (bs x_0.Color), .string (bs x_0.Lining), .string (bs x_0.Sole), .int .i64 x_0.Thick, .int .i64 x_0.Heel, .int .i64 x_0.Eyelets, .int .i64 x_0.Density, .bool x_0.Double]), (18, .string (bs x66))] (by kernel_rfl) ?_
  obtain ⟨x69, hx70, hm⟩ := bindE hm
  refine WL.call 37 #[.agg #[.string (bs x_0.Upper), .string (bs x_0.Color), .string (bs x_0.Lining), .string (bs x_0.Sole), .int .i64 x_0.Thick, .int .i64 x_0.Heel, .int .i64 x_0.Eyelets, .int .i64 x_0.Density, .bool x_0.Double], .string (bs x66)] rfl rfl (by kernel_rfl) (c_37 n x_0 x66 w49 hx70 (GL.below hG hb50)) ?_
  rintro _ w71 ⟨rfl, hE72⟩
  refine ⟨_, rfl, ?_⟩
  have hb74 : Ext w w71 := Ext.trans hb50 hE72
  have hL75 : w.heap.size ≤ w71.heap.size := Nat.le_trans hL51 hE72.size
  have hS76 : SH w71 w.heap.size [aOwn fStr 9 a46 c47 st45.1, aOwn fStr 9 a36 c37 x34, aBox 32 b2 [.string (bs x_0.Upper), .string (bs x_0.Color), .string (bs x_0.Lining), .string (bs x_0.Sole), .int .i64 x_0.Thick, .int .i64 x_0.Heel, .int .i64 x_0.Eyelets, .int .i64 x_0.Density, .bool x_0.Double]] := SH.ext hS52 hE72
  refine WL.runk 1 [1, 3, 6, 11, 12, 13] [(1, .pointer (some ⟨b2, 0, none⟩)), (3, .slice a46 st45.1.length c47), (11, .slice a36 x34.length c37), (12, .int .i64 (x34.length : Int)), (13, .int .i64 st45.2), (6, .string (bs x69))] (by kernel_rfl) ?_
  refine WL.nil ?_
  refine WQ.then_normal (hK68 _ _ _ ?_)
  refine WP.seq (fun K77 hK77 => ?_)
  refine WP.region ?_
  refine WL.runk 1 [1, 3, 6, 11, 12, 13, 20] [(1, .pointer (some ⟨b2, 0, none⟩)), (3, .slice a46 st45.1.length c47), (11, .slice a36 x34.length c37), (12, .int .i64 (x34.length : Int)), (13, .int .i64 st45.2), (6, .string (bs x69)), (20, .string (bs x69))] (by kernel_rfl) ?_
  refine WL.st (.bool (!(x69 == []))) (ST.strne (x := x69) (y := []) rfl rfl rfl) rfl rfl rfl ?_
  refine WL.sub [(1, .pointer (some ⟨b2, 0, none⟩)), (3, .slice a46 st45.1.length c47), (11, .slice a36 x34.length c37), (12, .int .i64 (x34.length : Int)), (13, .int .i64 st45.2), (6, .string (bs x69)), (21, .bool (!(x69 == [])))] ⟨rfl, rfl, rfl, rfl, rfl, rfl, rfl, trivial⟩ ?_
  refine WL.nil ?_
  refine WQ.then_normal (hK77 _ _ _ ?_)
  obtain ⟨x97, hx98, hm⟩ := bindE hm
  refine WP.cut (fun env' w' => ∃ (a99 : Option Addr) (c100 : Nat), env' = [(1, .pointer (some ⟨b2, 0, none⟩)), (3, .slice a99 x97.length c100), (11, .slice a36 x34.length c37), (12, .int .i64 (x34.length : Int)), (13, .int .i64 st45.2)] ∧ Ext w w' ∧ w.heap.size ≤ w'.heap.size ∧ SH w' w.heap.size [aOwn fStr 9 a99 c100 x97, aOwn fStr 9 a36 c37 x34, aBox 32 b2 [.string (bs x_0.Upper), .string (bs x_0.Color), .string (bs x_0.Lining), .string (bs x_0.Sole), .int .i64 x_0.Thick, .int .i64 x_0.Heel, .int .i64 x_0.Eyelets, .int .i64 x_0.Density, .bool x_0.Double]]) ?_ ?_
  rotate_left
  · clear hx98
    rintro _ w120 ⟨a99, c100, rfl, hb121, hL122, hS123⟩
    refine WQ.block_normal ?_
    refine WQ.then_normal (hK64 _ _ _ ?_)
    refine WP.region ?_
    refine WL.runk 2 [1, 3, 11, 12, 13] [(1, .pointer (some ⟨b2, 0, none⟩)), (3, .slice a99 x97.length c100), (11, .slice a36 x34.length c37), (12, .int .i64 (x34.length : Int)), (13, .int .i64 (wI64 (st45.2 + 1)))] (by kernel_rfl) ?_
    refine WL.nil ?_
    obtain rfl := Option.some.inj hm
    exact WQ.round hK55 ⟨(x97, (wI64 (st45.2 + 1))), _, _, rfl, hb121, hL122, hS123, hl53⟩ (Nat.lt_succ_self _) ⟨rfl, rfl, rfl, rfl, rfl, trivial⟩
  have hm := hx98; clear hx98
  refine WP.cond (!(x69 == [])) rfl rfl (fun hc78 => ?_) (fun hc78 => ?_)
  rotate_left
  · have hm := iteF hm hc78
    refine WP.skip ?_
    obtain rfl := Option.some.inj hm
    exact WQ.post' ⟨_, _, rfl, hb74, hL75, hS76⟩ ⟨rfl, rfl, rfl, rfl, rfl, trivial⟩
  have hm := iteT hm hc78
  refine WP.region ?_
  refine WL.runk 2 [1, 11, 12, 13, 22, 23] [(1, .pointer (some ⟨b2, 0, none⟩)), (11, .slice a36 x34.length c37), (12, .int .i64 (x34.length : Int)), (13, .int .i64 st45.2), (22, .slice a46 st45.1.length c47), (23, .string (bs x69))] (by kernel_rfl) ?_
  refine WL.row fStr 9 ([x69] : List (List UInt8)) 1 #[.string (bs x69)] 24 (by kernel_rfl) rfl rfl rfl rfl rfl rfl rfl ?_
  intro a102 c103 w104 hE105 hR106
  have hb108 : Ext w w104 := Ext.trans hb74 hE105
  have hL109 : w.heap.size ≤ w104.heap.size := Nat.le_trans hL75 hE105.size
  have hS110 : SH w104 w.heap.size [aOwn fStr 9 a102 c103 ([x69] : List (List UInt8)), aOwn fStr 9 a46 c47 st45.1, aOwn fStr 9 a36 c37 x34, aBox 32 b2 [.string (bs x_0.Upper), .string (bs x_0.Color), .string (bs x_0.Lining), .string (bs x_0.Sole), .int .i64 x_0.Thick, .int .i64 x_0.Heel, .int .i64 x_0.Eyelets, .int .i64 x_0.Density, .bool x_0.Double]] := SH.add hS76 hE105 hL75 hR106
  obtain ⟨x111, hx112, hm⟩ := bindE hm
  refine WL.append (F := fStr) (xs := st45.1) (ys := ([x69] : List (List UInt8))) 25 (SH.front 1 hS110) hL109 (SH.rd (SH.front 0 hS110)) hx112 rfl rfl rfl Tryd.underlying22 (info9).1 (info9).2.2.1 (info9).2.1 (info9).2.2.2 rfl rfl rfl rfl rfl ?_
  intro a113 c114 w115 hB116 hS117
  have hb118 : Ext w w115 := Below.trans hb108 hB116
  have hL119 : w.heap.size ≤ w115.heap.size := Nat.le_trans hL109 hB116.size
  refine WL.runk 1 [1, 3, 11, 12, 13] [(1, .pointer (some ⟨b2, 0, none⟩)), (11, .slice a36 x34.length c37), (12, .int .i64 (x34.length : Int)), (13, .int .i64 st45.2), (3, .slice a113 x111.length c114)] (by kernel_rfl) ?_
  refine WL.nil ?_
  obtain rfl := Option.some.inj hm
  exact WQ.post' ⟨_, _, rfl, hb118, hL119, (SH.take 3 (SH.front 2 (SH.front 3 (SH.front 3 hS117))))⟩ ⟨rfl, rfl, rfl, rfl, rfl, trivial⟩

theorem c_5 (n : Nat) (aX_0 : SStyle) (w : World) {r : Bool} (hm : m_laws_FnExactStyleText n aX_0 = some r) (hG : GL 2 w) :
    CallV Tryd.prog 5 #[.agg #[.string (bs aX_0.Upper), .string (bs aX_0.Color), .string (bs aX_0.Lining), .string (bs aX_0.Sole), .int .i64 aX_0.Thick, .int .i64 aX_0.Heel, .int .i64 aX_0.Eyelets, .int .i64 aX_0.Density, .bool aX_0.Double]] w (fun v w' => v = .bool r ∧ Ext w w') := by
  unfold m_laws_FnExactStyleText at hm
  refine CallV.enter Tryd.func5 rfl (by kernel_rfl) Tryd.ntmps5 (env := [(0, .agg #[.string (bs aX_0.Upper), .string (bs aX_0.Color), .string (bs aX_0.Lining), .string (bs aX_0.Sole), .int .i64 aX_0.Thick, .int .i64 aX_0.Heel, .int .i64 aX_0.Eyelets, .int .i64 aX_0.Density, .bool aX_0.Double])]) ⟨rfl, trivial⟩ ?_
  refine WP.seq (fun K1 hK1 => ?_)
  refine WP.region ?_
  refine WL.box 29 [.string (bs aX_0.Upper), .string (bs aX_0.Color), .string (bs aX_0.Lining), .string (bs aX_0.Sole), .int .i64 aX_0.Thick, .int .i64 aX_0.Heel, .int .i64 aX_0.Eyelets, .int .i64 aX_0.Density, .bool aX_0.Double] 1 (by kernel_rfl) rfl rfl rfl rfl ?_
  intro b2 w3 hE4 hR5
  have hb7 : Ext w w3 := Ext.trans (Ext.refl w) hE4
  have hL8 : w.heap.size ≤ w3.heap.size := Nat.le_trans (Nat.le_refl _) hE4.size
  have hS9 : SH w3 w.heap.size [aBox 29 b2 [.string (bs aX_0.Upper), .string (bs aX_0.Color), .string (bs aX_0.Lining), .string (bs aX_0.Sole), .int .i64 aX_0.Thick, .int .i64 aX_0.Heel, .int .i64 aX_0.Eyelets, .int .i64 aX_0.Density, .bool aX_0.Double]] := SH.add (SH.nil _ _) hE4 (Nat.le_refl _) hR5
  refine WL.runk 1 [1] [(1, .pointer (some ⟨b2, 0, none⟩))] (by kernel_rfl) ?_
  refine WL.nil ?_
  refine WQ.then_normal (hK1 _ _ _ ?_)
  refine WP.seq (fun K10 hK10 => ?_)
  refine WP.region ?_
  refine WL.runk 1 [1, 3] [(1, .pointer (some ⟨b2, 0, none⟩)), (3, .int .i64 1048576)] (by kernel_rfl) ?_
  refine WL.nil ?_
  refine WQ.then_normal (hK10 _ _ _ ?_)
  refine WP.seq (fun K11 hK11 => ?_)
  refine WP.region ?_
  refine WL.st (.agg #[.string (bs aX_0.Upper), .string (bs aX_0.Color), .string (bs aX_0.Lining), .string (bs aX_0.Sole), .int .i64 aX_0.Thick, .int .i64 aX_0.Heel, .int .i64 aX_0.Eyelets, .int .i64 aX_0.Density, .bool aX_0.Double]) (ST.loadAgg (vs := [.string (bs aX_0.Upper), .string (bs aX_0.Color), .string (bs aX_0.Lining), .string (bs aX_0.Sole), .int .i64 aX_0.Thick, .int .i64 aX_0.Heel, .int .i64 aX_0.Eyelets, .int .i64 aX_0.Density, .bool aX_0.Double]) (fun j v hv => SH.boxPart (us := [.string (bs aX_0.Upper), .string (bs aX_0.Color), .string (bs aX_0.Lining), .string (bs aX_0.Sole), .int .i64 aX_0.Thick, .int .i64 aX_0.Heel, .int .i64 aX_0.Eyelets, .int .i64 aX_0.Density, .bool aX_0.Double]) (SH.front 0 hS9) 0 rfl j v hv) rfl rfl rfl Tryd.underlying29 rfl (info29).1 (info29).2.1) rfl rfl rfl ?_
  refine WL.runk 1 [1, 6, 7] [(1, .pointer (some ⟨b2, 0, none⟩)), (6, .agg #[.string (bs aX_0.Upper), .string (bs aX_0.Color), .string (bs aX_0.Lining), .string (bs aX_0.Sole), .int .i64 aX_0.Thick, .int .i64 aX_0.Heel, .int .i64 aX_0.Eyelets, .int .i64 aX_0.Density, .bool aX_0.Double]), (7, .int .i64 1048576)] (by kernel_rfl) ?_
  obtain ⟨x12, hx13, hm⟩ := bindE hm
  refine WL.call 13 #[.agg #[.string (bs aX_0.Upper), .string (bs aX_0.Color), .string (bs aX_0.Lining), .string (bs aX_0.Sole), .int .i64 aX_0.Thick, .int .i64 aX_0.Heel, .int .i64 aX_0.Eyelets, .int .i64 aX_0.Density, .bool aX_0.Double], .int .i64 1048576] rfl rfl (by kernel_rfl) (c_13 n aX_0 1048576 w3 hx13 ) ?_
  rintro _ w14 ⟨rfl, hE15⟩
  refine ⟨_, rfl, ?_⟩
  have hb17 : Ext w w14 := Ext.trans hb7 hE15
  have hL18 : w.heap.size ≤ w14.heap.size := Nat.le_trans hL8 hE15.size
  have hS19 : SH w14 w.heap.size [aBox 29 b2 [.string (bs aX_0.Upper), .string (bs aX_0.Color), .string (bs aX_0.Lining), .string (bs aX_0.Sole), .int .i64 aX_0.Thick, .int .i64 aX_0.Heel, .int .i64 aX_0.Eyelets, .int .i64 aX_0.Density, .bool aX_0.Double]] := SH.ext hS9 hE15
  refine WL.runk 1 [1, 3] [(1, .pointer (some ⟨b2, 0, none⟩)), (3, .int .i64 x12)] (by kernel_rfl) ?_
  refine WL.nil ?_
  refine WQ.then_normal (hK11 _ _ _ ?_)
  refine WP.seq (fun K20 hK20 => ?_)
  refine WP.seq (fun K21 hK21 => ?_)
  refine WP.region ?_
  refine WL.runk 2 [1, 10] [(1, .pointer (some ⟨b2, 0, none⟩)), (10, .bool (decide (x12 < 0)))] (by kernel_rfl) ?_
  refine WL.nil ?_
  refine WQ.then_normal (hK21 _ _ _ ?_)
  refine WP.cond (decide (x12 < 0)) rfl rfl (fun hc22 => ?_) (fun hc22 => ?_)
  · have hm := iteT hm hc22
    refine WP.seq (fun K23 hK23 => ?_)
    refine WP.region ?_
    refine WL.runk 1 [2] [(2, .bool true)] (by kernel_rfl) ?_
    refine WL.nil ?_
    refine WQ.then_normal (hK23 _ _ _ ?_)
    refine WP.ret ?_
    refine WQ.then_ret ?_
    obtain rfl := Option.some.inj hm
    exact WQ.ret1 _ rfl rfl ⟨rfl, hb17⟩
  have hm := iteF hm hc22
  refine WP.skip ?_
  refine WQ.then_normal (hK20 _ _ _ ?_)
  refine WP.seq (fun K24 hK24 => ?_)
  refine WP.region ?_
  refine WL.st (.agg #[.string (bs aX_0.Upper), .string (bs aX_0.Color), .string (bs aX_0.Lining), .string (bs aX_0.Sole), .int .i64 aX_0.Thick, .int .i64 aX_0.Heel, .int .i64 aX_0.Eyelets, .int .i64 aX_0.Density, .bool aX_0.Double]) (ST.loadAgg (vs := [.string (bs aX_0.Upper), .string (bs aX_0.Color), .string (bs aX_0.Lining), .string (bs aX_0.Sole), .int .i64 aX_0.Thick, .int .i64 aX_0.Heel, .int .i64 aX_0.Eyelets, .int .i64 aX_0.Density, .bool aX_0.Double]) (fun j v hv => SH.boxPart (us := [.string (bs aX_0.Upper), .string (bs aX_0.Color), .string (bs aX_0.Lining), .string (bs aX_0.Sole), .int .i64 aX_0.Thick, .int .i64 aX_0.Heel, .int .i64 aX_0.Eyelets, .int .i64 aX_0.Density, .bool aX_0.Double]) (SH.front 0 hS19) 0 rfl j v hv) rfl rfl rfl Tryd.underlying29 rfl (info29).1 (info29).2.1) rfl rfl rfl ?_
  obtain ⟨x25, hx26, hm⟩ := bindE hm
  refine WL.call 15 #[.agg #[.string (bs aX_0.Upper), .string (bs aX_0.Color), .string (bs aX_0.Lining), .string (bs aX_0.Sole), .int .i64 aX_0.Thick, .int .i64 aX_0.Heel, .int .i64 aX_0.Eyelets, .int .i64 aX_0.Density, .bool aX_0.Double]] rfl rfl (by kernel_rfl) (c_15 n aX_0 w14 hx26 ) ?_
  rintro _ w27 ⟨rfl, hE28⟩
  refine ⟨_, rfl, ?_⟩
  have hb30 : Ext w w27 := Ext.trans hb17 hE28
  have hL31 : w.heap.size ≤ w27.heap.size := Nat.le_trans hL18 hE28.size
  have hS32 : SH w27 w.heap.size [aBox 29 b2 [.string (bs aX_0.Upper), .string (bs aX_0.Color), .string (bs aX_0.Lining), .string (bs aX_0.Sole), .int .i64 aX_0.Thick, .int .i64 aX_0.Heel, .int .i64 aX_0.Eyelets, .int .i64 aX_0.Density, .bool aX_0.Double]] := SH.ext hS19 hE28
  obtain ⟨x33, hx34, hm⟩ := bindE hm
  refine WL.call 17 #[.agg #[.string (bs x25.Upper), .string (bs x25.Color), .string (bs x25.Lining), .string (bs x25.Sole), .int .i64 x25.Thick, .int .i64 x25.Heel, .int .i64 x25.Eyelets, .int .i64 x25.Density, .bool x25.Double]] rfl rfl (by kernel_rfl) (c_17 n x25 w27 hx34 ) ?_
  rintro _ w35 ⟨rfl, hE36⟩
  refine ⟨_, rfl, ?_⟩
  have hb38 : Ext w w35 := Ext.trans hb30 hE36
  have hL39 : w.heap.size ≤ w35.heap.size := Nat.le_trans hL31 hE36.size
  have hS40 : SH w35 w.heap.size [aBox 29 b2 [.string (bs aX_0.Upper), .string (bs aX_0.Color), .string (bs aX_0.Lining), .string (bs aX_0.Sole), .int .i64 aX_0.Thick, .int .i64 aX_0.Heel, .int .i64 aX_0.Eyelets, .int .i64 aX_0.Density, .bool aX_0.Double]] := SH.ext hS32 hE36
  refine WL.runk 1 [1, 4] [(1, .pointer (some ⟨b2, 0, none⟩)), (4, .string (bs x33))] (by kernel_rfl) ?_
  refine WL.nil ?_
  refine WQ.then_normal (hK24 _ _ _ ?_)
  refine WP.seq (fun K41 hK41 => ?_)
  refine WP.region ?_
  refine WL.st (.agg #[.string (bs aX_0.Upper), .string (bs aX_0.Color), .string (bs aX_0.Lining), .string (bs aX_0.Sole), .int .i64 aX_0.Thick, .int .i64 aX_0.Heel, .int .i64 aX_0.Eyelets, .int .i64 aX_0.Density, .bool aX_0.Double]) (ST.loadAgg (vs := [.string (bs aX_0.Upper), .string (bs aX_0.Color), .string (bs aX_0.Lining), .string (bs aX_0.Sole), .int .i64 aX_0.Thick, .int .i64 aX_0.Heel, .int .i64 aX_0.Eyelets, .int .i64 aX_0.Density, .bool aX_0.Double]) (fun j v hv => SH.boxPart (us := [.string (bs aX_0.Upper), .string (bs aX_0.Color), .string (bs aX_0.Lining), .string (bs aX_0.Sole), .int .i64 aX_0.Thick, .int .i64 aX_0.Heel, .int .i64 aX_0.Eyelets, .int .i64 aX_0.Density, .bool aX_0.Double]) (SH.front 0 hS40) 0 rfl j v hv) rfl rfl rfl Tryd.underlying29 rfl (info29).1 (info29).2.1) rfl rfl rfl ?_
  obtain ⟨x42, hx43, hm⟩ := bindE hm
  refine WL.call 15 #[.agg #[.string (bs aX_0.Upper), .string (bs aX_0.Color), .string (bs aX_0.Lining), .string (bs aX_0.Sole), .int .i64 aX_0.Thick, .int .i64 aX_0.Heel, .int .i64 aX_0.Eyelets, .int .i64 aX_0.Density, .bool aX_0.Double]] rfl rfl (by kernel_rfl) (c_15 n aX_0 w35 hx43 ) ?_
  rintro _ w44 ⟨rfl, hE45⟩
  refine ⟨_, rfl, ?_⟩
  have hb47 : Ext w w44 := Ext.trans hb38 hE45
  have hL48 : w.heap.size ≤ w44.heap.size := Nat.le_trans hL39 hE45.size
  have hS49 : SH w44 w.heap.size [aBox 29 b2 [.string (bs aX_0.Upper), .string (bs aX_0.Color), .string (bs aX_0.Lining), .string (bs aX_0.Sole), .int .i64 aX_0.Thick, .int .i64 aX_0.Heel, .int .i64 aX_0.Eyelets, .int .i64 aX_0.Density, .bool aX_0.Double]] := SH.ext hS40 hE45
  obtain ⟨x50, hx51, hm⟩ := bindE hm
  refine WL.call 18 #[.agg #[.string (bs x42.Upper), .string (bs x42.Color), .string (bs x42.Lining), .string (bs x42.Sole), .int .i64 x42.Thick, .int .i64 x42.Heel, .int .i64 x42.Eyelets, .int .i64 x42.Density, .bool x42.Double]] rfl rfl (by kernel_rfl) (c_18 n x42 w44 hx51 (GL.below hG hb47)) ?_
  rintro _ w52 ⟨rfl, hE53⟩
  refine ⟨_, rfl, ?_⟩
  have hb55 : Ext w w52 := Ext.trans hb47 hE53
  have hL56 : w.heap.size ≤ w52.heap.size := Nat.le_trans hL48 hE53.size
  have hS57 : SH w52 w.heap.size [aBox 29 b2 [.string (bs aX_0.Upper), .string (bs aX_0.Color), .string (bs aX_0.Lining), .string (bs aX_0.Sole), .int .i64 aX_0.Thick, .int .i64 aX_0.Heel, .int .i64 aX_0.Eyelets, .int .i64 aX_0.Density, .bool aX_0.Double]] := SH.ext hS49 hE53
  refine WL.runk 1 [4, 5] [(4, .string (bs x33)), (5, .string (bs x50))] (by kernel_rfl) ?_
  refine WL.nil ?_
  refine WQ.then_normal (hK41 _ _ _ ?_)
  refine WP.seq (fun K58 hK58 => ?_)
  refine WP.seq (fun K59 hK59 => ?_)
  refine WP.region ?_
  refine WL.runk 2 [17, 18] [(17, .string (bs x50)), (18, .string (bs x33))] (by kernel_rfl) ?_
  refine WL.st (.bool (!(x50 == x33))) (ST.strne (x := x50) (y := x33) rfl rfl rfl) rfl rfl rfl ?_
  refine WL.sub [(19, .bool (!(x50 == x33)))] ⟨rfl, trivial⟩ ?_
  refine WL.nil ?_
  refine WQ.then_normal (hK59 _ _ _ ?_)
  refine WP.cond (!(x50 == x33)) rfl rfl (fun hc60 => ?_) (fun hc60 => ?_)
  · have hm := iteT hm hc60
    refine WP.seq (fun K61 hK61 => ?_)
    refine WP.region ?_
    refine WL.runk 1 [2] [(2, .bool false)] (by kernel_rfl) ?_
    refine WL.nil ?_
    refine WQ.then_normal (hK61 _ _ _ ?_)
    refine WP.ret ?_
    refine WQ.then_ret ?_
    obtain rfl := Option.some.inj hm
    exact WQ.ret1 _ rfl rfl ⟨rfl, hb55⟩
  have hm := iteF hm hc60
  refine WP.skip ?_
  refine WQ.then_normal (hK58 _ _ _ ?_)
  refine WP.seq (fun K62 hK62 => ?_)
  refine WP.region ?_
  refine WL.runk 1 [2] [(2, .bool true)] (by kernel_rfl) ?_
  refine WL.nil ?_
  refine WQ.then_normal (hK62 _ _ _ ?_)
  refine WP.ret ?_
  obtain rfl := Option.some.inj hm
  exact WQ.ret1 _ rfl rfl ⟨rfl, hb55⟩

end Go.Proofs.YtkjjjbfpecmieaaDoor
