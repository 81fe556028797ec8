/- Each call does what its Lean function says. -/
import Derived.Test.YtlplbjeegkkilaaKApplyChanges1
set_option maxRecDepth 20000
set_option maxHeartbeats 4000000
namespace Go.Proofs.Ytlplbjeegkkilaa
open Go Go.Gv Go.RowKit

theorem c_13 (n : Nat) (aX_0 : SLast) (aList_1 : List SChange) (a1' : Option Addr) (c1' : Nat) (w : World) {r : Bool} (hm : m_laws_FnExactApplyChanges n aX_0 aList_1 = some r) (h1 : Rd fChange.ty w a1' aList_1) (hle1 : aList_1.length ≤ c1') :
    CallV Try.prog 13 #[.agg #[.string (bs aX_0.Name), .int .i64 aX_0.Length, .int .i64 aX_0.Ball, .int .i64 aX_0.Instep, .int .i64 aX_0.Heel, .int .i64 aX_0.Pitch], .slice a1' aList_1.length c1'] w (fun v w' => v = .bool r ∧ Ext w w') := by
  unfold m_laws_FnExactApplyChanges at hm
  refine CallV.enter Try.func13 rfl (by kernel_rfl) Try.ntmps13 (env := [(0, .agg #[.string (bs aX_0.Name), .int .i64 aX_0.Length, .int .i64 aX_0.Ball, .int .i64 aX_0.Instep, .int .i64 aX_0.Heel, .int .i64 aX_0.Pitch]), (1, .slice a1' aList_1.length c1')]) ⟨rfl, rfl, trivial⟩ ?_
  refine WP.seq (fun K1 hK1 => ?_)
  refine WP.region ?_
  refine WL.box 58 [.string (bs aX_0.Name), .int .i64 aX_0.Length, .int .i64 aX_0.Ball, .int .i64 aX_0.Instep, .int .i64 aX_0.Heel, .int .i64 aX_0.Pitch] 2 (by kernel_rfl) rfl rfl rfl rfl ?_
  intro b2 w3 hE4 hR5
  have hb7 : Ext w w3 := Ext.trans (Ext.refl w) hE4
  have hL8 : w.heap.size ≤ w3.heap.size := Nat.le_trans (Nat.le_refl _) hE4.size
  have hS9 : SH w3 w.heap.size [aBox 58 b2 [.string (bs aX_0.Name), .int .i64 aX_0.Length, .int .i64 aX_0.Ball, .int .i64 aX_0.Instep, .int .i64 aX_0.Heel, .int .i64 aX_0.Pitch]] := SH.add (SH.nil _ _) hE4 (Nat.le_refl _) hR5
  refine WL.runk 1 [1, 2] [(1, .slice a1' aList_1.length c1'), (2, .pointer (some ⟨b2, 0, none⟩))] (by kernel_rfl) ?_
  refine WL.nil ?_
  refine WQ.then_normal (hK1 _ _ _ ?_)
  refine WP.seq (fun K10 hK10 => ?_)
  refine WP.region ?_
  refine WL.runk 1 [1, 2, 5] [(1, .slice a1' aList_1.length c1'), (2, .pointer (some ⟨b2, 0, none⟩)), (5, .int .i64 1048576)] (by kernel_rfl) ?_
  refine WL.nil ?_
  refine WQ.then_normal (hK10 _ _ _ ?_)
  refine WP.seq (fun K11 hK11 => ?_)
  refine WP.region ?_
  refine WL.st (.agg #[.string (bs aX_0.Name), .int .i64 aX_0.Length, .int .i64 aX_0.Ball, .int .i64 aX_0.Instep, .int .i64 aX_0.Heel, .int .i64 aX_0.Pitch]) (ST.loadAgg (vs := [.string (bs aX_0.Name), .int .i64 aX_0.Length, .int .i64 aX_0.Ball, .int .i64 aX_0.Instep, .int .i64 aX_0.Heel, .int .i64 aX_0.Pitch]) (fun j v hv => SH.boxPart (us := [.string (bs aX_0.Name), .int .i64 aX_0.Length, .int .i64 aX_0.Ball, .int .i64 aX_0.Instep, .int .i64 aX_0.Heel, .int .i64 aX_0.Pitch]) (SH.front 0 hS9) 0 rfl j v hv) rfl rfl rfl Try.underlying58 rfl (info58).1 (info58).2.1) rfl rfl rfl ?_
  refine WL.runk 1 [1, 2, 11, 12] [(1, .slice a1' aList_1.length c1'), (2, .pointer (some ⟨b2, 0, none⟩)), (11, .agg #[.string (bs aX_0.Name), .int .i64 aX_0.Length, .int .i64 aX_0.Ball, .int .i64 aX_0.Instep, .int .i64 aX_0.Heel, .int .i64 aX_0.Pitch]), (12, .int .i64 1048576)] (by kernel_rfl) ?_
  obtain ⟨x12, hx13, hm⟩ := bindE hm
  refine WL.call 45 #[.agg #[.string (bs aX_0.Name), .int .i64 aX_0.Length, .int .i64 aX_0.Ball, .int .i64 aX_0.Instep, .int .i64 aX_0.Heel, .int .i64 aX_0.Pitch], .int .i64 1048576] rfl rfl (by kernel_rfl) (c_45 n aX_0 1048576 w3 hx13 ) ?_
  rintro _ w14 ⟨rfl, hE15⟩
  refine ⟨_, rfl, ?_⟩
  have hb17 : Ext w w14 := Ext.trans hb7 hE15
  have hL18 : w.heap.size ≤ w14.heap.size := Nat.le_trans hL8 hE15.size
  have hS19 : SH w14 w.heap.size [aBox 58 b2 [.string (bs aX_0.Name), .int .i64 aX_0.Length, .int .i64 aX_0.Ball, .int .i64 aX_0.Instep, .int .i64 aX_0.Heel, .int .i64 aX_0.Pitch]] := SH.ext hS9 hE15
  refine WL.runk 1 [1, 2, 5] [(1, .slice a1' aList_1.length c1'), (2, .pointer (some ⟨b2, 0, none⟩)), (5, .int .i64 x12)] (by kernel_rfl) ?_
  refine WL.nil ?_
  refine WQ.then_normal (hK11 _ _ _ ?_)
  refine WP.seq (fun K20 hK20 => ?_)
  refine WP.seq (fun K21 hK21 => ?_)
  refine WP.region ?_
  refine WL.runk 2 [1, 2, 5, 15] [(1, .slice a1' aList_1.length c1'), (2, .pointer (some ⟨b2, 0, none⟩)), (5, .int .i64 x12), (15, .bool (decide (x12 < 0)))] (by kernel_rfl) ?_
  refine WL.nil ?_
  refine WQ.then_normal (hK21 _ _ _ ?_)
  refine WP.cond (decide (x12 < 0)) rfl rfl (fun hc22 => ?_) (fun hc22 => ?_)
  · have hm := iteT hm hc22
    refine WP.seq (fun K23 hK23 => ?_)
    refine WP.region ?_
    refine WL.runk 1 [4] [(4, .bool true)] (by kernel_rfl) ?_
    refine WL.nil ?_
    refine WQ.then_normal (hK23 _ _ _ ?_)
    refine WP.ret ?_
    refine WQ.then_ret ?_
    obtain rfl := Option.some.inj hm
    exact WQ.ret1 _ rfl rfl ⟨rfl, hb17⟩
  have hm := iteF hm hc22
  refine WP.skip ?_
  refine WQ.then_normal (hK20 _ _ _ ?_)
  refine WP.seq (fun K24 hK24 => ?_)
  refine WP.region ?_
  refine WL.runk 2 [1, 2, 16, 17] [(1, .slice a1' aList_1.length c1'), (2, .pointer (some ⟨b2, 0, none⟩)), (16, .slice a1' aList_1.length c1'), (17, .int .i64 x12)] (by kernel_rfl) ?_
  obtain ⟨x25, hx26, hm⟩ := bindE hm
  refine WL.call 16 #[.slice a1' aList_1.length c1', .int .i64 x12] rfl rfl (by kernel_rfl) (c_16 n aList_1 a1' c1' x12 w14 hx26 (Rd.below h1 hb17) hle1) ?_
  rintro _ w27 ⟨rfl, hE28⟩
  refine ⟨_, rfl, ?_⟩
  have hb30 : Ext w w27 := Ext.trans hb17 hE28
  have hL31 : w.heap.size ≤ w27.heap.size := Nat.le_trans hL18 hE28.size
  have hS32 : SH w27 w.heap.size [aBox 58 b2 [.string (bs aX_0.Name), .int .i64 aX_0.Length, .int .i64 aX_0.Ball, .int .i64 aX_0.Instep, .int .i64 aX_0.Heel, .int .i64 aX_0.Pitch]] := SH.ext hS19 hE28
  refine WL.runk 1 [1, 2, 5] [(1, .slice a1' aList_1.length c1'), (2, .pointer (some ⟨b2, 0, none⟩)), (5, .int .i64 x25)] (by kernel_rfl) ?_
  refine WL.nil ?_
  refine WQ.then_normal (hK24 _ _ _ ?_)
  refine WP.seq (fun K33 hK33 => ?_)
  refine WP.seq (fun K34 hK34 => ?_)
  refine WP.region ?_
  refine WL.runk 2 [1, 2, 20] [(1, .slice a1' aList_1.length c1'), (2, .pointer (some ⟨b2, 0, none⟩)), (20, .bool (decide (x25 < 0)))] (by kernel_rfl) ?_
  refine WL.nil ?_
  refine WQ.then_normal (hK34 _ _ _ ?_)
  refine WP.cond (decide (x25 < 0)) rfl rfl (fun hc35 => ?_) (fun hc35 => ?_)
  · have hm := iteT hm hc35
    refine WP.seq (fun K36 hK36 => ?_)
    refine WP.region ?_
    refine WL.runk 1 [4] [(4, .bool true)] (by kernel_rfl) ?_
    refine WL.nil ?_
    refine WQ.then_normal (hK36 _ _ _ ?_)
    refine WP.ret ?_
    refine WQ.then_ret ?_
    obtain rfl := Option.some.inj hm
    exact WQ.ret1 _ rfl rfl ⟨rfl, hb30⟩
  have hm := iteF hm hc35
  refine WP.skip ?_
  refine WQ.then_normal (hK33 _ _ _ ?_)
  refine WP.seq (fun K37 hK37 => ?_)
  refine WP.region ?_
  refine WL.st (.agg #[.string (bs aX_0.Name), .int .i64 aX_0.Length, .int .i64 aX_0.Ball, .int .i64 aX_0.Instep, .int .i64 aX_0.Heel, .int .i64 aX_0.Pitch]) (ST.loadAgg (vs := [.string (bs aX_0.Name), .int .i64 aX_0.Length, .int .i64 aX_0.Ball, .int .i64 aX_0.Instep, .int .i64 aX_0.Heel, .int .i64 aX_0.Pitch]) (fun j v hv => SH.boxPart (us := [.string (bs aX_0.Name), .int .i64 aX_0.Length, .int .i64 aX_0.Ball, .int .i64 aX_0.Instep, .int .i64 aX_0.Heel, .int .i64 aX_0.Pitch]) (SH.front 0 hS32) 0 rfl j v hv) rfl rfl rfl Try.underlying58 rfl (info58).1 (info58).2.1) rfl rfl rfl ?_
  obtain ⟨x38, hx39, hm⟩ := bindE hm
  refine WL.call 47 #[.agg #[.string (bs aX_0.Name), .int .i64 aX_0.Length, .int .i64 aX_0.Ball, .int .i64 aX_0.Instep, .int .i64 aX_0.Heel, .int .i64 aX_0.Pitch]] rfl rfl (by kernel_rfl) (c_47 n aX_0 w27 hx39 ) ?_
  rintro _ w40 ⟨rfl, hE41⟩
  refine ⟨_, rfl, ?_⟩
  have hb43 : Ext w w40 := Ext.trans hb30 hE41
  have hL44 : w.heap.size ≤ w40.heap.size := Nat.le_trans hL31 hE41.size
  have hS45 : SH w40 w.heap.size [aBox 58 b2 [.string (bs aX_0.Name), .int .i64 aX_0.Length, .int .i64 aX_0.Ball, .int .i64 aX_0.Instep, .int .i64 aX_0.Heel, .int .i64 aX_0.Pitch]] := SH.ext hS32 hE41
  refine WL.runk 1 [1, 2, 23, 24] [(1, .slice a1' aList_1.length c1'), (2, .pointer (some ⟨b2, 0, none⟩)), (23, .agg #[.string (bs x38.Name), .int .i64 x38.Length, .int .i64 x38.Ball, .int .i64 x38.Instep, .int .i64 x38.Heel, .int .i64 x38.Pitch]), (24, .slice a1' aList_1.length c1')] (by kernel_rfl) ?_
  obtain ⟨x46, hx47, hm⟩ := bindE hm
  refine WL.call 18 #[.slice a1' aList_1.length c1'] rfl rfl (by kernel_rfl) (c_18 n aList_1 a1' c1' w40 hx47 (Rd.below h1 hb43) hle1) ?_
  rintro _ w51 ⟨a48, c49, rfl, hE52, hR53⟩
  refine ⟨_, rfl, ?_⟩
  have hb54 : Ext w w51 := Ext.trans hb43 hE52
  have hL55 : w.heap.size ≤ w51.heap.size := Nat.le_trans hL44 hE52.size
  have hS56 : SH w51 w.heap.size [aOwn fChange 42 a48 c49 x46, aBox 58 b2 [.string (bs aX_0.Name), .int .i64 aX_0.Length, .int .i64 aX_0.Ball, .int .i64 aX_0.Instep, .int .i64 aX_0.Heel, .int .i64 aX_0.Pitch]] := SH.add hS45 hE52 hL44 hR53
  obtain ⟨x57, hx58, hm⟩ := bindE hm
  refine WL.call 49 #[.agg #[.string (bs x38.Name), .int .i64 x38.Length, .int .i64 x38.Ball, .int .i64 x38.Instep, .int .i64 x38.Heel, .int .i64 x38.Pitch], .slice a48 x46.length c49] rfl rfl (by kernel_rfl) (c_49 n x38 x46 a48 c49 w51 hx58 (SH.rd (SH.front 0 hS56)) (SH.le (SH.front 0 hS56)).1) ?_
  rintro _ w59 ⟨rfl, hE60⟩
  refine ⟨_, rfl, ?_⟩
  have hb62 : Ext w w59 := Ext.trans hb54 hE60
  have hL63 : w.heap.size ≤ w59.heap.size := Nat.le_trans hL55 hE60.size
  have hS64 : SH w59 w.heap.size [aOwn fChange 42 a48 c49 x46, aBox 58 b2 [.string (bs aX_0.Name), .int .i64 aX_0.Length, .int .i64 aX_0.Ball, .int .i64 aX_0.Instep, .int .i64 aX_0.Heel, .int .i64 aX_0.Pitch]] := SH.ext hS56 hE60
  refine WL.runk 3 [1, 2, 27, 28] [(1, .slice a1' aList_1.length c1'), (2, .pointer (some ⟨b2, 0, none⟩)), (27, .agg #[.string (bs x57.1.Name), .int .i64 x57.1.Length, .int .i64 x57.1.Ball, .int .i64 x57.1.Instep, .int .i64 x57.1.Heel, .int .i64 x57.1.Pitch]), (28, .int .i64 x57.2)] (by kernel_rfl) ?_
  refine WL.box 61 [.string (bs []), .int .i64 0, .int .i64 0, .int .i64 0, .int .i64 0, .int .i64 0] 6 (by kernel_rfl) rfl rfl rfl rfl ?_
  intro b65 w66 hE67 hR68
  have hb70 : Ext w w66 := Ext.trans hb62 hE67
  have hL71 : w.heap.size ≤ w66.heap.size := Nat.le_trans hL63 hE67.size
  have hS72 : SH w66 w.heap.size [aBox 61 b65 [.string (bs []), .int .i64 0, .int .i64 0, .int .i64 0, .int .i64 0, .int .i64 0], aOwn fChange 42 a48 c49 x46, aBox 58 b2 [.string (bs aX_0.Name), .int .i64 aX_0.Length, .int .i64 aX_0.Ball, .int .i64 aX_0.Instep, .int .i64 aX_0.Heel, .int .i64 aX_0.Pitch]] := SH.add hS64 hE67 hL63 hR68
  refine WL.boxStore 0 [.string (bs x57.1.Name), .int .i64 x57.1.Length, .int .i64 x57.1.Ball, .int .i64 x57.1.Instep, .int .i64 x57.1.Heel, .int .i64 x57.1.Pitch] [.string (bs x57.1.Name), .int .i64 x57.1.Length, .int .i64 x57.1.Ball, .int .i64 x57.1.Instep, .int .i64 x57.1.Heel, .int .i64 x57.1.Pitch] (SH.front 0 hS72) hL71 rfl rfl rfl rfl rfl rfl rfl (info61).1 (info61).2.1 rfl rfl rfl ?_
  intro w73 hB74 hS75
  have hb76 : Ext w w73 := Below.trans hb70 hB74
  have hL77 : w.heap.size ≤ w73.heap.size := Nat.le_trans hL71 hB74.size
  refine WL.runk 1 [1, 2, 6, 7] [(1, .slice a1' aList_1.length c1'), (2, .pointer (some ⟨b2, 0, none⟩)), (6, .pointer (some ⟨b65, 0, none⟩)), (7, .int .i64 x57.2)] (by kernel_rfl) ?_
  refine WL.nil ?_
  refine WQ.then_normal (hK37 _ _ _ ?_)
  refine WP.seq (fun K78 hK78 => ?_)
  refine WP.region ?_
  refine WL.runk 1 [1, 2, 6, 7, 29] [(1, .slice a1' aList_1.length c1'), (2, .pointer (some ⟨b2, 0, none⟩)), (6, .pointer (some ⟨b65, 0, none⟩)), (7, .int .i64 x57.2), (29, .slice a1' aList_1.length c1')] (by kernel_rfl) ?_
  obtain ⟨x79, hx80, hm⟩ := bindE hm
  refine WL.call 18 #[.slice a1' aList_1.length c1'] rfl rfl (by kernel_rfl) (c_18 n aList_1 a1' c1' w73 hx80 (Rd.below h1 hb76) hle1) ?_
  rintro _ w84 ⟨a81, c82, rfl, hE85, hR86⟩
  refine ⟨_, rfl, ?_⟩
  have hb87 : Ext w w84 := Ext.trans hb76 hE85
  have hL88 : w.heap.size ≤ w84.heap.size := Nat.le_trans hL77 hE85.size
  have hS89 : SH w84 w.heap.size [aOwn fChange 42 a81 c82 x79, aBox 61 b65 [.string (bs x57.1.Name), .int .i64 x57.1.Length, .int .i64 x57.1.Ball, .int .i64 x57.1.Instep, .int .i64 x57.1.Heel, .int .i64 x57.1.Pitch], aOwn fChange 42 a48 c49 x46, aBox 58 b2 [.string (bs aX_0.Name), .int .i64 aX_0.Length, .int .i64 aX_0.Ball, .int .i64 aX_0.Instep, .int .i64 aX_0.Heel, .int .i64 aX_0.Pitch]] := SH.add hS75 hE85 hL77 hR86
  refine WL.runk 1 [1, 2, 6, 7, 8] [(1, .slice a1' aList_1.length c1'), (2, .pointer (some ⟨b2, 0, none⟩)), (6, .pointer (some ⟨b65, 0, none⟩)), (7, .int .i64 x57.2), (8, .slice a81 x79.length c82)] (by kernel_rfl) ?_
  refine WL.nil ?_
  refine WQ.then_normal (hK78 _ _ _ ?_)
  refine WP.seq (fun K90 hK90 => ?_)
  refine WP.region ?_
  refine WL.st (.agg #[.string (bs aX_0.Name), .int .i64 aX_0.Length, .int .i64 aX_0.Ball, .int .i64 aX_0.Instep, .int .i64 aX_0.Heel, .int .i64 aX_0.Pitch]) (ST.loadAgg (vs := [.string (bs aX_0.Name), .int .i64 aX_0.Length, .int .i64 aX_0.Ball, .int .i64 aX_0.Instep, .int .i64 aX_0.Heel, .int .i64 aX_0.Pitch]) (fun j v hv => SH.boxPart (us := [.string (bs aX_0.Name), .int .i64 aX_0.Length, .int .i64 aX_0.Ball, .int .i64 aX_0.Instep, .int .i64 aX_0.Heel, .int .i64 aX_0.Pitch]) (SH.front 3 hS89) 0 rfl j v hv) rfl rfl rfl Try.underlying58 rfl (info58).1 (info58).2.1) rfl rfl rfl ?_
  obtain ⟨x91, hx92, hm⟩ := bindE hm
  refine WL.call 47 #[.agg #[.string (bs aX_0.Name), .int .i64 aX_0.Length, .int .i64 aX_0.Ball, .int .i64 aX_0.Instep, .int .i64 aX_0.Heel, .int .i64 aX_0.Pitch]] rfl rfl (by kernel_rfl) (c_47 n aX_0 w84 hx92 ) ?_
  rintro _ w93 ⟨rfl, hE94⟩
  refine ⟨_, rfl, ?_⟩
  have hb96 : Ext w w93 := Ext.trans hb87 hE94
  have hL97 : w.heap.size ≤ w93.heap.size := Nat.le_trans hL88 hE94.size
  have hS98 : SH w93 w.heap.size [aOwn fChange 42 a81 c82 x79, aBox 61 b65 [.string (bs x57.1.Name), .int .i64 x57.1.Length, .int .i64 x57.1.Ball, .int .i64 x57.1.Instep, .int .i64 x57.1.Heel, .int .i64 x57.1.Pitch], aOwn fChange 42 a48 c49 x46, aBox 58 b2 [.string (bs aX_0.Name), .int .i64 aX_0.Length, .int .i64 aX_0.Ball, .int .i64 aX_0.Instep, .int .i64 aX_0.Heel, .int .i64 aX_0.Pitch]] := SH.ext hS89 hE94
  refine WL.runk 1 [1, 6, 7, 8, 33, 34] [(1, .slice a1' aList_1.length c1'), (6, .pointer (some ⟨b65, 0, none⟩)), (7, .int .i64 x57.2), (8, .slice a81 x79.length c82), (33, .agg #[.string (bs x91.Name), .int .i64 x91.Length, .int .i64 x91.Ball, .int .i64 x91.Instep, .int .i64 x91.Heel, .int .i64 x91.Pitch]), (34, .slice a81 x79.length c82)] (by kernel_rfl) ?_
  obtain ⟨x99, hx100, hm⟩ := bindE hm
  refine WL.call 50 #[.agg #[.string (bs x91.Name), .int .i64 x91.Length, .int .i64 x91.Ball, .int .i64 x91.Instep, .int .i64 x91.Heel, .int .i64 x91.Pitch], .slice a81 x79.length c82] rfl rfl (by kernel_rfl) (c_50 n x91 x79 a81 c82 w93 hx100 (SH.rd (SH.front 0 hS98)) (SH.le (SH.front 0 hS98)).1) ?_
  rintro _ w101 ⟨rfl, hE102⟩
  refine ⟨_, rfl, ?_⟩
  have hb104 : Ext w w101 := Ext.trans hb96 hE102
  have hL105 : w.heap.size ≤ w101.heap.size := Nat.le_trans hL97 hE102.size
  have hS106 : SH w101 w.heap.size [aOwn fChange 42 a81 c82 x79, aBox 61 b65 [.string (bs x57.1.Name), .int .i64 x57.1.Length, .int .i64 x57.1.Ball, .int .i64 x57.1.Instep, .int .i64 x57.1.Heel, .int .i64 x57.1.Pitch], aOwn fChange 42 a48 c49 x46, aBox 58 b2 [.string (bs aX_0.Name), .int .i64 aX_0.Length, .int .i64 aX_0.Ball, .int .i64 aX_0.Instep, .int .i64 aX_0.Heel, .int .i64 aX_0.Pitch]] := SH.ext hS98 hE102
  refine WL.runk 3 [1, 6, 7, 8, 36, 37] [(1, .slice a1' aList_1.length c1'), (6, .pointer (some ⟨b65, 0, none⟩)), (7, .int .i64 x57.2), (8, .slice a81 x79.length c82), (36, .agg #[.string (bs x99.1.Name), .int .i64 x99.1.Length, .int .i64 x99.1.Ball, .int .i64 x99.1.Instep, .int .i64 x99.1.Heel, .int .i64 x99.1.Pitch]), (37, .int .i64 x99.2)] (by kernel_rfl) ?_
  refine WL.box 61 [.string (bs []), .int .i64 0, .int .i64 0, .int .i64 0, .int .i64 0, .int .i64 0] 9 (by kernel_rfl) rfl rfl rfl rfl ?_
  intro b107 w108 hE109 hR110
  have hb112 : Ext w w108 := Ext.trans hb104 hE109
  have hL113 : w.heap.size ≤ w108.heap.size := Nat.le_trans hL105 hE109.size
  have hS114 : SH w108 w.heap.size [aBox 61 b107 [.string (bs []), .int .i64 0, .int .i64 0, .int .i64 0, .int .i64 0, .int .i64 0], aOwn fChange 42 a81 c82 x79, aBox 61 b65 [.string (bs x57.1.Name), .int .i64 x57.1.Length, .int .i64 x57.1.Ball, .int .i64 x57.1.Instep, .int .i64 x57.1.Heel, .int .i64 x57.1.Pitch], aOwn fChange 42 a48 c49 x46, aBox 58 b2 [.string (bs aX_0.Name), .int .i64 aX_0.Length, .int .i64 aX_0.Ball, .int .i64 aX_0.Instep, .int .i64 aX_0.Heel, .int .i64 aX_0.Pitch]] := SH.add hS106 hE109 hL105 hR110
  refine WL.boxStore 0 [.string (bs x99.1.Name), .int .i64 x99.1.Length, .int .i64 x99.1.Ball, .int .i64 x99.1.Instep, .int .i64 x99.1.Heel, .int .i64 x99.1.Pitch] [.string (bs x99.1.Name), .int .i64 x99.1.Length, .int .i64 x99.1.Ball, .int .i64 x99.1.Instep, .int .i64 x99.1.Heel, .int .i64 x99.1.Pitch] (SH.front 0 hS114) hL113 rfl rfl rfl rfl rfl rfl rfl (info61).1 (info61).2.1 rfl rfl rfl ?_
  intro w115 hB116 hS117
  have hb118 : Ext w w115 := Below.trans hb112 hB116
  have hL119 : w.heap.size ≤ w115.heap.size := Nat.le_trans hL113 hB116.size
  refine WL.runk 1 [1, 6, 7, 8, 9, 10] [(1, .slice a1' aList_1.length c1'), (6, .pointer (some ⟨b65, 0, none⟩)), (7, .int .i64 x57.2), (8, .slice a81 x79.length c82), (9, .pointer (some ⟨b107, 0, none⟩)), (10, .int .i64 x99.2)] (by kernel_rfl) ?_
  refine WL.nil ?_
  refine WQ.then_normal (hK90 _ _ _ ?_)
  refine WP.seq (fun K120 hK120 => ?_)
  refine WP.seq (fun K121 hK121 => ?_)
  obtain ⟨x131, hx132, hm⟩ := bindE hm
  refine WP.cut (fun env' w' => env' = [(1, .slice a1' aList_1.length c1'), (8, .slice a81 x79.length c82), (46, .bool x131)] ∧ Ext w w' ∧ w.heap.size ≤ w'.heap.size ∧ SH w' w.heap.size [aBox 61 b107 [.string (bs x99.1.Name), .int .i64 x99.1.Length, .int .i64 x99.1.Ball, .int .i64 x99.1.Instep, .int .i64 x99.1.Heel, .int .i64 x99.1.Pitch], aOwn fChange 42 a81 c82 x79, aBox 61 b65 [.string (bs x57.1.Name), .int .i64 x57.1.Length, .int .i64 x57.1.Ball, .int .i64 x57.1.Instep, .int .i64 x57.1.Heel, .int .i64 x57.1.Pitch], aOwn fChange 42 a48 c49 x46, aBox 58 b2 [.string (bs aX_0.Name), .int .i64 aX_0.Length, .int .i64 aX_0.Ball, .int .i64 aX_0.Instep, .int .i64 aX_0.Heel, .int .i64 aX_0.Pitch]]) ?_ ?_
  · have hm := hx132; clear hx132
    refine WP.region ?_
    refine WL.st (.agg #[.string (bs x99.1.Name), .int .i64 x99.1.Length, .int .i64 x99.1.Ball, .int .i64 x99.1.Instep, .int .i64 x99.1.Heel, .int .i64 x99.1.Pitch]) (ST.loadAgg (vs := [.string (bs x99.1.Name), .int .i64 x99.1.Length, .int .i64 x99.1.Ball, .int .i64 x99.1.Instep, .int .i64 x99.1.Heel, .int .i64 x99.1.Pitch]) (fun j v hv => SH.boxPart (us := [.string (bs x99.1.Name), .int .i64 x99.1.Length, .int .i64 x99.1.Ball, .int .i64 x99.1.Instep, .int .i64 x99.1.Heel, .int .i64 x99.1.Pitch]) (SH.front 0 hS117) 0 rfl j v hv) rfl rfl rfl Try.underlying61 rfl (info61).1 (info61).2.1) rfl rfl rfl ?_
    refine WL.st (.agg #[.string (bs x57.1.Name), .int .i64 x57.1.Length, .int .i64 x57.1.Ball, .int .i64 x57.1.Instep, .int .i64 x57.1.Heel, .int .i64 x57.1.Pitch]) (ST.loadAgg (vs := [.string (bs x57.1.Name), .int .i64 x57.1.Length, .int .i64 x57.1.Ball, .int .i64 x57.1.Instep, .int .i64 x57.1.Heel, .int .i64 x57.1.Pitch]) (fun j v hv => SH.boxPart (us := [.string (bs x57.1.Name), .int .i64 x57.1.Length, .int .i64 x57.1.Ball, .int .i64 x57.1.Instep, .int .i64 x57.1.Heel, .int .i64 x57.1.Pitch]) (SH.front 2 hS117) 0 rfl j v hv) rfl rfl rfl Try.underlying61 rfl (info61).1 (info61).2.1) rfl rfl rfl ?_
    obtain ⟨x133, hx134, hm⟩ := bindE hm
    refine WL.call 51 #[.agg #[.string (bs x99.1.Name), .int .i64 x99.1.Length, .int .i64 x99.1.Ball, .int .i64 x99.1.Instep, .int .i64 x99.1.Heel, .int .i64 x99.1.Pitch], .agg #[.string (bs x57.1.Name), .int .i64 x57.1.Length, .int .i64 x57.1.Ball, .int .i64 x57.1.Instep, .int .i64 x57.1.Heel, .int .i64 x57.1.Pitch]] rfl rfl (by kernel_rfl) (c_51 n x99.1 x57.1 w115 hx134 ) ?_
    rintro _ w135 ⟨rfl, hE136⟩
    refine ⟨_, rfl, ?_⟩
    have hb138 : Ext w w135 := Ext.trans hb118 hE136
    have hL139 : w.heap.size ≤ w135.heap.size := Nat.le_trans hL119 hE136.size
    have hS140 : SH w135 w.heap.size [aBox 61 b107 [.string (bs x99.1.Name), .int .i64 x99.1.Length, .int .i64 x99.1.Ball, .int .i64 x99.1.Instep, .int .i64 x99.1.Heel, .int .i64 x99.1.Pitch], aOwn fChange 42 a81 c82 x79, aBox 61 b65 [.string (bs x57.1.Name), .int .i64 x57.1.Length, .int .i64 x57.1.Ball, .int .i64 x57.1.Instep, .int .i64 x57.1.Heel, .int .i64 x57.1.Pitch], aOwn fChange 42 a48 c49 x46, aBox 58 b2 [.string (bs aX_0.Name), .int .i64 aX_0.Length, .int .i64 aX_0.Ball, .int .i64 aX_0.Instep, .int .i64 aX_0.Heel, .int .i64 aX_0.Pitch]] := SH.ext hS117 hE136
    refine WL.runk 2 [1, 7, 8, 10, 42] [(1, .slice a1' aList_1.length c1'), (7, .int .i64 x57.2), (8, .slice a81 x79.length c82), (10, .int .i64 x99.2), (42, .bool (!x133))] (by kernel_rfl) ?_
    refine WL.case (!x133) [42] ⟨rfl, trivial⟩ (fun hc141 => ?_) (fun hc141 => ?_)
    · have hm := iteT hm hc141
      refine WL.runk 4 [1, 8, 46] [(1, .slice a1' aList_1.length c1'), (8, .slice a81 x79.length c82), (46, .bool true)] (by kernel_rfl) ?_
      refine WL.nil ?_
      obtain rfl := Option.some.inj hm
      exact WQ.post' ⟨rfl, hb138, hL139, hS140⟩ ⟨rfl, rfl, rfl, trivial⟩
    have hm := iteF hm hc141
    refine WL.runk 4 [1, 8, 46] [(1, .slice a1' aList_1.length c1'), (8, .slice a81 x79.length c82), (46, .bool (x99.2 != x57.2))] (by kernel_rfl) ?_
    refine WL.nil ?_
    obtain rfl := Option.some.inj hm
    exact WQ.post' ⟨rfl, hb138, hL139, hS140⟩ ⟨rfl, rfl, rfl, trivial⟩
  clear hx132
  rintro _ w142 ⟨rfl, hb143, hL144, hS145⟩
  refine WQ.then_normal (hK121 _ _ _ ?_)
  refine WP.cond x131 rfl rfl (fun hc146 => ?_) (fun hc146 => ?_)
  · have hm := iteT hm hc146
    refine WP.seq (fun K147 hK147 => ?_)
    refine WP.region ?_
    refine WL.runk 1 [4] [(4, .bool false)] (by kernel_rfl) ?_
    refine WL.nil ?_
    refine WQ.then_normal (hK147 _ _ _ ?_)
    refine WP.ret ?_
    refine WQ.then_ret ?_
    obtain rfl := Option.some.inj hm
    exact WQ.ret1 _ rfl rfl ⟨rfl, hb143⟩
  have hm := iteF hm hc146
  refine WP.skip ?_
  refine WQ.then_normal (hK120 _ _ _ ?_)
  refine WP.seq (fun K148 hK148 => ?_)
  refine WP.seq (fun K149 hK149 => ?_)
  refine WP.region ?_
  refine WL.runk 2 [47, 48] [(47, .slice a81 x79.length c82), (48, .slice a1' aList_1.length c1')] (by kernel_rfl) ?_
  obtain ⟨x150, hx151, hm⟩ := bindE hm
  refine WL.call 18 #[.slice a1' aList_1.length c1'] rfl rfl (by kernel_rfl) (c_18 n aList_1 a1' c1' w142 hx151 (Rd.below h1 hb143) hle1) ?_
  rintro _ w155 ⟨a152, c153, rfl, hE156, hR157⟩
  refine ⟨_, rfl, ?_⟩
  have hb158 : Ext w w155 := Ext.trans hb143 hE156
  have hL159 : w.heap.size ≤ w155.heap.size := Nat.le_trans hL144 hE156.size
  have hS160 : SH w155 w.heap.size [aOwn fChange 42 a152 c153 x150, aBox 61 b107 [.string (bs x99.1.Name), .int .i64 x99.1.Length, .int .i64 x99.1.Ball, .int .i64 x99.1.Instep, .int .i64 x99.1.Heel, .int .i64 x99.1.Pitch], aOwn fChange 42 a81 c82 x79, aBox 61 b65 [.string (bs x57.1.Name), .int .i64 x57.1.Length, .int .i64 x57.1.Ball, .int .i64 x57.1.Instep, .int .i64 x57.1.Heel, .int .i64 x57.1.Pitch], aOwn fChange 42 a48 c49 x46, aBox 58 b2 [.string (bs aX_0.Name), .int .i64 aX_0.Length, .int .i64 aX_0.Ball, .int .i64 aX_0.Instep, .int .i64 aX_0.Heel, .int .i64 aX_0.Pitch]] := SH.add hS145 hE156 hL144 hR157
  obtain ⟨x161, hx162, hm⟩ := bindE hm
  refine WL.call 20 #[.slice a81 x79.length c82, .slice a152 x150.length c153] rfl rfl (by kernel_rfl) (c_20 n x79 a81 c82 x150 a152 c153 w155 hx162 (SH.rd (SH.front 2 hS160)) (SH.le (SH.front 2 hS160)).1 (SH.rd (SH.front 0 hS160)) (SH.le (SH.front 0 hS160)).1) ?_
  rintro _ w163 ⟨rfl, hE164⟩
  refine ⟨_, rfl, ?_⟩
  have hb166 : Ext w w163 := Ext.trans hb158 hE164
  have hL167 : w.heap.size ≤ w163.heap.size := Nat.le_trans hL159 hE164.size
  have hS168 : SH w163 w.heap.size [aOwn fChange 42 a152 c153 x150, aBox 61 b107 [.string (bs x99.1.Name), .int .i64 x99.1.Length, .int .i64 x99.1.Ball, .int .i64 x99.1.Instep, .int .i64 x99.1.Heel, .int .i64 x99.1.Pitch], aOwn fChange 42 a81 c82 x79, aBox 61 b65 [.string (bs x57.1.Name), .int .i64 x57.1.Length, .int .i64 x57.1.Ball, .int .i64 x57.1.Instep, .int .i64 x57.1.Heel, .int .i64 x57.1.Pitch], aOwn fChange 42 a48 c49 x46, aBox 58 b2 [.string (bs aX_0.Name), .int .i64 aX_0.Length, .int .i64 aX_0.Ball, .int .i64 aX_0.Instep, .int .i64 aX_0.Heel, .int .i64 aX_0.Pitch]] := SH.ext hS160 hE164
  refine WL.runk 1 [51] [(51, .bool (!x161))] (by kernel_rfl) ?_
  refine WL.nil ?_
  refine WQ.then_normal (hK149 _ _ _ ?_)
  refine WP.cond (!x161) rfl rfl (fun hc169 => ?_) (fun hc169 => ?_)
  · have hm := iteT hm hc169
    refine WP.seq (fun K170 hK170 => ?_)
    refine WP.region ?_
    refine WL.runk 1 [4] [(4, .bool false)] (by kernel_rfl) ?_
    refine WL.nil ?_
    refine WQ.then_normal (hK170 _ _ _ ?_)
    refine WP.ret ?_
    refine WQ.then_ret ?_
    obtain rfl := Option.some.inj hm
    exact WQ.ret1 _ rfl rfl ⟨rfl, hb166⟩
  have hm := iteF hm hc169
  refine WP.skip ?_
  refine WQ.then_normal (hK148 _ _ _ ?_)
  refine WP.seq (fun K171 hK171 => ?_)
  refine WP.region ?_
  refine WL.runk 1 [4] [(4, .bool true)] (by kernel_rfl) ?_
  refine WL.nil ?_
  refine WQ.then_normal (hK171 _ _ _ ?_)
  refine WP.ret ?_
  obtain rfl := Option.some.inj hm
  exact WQ.ret1 _ rfl rfl ⟨rfl, hb166⟩

end Go.Proofs.Ytlplbjeegkkilaa
