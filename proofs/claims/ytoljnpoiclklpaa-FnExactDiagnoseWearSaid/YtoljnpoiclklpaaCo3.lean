/- Each call does what its Lean function says. -/
import Derived.Test.YtoljnpoiclklpaaCo2
set_option maxRecDepth 20000
set_option maxHeartbeats 4000000
namespace Go.Proofs.Ytoljnpoiclklpaa
open Go Go.Gv Go.RowKit

theorem c_4 (n : Nat) (aRows_0 : List (List UInt8)) (a0' : Option Addr) (c0' : Nat) (aLeast_1 : Int) (w : World) {r : Bool} (hm : m_laws_FnExactWornFields n aRows_0 aLeast_1 = some r) (h0 : Rd fStr.ty w a0' aRows_0) (hle0 : aRows_0.length ≤ c0') :
    CallV Try.prog 4 #[.slice a0' aRows_0.length c0', .int .i64 aLeast_1] w (fun v w' => v = .bool r ∧ Ext w w') := by
  unfold m_laws_FnExactWornFields at hm
  refine CallV.enter Try.func4 rfl (by kernel_rfl) Try.ntmps4 (env := [(0, .slice a0' aRows_0.length c0'), (1, .int .i64 aLeast_1)]) ⟨rfl, rfl, trivial⟩ ?_
  refine WP.seq (fun K1 hK1 => ?_)
  refine WP.region ?_
  refine WL.runk 1 [0, 1] [(0, .slice a0' aRows_0.length c0'), (1, .int .i64 aLeast_1)] (by kernel_rfl) ?_
  refine WL.nil ?_
  refine WQ.then_normal (hK1 _ _ _ ?_)
  refine WP.seq (fun K2 hK2 => ?_)
  refine WP.region ?_
  refine WL.runk 1 [0, 1, 5] [(0, .slice a0' aRows_0.length c0'), (1, .int .i64 aLeast_1), (5, .int .i64 1048576)] (by kernel_rfl) ?_
  refine WL.nil ?_
  refine WQ.then_normal (hK2 _ _ _ ?_)
  refine WP.seq (fun K3 hK3 => ?_)
  refine WP.region ?_
  refine WL.runk 2 [0, 1, 11, 12] [(0, .slice a0' aRows_0.length c0'), (1, .int .i64 aLeast_1), (11, .slice a0' aRows_0.length c0'), (12, .int .i64 1048576)] (by kernel_rfl) ?_
  obtain ⟨x4, hx5, hm⟩ := bindE hm
  refine WL.call 15 #[.slice a0' aRows_0.length c0', .int .i64 1048576] rfl rfl (by kernel_rfl) (c_15 n aRows_0 a0' c0' 1048576 w hx5 (Rd.below h0 (Ext.refl w)) hle0) ?_
  rintro _ w6 ⟨rfl, hE7⟩
  refine ⟨_, rfl, ?_⟩
  have hb9 : Ext w w6 := Ext.trans (Ext.refl w) hE7
  have hL10 : w.heap.size ≤ w6.heap.size := Nat.le_trans (Nat.le_refl _) hE7.size
  have hS11 : SH w6 w.heap.size [] := SH.ext (SH.nil _ _) hE7
  refine WL.runk 1 [0, 1, 5] [(0, .slice a0' aRows_0.length c0'), (1, .int .i64 aLeast_1), (5, .int .i64 x4)] (by kernel_rfl) ?_
  refine WL.nil ?_
  refine WQ.then_normal (hK3 _ _ _ ?_)
  refine WP.seq (fun K12 hK12 => ?_)
  refine WP.seq (fun K13 hK13 => ?_)
  refine WP.region ?_
  refine WL.runk 2 [0, 1, 15] [(0, .slice a0' aRows_0.length c0'), (1, .int .i64 aLeast_1), (15, .bool (decide (x4 < 0)))] (by kernel_rfl) ?_
  refine WL.nil ?_
  refine WQ.then_normal (hK13 _ _ _ ?_)
  refine WP.cond (decide (x4 < 0)) rfl rfl (fun hc14 => ?_) (fun hc14 => ?_)
  · have hm := iteT hm hc14
    refine WP.seq (fun K15 hK15 => ?_)
    refine WP.region ?_
    refine WL.runk 1 [4] [(4, .bool true)] (by kernel_rfl) ?_
    refine WL.nil ?_
    refine WQ.then_normal (hK15 _ _ _ ?_)
    refine WP.ret ?_
    refine WQ.then_ret ?_
    obtain rfl := Option.some.inj hm
    exact WQ.ret1 _ rfl rfl ⟨rfl, hb9⟩
  · have hm := iteF hm hc14
    refine WP.skip ?_
    refine WQ.then_normal (hK12 _ _ _ ?_)
    refine WP.seq (fun K16 hK16 => ?_)
    refine WP.region ?_
    refine WL.runk 1 [0, 1, 17] [(0, .slice a0' aRows_0.length c0'), (1, .int .i64 aLeast_1), (17, .slice a0' aRows_0.length c0')] (by kernel_rfl) ?_
    obtain ⟨x17, hx18, hm⟩ := bindE hm
    refine WL.call 17 #[.slice a0' aRows_0.length c0'] rfl rfl (by kernel_rfl) (c_17 n aRows_0 a0' c0' w6 hx18 (Rd.below h0 hb9) hle0) ?_
    rintro _ w22 ⟨a19, c20, rfl, hE23, hR24⟩
    refine ⟨_, rfl, ?_⟩
    have hb25 : Ext w w22 := Ext.trans hb9 hE23
    have hL26 : w.heap.size ≤ w22.heap.size := Nat.le_trans hL10 hE23.size
    have hS27 : SH w22 w.heap.size [aOwn fStr 9 a19 c20 x17] := SH.add hS11 hE23 hL10 hR24
    refine WL.runk 1 [0, 1, 18, 19] [(0, .slice a0' aRows_0.length c0'), (1, .int .i64 aLeast_1), (18, .slice a19 x17.length c20), (19, .int .i64 aLeast_1)] (by kernel_rfl) ?_
    obtain ⟨x28, hx29, hm⟩ := bindE hm
    refine WL.call 20 #[.slice a19 x17.length c20, .int .i64 aLeast_1] rfl rfl (by kernel_rfl) (c_20 n x17 a19 c20 aLeast_1 w22 hx29 (SH.rd (SH.front 0 hS27)) (SH.le (SH.front 0 hS27)).1) ?_
    rintro _ w30 ⟨rfl, hE31⟩
    refine ⟨_, rfl, ?_⟩
    have hb33 : Ext w w30 := Ext.trans hb25 hE31
    have hL34 : w.heap.size ≤ w30.heap.size := Nat.le_trans hL26 hE31.size
    have hS35 : SH w30 w.heap.size [aOwn fStr 9 a19 c20 x17] := SH.ext hS27 hE31
    refine WL.runk 5 [0, 1, 6, 7] [(0, .slice a0' aRows_0.length c0'), (1, .int .i64 aLeast_1), (6, .int .i64 x28.1), (7, .int .i64 x28.2)] (by kernel_rfl) ?_
    refine WL.nil ?_
    refine WQ.then_normal (hK16 _ _ _ ?_)
    refine WP.seq (fun K36 hK36 => ?_)
    refine WP.region ?_
    refine WL.runk 1 [0, 1, 6, 7, 23] [(0, .slice a0' aRows_0.length c0'), (1, .int .i64 aLeast_1), (6, .int .i64 x28.1), (7, .int .i64 x28.2), (23, .slice a0' aRows_0.length c0')] (by kernel_rfl) ?_
    obtain ⟨x37, hx38, hm⟩ := bindE hm
    refine WL.call 17 #[.slice a0' aRows_0.length c0'] rfl rfl (by kernel_rfl) (c_17 n aRows_0 a0' c0' w30 hx38 (Rd.below h0 hb33) hle0) ?_
    rintro _ w42 ⟨a39, c40, rfl, hE43, hR44⟩
    refine ⟨_, rfl, ?_⟩
    have hb45 : Ext w w42 := Ext.trans hb33 hE43
    have hL46 : w.heap.size ≤ w42.heap.size := Nat.le_trans hL34 hE43.size
    have hS47 : SH w42 w.heap.size [aOwn fStr 9 a39 c40 x37, aOwn fStr 9 a19 c20 x17] := SH.add hS35 hE43 hL34 hR44
    refine WL.runk 1 [0, 1, 6, 7, 8] [(0, .slice a0' aRows_0.length c0'), (1, .int .i64 aLeast_1), (6, .int .i64 x28.1), (7, .int .i64 x28.2), (8, .slice a39 x37.length c40)] (by kernel_rfl) ?_
    refine WL.nil ?_
    refine WQ.then_normal (hK36 _ _ _ ?_)
    refine WP.seq (fun K48 hK48 => ?_)
    refine WP.region ?_
    refine WL.runk 2 [0, 6, 7, 8, 26, 27] [(0, .slice a0' aRows_0.length c0'), (6, .int .i64 x28.1), (7, .int .i64 x28.2), (8, .slice a39 x37.length c40), (26, .slice a39 x37.length c40), (27, .int .i64 aLeast_1)] (by kernel_rfl) ?_
    obtain ⟨x49, hx50, hm⟩ := bindE hm
    refine WL.call 21 #[.slice a39 x37.length c40, .int .i64 aLeast_1] rfl rfl (by kernel_rfl) (c_21 n x37 a39 c40 aLeast_1 w42 hx50 (SH.rd (SH.front 0 hS47)) (SH.le (SH.front 0 hS47)).1) ?_
    rintro _ w51 ⟨rfl, hE52⟩
    refine ⟨_, rfl, ?_⟩
    have hb54 : Ext w w51 := Ext.trans hb45 hE52
    have hL55 : w.heap.size ≤ w51.heap.size := Nat.le_trans hL46 hE52.size
    have hS56 : SH w51 w.heap.size [aOwn fStr 9 a39 c40 x37, aOwn fStr 9 a19 c20 x17] := SH.ext hS47 hE52
    refine WL.runk 5 [0, 6, 7, 8, 9, 10] [(0, .slice a0' aRows_0.length c0'), (6, .int .i64 x28.1), (7, .int .i64 x28.2), (8, .slice a39 x37.length c40), (9, .int .i64 x49.1), (10, .int .i64 x49.2)] (by kernel_rfl) ?_
    refine WL.nil ?_
    refine WQ.then_normal (hK48 _ _ _ ?_)
    refine WP.seq (fun K57 hK57 => ?_)
    refine WP.seq (fun K58 hK58 => ?_)
    obtain ⟨x60, hx61, hm⟩ := bindE hm
    refine WP.cut (fun env' w' => env' = [(0, .slice a0' aRows_0.length c0'), (8, .slice a39 x37.length c40), (38, .bool x60)] ∧ Ext w w' ∧ w.heap.size ≤ w'.heap.size ∧ SH w' w.heap.size [aOwn fStr 9 a39 c40 x37, aOwn fStr 9 a19 c20 x17]) ?_ ?_
    · have hm := hx61; clear hx61
      refine WP.region ?_
      refine WL.runk 4 [0, 7, 8, 10, 34] [(0, .slice a0' aRows_0.length c0'), (7, .int .i64 x28.2), (8, .slice a39 x37.length c40), (10, .int .i64 x49.2), (34, .bool (x49.1 != x28.1))] (by kernel_rfl) ?_
      refine WL.case (x49.1 != x28.1) [34] ⟨rfl, trivial⟩ (fun hc62 => ?_) (fun hc62 => ?_)
      · have hm := iteT hm hc62
        refine WL.runk 4 [0, 8, 38] [(0, .slice a0' aRows_0.length c0'), (8, .slice a39 x37.length c40), (38, .bool true)] (by kernel_rfl) ?_
        refine WL.nil ?_
        obtain rfl := Option.some.inj hm
        exact WQ.post' ⟨rfl, hb54, hL55, hS56⟩ ⟨rfl, rfl, rfl, trivial⟩
      · have hm := iteF hm hc62
        refine WL.runk 4 [0, 8, 38] [(0, .slice a0' aRows_0.length c0'), (8, .slice a39 x37.length c40), (38, .bool (x49.2 != x28.2))] (by kernel_rfl) ?_
        refine WL.nil ?_
        obtain rfl := Option.some.inj hm
        exact WQ.post' ⟨rfl, hb54, hL55, hS56⟩ ⟨rfl, rfl, rfl, trivial⟩
    · clear hx61
      rintro _ w63 ⟨rfl, hb64, hL65, hS66⟩
      refine WQ.then_normal (hK58 _ _ _ ?_)
      refine WP.cond x60 rfl rfl (fun hc67 => ?_) (fun hc67 => ?_)
      · have hm := iteT hm hc67
        refine WP.seq (fun K68 hK68 => ?_)
        refine WP.region ?_
        refine WL.runk 1 [4] [(4, .bool false)] (by kernel_rfl) ?_
        refine WL.nil ?_
        refine WQ.then_normal (hK68 _ _ _ ?_)
        refine WP.ret ?_
        refine WQ.then_ret ?_
        obtain rfl := Option.some.inj hm
        exact WQ.ret1 _ rfl rfl ⟨rfl, hb64⟩
      · have hm := iteF hm hc67
        refine WP.skip ?_
        refine WQ.then_normal (hK57 _ _ _ ?_)
        refine WP.seq (fun K69 hK69 => ?_)
        refine WP.seq (fun K70 hK70 => ?_)
        refine WP.region ?_
        refine WL.runk 2 [39, 40] [(39, .slice a39 x37.length c40), (40, .slice a0' aRows_0.length c0')] (by kernel_rfl) ?_
        obtain ⟨x71, hx72, hm⟩ := bindE hm
        refine WL.call 17 #[.slice a0' aRows_0.length c0'] rfl rfl (by kernel_rfl) (c_17 n aRows_0 a0' c0' w63 hx72 (Rd.below h0 hb64) hle0) ?_
        rintro _ w76 ⟨a73, c74, rfl, hE77, hR78⟩
        refine ⟨_, rfl, ?_⟩
        have hb79 : Ext w w76 := Ext.trans hb64 hE77
        have hL80 : w.heap.size ≤ w76.heap.size := Nat.le_trans hL65 hE77.size
        have hS81 : SH w76 w.heap.size [aOwn fStr 9 a73 c74 x71, aOwn fStr 9 a39 c40 x37, aOwn fStr 9 a19 c20 x17] := SH.add hS66 hE77 hL65 hR78
        obtain ⟨x82, hx83, hm⟩ := bindE hm
        refine WL.call 19 #[.slice a39 x37.length c40, .slice a73 x71.length c74] rfl rfl (by kernel_rfl) (c_19 n x37 a39 c40 x71 a73 c74 w76 hx83 (SH.rd (SH.front 1 hS81)) (SH.le (SH.front 1 hS81)).1 (SH.rd (SH.front 0 hS81)) (SH.le (SH.front 0 hS81)).1) ?_
        rintro _ w84 ⟨rfl, hE85⟩
        refine ⟨_, rfl, ?_⟩
        have hb87 : Ext w w84 := Ext.trans hb79 hE85
        have hL88 : w.heap.size ≤ w84.heap.size := Nat.le_trans hL80 hE85.size
        have hS89 : SH w84 w.heap.size [aOwn fStr 9 a73 c74 x71, aOwn fStr 9 a39 c40 x37, aOwn fStr 9 a19 c20 x17] := SH.ext hS81 hE85
        refine WL.runk 1 [43] [(43, .bool (!x82))] (by kernel_rfl) ?_
        refine WL.nil ?_
        refine WQ.then_normal (hK70 _ _ _ ?_)
        refine WP.cond (!x82) rfl rfl (fun hc90 => ?_) (fun hc90 => ?_)
        · have hm := iteT hm hc90
          refine WP.seq (fun K91 hK91 => ?_)
          refine WP.region ?_
          refine WL.runk 1 [4] [(4, .bool false)] (by kernel_rfl) ?_
          refine WL.nil ?_
          refine WQ.then_normal (hK91 _ _ _ ?_)
          refine WP.ret ?_
          refine WQ.then_ret ?_
          obtain rfl := Option.some.inj hm
          exact WQ.ret1 _ rfl rfl ⟨rfl, hb87⟩
        · have hm := iteF hm hc90
          refine WP.skip ?_
          refine WQ.then_normal (hK69 _ _ _ ?_)
          refine WP.seq (fun K92 hK92 => ?_)
          refine WP.region ?_
          refine WL.runk 1 [4] [(4, .bool true)] (by kernel_rfl) ?_
          refine WL.nil ?_
          refine WQ.then_normal (hK92 _ _ _ ?_)
          refine WP.ret ?_
          obtain rfl := Option.some.inj hm
          exact WQ.ret1 _ rfl rfl ⟨rfl, hb87⟩

theorem c_55 (n : Nat) (rows_0 : List (List UInt8)) (a0' : Option Addr) (c0' : Nat) (w : World) {r : List (List UInt8)} (hm : m_spec_l20Mirror n rows_0 = some r) (h0 : Rd fStr.ty w a0' rows_0) (hle0 : rows_0.length ≤ c0') :
    CallV Try.prog 55 #[.slice a0' rows_0.length c0'] w (fun v w' => ∃ (ra0 : Option Addr) (rc0 : Nat), v = .slice ra0 r.length rc0 ∧ Ext w w' ∧ SH w' w.heap.size [aOwn fStr 9 ra0 rc0 r]) := by
  unfold m_spec_l20Mirror at hm
  refine CallV.enter Try.func55 rfl (by kernel_rfl) Try.ntmps55 (env := [(0, .slice a0' rows_0.length c0')]) ⟨rfl, trivial⟩ ?_
  refine WP.seq (fun K1 hK1 => ?_)
  refine WP.region ?_
  refine WL.runk 1 [0] [(0, .slice a0' rows_0.length c0')] (by kernel_rfl) ?_
  refine WL.nil ?_
  refine WQ.then_normal (hK1 _ _ _ ?_)
  refine WP.seq (fun K2 hK2 => ?_)
  refine WP.region ?_
  refine WL.row fStr 9 ([] : List (List UInt8)) 0 #[] 7 (by kernel_rfl) rfl rfl rfl rfl rfl rfl rfl ?_
  intro a3 c4 w5 hE6 hR7
  have hb9 : Ext w w5 := Ext.trans (Ext.refl w) hE6
  have hL10 : w.heap.size ≤ w5.heap.size := Nat.le_trans (Nat.le_refl _) hE6.size
  have hS11 : SH w5 w.heap.size [aOwn fStr 9 a3 c4 ([] : List (List UInt8))] := SH.add (SH.nil _ _) hE6 (Nat.le_refl _) hR7
  refine WL.runk 1 [0, 3] [(0, .slice a0' rows_0.length c0'), (3, .slice a3 (([] : List (List UInt8)).length) c4)] (by kernel_rfl) ?_
  refine WL.nil ?_
  refine WQ.then_normal (hK2 _ _ _ ?_)
  refine WP.seq (fun K12 hK12 => ?_)
  refine WP.seq (fun K13 hK13 => ?_)
  refine WP.region ?_
  refine WL.runk 1 [0, 3, 4] [(0, .slice a0' rows_0.length c0'), (3, .slice a3 (([] : List (List UInt8)).length) c4), (4, .int .i64 0)] (by kernel_rfl) ?_
  refine WL.nil ?_
  refine WQ.then_normal (hK13 _ _ _ ?_)
  refine WP.block ?_
  obtain ⟨t28, ht29, hm⟩ := bindE hm
  have hmo23 := hm; clear hm
  refine WP.sub [(0, .slice a0' rows_0.length c0'), (3, .slice a3 (([] : List (List UInt8)).length) c4), (4, .int .i64 0)] ⟨rfl, rfl, rfl, trivial⟩ ?_
  refine WP.loop (fun n' env' w' => ∃ (st14 : List (List UInt8) × Int) (a15 : Option Addr) (c16 : Nat), env' = [(0, .slice a0' rows_0.length c0'), (3, .slice a15 st14.1.length c16), (4, .int .i64 st14.2)] ∧ Ext w w' ∧ w.heap.size ≤ w'.heap.size ∧ SH w' w.heap.size [aOwn fStr 9 a15 c16 st14.1] ∧ loopN (m_spec_l20Mirror_l1 n rows_0) n' st14 = some t28) n ⟨(([] : List (List UInt8)), 0), _, _, rfl, hb9, hL10, hS11, ht29⟩ ?_
  rintro n25 _ w18 ⟨st14, a15, c16, rfl, hb19, hL20, hS21, hl22⟩ K24 hK24
  obtain ⟨n26, s27, rfl, hm, hl22⟩ := loopN_some hl22
  unfold m_spec_l20Mirror_l1 at hm
  refine WP.seq (fun K30 hK30 => ?_)
  refine WP.seq (fun K31 hK31 => ?_)
  refine WP.region ?_
  refine WL.runk 4 [0, 3, 4, 11] [(0, .slice a0' rows_0.length c0'), (3, .slice a15 st14.1.length c16), (4, .int .i64 st14.2), (11, .bool (decide (st14.2 < (rows_0.length : Int))))] (by kernel_rfl) ?_
  refine WL.nil ?_
  refine WQ.then_normal (hK31 _ _ _ ?_)
  refine WP.cond (decide (st14.2 < (rows_0.length : Int))) rfl rfl (fun hc32 => ?_) (fun hc32 => ?_)
  · have hm := iteT hm hc32
    refine WP.skip ?_
    refine WQ.then_normal (hK30 _ _ _ ?_)
    refine WP.seq (fun K33 hK33 => ?_)
    refine WP.block ?_
    refine WP.seq (fun K34 hK34 => ?_)
    refine WP.region ?_
    refine WL.row fU8 5 ([] : List Int) 0 #[] 14 (by kernel_rfl) rfl rfl rfl rfl rfl rfl rfl ?_
    intro a35 c36 w37 hE38 hR39
    have hb41 : Ext w w37 := Ext.trans hb19 hE38
    have hL42 : w.heap.size ≤ w37.heap.size := Nat.le_trans hL20 hE38.size
    have hS43 : SH w37 w.heap.size [aOwn fU8 5 a35 c36 ([] : List Int), aOwn fStr 9 a15 c16 st14.1] := SH.add hS21 hE38 hL20 hR39
    refine WL.runk 1 [0, 3, 4, 5] [(0, .slice a0' rows_0.length c0'), (3, .slice a15 st14.1.length c16), (4, .int .i64 st14.2), (5, .slice a35 (([] : List Int).length) c36)] (by kernel_rfl) ?_
    refine WL.nil ?_
    refine WQ.then_normal (hK34 _ _ _ ?_)
    refine WP.seq (fun K44 hK44 => ?_)
    refine WP.seq (fun K45 hK45 => ?_)
    refine WP.region ?_
    refine WL.runk 2 [0, 3, 4, 5, 15, 16] [(0, .slice a0' rows_0.length c0'), (3, .slice a15 st14.1.length c16), (4, .int .i64 st14.2), (5, .slice a35 (([] : List Int).length) c36), (15, .slice a0' rows_0.length c0'), (16, .int .i64 st14.2)] (by kernel_rfl) ?_
    obtain ⟨x46, hx47, hm⟩ := bindE hm
    refine WL.st (.pointer (some (at_ a0' (Int.toNat st14.2 * 1)))) (ST.index (T := fStr.ty) (xs := rows_0) (Rd.below h0 hb41) hx47 rfl rfl rfl Try.underlying22 (info9).1 (info9).2.1) rfl rfl rfl ?_
    refine WL.st (.string (bs x46)) (ST.load (cell_ext (Rd.flat (F := fStr) (Rd.below h0 hb41) hx47 0 rfl)) rfl rfl Try.underlying9 rfl) rfl rfl rfl ?_
    refine WL.runk 3 [0, 3, 4, 5, 6] [(0, .slice a0' rows_0.length c0'), (3, .slice a15 st14.1.length c16), (4, .int .i64 st14.2), (5, .slice a35 (([] : List Int).length) c36), (6, .int .i64 (wI64 ((x46.length : Int) - 1)))] (by kernel_rfl) ?_
    refine WL.nil ?_
    refine WQ.then_normal (hK45 _ _ _ ?_)
    refine WP.block ?_
    obtain ⟨t62, ht63, hm⟩ := bindE hm
    have hmo57 := hm; clear hm
    refine WP.sub [(0, .slice a0' rows_0.length c0'), (3, .slice a15 st14.1.length c16), (4, .int .i64 st14.2), (5, .slice a35 (([] : List Int).length) c36), (6, .int .i64 (wI64 ((x46.length : Int) - 1)))] ⟨rfl, rfl, rfl, rfl, rfl, trivial⟩ ?_
    refine WP.loop (fun n' env' w' => ∃ (st48 : List Int × Int) (a49 : Option Addr) (c50 : Nat), env' = [(0, .slice a0' rows_0.length c0'), (3, .slice a15 st14.1.length c16), (4, .int .i64 st14.2), (5, .slice a49 st48.1.length c50), (6, .int .i64 st48.2)] ∧ Ext w w' ∧ w.heap.size ≤ w'.heap.size ∧ SH w' w.heap.size [aOwn fU8 5 a49 c50 st48.1, aOwn fStr 9 a15 c16 st14.1] ∧ loopN (m_spec_l20Mirror_l2 n rows_0 st14) n' st48 = some t62) n ⟨(([] : List Int), (wI64 ((x46.length : Int) - 1))), _, _, rfl, hb41, hL42, hS43, ht63⟩ ?_
    rintro n59 _ w52 ⟨st48, a49, c50, rfl, hb53, hL54, hS55, hl56⟩ K58 hK58
    obtain ⟨n60, s61, rfl, hm, hl56⟩ := loopN_some hl56
    unfold m_spec_l20Mirror_l2 at hm
    refine WP.seq (fun K64 hK64 => ?_)
    refine WP.seq (fun K65 hK65 => ?_)
    refine WP.region ?_
    refine WL.runk 2 [0, 3, 4, 5, 6, 22] [(0, .slice a0' rows_0.length c0'), (3, .slice a15 st14.1.length c16), (4, .int .i64 st14.2), (5, .slice a49 st48.1.length c50), (6, .int .i64 st48.2), (22, .bool (decide (st48.2 ≥ 0)))] (by kernel_rfl) ?_
    refine WL.nil ?_
    refine WQ.then_normal (hK65 _ _ _ ?_)
    refine WP.cond (decide (st48.2 ≥ 0)) rfl rfl (fun hc66 => ?_) (fun hc66 => ?_)
    · have hm := iteT hm hc66
      refine WP.skip ?_
      refine WQ.then_normal (hK64 _ _ _ ?_)
      refine WP.seq (fun K67 hK67 => ?_)
      refine WP.block ?_
      refine WP.region ?_
      refine WL.runk 3 [0, 3, 4, 6, 25, 26, 27] [(0, .slice a0' rows_0.length c0'), (3, .slice a15 st14.1.length c16), (4, .int .i64 st14.2), (6, .int .i64 st48.2), (25, .slice a49 st48.1.length c50), (26, .slice a0' rows_0.length c0'), (27, .int .i64 st14.2)] (by kernel_rfl) ?_
      obtain ⟨x68, hx69, hm⟩ := bindE hm
      refine WL.st (.pointer (some (at_ a0' (Int.toNat st14.2 * 1)))) (ST.index (T := fStr.ty) (xs := rows_0) (Rd.below h0 hb53) hx69 rfl rfl rfl Try.underlying22 (info9).1 (info9).2.1) rfl rfl rfl ?_
      refine WL.st (.string (bs x68)) (ST.load (cell_ext (Rd.flat (F := fStr) (Rd.below h0 hb53) hx69 0 rfl)) rfl rfl Try.underlying9 rfl) rfl rfl rfl ?_
      refine WL.runk 1 [0, 3, 4, 6, 25, 29, 30] [(0, .slice a0' rows_0.length c0'), (3, .slice a15 st14.1.length c16), (4, .int .i64 st14.2), (6, .int .i64 st48.2), (25, .slice a49 st48.1.length c50), (29, .string (bs x68)), (30, .int .i64 st48.2)] (by kernel_rfl) ?_
      obtain ⟨x70, hx71, hm⟩ := bindE hm
      refine WL.st (.int .u8 (x70.toNat : Int)) (ST.sindex hx71 rfl rfl rfl Try.underlying9) rfl rfl rfl ?_
      refine WL.row fU8 5 ([(x70.toNat : Int)] : List Int) 1 #[.int .u8 (x70.toNat : Int)] 32 (by kernel_rfl) rfl rfl rfl rfl rfl rfl rfl ?_
      intro a72 c73 w74 hE75 hR76
      have hb78 : Ext w w74 := Ext.trans hb53 hE75
      have hL79 : w.heap.size ≤ w74.heap.size := Nat.le_trans hL54 hE75.size
      have hS80 : SH w74 w.heap.size [aOwn fU8 5 a72 c73 ([(x70.toNat : Int)] : List Int), aOwn fU8 5 a49 c50 st48.1, aOwn fStr 9 a15 c16 st14.1] := SH.add hS55 hE75 hL54 hR76
      obtain ⟨x81, hx82, hm⟩ := bindE hm
      refine WL.append (F := fU8) (xs := st48.1) (ys := ([(x70.toNat : Int)] : List Int)) 33 (SH.front 1 hS80) hL79 (SH.rd (SH.front 0 hS80)) hx82 rfl rfl rfl Try.underlying46 (info5).1 (info5).2.2.1 (info5).2.1 (info5).2.2.2 rfl rfl rfl rfl rfl ?_
      intro a83 c84 w85 hB86 hS87
      have hb88 : Ext w w85 := Below.trans hb78 hB86
      have hL89 : w.heap.size ≤ w85.heap.size := Nat.le_trans hL79 hB86.size
      refine WL.runk 1 [0, 3, 4, 5, 6] [(0, .slice a0' rows_0.length c0'), (3, .slice a15 st14.1.length c16), (4, .int .i64 st14.2), (6, .int .i64 st48.2), (5, .slice a83 x81.length c84)] (by kernel_rfl) ?_
      refine WL.nil ?_
      refine WQ.block_normal ?_
      refine WQ.then_normal (hK67 _ _ _ ?_)
      refine WP.region ?_
      refine WL.runk 3 [0, 3, 4, 5, 6] [(0, .slice a0' rows_0.length c0'), (3, .slice a15 st14.1.length c16), (4, .int .i64 st14.2), (6, .int .i64 (wI64 (st48.2 - 1))), (5, .slice a83 x81.length c84)] (by kernel_rfl) ?_
      refine WL.nil ?_
      obtain rfl := Option.some.inj hm
      exact WQ.round hK58 ⟨(x81, (wI64 (st48.2 - 1))), _, _, rfl, hb88, hL89, (SH.take 2 (SH.front 1 (SH.front 2 hS87))), hl56⟩ (Nat.lt_succ_self _) ⟨rfl, rfl, rfl, rfl, rfl, trivial⟩
    · have hm := iteF hm hc66
      refine WP.exit ?_
      refine WQ.then_exit ?_
      refine WQ.then_exit ?_
      refine WQ.block_here ?_
      obtain rfl := Option.some.inj hm
      obtain rfl := afterN_done hl56
      have hm := hmo57
      refine WQ.then_normal (hK44 _ _ _ ?_)
      refine WP.region ?_
      refine WL.runk 2 [0, 4, 34, 35] [(0, .slice a0' rows_0.length c0'), (4, .int .i64 st14.2), (34, .slice a15 st14.1.length c16), (35, .slice a49 st48.1.length c50)] (by kernel_rfl) ?_
      refine WL.st (.string (bs (ofBytes st48.1))) (ST.b2s (SH.rd (SH.front 0 hS55)) (SH.le (SH.front 0 hS55)).2 rfl rfl Try.underlying46 Try.underlying9 Try.underlying5) rfl rfl rfl ?_
      refine WL.row fStr 9 ([(ofBytes st48.1)] : List (List UInt8)) 1 #[.string (bs (ofBytes st48.1))] 37 (by kernel_rfl) rfl rfl rfl rfl rfl rfl rfl ?_
      intro a90 c91 w92 hE93 hR94
      have hb96 : Ext w w92 := Ext.trans hb53 hE93
      have hL97 : w.heap.size ≤ w92.heap.size := Nat.le_trans hL54 hE93.size
      have hS98 : SH w92 w.heap.size [aOwn fStr 9 a90 c91 ([(ofBytes st48.1)] : List (List UInt8)), aOwn fU8 5 a49 c50 st48.1, aOwn fStr 9 a15 c16 st14.1] := SH.add hS55 hE93 hL54 hR94
      obtain ⟨x99, hx100, hm⟩ := bindE hm
      refine WL.append (F := fStr) (xs := st14.1) (ys := ([(ofBytes st48.1)] : List (List UInt8))) 38 (SH.front 2 hS98) hL97 (SH.rd (SH.front 0 hS98)) hx100 rfl rfl rfl Try.underlying22 (info9).1 (info9).2.2.1 (info9).2.1 (info9).2.2.2 rfl rfl rfl rfl rfl ?_
      intro a101 c102 w103 hB104 hS105
      have hb106 : Ext w w103 := Below.trans hb96 hB104
      have hL107 : w.heap.size ≤ w103.heap.size := Nat.le_trans hL97 hB104.size
      refine WL.runk 1 [0, 3, 4] [(0, .slice a0' rows_0.length c0'), (4, .int .i64 st14.2), (3, .slice a101 x99.length c102)] (by kernel_rfl) ?_
      refine WL.nil ?_
      refine WQ.block_normal ?_
      refine WQ.then_normal (hK33 _ _ _ ?_)
      refine WP.region ?_
      refine WL.runk 3 [0, 3, 4] [(0, .slice a0' rows_0.length c0'), (4, .int .i64 (wI64 (st14.2 + 1))), (3, .slice a101 x99.length c102)] (by kernel_rfl) ?_
      refine WL.nil ?_
      obtain rfl := Option.some.inj hm
      exact WQ.round hK24 ⟨(x99, (wI64 (st14.2 + 1))), _, _, rfl, hb106, hL107, (SH.take 1 hS105), hl22⟩ (Nat.lt_succ_self _) ⟨rfl, rfl, rfl, trivial⟩
  · have hm := iteF hm hc32
    refine WP.exit ?_
    refine WQ.then_exit ?_
    refine WQ.then_exit ?_
    refine WQ.block_here ?_
    obtain rfl := Option.some.inj hm
    obtain rfl := afterN_done hl22
    have hm := hmo23
    refine WQ.then_normal (hK12 _ _ _ ?_)
    refine WP.seq (fun K130 hK130 => ?_)
    refine WP.region ?_
    refine WL.runk 2 [2] [(2, .slice a15 st14.1.length c16)] (by kernel_rfl) ?_
    refine WL.nil ?_
    refine WQ.then_normal (hK130 _ _ _ ?_)
    refine WP.ret ?_
    obtain rfl := Option.some.inj hm
    exact WQ.ret1 _ rfl rfl ⟨_, _, rfl, hb19, hS21⟩

theorem c_22 (n : Nat) (rows_0 : List (List UInt8)) (a0' : Option Addr) (c0' : Nat) (w : World) {r : List (List UInt8) × Int} (hm : m_spec_MirrorWear n rows_0 = some r) (h0 : Rd fStr.ty w a0' rows_0) (hle0 : rows_0.length ≤ c0') :
    CallV Try.prog 22 #[.slice a0' rows_0.length c0'] w (fun v w' => ∃ (ra0 : Option Addr) (rc0 : Nat), v = .tuple #[.slice ra0 r.1.length rc0, .int .i64 r.2] ∧ Ext w w' ∧ SH w' w.heap.size [aOwn fStr 9 ra0 rc0 r.1]) := by
  unfold m_spec_MirrorWear at hm
  refine CallV.enter Try.func22 rfl (by kernel_rfl) Try.ntmps22 (env := [(0, .slice a0' rows_0.length c0')]) ⟨rfl, trivial⟩ ?_
  refine WP.seq (fun K1 hK1 => ?_)
  refine WP.region ?_
  refine WL.runk 2 [0] [(0, .slice a0' rows_0.length c0')] (by kernel_rfl) ?_
  refine WL.nil ?_
  refine WQ.then_normal (hK1 _ _ _ ?_)
  refine WP.seq (fun K2 hK2 => ?_)
  refine WP.seq (fun K3 hK3 => ?_)
  refine WP.region ?_
  refine WL.runk 1 [0, 4] [(0, .slice a0' rows_0.length c0'), (4, .slice a0' rows_0.length c0')] (by kernel_rfl) ?_
  obtain ⟨x4, hx5, hm⟩ := bindE hm
  refine WL.call 49 #[.slice a0' rows_0.length c0'] rfl rfl (by kernel_rfl) (c_49 n rows_0 a0' c0' w hx5 (Rd.below h0 (Ext.refl w)) hle0) ?_
  rintro _ w6 ⟨rfl, hE7⟩
  refine ⟨_, rfl, ?_⟩
  have hb9 : Ext w w6 := Ext.trans (Ext.refl w) hE7
  have hL10 : w.heap.size ≤ w6.heap.size := Nat.le_trans (Nat.le_refl _) hE7.size
  have hS11 : SH w6 w.heap.size [] := SH.ext (SH.nil _ _) hE7
  refine WL.runk 1 [0, 6] [(0, .slice a0' rows_0.length c0'), (6, .bool (!x4))] (by kernel_rfl) ?_
  refine WL.nil ?_
  refine WQ.then_normal (hK3 _ _ _ ?_)
  refine WP.cond (!x4) rfl rfl (fun hc12 => ?_) (fun hc12 => ?_)
  · have hm := iteT hm hc12
    refine WP.seq (fun K13 hK13 => ?_)
    refine WP.region ?_
    refine WL.runk 2 [2, 3] [(2, .slice none 0 0), (3, .int .i64 1)] (by kernel_rfl) ?_
    refine WL.nil ?_
    refine WQ.then_normal (hK13 _ _ _ ?_)
    refine WP.ret ?_
    refine WQ.then_ret ?_
    obtain rfl := Option.some.inj hm
    have hS15 : SH w6 w.heap.size [aOwn fStr 9 none 0 ([] : List (List UInt8))] := SH.nilOwn hS11
    exact WQ.ret2 _ _ rfl rfl rfl ⟨_, _, rfl, hb9, hS15⟩
  · have hm := iteF hm hc12
    refine WP.skip ?_
    refine WQ.then_normal (hK2 _ _ _ ?_)
    refine WP.seq (fun K16 hK16 => ?_)
    refine WP.region ?_
    refine WL.runk 1 [7] [(7, .slice a0' rows_0.length c0')] (by kernel_rfl) ?_
    obtain ⟨x17, hx18, hm⟩ := bindE hm
    refine WL.call 55 #[.slice a0' rows_0.length c0'] rfl rfl (by kernel_rfl) (c_55 n rows_0 a0' c0' w6 hx18 (Rd.below h0 hb9) hle0) ?_
    rintro _ w22 ⟨a19, c20, rfl, hE23, hR24⟩
    refine ⟨_, rfl, ?_⟩
    have hb25 : Ext w w22 := Ext.trans hb9 hE23
    have hL26 : w.heap.size ≤ w22.heap.size := Nat.le_trans hL10 hE23.size
    have hS27 : SH w22 w.heap.size [aOwn fStr 9 a19 c20 x17] := SH.add hS11 hE23 hL10 hR24
    refine WL.runk 2 [2, 3] [(2, .slice a19 x17.length c20), (3, .int .i64 0)] (by kernel_rfl) ?_
    refine WL.nil ?_
    refine WQ.then_normal (hK16 _ _ _ ?_)
    refine WP.ret ?_
    obtain rfl := Option.some.inj hm
    exact WQ.ret2 _ _ rfl rfl rfl ⟨_, _, rfl, hb25, hS27⟩

theorem c_77 (n : Nat) (s_0 : List Int) (a0' : Option Addr) (c0' : Nat) (w : World) (w0 : World) (B : Nat) (L : List Asrt) {r : List Int} (hm : m_slices_Reverse_byte_byte n s_0 = some r) (hE0 : Ext w0 w) (hW : w0.heap.size ≤ B) (hL : B ≤ w.heap.size) (hS : SH w B (aFz 5 a0' c0' s_0 :: L)) :
    CallV Try.prog 77 #[.slice a0' s_0.length c0'] w (fun v w' => v = .tuple #[] ∧ Below B w w' ∧ SH w' B (aFz 5 a0' c0' r :: L) ∧ r.length = s_0.length) := by
  unfold m_slices_Reverse_byte_byte at hm
  refine CallV.enter Try.func77 rfl (by kernel_rfl) Try.ntmps77 (env := [(0, .slice a0' s_0.length c0')]) ⟨rfl, trivial⟩ ?_
  refine WP.seq (fun K1 hK1 => ?_)
  refine WP.region ?_
  refine WL.runk 5 [0, 2, 3] [(0, .slice a0' s_0.length c0'), (2, .int .i64 0), (3, .int .i64 (wI64 ((s_0.length : Int) - 1)))] (by kernel_rfl) ?_
  refine WL.nil ?_
  refine WQ.then_normal (hK1 _ _ _ ?_)
  refine WP.block ?_
  obtain ⟨t60, ht61, hm⟩ := bindE hm
  have hmo55 := hm; clear hm
  refine WP.sub [(0, .slice a0' s_0.length c0'), (2, .int .i64 0), (3, .int .i64 (wI64 ((s_0.length : Int) - 1)))] ⟨rfl, rfl, rfl, trivial⟩ ?_
  refine WP.loop (fun n' env' w' => ∃ (st49 : Int × Int × List Int) , env' = [(0, .slice a0' st49.2.2.length c0'), (2, .int .i64 st49.1), (3, .int .i64 st49.2.1)] ∧ Below B w w' ∧ B ≤ w'.heap.size ∧ SH w' B (aFz 5 a0' c0' st49.2.2 :: L) ∧ st49.2.2.length = s_0.length ∧ loopN (m_slices_Reverse_byte_byte_l1 n) n' st49 = some t60) n ⟨(0, (wI64 ((s_0.length : Int) - 1)), s_0), rfl, (Below.refl _ _), hL, hS, rfl, ht61⟩ ?_
  rintro n57 _ w50 ⟨st49, rfl, hb51, hL52, hS53, hn62, hl54⟩ K56 hK56
  obtain ⟨n58, s59, rfl, hm, hl54⟩ := loopN_some hl54
  unfold m_slices_Reverse_byte_byte_l1 at hm
  refine WP.seq (fun K63 hK63 => ?_)
  refine WP.seq (fun K64 hK64 => ?_)
  refine WP.region ?_
  refine WL.runk 3 [0, 2, 3, 9] [(0, .slice a0' st49.2.2.length c0'), (2, .int .i64 st49.1), (3, .int .i64 st49.2.1), (9, .bool (decide (st49.1 < st49.2.1)))] (by kernel_rfl) ?_
  refine WL.nil ?_
  refine WQ.then_normal (hK64 _ _ _ ?_)
  refine WP.cond (decide (st49.1 < st49.2.1)) rfl rfl (fun hc65 => ?_) (fun hc65 => ?_)
  · have hm := iteT hm hc65
    refine WP.skip ?_
    refine WQ.then_normal (hK63 _ _ _ ?_)
    refine WP.seq (fun K66 hK66 => ?_)
    refine WP.block ?_
    refine WP.open (n := 16) (by kernel_rfl) rfl (fun w67 hE68 => ?_)
    have hb69 : Below B w w67 := Below.trans hb51 (Below.mono hE68 hL52)
    have hL70 : B ≤ w67.heap.size := Nat.le_trans hL52 hE68.size
    have hS71 : SH w67 B (aFz 5 a0' c0' st49.2.2 :: L) := SH.ext hS53 hE68
    refine WA.pre (i := 2) (D' := [2]) [(0, .slice a0' st49.2.2.length c0'), (2, .int .i64 st49.1), (3, .int .i64 st49.2.1), (9, .bool (decide (st49.1 < st49.2.1))), (16, .slice a0' st49.2.2.length c0')] rfl (by kernel_rfl) rfl (fun _ => by kernel_rfl) rfl ?_
    refine WA.pre (i := 3) (D' := [2, 3]) [(0, .slice a0' st49.2.2.length c0'), (2, .int .i64 st49.1), (3, .int .i64 st49.2.1), (9, .bool (decide (st49.1 < st49.2.1))), (16, .slice a0' st49.2.2.length c0'), (17, .int .i64 st49.2.1)] rfl (by kernel_rfl) rfl (fun _ => by kernel_rfl) rfl ?_
    refine WA.quiet (f' := 3) (D' := [2, 3, 0, 1, 4, 5, 6, 7, 8, 9, 10, 11, 12]) [0, 1, 4, 5, 6, 7, 8, 9, 10, 11, 12] rfl rfl (by kernel_rfl) ?_
    refine QL.step1 rfl (env' := [(0, .slice a0' st49.2.2.length c0'), (2, .int .i64 st49.1), (3, .int .i64 st49.2.1), (9, .bool (decide (st49.1 < st49.2.1))), (16, .slice a0' st49.2.2.length c0'), (17, .int .i64 st49.2.1), (14, .slice a0' st49.2.2.length c0')]) (fun _ => by kernel_rfl) ?_
    refine QL.sub [(0, .slice a0' st49.2.2.length c0'), (2, .int .i64 st49.1), (3, .int .i64 st49.2.1), (16, .slice a0' st49.2.2.length c0'), (17, .int .i64 st49.2.1), (14, .slice a0' st49.2.2.length c0')] ⟨rfl, rfl, rfl, rfl, rfl, rfl, trivial⟩ ?_
    refine QL.step1 rfl (env' := [(0, .slice a0' st49.2.2.length c0'), (2, .int .i64 st49.1), (3, .int .i64 st49.2.1), (16, .slice a0' st49.2.2.length c0'), (17, .int .i64 st49.2.1), (14, .slice a0' st49.2.2.length c0'), (15, .int .i64 st49.1)]) (fun _ => by kernel_rfl) ?_
    refine QL.step1 rfl (env' := [(0, .slice a0' st49.2.2.length c0'), (2, .int .i64 st49.1), (3, .int .i64 st49.2.1), (16, .slice a0' st49.2.2.length c0'), (17, .int .i64 st49.2.1), (14, .slice a0' st49.2.2.length c0'), (15, .int .i64 st49.1), (18, .slice a0' st49.2.2.length c0')]) (fun _ => by kernel_rfl) ?_
    refine QL.step1 rfl (env' := [(0, .slice a0' st49.2.2.length c0'), (2, .int .i64 st49.1), (3, .int .i64 st49.2.1), (16, .slice a0' st49.2.2.length c0'), (17, .int .i64 st49.2.1), (14, .slice a0' st49.2.2.length c0'), (15, .int .i64 st49.1), (18, .slice a0' st49.2.2.length c0'), (19, .int .i64 st49.2.1)]) (fun _ => by kernel_rfl) ?_
    obtain ⟨x72, hx73, hm⟩ := bindE hm
    refine QL.st (.pointer (some (at_ a0' (Int.toNat st49.2.1 * 1)))) (ST.index (T := fU8.ty) (xs := st49.2.2) (SH.rdFz (SH.front 0 hS71)) hx73 rfl rfl rfl Try.underlying46 (info5).1 (info5).2.1) rfl rfl rfl ?_
    refine QL.st (.int .u8 x72) (ST.load (cell_ext (Rd.flat (F := fU8) (SH.rdFz (SH.front 0 hS71)) hx73 0 rfl)) rfl rfl Try.underlying5 rfl) rfl rfl rfl ?_
    refine QL.step1 rfl (env' := [(0, .slice a0' st49.2.2.length c0'), (2, .int .i64 st49.1), (3, .int .i64 st49.2.1), (16, .slice a0' st49.2.2.length c0'), (17, .int .i64 st49.2.1), (14, .slice a0' st49.2.2.length c0'), (15, .int .i64 st49.1), (18, .slice a0' st49.2.2.length c0'), (19, .int .i64 st49.2.1), (20, .pointer (some (at_ a0' (Int.toNat st49.2.1 * 1)))), (21, .int .u8 x72), (22, .slice a0' st49.2.2.length c0')]) (fun _ => by kernel_rfl) ?_
    refine QL.sub [(0, .slice a0' st49.2.2.length c0'), (2, .int .i64 st49.1), (3, .int .i64 st49.2.1), (16, .slice a0' st49.2.2.length c0'), (17, .int .i64 st49.2.1), (14, .slice a0' st49.2.2.length c0'), (15, .int .i64 st49.1), (21, .int .u8 x72), (22, .slice a0' st49.2.2.length c0')] ⟨rfl, rfl, rfl, rfl, rfl, rfl, rfl, rfl, rfl, trivial⟩ ?_
    refine QL.step1 rfl (env' := [(0, .slice a0' st49.2.2.length c0'), (2, .int .i64 st49.1), (3, .int .i64 st49.2.1), (16, .slice a0' st49.2.2.length c0'), (17, .int .i64 st49.2.1), (14, .slice a0' st49.2.2.length c0'), (15, .int .i64 st49.1), (21, .int .u8 x72), (22, .slice a0' st49.2.2.length c0'), (23, .int .i64 st49.1)]) (fun _ => by kernel_rfl) ?_
    obtain ⟨x74, hx75, hm⟩ := bindE hm
    refine QL.st (.pointer (some (at_ a0' (Int.toNat st49.1 * 1)))) (ST.index (T := fU8.ty) (xs := st49.2.2) (SH.rdFz (SH.front 0 hS71)) hx75 rfl rfl rfl Try.underlying46 (info5).1 (info5).2.1) rfl rfl rfl ?_
    refine QL.st (.int .u8 x74) (ST.load (cell_ext (Rd.flat (F := fU8) (SH.rdFz (SH.front 0 hS71)) hx75 0 rfl)) rfl rfl Try.underlying5 rfl) rfl rfl rfl ?_
    obtain ⟨x76, hx77, hm⟩ := bindE hm
    refine QL.st (.pointer (some (at_ a0' (Int.toNat st49.1 * 1)))) (ST.index (T := fU8.ty) (xs := st49.2.2) (SH.rdFz (SH.front 0 hS71)) hx77 rfl rfl rfl Try.underlying46 (info5).1 (info5).2.1) rfl rfl rfl ?_
    refine QL.sub [(0, .slice a0' st49.2.2.length c0'), (2, .int .i64 st49.1), (3, .int .i64 st49.2.1), (16, .slice a0' st49.2.2.length c0'), (17, .int .i64 st49.2.1), (21, .int .u8 x72), (25, .int .u8 x74), (26, .pointer (some (at_ a0' (Int.toNat st49.1 * 1))))] ⟨rfl, rfl, rfl, rfl, rfl, rfl, rfl, rfl, trivial⟩ ?_
    refine QL.nil ?_
    intro w78 hE79
    have hb80 : Below B w w78 := Below.trans hb69 (Below.mono hE79 hL70)
    have hL81 : B ≤ w78.heap.size := Nat.le_trans hL70 hE79.size
    have hS82 : SH w78 B (aFz 5 a0' c0' st49.2.2 :: L) := SH.ext hS71 hE79
    refine WA.one (i := 13) (D' := [2, 3, 0, 1, 4, 5, 6, 7, 8, 9, 10, 11, 12, 13]) rfl rfl (by kernel_rfl) ?_
    refine WL.storeFz (SH.front 0 hS82) hL81 hx77 rfl rfl rfl (info5).1 (info5).2.1 rfl rfl rfl ?_
    intro w83 hB84 hS85
    have hb86 : Below B w w83 := Below.trans hb80 hB84
    have hL87 : B ≤ w83.heap.size := Nat.le_trans hL81 hB84.size
    refine WL.sub [(0, .slice a0' ((st49.2.2.set (Int.toNat st49.1) x72).length) c0'), (2, .int .i64 st49.1), (3, .int .i64 st49.2.1), (16, .slice a0' ((st49.2.2.set (Int.toNat st49.1) x72).length) c0'), (17, .int .i64 st49.2.1), (21, .int .u8 x72), (25, .int .u8 x74)] ⟨by first | (simp only [List.length_set]; done) | (simp only [List.length_set]; rfl), rfl, rfl, by first | (simp only [List.length_set]; done) | (simp only [List.length_set]; rfl), rfl, rfl, rfl, trivial⟩ ?_
    have hn88 : (st49.2.2.set (Int.toNat st49.1) x72).length = s_0.length := List.length_set.trans hn62
    refine WL.sub [(0, .slice a0' ((st49.2.2.set (Int.toNat st49.1) x72).length) c0'), (2, .int .i64 st49.1), (3, .int .i64 st49.2.1), (16, .slice a0' ((st49.2.2.set (Int.toNat st49.1) x72).length) c0'), (17, .int .i64 st49.2.1), (25, .int .u8 x74)] ⟨rfl, rfl, rfl, rfl, rfl, rfl, trivial⟩ ?_
    refine WL.nil ?_
    refine WA.one (i := 14) (D' := [2, 3, 0, 1, 4, 5, 6, 7, 8, 9, 10, 11, 12, 13, 14]) rfl rfl (by kernel_rfl) ?_
    obtain ⟨x89, hx90, hm⟩ := bindE hm
    refine WL.st (.pointer (some (at_ a0' (Int.toNat st49.2.1 * 1)))) (ST.index (T := fU8.ty) (xs := (st49.2.2.set (Int.toNat st49.1) x72)) (SH.rdFz (SH.front 0 hS85)) hx90 rfl rfl rfl Try.underlying46 (info5).1 (info5).2.1) rfl rfl rfl ?_
    refine WL.sub [(0, .slice a0' ((st49.2.2.set (Int.toNat st49.1) x72).length) c0'), (2, .int .i64 st49.1), (3, .int .i64 st49.2.1), (25, .int .u8 x74), (27, .pointer (some (at_ a0' (Int.toNat st49.2.1 * 1))))] ⟨rfl, rfl, rfl, rfl, rfl, trivial⟩ ?_
    refine WL.nil ?_
    refine WA.one (i := 15) (D' := [2, 3, 0, 1, 4, 5, 6, 7, 8, 9, 10, 11, 12, 13, 14, 15]) rfl rfl (by kernel_rfl) ?_
    refine WL.storeFz (SH.front 0 hS85) hL87 hx90 rfl rfl rfl (info5).1 (info5).2.1 rfl rfl rfl ?_
    intro w91 hB92 hS93
    have hb94 : Below B w w91 := Below.trans hb86 hB92
    have hL95 : B ≤ w91.heap.size := Nat.le_trans hL87 hB92.size
    refine WL.sub [(0, .slice a0' (((st49.2.2.set (Int.toNat st49.1) x72).set (Int.toNat st49.2.1) x74).length) c0'), (2, .int .i64 st49.1), (3, .int .i64 st49.2.1), (25, .int .u8 x74)] ⟨by first | (simp only [List.length_set]; done) | (simp only [List.length_set]; rfl), rfl, rfl, rfl, trivial⟩ ?_
    have hn96 : ((st49.2.2.set (Int.toNat st49.1) x72).set (Int.toNat st49.2.1) x74).length = s_0.length := List.length_set.trans hn88
    refine WL.sub [(0, .slice a0' (((st49.2.2.set (Int.toNat st49.1) x72).set (Int.toNat st49.2.1) x74).length) c0'), (2, .int .i64 st49.1), (3, .int .i64 st49.2.1)] ⟨rfl, rfl, rfl, trivial⟩ ?_
    refine WL.nil ?_
    refine WA.done (by kernel_rfl) ?_
    refine WQ.block_normal ?_
    refine WQ.then_normal (hK66 _ _ _ ?_)
    refine WP.region ?_
    refine WL.runk 6 [0, 2, 3] [(0, .slice a0' (((st49.2.2.set (Int.toNat st49.1) x72).set (Int.toNat st49.2.1) x74).length) c0'), (2, .int .i64 (wI64 (st49.1 + 1))), (3, .int .i64 (wI64 (st49.2.1 - 1)))] (by kernel_rfl) ?_
    refine WL.nil ?_
    obtain rfl := Option.some.inj hm
    exact WQ.round hK56 ⟨((wI64 (st49.1 + 1)), (wI64 (st49.2.1 - 1)), ((st49.2.2.set (Int.toNat st49.1) x72).set (Int.toNat st49.2.1) x74)), rfl, hb94, hL95, hS93, hn96, hl54⟩ (Nat.lt_succ_self _) ⟨rfl, rfl, rfl, trivial⟩
  · have hm := iteF hm hc65
    refine WP.exit ?_
    refine WQ.then_exit ?_
    refine WQ.then_exit ?_
    refine WQ.block_here ?_
    obtain rfl := Option.some.inj hm
    obtain rfl := afterN_done hl54
    have hm := hmo55
    obtain rfl := Option.some.inj hm
    exact WQ.end0 rfl ⟨rfl, hb51, hS53, hn62⟩

theorem c_56 (n : Nat) (rows_0 : List (List UInt8)) (a0' : Option Addr) (c0' : Nat) (w : World) {r : List (List UInt8)} (hm : m_impl_mirrorWear n rows_0 = some r) (h0 : Rd fStr.ty w a0' rows_0) (hle0 : rows_0.length ≤ c0') :
    CallV Try.prog 56 #[.slice a0' rows_0.length c0'] w (fun v w' => ∃ (ra0 : Option Addr) (rc0 : Nat), v = .slice ra0 r.length rc0 ∧ Ext w w' ∧ SH w' w.heap.size [aOwn fStr 9 ra0 rc0 r]) := by
  unfold m_impl_mirrorWear at hm
  refine CallV.enter Try.func56 rfl (by kernel_rfl) Try.ntmps56 (env := [(0, .slice a0' rows_0.length c0')]) ⟨rfl, trivial⟩ ?_
  refine WP.seq (fun K1 hK1 => ?_)
  refine WP.region ?_
  refine WL.runk 1 [0] [(0, .slice a0' rows_0.length c0')] (by kernel_rfl) ?_
  refine WL.nil ?_
  refine WQ.then_normal (hK1 _ _ _ ?_)
  refine WP.seq (fun K2 hK2 => ?_)
  refine WP.region ?_
  refine WL.row fStr 9 ([] : List (List UInt8)) 0 #[] 7 (by kernel_rfl) rfl rfl rfl rfl rfl rfl rfl ?_
  intro a3 c4 w5 hE6 hR7
  have hb9 : Ext w w5 := Ext.trans (Ext.refl w) hE6
  have hL10 : w.heap.size ≤ w5.heap.size := Nat.le_trans (Nat.le_refl _) hE6.size
  have hS11 : SH w5 w.heap.size [aOwn fStr 9 a3 c4 ([] : List (List UInt8))] := SH.add (SH.nil _ _) hE6 (Nat.le_refl _) hR7
  refine WL.runk 1 [0, 3] [(0, .slice a0' rows_0.length c0'), (3, .slice a3 (([] : List (List UInt8)).length) c4)] (by kernel_rfl) ?_
  refine WL.nil ?_
  refine WQ.then_normal (hK2 _ _ _ ?_)
  refine WP.seq (fun K12 hK12 => ?_)
  refine WP.seq (fun K13 hK13 => ?_)
  refine WP.region ?_
  refine WL.runk 3 [3, 8, 9, 10] [(3, .slice a3 (([] : List (List UInt8)).length) c4), (8, .slice a0' rows_0.length c0'), (9, .int .i64 (rows_0.length : Int)), (10, .int .i64 0)] (by kernel_rfl) ?_
  refine WL.nil ?_
  refine WQ.then_normal (hK13 _ _ _ ?_)
  refine WP.block ?_
  obtain ⟨t28, ht29, hm⟩ := bindE hm
  have hmo23 := hm; clear hm
  refine WP.sub [(3, .slice a3 (([] : List (List UInt8)).length) c4), (8, .slice a0' rows_0.length c0'), (9, .int .i64 (rows_0.length : Int)), (10, .int .i64 0)] ⟨rfl, rfl, rfl, rfl, trivial⟩ ?_
  refine WP.loop (fun n' env' w' => ∃ (st14 : List (List UInt8) × Int) (a15 : Option Addr) (c16 : Nat), env' = [(3, .slice a15 st14.1.length c16), (8, .slice a0' rows_0.length c0'), (9, .int .i64 (rows_0.length : Int)), (10, .int .i64 st14.2)] ∧ Ext w w' ∧ w.heap.size ≤ w'.heap.size ∧ SH w' w.heap.size [aOwn fStr 9 a15 c16 st14.1] ∧ loopN (m_impl_mirrorWear_l1 n rows_0) n' st14 = some t28) n ⟨(([] : List (List UInt8)), 0), _, _, rfl, hb9, hL10, hS11, ht29⟩ ?_
  rintro n25 _ w18 ⟨st14, a15, c16, rfl, hb19, hL20, hS21, hl22⟩ K24 hK24
  obtain ⟨n26, s27, rfl, hm, hl22⟩ := loopN_some hl22
  unfold m_impl_mirrorWear_l1 at hm
  refine WP.seq (fun K30 hK30 => ?_)
  refine WP.region ?_
  refine WL.runk 1 [3, 8, 9, 10, 11] [(3, .slice a15 st14.1.length c16), (8, .slice a0' rows_0.length c0'), (9, .int .i64 (rows_0.length : Int)), (10, .int .i64 st14.2), (11, .bool (decide (st14.2 < (rows_0.length : Int))))] (by kernel_rfl) ?_
  refine WL.nil ?_
  refine WQ.then_normal (hK30 _ _ _ ?_)
  refine WP.seq (fun K31 hK31 => ?_)
  refine WP.cond (decide (st14.2 < (rows_0.length : Int))) rfl rfl (fun hc32 => ?_) (fun hc32 => ?_)
  · have hm := iteT hm hc32
    refine WP.skip ?_
    refine WQ.then_normal (hK31 _ _ _ ?_)
    refine WP.seq (fun K33 hK33 => ?_)
    refine WP.block ?_
    refine WP.seq (fun K34 hK34 => ?_)
    refine WP.region ?_
    obtain ⟨x35, hx36, hm⟩ := bindE hm
    refine WL.st (.pointer (some (at_ a0' (Int.toNat st14.2 * 1)))) (ST.index (T := fStr.ty) (xs := rows_0) (Rd.below h0 hb19) hx36 rfl rfl rfl Try.underlying22 (info9).1 (info9).2.1) rfl rfl rfl ?_
    refine WL.st (.string (bs x35)) (ST.load (cell_ext (Rd.flat (F := fStr) (Rd.below h0 hb19) hx36 0 rfl)) rfl rfl Try.underlying9 rfl) rfl rfl rfl ?_
    refine WL.runk 1 [3, 5, 8, 9, 10] [(3, .slice a15 st14.1.length c16), (8, .slice a0' rows_0.length c0'), (9, .int .i64 (rows_0.length : Int)), (10, .int .i64 st14.2), (5, .string (bs x35))] (by kernel_rfl) ?_
    refine WL.nil ?_
    refine WQ.then_normal (hK34 _ _ _ ?_)
    refine WP.seq (fun K37 hK37 => ?_)
    refine WP.region ?_
    refine WL.runk 1 [3, 8, 9, 10, 14] [(3, .slice a15 st14.1.length c16), (8, .slice a0' rows_0.length c0'), (9, .int .i64 (rows_0.length : Int)), (10, .int .i64 st14.2), (14, .string (bs x35))] (by kernel_rfl) ?_
    refine WL.bytes 15 rfl rfl Try.underlying9 Try.underlying46 Try.underlying5 rfl rfl rfl rfl ?_
    intro a38 c39 w40 hE41 hR42
    have hb44 : Ext w w40 := Ext.trans hb19 hE41
    have hL45 : w.heap.size ≤ w40.heap.size := Nat.le_trans hL20 hE41.size
    have hS46 : SH w40 w.heap.size [aFz 5 a38 c39 (toBytes x35), aOwn fStr 9 a15 c16 st14.1] := SH.add hS21 hE41 hL20 hR42
    refine WL.runk 1 [3, 6, 8, 9, 10] [(3, .slice a15 st14.1.length c16), (8, .slice a0' rows_0.length c0'), (9, .int .i64 (rows_0.length : Int)), (10, .int .i64 st14.2), (6, .slice a38 ((toBytes x35).length) c39)] (by kernel_rfl) ?_
    refine WL.nil ?_
    refine WQ.then_normal (hK37 _ _ _ ?_)
    refine WP.seq (fun K47 hK47 => ?_)
    refine WP.region ?_
    refine WL.runk 1 [3, 6, 8, 9, 10, 16] [(3, .slice a15 st14.1.length c16), (8, .slice a0' rows_0.length c0'), (9, .int .i64 (rows_0.length : Int)), (10, .int .i64 st14.2), (6, .slice a38 ((toBytes x35).length) c39), (16, .slice a38 ((toBytes x35).length) c39)] (by kernel_rfl) ?_
    obtain ⟨x48, hx49, hm⟩ := bindE hm
    refine WL.call 77 #[.slice a38 ((toBytes x35).length) c39] rfl rfl (by kernel_rfl) (c_77 n (toBytes x35) a38 c39 w40 w w.heap.size [aOwn fStr 9 a15 c16 st14.1] hx49 hb44 (Nat.le_refl _) hL45  hS46) ?_
    rintro _ w50 ⟨rfl, hB54, hS53, hlen55⟩
    refine ⟨_, rfl, ?_⟩
    have hb56 : Ext w w50 := Below.trans hb44 hB54
    have hL57 : w.heap.size ≤ w50.heap.size := Nat.le_trans hL45 hB54.size
    refine WL.sub [(3, .slice a15 st14.1.length c16), (8, .slice a0' rows_0.length c0'), (9, .int .i64 (rows_0.length : Int)), (10, .int .i64 st14.2), (6, .slice a38 x48.length c39), (16, .slice a38 x48.length c39), (17, .tuple #[])] ⟨rfl, rfl, rfl, rfl, by rw [hlen55]; rfl, by rw [hlen55]; rfl, rfl, trivial⟩ ?_
    refine WL.sub [(3, .slice a15 st14.1.length c16), (8, .slice a0' rows_0.length c0'), (9, .int .i64 (rows_0.length : Int)), (10, .int .i64 st14.2), (6, .slice a38 x48.length c39)] ⟨rfl, rfl, rfl, rfl, rfl, trivial⟩ ?_
    refine WL.nil ?_
    refine WQ.then_normal (hK47 _ _ _ ?_)
    refine WP.region ?_
    refine WL.runk 2 [8, 9, 10, 18, 19] [(8, .slice a0' rows_0.length c0'), (9, .int .i64 (rows_0.length : Int)), (10, .int .i64 st14.2), (18, .slice a15 st14.1.length c16), (19, .slice a38 x48.length c39)] (by kernel_rfl) ?_
    refine WL.st (.string (bs (ofBytes x48))) (ST.b2s (SH.rdFz (SH.front 0 hS53)) (SH.leFz (SH.front 0 hS53)).2 rfl rfl Try.underlying46 Try.underlying9 Try.underlying5) rfl rfl rfl ?_
    refine WL.row fStr 9 ([(ofBytes x48)] : List (List UInt8)) 1 #[.string (bs (ofBytes x48))] 21 (by kernel_rfl) rfl rfl rfl rfl rfl rfl rfl ?_
    intro a58 c59 w60 hE61 hR62
    have hb64 : Ext w w60 := Ext.trans hb56 hE61
    have hL65 : w.heap.size ≤ w60.heap.size := Nat.le_trans hL57 hE61.size
    have hS66 : SH w60 w.heap.size [aOwn fStr 9 a58 c59 ([(ofBytes x48)] : List (List UInt8)), aFz 5 a38 c39 x48, aOwn fStr 9 a15 c16 st14.1] := SH.add hS53 hE61 hL57 hR62
    obtain ⟨x67, hx68, hm⟩ := bindE hm
    refine WL.append (F := fStr) (xs := st14.1) (ys := ([(ofBytes x48)] : List (List UInt8))) 22 (SH.front 2 hS66) hL65 (SH.rd (SH.front 0 hS66)) hx68 rfl rfl rfl Try.underlying22 (info9).1 (info9).2.2.1 (info9).2.1 (info9).2.2.2 rfl rfl rfl rfl rfl ?_
    intro a69 c70 w71 hB72 hS73
    have hb74 : Ext w w71 := Below.trans hb64 hB72
    have hL75 : w.heap.size ≤ w71.heap.size := Nat.le_trans hL65 hB72.size
    refine WL.runk 1 [3, 8, 9, 10] [(8, .slice a0' rows_0.length c0'), (9, .int .i64 (rows_0.length : Int)), (10, .int .i64 st14.2), (3, .slice a69 x67.length c70)] (by kernel_rfl) ?_
    refine WL.nil ?_
    refine WQ.block_normal ?_
    refine WQ.then_normal (hK33 _ _ _ ?_)
    refine WP.region ?_
    refine WL.runk 2 [3, 8, 9, 10] [(8, .slice a0' rows_0.length c0'), (9, .int .i64 (rows_0.length : Int)), (10, .int .i64 (wI64 (st14.2 + 1))), (3, .slice a69 x67.length c70)] (by kernel_rfl) ?_
    refine WL.nil ?_
    obtain rfl := Option.some.inj hm
    exact WQ.round hK24 ⟨(x67, (wI64 (st14.2 + 1))), _, _, rfl, hb74, hL75, (SH.take 1 hS73), hl22⟩ (Nat.lt_succ_self _) ⟨rfl, rfl, rfl, rfl, trivial⟩
  · have hm := iteF hm hc32
    refine WP.exit ?_
    refine WQ.then_exit ?_
    refine WQ.then_exit ?_
    refine WQ.block_here ?_
    obtain rfl := Option.some.inj hm
    obtain rfl := afterN_done hl22
    have hm := hmo23
    refine WQ.then_normal (hK12 _ _ _ ?_)
    refine WP.seq (fun K76 hK76 => ?_)
    refine WP.region ?_
    refine WL.runk 2 [2] [(2, .slice a15 st14.1.length c16)] (by kernel_rfl) ?_
    refine WL.nil ?_
    refine WQ.then_normal (hK76 _ _ _ ?_)
    refine WP.ret ?_
    obtain rfl := Option.some.inj hm
    exact WQ.ret1 _ rfl rfl ⟨_, _, rfl, hb19, hS21⟩

theorem c_23 (n : Nat) (rows_0 : List (List UInt8)) (a0' : Option Addr) (c0' : Nat) (w : World) {r : List (List UInt8) × Int} (hm : m_impl_MirrorWear n rows_0 = some r) (h0 : Rd fStr.ty w a0' rows_0) (hle0 : rows_0.length ≤ c0') :
    CallV Try.prog 23 #[.slice a0' rows_0.length c0'] w (fun v w' => ∃ (ra0 : Option Addr) (rc0 : Nat), v = .tuple #[.slice ra0 r.1.length rc0, .int .i64 r.2] ∧ Ext w w' ∧ SH w' w.heap.size [aOwn fStr 9 ra0 rc0 r.1]) := by
  unfold m_impl_MirrorWear at hm
  refine CallV.enter Try.func23 rfl (by kernel_rfl) Try.ntmps23 (env := [(0, .slice a0' rows_0.length c0')]) ⟨rfl, trivial⟩ ?_
  refine WP.seq (fun K1 hK1 => ?_)
  refine WP.region ?_
  refine WL.runk 2 [0] [(0, .slice a0' rows_0.length c0')] (by kernel_rfl) ?_
  refine WL.nil ?_
  refine WQ.then_normal (hK1 _ _ _ ?_)
  refine WP.seq (fun K2 hK2 => ?_)
  refine WP.seq (fun K3 hK3 => ?_)
  refine WP.region ?_
  refine WL.runk 1 [0, 4] [(0, .slice a0' rows_0.length c0'), (4, .slice a0' rows_0.length c0')] (by kernel_rfl) ?_
  obtain ⟨x4, hx5, hm⟩ := bindE hm
  refine WL.call 18 #[.slice a0' rows_0.length c0'] rfl rfl (by kernel_rfl) (c_18 n rows_0 a0' c0' w hx5 (Rd.below h0 (Ext.refl w)) hle0) ?_
  rintro _ w6 ⟨rfl, hE7⟩
  refine ⟨_, rfl, ?_⟩
  have hb9 : Ext w w6 := Ext.trans (Ext.refl w) hE7
  have hL10 : w.heap.size ≤ w6.heap.size := Nat.le_trans (Nat.le_refl _) hE7.size
  have hS11 : SH w6 w.heap.size [] := SH.ext (SH.nil _ _) hE7
  refine WL.runk 1 [0, 6] [(0, .slice a0' rows_0.length c0'), (6, .bool (!x4))] (by kernel_rfl) ?_
  refine WL.nil ?_
  refine WQ.then_normal (hK3 _ _ _ ?_)
  refine WP.cond (!x4) rfl rfl (fun hc12 => ?_) (fun hc12 => ?_)
  · have hm := iteT hm hc12
    refine WP.seq (fun K13 hK13 => ?_)
    refine WP.region ?_
    refine WL.runk 2 [2, 3] [(2, .slice none 0 0), (3, .int .i64 1)] (by kernel_rfl) ?_
    refine WL.nil ?_
    refine WQ.then_normal (hK13 _ _ _ ?_)
    refine WP.ret ?_
    refine WQ.then_ret ?_
    obtain rfl := Option.some.inj hm
    have hS15 : SH w6 w.heap.size [aOwn fStr 9 none 0 ([] : List (List UInt8))] := SH.nilOwn hS11
    exact WQ.ret2 _ _ rfl rfl rfl ⟨_, _, rfl, hb9, hS15⟩
  · have hm := iteF hm hc12
    refine WP.skip ?_
    refine WQ.then_normal (hK2 _ _ _ ?_)
    refine WP.seq (fun K16 hK16 => ?_)
    refine WP.region ?_
    refine WL.runk 1 [7] [(7, .slice a0' rows_0.length c0')] (by kernel_rfl) ?_
    obtain ⟨x17, hx18, hm⟩ := bindE hm
    refine WL.call 56 #[.slice a0' rows_0.length c0'] rfl rfl (by kernel_rfl) (c_56 n rows_0 a0' c0' w6 hx18 (Rd.below h0 hb9) hle0) ?_
    rintro _ w22 ⟨a19, c20, rfl, hE23, hR24⟩
    refine ⟨_, rfl, ?_⟩
    have hb25 : Ext w w22 := Ext.trans hb9 hE23
    have hL26 : w.heap.size ≤ w22.heap.size := Nat.le_trans hL10 hE23.size
    have hS27 : SH w22 w.heap.size [aOwn fStr 9 a19 c20 x17] := SH.add hS11 hE23 hL10 hR24
    refine WL.runk 2 [2, 3] [(2, .slice a19 x17.length c20), (3, .int .i64 0)] (by kernel_rfl) ?_
    refine WL.nil ?_
    refine WQ.then_normal (hK16 _ _ _ ?_)
    refine WP.ret ?_
    obtain rfl := Option.some.inj hm
    exact WQ.ret2 _ _ rfl rfl rfl ⟨_, _, rfl, hb25, hS27⟩

theorem c_57 (n : Nat) (k_0 : Int) (w : World) {r : List UInt8} (hm : m_laws_markText n k_0 = some r)  :
    CallV Try.prog 57 #[.int .i64 k_0] w (fun v w' => v = .string (bs r) ∧ Ext w w') := by
  unfold m_laws_markText at hm
  refine CallV.enter Try.func57 rfl (by kernel_rfl) Try.ntmps57 (env := [(0, .int .i64 k_0)]) ⟨rfl, trivial⟩ ?_
  refine WP.seq (fun K1 hK1 => ?_)
  refine WP.region ?_
  refine WL.runk 1 [0] [(0, .int .i64 k_0)] (by kernel_rfl) ?_
  refine WL.nil ?_
  refine WQ.then_normal (hK1 _ _ _ ?_)
  refine WP.seq (fun K2 hK2 => ?_)
  refine WP.seq (fun K3 hK3 => ?_)
  refine WP.region ?_
  refine WL.runk 2 [0, 5] [(0, .int .i64 k_0), (5, .bool (decide (k_0 ≤ 0)))] (by kernel_rfl) ?_
  refine WL.nil ?_
  refine WQ.then_normal (hK3 _ _ _ ?_)
  refine WP.cond (decide (k_0 ≤ 0)) rfl rfl (fun hc4 => ?_) (fun hc4 => ?_)
  · have hm := iteT hm hc4
    refine WP.seq (fun K5 hK5 => ?_)
    refine WP.region ?_
    refine WL.runk 1 [2] [(2, .string (bs [109, 48]))] (by kernel_rfl) ?_
    refine WL.nil ?_
    refine WQ.then_normal (hK5 _ _ _ ?_)
    refine WP.ret ?_
    refine WQ.then_ret ?_
    obtain rfl := Option.some.inj hm
    exact WQ.ret1 _ rfl rfl ⟨rfl, (Ext.refl w)⟩
  · have hm := iteF hm hc4
    refine WP.skip ?_
    refine WQ.then_normal (hK2 _ _ _ ?_)
    refine WP.seq (fun K6 hK6 => ?_)
    refine WP.region ?_
    refine WL.runk 1 [0, 3] [(0, .int .i64 k_0), (3, .string (bs []))] (by kernel_rfl) ?_
    refine WL.nil ?_
    refine WQ.then_normal (hK6 _ _ _ ?_)
    refine WP.seq (fun K7 hK7 => ?_)
    refine WP.block ?_
    obtain ⟨t19, ht20, hm⟩ := bindE hm
    have hmo14 := hm; clear hm
    refine WP.sub [(0, .int .i64 k_0), (3, .string (bs []))] ⟨rfl, rfl, trivial⟩ ?_
    refine WP.loop (fun n' env' w' => ∃ (st8 : Int × List UInt8) , env' = [(0, .int .i64 st8.1), (3, .string (bs st8.2))] ∧ Ext w w' ∧ w.heap.size ≤ w'.heap.size ∧ SH w' w.heap.size [] ∧ loopN (m_laws_markText_l1 n) n' st8 = some t19) n ⟨(k_0, []), rfl, (Ext.refl w), (Nat.le_refl _), (SH.nil _ _), ht20⟩ ?_
    rintro n16 _ w9 ⟨st8, rfl, hb10, hL11, hS12, hl13⟩ K15 hK15
    obtain ⟨n17, s18, rfl, hm, hl13⟩ := loopN_some hl13
    unfold m_laws_markText_l1 at hm
    refine WP.seq (fun K21 hK21 => ?_)
    refine WP.seq (fun K22 hK22 => ?_)
    refine WP.region ?_
    refine WL.runk 2 [0, 3, 7] [(0, .int .i64 st8.1), (3, .string (bs st8.2)), (7, .bool (decide (st8.1 > 0)))] (by kernel_rfl) ?_
    refine WL.nil ?_
    refine WQ.then_normal (hK22 _ _ _ ?_)
    refine WP.cond (decide (st8.1 > 0)) rfl rfl (fun hc23 => ?_) (fun hc23 => ?_)
    · have hm := iteT hm hc23
      refine WP.skip ?_
      refine WQ.then_normal (hK21 _ _ _ ?_)
      refine WP.block ?_
      refine WP.seq (fun K24 hK24 => ?_)
      refine WP.region ?_
      refine WL.runk 4 [0, 3, 11] [(0, .int .i64 st8.1), (3, .string (bs st8.2)), (11, .int .u8 (IntKind.u8.wrap (wI64 (48 + (Int.tmod st8.1 10)))))] (by kernel_rfl) ?_
      refine WL.row fU8 5 ([(IntKind.u8.wrap (wI64 (48 + (Int.tmod st8.1 10))))] : List Int) 1 #[.int .u8 (IntKind.u8.wrap (wI64 (48 + (Int.tmod st8.1 10))))] 12 (by kernel_rfl) rfl rfl rfl rfl rfl rfl rfl ?_
      intro a25 c26 w27 hE28 hR29
      have hb31 : Ext w w27 := Ext.trans hb10 hE28
      have hL32 : w.heap.size ≤ w27.heap.size := Nat.le_trans hL11 hE28.size
      have hS33 : SH w27 w.heap.size [aOwn fU8 5 a25 c26 ([(IntKind.u8.wrap (wI64 (48 + (Int.tmod st8.1 10))))] : List Int)] := SH.add hS12 hE28 hL11 hR29
      refine WL.st (.string (bs (ofBytes ([(IntKind.u8.wrap (wI64 (48 + (Int.tmod st8.1 10))))] : List Int)))) (ST.b2s (SH.rd (SH.front 0 hS33)) (SH.le (SH.front 0 hS33)).2 rfl rfl Try.underlying46 Try.underlying9 Try.underlying5) rfl rfl rfl ?_
      refine WL.runk 1 [0, 13, 14] [(0, .int .i64 st8.1), (13, .string (bs (ofBytes ([(IntKind.u8.wrap (wI64 (48 + (Int.tmod st8.1 10))))] : List Int)))), (14, .string (bs st8.2))] (by kernel_rfl) ?_
      obtain ⟨x34, hx35, hm⟩ := bindE hm
      refine WL.st (.string (bs x34)) (ST.cat hx35 rfl rfl rfl) rfl rfl rfl ?_
      refine WL.runk 1 [0, 3] [(0, .int .i64 st8.1), (3, .string (bs x34))] (by kernel_rfl) ?_
      refine WL.nil ?_
      refine WQ.then_normal (hK24 _ _ _ ?_)
      refine WP.region ?_
      refine WL.runk 3 [0, 3] [(0, .int .i64 (wI64 (Int.tdiv st8.1 10))), (3, .string (bs x34))] (by kernel_rfl) ?_
      refine WL.nil ?_
      refine WQ.block_normal ?_
      obtain rfl := Option.some.inj hm
      exact WQ.round hK15 ⟨((wI64 (Int.tdiv st8.1 10)), x34), rfl, hb31, hL32, (SH.take 0 hS33), hl13⟩ (Nat.lt_succ_self _) ⟨rfl, rfl, trivial⟩
    · have hm := iteF hm hc23
      refine WP.exit ?_
      refine WQ.then_exit ?_
      refine WQ.then_exit ?_
      refine WQ.block_here ?_
      obtain rfl := Option.some.inj hm
      obtain rfl := afterN_done hl13
      have hm := hmo14
      refine WQ.then_normal (hK7 _ _ _ ?_)
      refine WP.seq (fun K36 hK36 => ?_)
      refine WP.region ?_
      refine WL.runk 1 [18] [(18, .string (bs st8.2))] (by kernel_rfl) ?_
      obtain ⟨x37, hx38, hm⟩ := bindE hm
      refine WL.st (.string (bs x37)) (ST.cat hx38 rfl rfl rfl) rfl rfl rfl ?_
      refine WL.runk 1 [2] [(2, .string (bs x37))] (by kernel_rfl) ?_
      refine WL.nil ?_
      refine WQ.then_normal (hK36 _ _ _ ?_)
      refine WP.ret ?_
      obtain rfl := Option.some.inj hm
      exact WQ.ret1 _ rfl rfl ⟨rfl, hb10⟩

theorem c_24 (n : Nat) (a_0 : List (List UInt8)) (a0' : Option Addr) (c0' : Nat) (k_1 : Int) (w : World) (w0 : World) (B : Nat) (L : List Asrt) {r : Int × List (List UInt8)} (hm : m_laws_markStringS n a_0 k_1 = some r) (hE0 : Ext w0 w) (hW : w0.heap.size ≤ B) (hL : B ≤ w.heap.size) (hS : SH w B (aOwn fStr 9 a0' c0' a_0 :: L)) :
    CallV Try.prog 24 #[.slice a0' a_0.length c0', .int .i64 k_1] w (fun v w' => v = .int .i64 r.1 ∧ Below B w w' ∧ SH w' B (aOwn fStr 9 a0' c0' r.2 :: L) ∧ r.2.length = a_0.length) := by
  unfold m_laws_markStringS at hm
  refine CallV.enter Try.func24 rfl (by kernel_rfl) Try.ntmps24 (env := [(0, .slice a0' a_0.length c0'), (1, .int .i64 k_1)]) ⟨rfl, rfl, trivial⟩ ?_
  refine WP.seq (fun K1 hK1 => ?_)
  refine WP.region ?_
  refine WL.runk 1 [0, 1] [(0, .slice a0' a_0.length c0'), (1, .int .i64 k_1)] (by kernel_rfl) ?_
  refine WL.nil ?_
  refine WQ.then_normal (hK1 _ _ _ ?_)
  refine WP.seq (fun K2 hK2 => ?_)
  refine WP.seq (fun K3 hK3 => ?_)
  refine WP.region ?_
  refine WL.runk 1 [0, 1, 5] [(0, .slice a0' a_0.length c0'), (1, .int .i64 k_1), (5, .int .i64 0)] (by kernel_rfl) ?_
  refine WL.nil ?_
  refine WQ.then_normal (hK3 _ _ _ ?_)
  refine WP.block ?_
  obtain ⟨t50, ht51, hm⟩ := bindE hm
  have hmo45 := hm; clear hm
  refine WP.sub [(0, .slice a0' a_0.length c0'), (1, .int .i64 k_1), (5, .int .i64 0)] ⟨rfl, rfl, rfl, trivial⟩ ?_
  refine WP.loop (fun n' env' w' => ∃ (st39 : Int × Int × List (List UInt8)) , env' = [(0, .slice a0' st39.2.2.length c0'), (1, .int .i64 st39.1), (5, .int .i64 st39.2.1)] ∧ Below B w w' ∧ B ≤ w'.heap.size ∧ SH w' B (aOwn fStr 9 a0' c0' st39.2.2 :: L) ∧ st39.2.2.length = a_0.length ∧ loopN (m_laws_markStringS_l1 n) n' st39 = some t50) n ⟨(k_1, 0, a_0), rfl, (Below.refl _ _), hL, hS, rfl, ht51⟩ ?_
  rintro n47 _ w40 ⟨st39, rfl, hb41, hL42, hS43, hn52, hl44⟩ K46 hK46
  obtain ⟨n48, s49, rfl, hm, hl44⟩ := loopN_some hl44
  unfold m_laws_markStringS_l1 at hm
  refine WP.seq (fun K53 hK53 => ?_)
  refine WP.seq (fun K54 hK54 => ?_)
  refine WP.region ?_
  refine WL.runk 4 [0, 1, 5, 9] [(0, .slice a0' st39.2.2.length c0'), (1, .int .i64 st39.1), (5, .int .i64 st39.2.1), (9, .bool (decide (st39.2.1 < (st39.2.2.length : Int))))] (by kernel_rfl) ?_
  refine WL.nil ?_
  refine WQ.then_normal (hK54 _ _ _ ?_)
  refine WP.cond (decide (st39.2.1 < (st39.2.2.length : Int))) rfl rfl (fun hc55 => ?_) (fun hc55 => ?_)
  · have hm := iteT hm hc55
    refine WP.skip ?_
    refine WQ.then_normal (hK53 _ _ _ ?_)
    refine WP.seq (fun K56 hK56 => ?_)
    refine WP.block ?_
    refine WP.seq (fun K57 hK57 => ?_)
    refine WP.region ?_
    refine WL.runk 3 [0, 1, 5, 12, 13, 14] [(0, .slice a0' st39.2.2.length c0'), (1, .int .i64 st39.1), (5, .int .i64 st39.2.1), (12, .slice a0' st39.2.2.length c0'), (13, .int .i64 st39.2.1), (14, .int .i64 st39.1)] (by kernel_rfl) ?_
    obtain ⟨x58, hx59, hm⟩ := bindE hm
    refine WL.call 57 #[.int .i64 st39.1] rfl rfl (by kernel_rfl) (c_57 n st39.1 w40 hx59 ) ?_
    rintro _ w60 ⟨rfl, hE61⟩
    refine ⟨_, rfl, ?_⟩
    have hb63 : Below B w w60 := Below.trans hb41 (Below.mono hE61 hL42)
    have hL64 : B ≤ w60.heap.size := Nat.le_trans hL42 hE61.size
    have hS65 : SH w60 B (aOwn fStr 9 a0' c0' st39.2.2 :: L) := SH.ext hS43 hE61
    obtain ⟨x66, hx67, hm⟩ := bindE hm
    refine WL.st (.pointer (some (at_ a0' (Int.toNat st39.2.1 * 1)))) (ST.index (T := fStr.ty) (xs := st39.2.2) (SH.rd (SH.front 0 hS65)) hx67 rfl rfl rfl Try.underlying22 (info9).1 (info9).2.1) rfl rfl rfl ?_
    refine WL.store (F := fStr) x58 0 [.string (bs x58)] (SH.front 0 hS65) hL64 hx67 rfl rfl rfl rfl rfl rfl rfl (info9).1 (info9).2.1 rfl rfl rfl ?_
    intro w68 hB69 hS70
    have hb71 : Below B w w68 := Below.trans hb63 hB69
    have hL72 : B ≤ w68.heap.size := Nat.le_trans hL64 hB69.size
    refine WL.sub [(0, .slice a0' ((st39.2.2.set (Int.toNat st39.2.1) x58).length) c0'), (1, .int .i64 st39.1), (5, .int .i64 st39.2.1), (12, .slice a0' ((st39.2.2.set (Int.toNat st39.2.1) x58).length) c0'), (13, .int .i64 st39.2.1), (14, .int .i64 st39.1), (15, .string (bs x58))] ⟨by first | (simp only [List.length_set]; done) | (simp only [List.length_set]; rfl), rfl, rfl, by first | (simp only [List.length_set]; done) | (simp only [List.length_set]; rfl), rfl, rfl, rfl, trivial⟩ ?_
    have hn73 : (st39.2.2.set (Int.toNat st39.2.1) x58).length = a_0.length := List.length_set.trans hn52
    refine WL.sub [(0, .slice a0' ((st39.2.2.set (Int.toNat st39.2.1) x58).length) c0'), (1, .int .i64 st39.1), (5, .int .i64 st39.2.1)] ⟨rfl, rfl, rfl, trivial⟩ ?_
    refine WL.nil ?_
    refine WQ.then_normal (hK57 _ _ _ ?_)
    refine WP.region ?_
    refine WL.runk 3 [0, 1, 5] [(0, .slice a0' ((st39.2.2.set (Int.toNat st39.2.1) x58).length) c0'), (1, .int .i64 (wI64 (st39.1 + 1))), (5, .int .i64 st39.2.1)] (by kernel_rfl) ?_
    refine WL.nil ?_
    refine WQ.block_normal ?_
    refine WQ.then_normal (hK56 _ _ _ ?_)
    refine WP.region ?_
    refine WL.runk 3 [0, 1, 5] [(0, .slice a0' ((st39.2.2.set (Int.toNat st39.2.1) x58).length) c0'), (1, .int .i64 (wI64 (st39.1 + 1))), (5, .int .i64 (wI64 (st39.2.1 + 1)))] (by kernel_rfl) ?_
    refine WL.nil ?_
    obtain rfl := Option.some.inj hm
    exact WQ.round hK46 ⟨((wI64 (st39.1 + 1)), (wI64 (st39.2.1 + 1)), (st39.2.2.set (Int.toNat st39.2.1) x58)), rfl, hb71, hL72, hS70, hn73, hl44⟩ (Nat.lt_succ_self _) ⟨rfl, rfl, rfl, trivial⟩
  · have hm := iteF hm hc55
    refine WP.exit ?_
    refine WQ.then_exit ?_
    refine WQ.then_exit ?_
    refine WQ.block_here ?_
    obtain rfl := Option.some.inj hm
    obtain rfl := afterN_done hl44
    have hm := hmo45
    refine WQ.then_normal (hK2 _ _ _ ?_)
    refine WP.seq (fun K74 hK74 => ?_)
    refine WP.region ?_
    refine WL.runk 2 [4] [(4, .int .i64 st39.1)] (by kernel_rfl) ?_
    refine WL.nil ?_
    refine WQ.then_normal (hK74 _ _ _ ?_)
    refine WP.ret ?_
    obtain rfl := Option.some.inj hm
    exact WQ.ret1 _ rfl rfl ⟨rfl, hb41, hS43, hn52⟩

end Go.Proofs.Ytoljnpoiclklpaa
