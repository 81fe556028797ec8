/- Each call does what its Lean function says. -/
import Derived.Test.YtlplbjeegkkilaaCo2
set_option maxRecDepth 20000
namespace Go.Proofs.Ytlplbjeegkkilaa
open Go Go.Gv Go.RowKit

theorem c_57 (n : Nat) (a_0 : Int) (b_1 : Int) (w : World) {r : Int} (hm : m_spec_l00Min n a_0 b_1 = some r)  :
    CallV Try.prog 57 #[.int .i64 a_0, .int .i64 b_1] w (fun v w' => v = .int .i64 r ∧ Ext w w') := by
  unfold m_spec_l00Min at hm
  refine CallV.enter Try.func57 rfl (by kernel_rfl) Try.ntmps57 (env := [(0, .int .i64 a_0), (1, .int .i64 b_1)]) ⟨rfl, rfl, trivial⟩ ?_
  refine WP.seq (fun K1 hK1 => ?_)
  refine WP.region ?_
  refine WL.runk 1 [0, 1] [(0, .int .i64 a_0), (1, .int .i64 b_1)] (by kernel_rfl) ?_
  refine WL.nil ?_
  refine WQ.then_normal (hK1 _ _ _ ?_)
  refine WP.seq (fun K2 hK2 => ?_)
  refine WP.seq (fun K3 hK3 => ?_)
  refine WP.region ?_
  refine WL.runk 3 [0, 1, 7] [(0, .int .i64 a_0), (1, .int .i64 b_1), (7, .bool (decide (a_0 < b_1)))] (by kernel_rfl) ?_
  refine WL.nil ?_
  refine WQ.then_normal (hK3 _ _ _ ?_)
  refine WP.cond (decide (a_0 < b_1)) rfl rfl (fun hc4 => ?_) (fun hc4 => ?_)
  · have hm := iteT hm hc4
    refine WP.seq (fun K5 hK5 => ?_)
    refine WP.region ?_
    refine WL.runk 2 [4] [(4, .int .i64 a_0)] (by kernel_rfl) ?_
    refine WL.nil ?_
    refine WQ.then_normal (hK5 _ _ _ ?_)
    refine WP.ret ?_
    refine WQ.then_ret ?_
    obtain rfl := Option.some.inj hm
    exact WQ.ret1 _ rfl rfl ⟨rfl, (Ext.refl w)⟩
  · have hm := iteF hm hc4
    refine WP.skip ?_
    refine WQ.then_normal (hK2 _ _ _ ?_)
    refine WP.seq (fun K6 hK6 => ?_)
    refine WP.region ?_
    refine WL.runk 2 [4] [(4, .int .i64 b_1)] (by kernel_rfl) ?_
    refine WL.nil ?_
    refine WQ.then_normal (hK6 _ _ _ ?_)
    refine WP.ret ?_
    obtain rfl := Option.some.inj hm
    exact WQ.ret1 _ rfl rfl ⟨rfl, (Ext.refl w)⟩

theorem c_21 (n : Nat) (short_0 : Int) (inside_1 : Int) (heel_2 : Int) (sole_3 : Int) (w : World) {r : List Int × Int} (hm : m_spec_RaiseFor n short_0 inside_1 heel_2 sole_3 = some r)  :
    CallV Try.prog 21 #[.int .i64 short_0, .int .i64 inside_1, .int .i64 heel_2, .int .i64 sole_3] w (fun v w' => ∃ (ra0 : Option Addr) (rc0 : Nat), v = .tuple #[.slice ra0 r.1.length rc0, .int .i64 r.2] ∧ Ext w w' ∧ SH w' w.heap.size [aOwn fInt 2 ra0 rc0 r.1]) := by
  unfold m_spec_RaiseFor at hm
  refine CallV.enter Try.func21 rfl (by kernel_rfl) Try.ntmps21 (env := [(0, .int .i64 short_0), (1, .int .i64 inside_1), (2, .int .i64 heel_2), (3, .int .i64 sole_3)]) ⟨rfl, rfl, rfl, rfl, trivial⟩ ?_
  refine WP.seq (fun K1 hK1 => ?_)
  refine WP.region ?_
  refine WL.runk 2 [0, 1, 2, 3] [(0, .int .i64 short_0), (1, .int .i64 inside_1), (2, .int .i64 heel_2), (3, .int .i64 sole_3)] (by kernel_rfl) ?_
  refine WL.nil ?_
  refine WQ.then_normal (hK1 _ _ _ ?_)
  refine WP.seq (fun K2 hK2 => ?_)
  refine WP.seq (fun K3 hK3 => ?_)
  obtain ⟨x39, hx40, hm⟩ := bindE hm
  refine WP.cut (fun env' w' => env' = [(0, .int .i64 short_0), (1, .int .i64 inside_1), (2, .int .i64 heel_2), (3, .int .i64 sole_3), (30, .bool x39)] ∧ Ext w w' ∧ w.heap.size ≤ w'.heap.size ∧ SH w' w.heap.size []) ?_ ?_
  · have hm := hx40; clear hx40
    refine WP.region ?_
    refine WL.runk 1 [0, 1, 2, 3, 13] [(0, .int .i64 short_0), (1, .int .i64 inside_1), (2, .int .i64 heel_2), (3, .int .i64 sole_3), (13, .int .i64 short_0)] (by kernel_rfl) ?_
    obtain ⟨x41, hx42, hm⟩ := bindE hm
    refine WL.call 56 #[.int .i64 short_0] rfl rfl (by kernel_rfl) (c_56 n short_0 w hx42 ) ?_
    rintro _ w43 ⟨rfl, hE44⟩
    refine ⟨_, rfl, ?_⟩
    have hb46 : Ext w w43 := Ext.trans (Ext.refl w) hE44
    have hL47 : w.heap.size ≤ w43.heap.size := Nat.le_trans (Nat.le_refl _) hE44.size
    have hS48 : SH w43 w.heap.size [] := SH.ext (SH.nil _ _) hE44
    refine WL.runk 2 [0, 1, 2, 3, 16] [(0, .int .i64 short_0), (1, .int .i64 inside_1), (2, .int .i64 heel_2), (3, .int .i64 sole_3), (16, .bool (!x41))] (by kernel_rfl) ?_
    refine WL.case (!x41) [16] ⟨rfl, trivial⟩ (fun hc49 => ?_) (fun hc49 => ?_)
    · have hm := iteT hm hc49
      refine WL.runk 14 [0, 1, 2, 3, 30] [(0, .int .i64 short_0), (1, .int .i64 inside_1), (2, .int .i64 heel_2), (3, .int .i64 sole_3), (30, .bool true)] (by kernel_rfl) ?_
      refine WL.nil ?_
      obtain rfl := Option.some.inj hm
      exact WQ.post' ⟨rfl, hb46, hL47, hS48⟩ ⟨rfl, rfl, rfl, rfl, rfl, trivial⟩
    · have hm := iteF hm hc49
      refine WL.runk 1 [0, 1, 2, 3, 16, 17] [(0, .int .i64 short_0), (1, .int .i64 inside_1), (2, .int .i64 heel_2), (3, .int .i64 sole_3), (16, .bool false), (17, .int .i64 inside_1)] (by kernel_rfl) ?_
      obtain ⟨x50, hx51, hm⟩ := bindE hm
      refine WL.call 56 #[.int .i64 inside_1] rfl rfl (by kernel_rfl) (c_56 n inside_1 w43 hx51 ) ?_
      rintro _ w52 ⟨rfl, hE53⟩
      refine ⟨_, rfl, ?_⟩
      have hb55 : Ext w w52 := Ext.trans hb46 hE53
      have hL56 : w.heap.size ≤ w52.heap.size := Nat.le_trans hL47 hE53.size
      have hS57 : SH w52 w.heap.size [] := SH.ext hS48 hE53
      refine WL.runk 3 [0, 1, 2, 3, 21] [(0, .int .i64 short_0), (1, .int .i64 inside_1), (2, .int .i64 heel_2), (3, .int .i64 sole_3), (21, .bool (!x50))] (by kernel_rfl) ?_
      refine WL.case (!x50) [21] ⟨rfl, trivial⟩ (fun hc58 => ?_) (fun hc58 => ?_)
      · have hm := iteT hm hc58
        refine WL.runk 9 [0, 1, 2, 3, 30] [(0, .int .i64 short_0), (1, .int .i64 inside_1), (2, .int .i64 heel_2), (3, .int .i64 sole_3), (30, .bool true)] (by kernel_rfl) ?_
        refine WL.nil ?_
        obtain rfl := Option.some.inj hm
        exact WQ.post' ⟨rfl, hb55, hL56, hS57⟩ ⟨rfl, rfl, rfl, rfl, rfl, trivial⟩
      · have hm := iteF hm hc58
        refine WL.runk 1 [0, 1, 2, 3, 21, 22] [(0, .int .i64 short_0), (1, .int .i64 inside_1), (2, .int .i64 heel_2), (3, .int .i64 sole_3), (21, .bool false), (22, .int .i64 heel_2)] (by kernel_rfl) ?_
        obtain ⟨x59, hx60, hm⟩ := bindE hm
        refine WL.call 56 #[.int .i64 heel_2] rfl rfl (by kernel_rfl) (c_56 n heel_2 w52 hx60 ) ?_
        rintro _ w61 ⟨rfl, hE62⟩
        refine ⟨_, rfl, ?_⟩
        have hb64 : Ext w w61 := Ext.trans hb55 hE62
        have hL65 : w.heap.size ≤ w61.heap.size := Nat.le_trans hL56 hE62.size
        have hS66 : SH w61 w.heap.size [] := SH.ext hS57 hE62
        refine WL.runk 3 [0, 1, 2, 3, 26] [(0, .int .i64 short_0), (1, .int .i64 inside_1), (2, .int .i64 heel_2), (3, .int .i64 sole_3), (26, .bool (!x59))] (by kernel_rfl) ?_
        refine WL.case (!x59) [26] ⟨rfl, trivial⟩ (fun hc67 => ?_) (fun hc67 => ?_)
        · have hm := iteT hm hc67
          refine WL.runk 4 [0, 1, 2, 3, 30] [(0, .int .i64 short_0), (1, .int .i64 inside_1), (2, .int .i64 heel_2), (3, .int .i64 sole_3), (30, .bool true)] (by kernel_rfl) ?_
          refine WL.nil ?_
          obtain rfl := Option.some.inj hm
          exact WQ.post' ⟨rfl, hb64, hL65, hS66⟩ ⟨rfl, rfl, rfl, rfl, rfl, trivial⟩
        · have hm := iteF hm hc67
          refine WL.runk 1 [0, 1, 2, 3, 26, 27] [(0, .int .i64 short_0), (1, .int .i64 inside_1), (2, .int .i64 heel_2), (3, .int .i64 sole_3), (26, .bool false), (27, .int .i64 sole_3)] (by kernel_rfl) ?_
          obtain ⟨x68, hx69, hm⟩ := bindE hm
          refine WL.call 56 #[.int .i64 sole_3] rfl rfl (by kernel_rfl) (c_56 n sole_3 w61 hx69 ) ?_
          rintro _ w70 ⟨rfl, hE71⟩
          refine ⟨_, rfl, ?_⟩
          have hb73 : Ext w w70 := Ext.trans hb64 hE71
          have hL74 : w.heap.size ≤ w70.heap.size := Nat.le_trans hL65 hE71.size
          have hS75 : SH w70 w.heap.size [] := SH.ext hS66 hE71
          refine WL.runk 2 [0, 1, 2, 3, 30] [(0, .int .i64 short_0), (1, .int .i64 inside_1), (2, .int .i64 heel_2), (3, .int .i64 sole_3), (30, .bool (!x68))] (by kernel_rfl) ?_
          refine WL.nil ?_
          obtain rfl := Option.some.inj hm
          exact WQ.post' ⟨rfl, hb73, hL74, hS75⟩ ⟨rfl, rfl, rfl, rfl, rfl, trivial⟩
  · clear hx40
    rintro _ w76 ⟨rfl, hb77, hL78, hS79⟩
    refine WQ.then_normal (hK3 _ _ _ ?_)
    refine WP.cond x39 rfl rfl (fun hc80 => ?_) (fun hc80 => ?_)
    · have hm := iteT hm hc80
      refine WP.seq (fun K81 hK81 => ?_)
      refine WP.region ?_
      refine WL.runk 2 [8, 9] [(8, .slice none 0 0), (9, .int .i64 2)] (by kernel_rfl) ?_
      refine WL.nil ?_
      refine WQ.then_normal (hK81 _ _ _ ?_)
      refine WP.ret ?_
      refine WQ.then_ret ?_
      obtain rfl := Option.some.inj hm
      have hS83 : SH w76 w.heap.size [aOwn fInt 2 none 0 ([] : List Int)] := SH.nilOwn hS79
      exact WQ.ret2 _ _ rfl rfl rfl ⟨_, _, rfl, hb77, hS83⟩
    · have hm := iteF hm hc80
      refine WP.skip ?_
      refine WQ.then_normal (hK2 _ _ _ ?_)
      refine WP.seq (fun K84 hK84 => ?_)
      refine WP.region ?_
      refine WL.runk 2 [0, 2, 3, 31, 32] [(0, .int .i64 short_0), (2, .int .i64 heel_2), (3, .int .i64 sole_3), (31, .int .i64 short_0), (32, .int .i64 inside_1)] (by kernel_rfl) ?_
      obtain ⟨x85, hx86, hm⟩ := bindE hm
      refine WL.call 57 #[.int .i64 short_0, .int .i64 inside_1] rfl rfl (by kernel_rfl) (c_57 n short_0 inside_1 w76 hx86 ) ?_
      rintro _ w87 ⟨rfl, hE88⟩
      refine ⟨_, rfl, ?_⟩
      have hb90 : Ext w w87 := Ext.trans hb77 hE88
      have hL91 : w.heap.size ≤ w87.heap.size := Nat.le_trans hL78 hE88.size
      have hS92 : SH w87 w.heap.size [] := SH.ext hS79 hE88
      refine WL.runk 1 [0, 2, 3, 10] [(0, .int .i64 short_0), (2, .int .i64 heel_2), (3, .int .i64 sole_3), (10, .int .i64 x85)] (by kernel_rfl) ?_
      refine WL.nil ?_
      refine WQ.then_normal (hK84 _ _ _ ?_)
      refine WP.seq (fun K93 hK93 => ?_)
      refine WP.region ?_
      refine WL.runk 4 [0, 3, 10, 36, 37] [(0, .int .i64 short_0), (3, .int .i64 sole_3), (10, .int .i64 x85), (36, .int .i64 (wI64 (short_0 - x85))), (37, .int .i64 heel_2)] (by kernel_rfl) ?_
      obtain ⟨x94, hx95, hm⟩ := bindE hm
      refine WL.call 57 #[.int .i64 (wI64 (short_0 - x85)), .int .i64 heel_2] rfl rfl (by kernel_rfl) (c_57 n (wI64 (short_0 - x85)) heel_2 w87 hx95 ) ?_
      rintro _ w96 ⟨rfl, hE97⟩
      refine ⟨_, rfl, ?_⟩
      have hb99 : Ext w w96 := Ext.trans hb90 hE97
      have hL100 : w.heap.size ≤ w96.heap.size := Nat.le_trans hL91 hE97.size
      have hS101 : SH w96 w.heap.size [] := SH.ext hS92 hE97
      refine WL.runk 1 [0, 3, 10, 11] [(0, .int .i64 short_0), (3, .int .i64 sole_3), (10, .int .i64 x85), (11, .int .i64 x94)] (by kernel_rfl) ?_
      refine WL.nil ?_
      refine WQ.then_normal (hK93 _ _ _ ?_)
      refine WP.seq (fun K102 hK102 => ?_)
      refine WP.region ?_
      refine WL.runk 6 [0, 10, 11, 43, 44] [(0, .int .i64 short_0), (10, .int .i64 x85), (11, .int .i64 x94), (43, .int .i64 (wI64 ((wI64 (short_0 - x85)) - x94))), (44, .int .i64 sole_3)] (by kernel_rfl) ?_
      obtain ⟨x103, hx104, hm⟩ := bindE hm
      refine WL.call 57 #[.int .i64 (wI64 ((wI64 (short_0 - x85)) - x94)), .int .i64 sole_3] rfl rfl (by kernel_rfl) (c_57 n (wI64 ((wI64 (short_0 - x85)) - x94)) sole_3 w96 hx104 ) ?_
      rintro _ w105 ⟨rfl, hE106⟩
      refine ⟨_, rfl, ?_⟩
      have hb108 : Ext w w105 := Ext.trans hb99 hE106
      have hL109 : w.heap.size ≤ w105.heap.size := Nat.le_trans hL100 hE106.size
      have hS110 : SH w105 w.heap.size [] := SH.ext hS101 hE106
      refine WL.runk 1 [0, 10, 11, 12] [(0, .int .i64 short_0), (10, .int .i64 x85), (11, .int .i64 x94), (12, .int .i64 x103)] (by kernel_rfl) ?_
      refine WL.nil ?_
      refine WQ.then_normal (hK102 _ _ _ ?_)
      refine WP.seq (fun K111 hK111 => ?_)
      refine WP.seq (fun K112 hK112 => ?_)
      refine WP.region ?_
      refine WL.runk 7 [10, 11, 12, 52] [(10, .int .i64 x85), (11, .int .i64 x94), (12, .int .i64 x103), (52, .bool (decide ((wI64 ((wI64 (x85 + x94)) + x103)) < short_0)))] (by kernel_rfl) ?_
      refine WL.nil ?_
      refine WQ.then_normal (hK112 _ _ _ ?_)
      refine WP.cond (decide ((wI64 ((wI64 (x85 + x94)) + x103)) < short_0)) rfl rfl (fun hc113 => ?_) (fun hc113 => ?_)
      · have hm := iteT hm hc113
        refine WP.seq (fun K114 hK114 => ?_)
        refine WP.region ?_
        refine WL.runk 2 [8, 9] [(8, .slice none 0 0), (9, .int .i64 10)] (by kernel_rfl) ?_
        refine WL.nil ?_
        refine WQ.then_normal (hK114 _ _ _ ?_)
        refine WP.ret ?_
        refine WQ.then_ret ?_
        obtain rfl := Option.some.inj hm
        have hS116 : SH w105 w.heap.size [aOwn fInt 2 none 0 ([] : List Int)] := SH.nilOwn hS110
        exact WQ.ret2 _ _ rfl rfl rfl ⟨_, _, rfl, hb108, hS116⟩
      · have hm := iteF hm hc113
        refine WP.skip ?_
        refine WQ.then_normal (hK111 _ _ _ ?_)
        refine WP.seq (fun K117 hK117 => ?_)
        refine WP.region ?_
        refine WL.runk 5 [53, 56, 57] [(53, .int .i64 x85), (56, .int .i64 (wI64 (x94 + x103))), (57, .int .i64 x103)] (by kernel_rfl) ?_
        refine WL.row fInt 2 ([x85, (wI64 (x94 + x103)), x103] : List Int) 3 #[.int .i64 x85, .int .i64 (wI64 (x94 + x103)), .int .i64 x103] 58 (by kernel_rfl) rfl rfl rfl rfl rfl rfl rfl ?_
        intro a118 c119 w120 hE121 hR122
        have hb124 : Ext w w120 := Ext.trans hb108 hE121
        have hL125 : w.heap.size ≤ w120.heap.size := Nat.le_trans hL109 hE121.size
        have hS126 : SH w120 w.heap.size [aOwn fInt 2 a118 c119 ([x85, (wI64 (x94 + x103)), x103] : List Int)] := SH.add hS110 hE121 hL109 hR122
        refine WL.runk 2 [8, 9] [(8, .slice a118 (([x85, (wI64 (x94 + x103)), x103] : List Int).length) c119), (9, .int .i64 0)] (by kernel_rfl) ?_
        refine WL.nil ?_
        refine WQ.then_normal (hK117 _ _ _ ?_)
        refine WP.ret ?_
        obtain rfl := Option.some.inj hm
        exact WQ.ret2 _ _ rfl rfl rfl ⟨_, _, rfl, hb124, hS126⟩

theorem c_66 (n : Nat) (n_0 : Int) (low_1 : Int) (high_2 : Int) (w : World) {r : Bool} (hm : m_impl_within n n_0 low_1 high_2 = some r)  :
    CallV Try.prog 66 #[.int .i64 n_0, .int .i64 low_1, .int .i64 high_2] w (fun v w' => v = .bool r ∧ Ext w w') := by
  unfold m_impl_within at hm
  refine CallV.enter Try.func66 rfl (by kernel_rfl) Try.ntmps66 (env := [(0, .int .i64 n_0), (1, .int .i64 low_1), (2, .int .i64 high_2)]) ⟨rfl, rfl, rfl, trivial⟩ ?_
  refine WP.seq (fun K1 hK1 => ?_)
  refine WP.region ?_
  refine WL.runk 1 [0, 1, 2] [(0, .int .i64 n_0), (1, .int .i64 low_1), (2, .int .i64 high_2)] (by kernel_rfl) ?_
  refine WL.nil ?_
  refine WQ.then_normal (hK1 _ _ _ ?_)
  refine WP.seq (fun K2 hK2 => ?_)
  obtain ⟨x4, hx5, hm⟩ := bindE hm
  refine WP.cut (fun env' w' => env' = [(6, .bool x4)] ∧ Ext w w' ∧ w.heap.size ≤ w'.heap.size ∧ SH w' w.heap.size []) ?_ ?_
  · have hm := hx5; clear hx5
    refine WP.region ?_
    refine WL.runk 4 [0, 2, 10] [(0, .int .i64 n_0), (2, .int .i64 high_2), (10, .bool (decide (n_0 ≥ low_1)))] (by kernel_rfl) ?_
    refine WL.case (decide (n_0 ≥ low_1)) [10] ⟨rfl, trivial⟩ (fun hc6 => ?_) (fun hc6 => ?_)
    · have hm := iteT hm hc6
      refine WL.runk 5 [6] [(6, .bool (decide (n_0 ≤ high_2)))] (by kernel_rfl) ?_
      refine WL.nil ?_
      obtain rfl := Option.some.inj hm
      exact WQ.post' ⟨rfl, (Ext.refl w), (Nat.le_refl _), (SH.nil _ _)⟩ ⟨rfl, trivial⟩
    · have hm := iteF hm hc6
      refine WL.runk 5 [6] [(6, .bool false)] (by kernel_rfl) ?_
      refine WL.nil ?_
      obtain rfl := Option.some.inj hm
      exact WQ.post' ⟨rfl, (Ext.refl w), (Nat.le_refl _), (SH.nil _ _)⟩ ⟨rfl, trivial⟩
  · clear hx5
    rintro _ w7 ⟨rfl, hb8, hL9, hS10⟩
    refine WQ.then_normal (hK2 _ _ _ ?_)
    refine WP.ret ?_
    obtain rfl := Option.some.inj hm
    exact WQ.ret1 _ rfl rfl ⟨rfl, hb8⟩

theorem c_82 (n : Nat) (n_0 : Int) (cap_1 : Int) (b1' o1' : Nat) (cap_2 : Int) (b2' o2' : Nat) (w : World) {r : Bool} (hm : m_impl_outside_1 n n_0 cap_1 cap_2 = some r) (h1 : RdB w b1' o1' [.int .i64 cap_1]) (h2 : RdB w b2' o2' [.int .i64 cap_2]) :
    CallV Try.prog 82 #[.int .i64 n_0, .pointer (some ⟨b1', o1', none⟩), .pointer (some ⟨b2', o2', none⟩)] w (fun v w' => v = .bool r ∧ Ext w w') := by
  unfold m_impl_outside_1 at hm
  refine CallV.enter Try.func82 rfl (by kernel_rfl) Try.ntmps82 (env := [(0, .int .i64 n_0), (1, .pointer (some ⟨b1', o1', none⟩)), (2, .pointer (some ⟨b2', o2', none⟩))]) ⟨rfl, rfl, rfl, trivial⟩ ?_
  refine WP.seq (fun K1 hK1 => ?_)
  refine WP.region ?_
  refine WL.runk 1 [0, 1, 2] [(0, .int .i64 n_0), (1, .pointer (some ⟨b1', o1', none⟩)), (2, .pointer (some ⟨b2', o2', none⟩))] (by kernel_rfl) ?_
  refine WL.nil ?_
  refine WQ.then_normal (hK1 _ _ _ ?_)
  refine WP.seq (fun K2 hK2 => ?_)
  refine WP.region ?_
  refine WL.runk 1 [1, 2, 5] [(1, .pointer (some ⟨b1', o1', none⟩)), (2, .pointer (some ⟨b2', o2', none⟩)), (5, .int .i64 n_0)] (by kernel_rfl) ?_
  refine WL.st (.int .i64 cap_1) (ST.load (cell_ext (RdB.at (RdB.below h1 (Ext.refl w)) 0 _ rfl)) rfl rfl Try.underlying2 rfl) rfl rfl rfl ?_
  refine WL.st (.int .i64 cap_2) (ST.load (cell_ext (RdB.at (RdB.below h2 (Ext.refl w)) 0 _ rfl)) rfl rfl Try.underlying2 rfl) rfl rfl rfl ?_
  obtain ⟨x3, hx4, hm⟩ := bindE hm
  refine WL.call 66 #[.int .i64 n_0, .int .i64 cap_1, .int .i64 cap_2] rfl rfl (by kernel_rfl) (c_66 n n_0 cap_1 cap_2 w hx4 ) ?_
  rintro _ w5 ⟨rfl, hE6⟩
  refine ⟨_, rfl, ?_⟩
  have hb8 : Ext w w5 := Ext.trans (Ext.refl w) hE6
  have hL9 : w.heap.size ≤ w5.heap.size := Nat.le_trans (Nat.le_refl _) hE6.size
  have hS10 : SH w5 w.heap.size [] := SH.ext (SH.nil _ _) hE6
  refine WL.runk 2 [4] [(4, .bool (!x3))] (by kernel_rfl) ?_
  refine WL.nil ?_
  refine WQ.then_normal (hK2 _ _ _ ?_)
  refine WP.ret ?_
  obtain rfl := Option.some.inj hm
  exact WQ.ret1 _ rfl rfl ⟨rfl, hb8⟩

theorem c_92_82 (n : Nat) (s_0 : List Int) (a0' : Option Addr) (c0' : Nat) (cap_1_0 : Int) (b1_0' o1_0' : Nat) (cap_1_1 : Int) (b1_1' o1_1' : Nat) (w : World) {r : Int} (hm : m_slices_IndexFunc_int64_int64_f82 n s_0 cap_1_0 cap_1_1 = some r) (h0 : Rd fInt.ty w a0' s_0) (hle0 : s_0.length ≤ c0') (h1_0 : RdB w b1_0' o1_0' [.int .i64 cap_1_0]) (h1_1 : RdB w b1_1' o1_1' [.int .i64 cap_1_1]) :
    CallV Try.prog 92 #[.slice a0' s_0.length c0', .func (.func 82) #[] #[.pointer (some ⟨b1_0', o1_0', none⟩), .pointer (some ⟨b1_1', o1_1', none⟩)]] w (fun v w' => v = .int .i64 r ∧ Ext w w') := by
  unfold m_slices_IndexFunc_int64_int64_f82 at hm
  refine CallV.enter Try.func92 rfl (by kernel_rfl) Try.ntmps92 (env := [(0, .slice a0' s_0.length c0'), (1, .func (.func 82) #[] #[.pointer (some ⟨b1_0', o1_0', none⟩), .pointer (some ⟨b1_1', o1_1', none⟩)])]) ⟨rfl, rfl, trivial⟩ ?_
  refine WP.seq (fun K1 hK1 => ?_)
  refine WP.region ?_
  refine WL.runk 1 [0, 1] [(0, .slice a0' s_0.length c0'), (1, .func (.func 82) #[] #[.pointer (some ⟨b1_0', o1_0', none⟩), .pointer (some ⟨b1_1', o1_1', none⟩)])] (by kernel_rfl) ?_
  refine WL.nil ?_
  refine WQ.then_normal (hK1 _ _ _ ?_)
  refine WP.seq (fun K2 hK2 => ?_)
  refine WP.seq (fun K3 hK3 => ?_)
  refine WP.region ?_
  refine WL.runk 3 [0, 1, 7, 8] [(0, .slice a0' s_0.length c0'), (1, .func (.func 82) #[] #[.pointer (some ⟨b1_0', o1_0', none⟩), .pointer (some ⟨b1_1', o1_1', none⟩)]), (7, .int .i64 (s_0.length : Int)), (8, .int .i64 0)] (by kernel_rfl) ?_
  refine WL.nil ?_
  refine WQ.then_normal (hK3 _ _ _ ?_)
  refine WP.block ?_
  obtain ⟨t15, ht16, hm⟩ := bindE hm
  have hmo10 := hm; clear hm
  refine WP.sub [(0, .slice a0' s_0.length c0'), (1, .func (.func 82) #[] #[.pointer (some ⟨b1_0', o1_0', none⟩), .pointer (some ⟨b1_1', o1_1', none⟩)]), (7, .int .i64 (s_0.length : Int)), (8, .int .i64 0)] ⟨rfl, rfl, rfl, rfl, trivial⟩ ?_
  refine WP.loop (fun n' env' w' => ∃ (st4 : Int) , env' = [(0, .slice a0' s_0.length c0'), (1, .func (.func 82) #[] #[.pointer (some ⟨b1_0', o1_0', none⟩), .pointer (some ⟨b1_1', o1_1', none⟩)]), (7, .int .i64 (s_0.length : Int)), (8, .int .i64 st4)] ∧ Ext w w' ∧ w.heap.size ≤ w'.heap.size ∧ SH w' w.heap.size [] ∧ loopN (m_slices_IndexFunc_int64_int64_f82_l1 n s_0 cap_1_0 cap_1_1) n' st4 = some t15) n ⟨0, rfl, (Ext.refl w), (Nat.le_refl _), (SH.nil _ _), ht16⟩ ?_
  rintro n12 _ w5 ⟨st4, rfl, hb6, hL7, hS8, hl9⟩ K11 hK11
  obtain ⟨n13, s14, rfl, hm, hl9⟩ := loopN_some hl9
  unfold m_slices_IndexFunc_int64_int64_f82_l1 at hm
  refine WP.seq (fun K17 hK17 => ?_)
  refine WP.region ?_
  refine WL.runk 1 [0, 1, 7, 8, 9] [(0, .slice a0' s_0.length c0'), (1, .func (.func 82) #[] #[.pointer (some ⟨b1_0', o1_0', none⟩), .pointer (some ⟨b1_1', o1_1', none⟩)]), (7, .int .i64 (s_0.length : Int)), (8, .int .i64 st4), (9, .bool (decide (st4 < (s_0.length : Int))))] (by kernel_rfl) ?_
  refine WL.nil ?_
  refine WQ.then_normal (hK17 _ _ _ ?_)
  refine WP.seq (fun K18 hK18 => ?_)
  refine WP.cond (decide (st4 < (s_0.length : Int))) rfl rfl (fun hc19 => ?_) (fun hc19 => ?_)
  · have hm := iteT hm hc19
    refine WP.skip ?_
    refine WQ.then_normal (hK18 _ _ _ ?_)
    refine WP.seq (fun K20 hK20 => ?_)
    refine WP.block ?_
    refine WP.seq (fun K21 hK21 => ?_)
    refine WP.region ?_
    refine WL.runk 2 [0, 1, 5, 7, 8] [(0, .slice a0' s_0.length c0'), (1, .func (.func 82) #[] #[.pointer (some ⟨b1_0', o1_0', none⟩), .pointer (some ⟨b1_1', o1_1', none⟩)]), (7, .int .i64 (s_0.length : Int)), (8, .int .i64 st4), (5, .int .i64 st4)] (by kernel_rfl) ?_
    refine WL.nil ?_
    refine WQ.then_normal (hK21 _ _ _ ?_)
    refine WP.seq (fun K22 hK22 => ?_)
    refine WP.region ?_
    refine WL.runk 3 [0, 1, 5, 7, 8, 11, 12, 13] [(0, .slice a0' s_0.length c0'), (1, .func (.func 82) #[] #[.pointer (some ⟨b1_0', o1_0', none⟩), .pointer (some ⟨b1_1', o1_1', none⟩)]), (7, .int .i64 (s_0.length : Int)), (8, .int .i64 st4), (5, .int .i64 st4), (11, .func (.func 82) #[] #[.pointer (some ⟨b1_0', o1_0', none⟩), .pointer (some ⟨b1_1', o1_1', none⟩)]), (12, .slice a0' s_0.length c0'), (13, .int .i64 st4)] (by kernel_rfl) ?_
    obtain ⟨x23, hx24, hm⟩ := bindE hm
    refine WL.st (.pointer (some (at_ a0' (Int.toNat st4 * 1)))) (ST.index (T := fInt.ty) (xs := s_0) (Rd.below h0 hb6) hx24 rfl rfl rfl Try.underlying31 (info2).1 (info2).2.1) rfl rfl rfl ?_
    refine WL.st (.int .i64 x23) (ST.load (cell_ext (Rd.flat (F := fInt) (Rd.below h0 hb6) hx24 0 rfl)) rfl rfl Try.underlying2 rfl) rfl rfl rfl ?_
    obtain ⟨x25, hx26, hm⟩ := bindE hm
    refine WL.call 82 #[.int .i64 x23, .pointer (some ⟨b1_0', o1_0', none⟩), .pointer (some ⟨b1_1', o1_1', none⟩)] rfl rfl (by kernel_rfl) (c_82 n x23 cap_1_0 b1_0' o1_0' cap_1_1 b1_1' o1_1' w5 hx26 (RdB.below h1_0 hb6) (RdB.below h1_1 hb6)) ?_
    rintro _ w27 ⟨rfl, hE28⟩
    refine ⟨_, rfl, ?_⟩
    have hb30 : Ext w w27 := Ext.trans hb6 hE28
    have hL31 : w.heap.size ≤ w27.heap.size := Nat.le_trans hL7 hE28.size
    have hS32 : SH w27 w.heap.size [] := SH.ext hS8 hE28
    refine WL.sub [(0, .slice a0' s_0.length c0'), (1, .func (.func 82) #[] #[.pointer (some ⟨b1_0', o1_0', none⟩), .pointer (some ⟨b1_1', o1_1', none⟩)]), (7, .int .i64 (s_0.length : Int)), (8, .int .i64 st4), (5, .int .i64 st4), (16, .bool x25)] ⟨rfl, rfl, rfl, rfl, rfl, rfl, trivial⟩ ?_
    refine WL.nil ?_
    refine WQ.then_normal (hK22 _ _ _ ?_)
    refine WP.cond x25 rfl rfl (fun hc33 => ?_) (fun hc33 => ?_)
    · have hm := iteT hm hc33
      refine WP.seq (fun K34 hK34 => ?_)
      refine WP.region ?_
      refine WL.runk 2 [4] [(4, .int .i64 st4)] (by kernel_rfl) ?_
      refine WL.nil ?_
      refine WQ.then_normal (hK34 _ _ _ ?_)
      refine WP.ret ?_
      refine WQ.block_ret ?_
      refine WQ.then_ret ?_
      refine WQ.then_ret ?_
      refine WQ.block_ret ?_
      refine WQ.then_ret ?_
      obtain rfl := Option.some.inj hm
      obtain rfl := afterN_done hl9
      have hm := hmo10
      obtain rfl := Option.some.inj hm
      exact WQ.ret1 _ rfl rfl ⟨rfl, hb30⟩
    · have hm := iteF hm hc33
      refine WP.skip ?_
      refine WQ.block_normal ?_
      refine WQ.then_normal (hK20 _ _ _ ?_)
      refine WP.region ?_
      refine WL.runk 2 [0, 1, 7, 8] [(0, .slice a0' s_0.length c0'), (1, .func (.func 82) #[] #[.pointer (some ⟨b1_0', o1_0', none⟩), .pointer (some ⟨b1_1', o1_1', none⟩)]), (7, .int .i64 (s_0.length : Int)), (8, .int .i64 (wI64 (st4 + 1)))] (by kernel_rfl) ?_
      refine WL.nil ?_
      obtain rfl := Option.some.inj hm
      exact WQ.round hK11 ⟨(wI64 (st4 + 1)), rfl, hb30, hL31, hS32, hl9⟩ (Nat.lt_succ_self _) ⟨rfl, rfl, rfl, rfl, trivial⟩
  · have hm := iteF hm hc19
    refine WP.exit ?_
    refine WQ.then_exit ?_
    refine WQ.then_exit ?_
    refine WQ.block_here ?_
    obtain rfl := Option.some.inj hm
    obtain rfl := afterN_done hl9
    have hm := hmo10
    refine WQ.then_normal (hK2 _ _ _ ?_)
    refine WP.seq (fun K35 hK35 => ?_)
    refine WP.region ?_
    refine WL.runk 1 [4] [(4, .int .i64 (-1))] (by kernel_rfl) ?_
    refine WL.nil ?_
    refine WQ.then_normal (hK35 _ _ _ ?_)
    refine WP.ret ?_
    obtain rfl := Option.some.inj hm
    exact WQ.ret1 _ rfl rfl ⟨rfl, hb6⟩

theorem c_81_82 (n : Nat) (s_0 : List Int) (a0' : Option Addr) (c0' : Nat) (cap_1_0 : Int) (b1_0' o1_0' : Nat) (cap_1_1 : Int) (b1_1' o1_1' : Nat) (w : World) {r : Bool} (hm : m_slices_ContainsFunc_int64_int64_f82 n s_0 cap_1_0 cap_1_1 = some r) (h0 : Rd fInt.ty w a0' s_0) (hle0 : s_0.length ≤ c0') (h1_0 : RdB w b1_0' o1_0' [.int .i64 cap_1_0]) (h1_1 : RdB w b1_1' o1_1' [.int .i64 cap_1_1]) :
    CallV Try.prog 81 #[.slice a0' s_0.length c0', .func (.func 82) #[] #[.pointer (some ⟨b1_0', o1_0', none⟩), .pointer (some ⟨b1_1', o1_1', none⟩)]] w (fun v w' => v = .bool r ∧ Ext w w') := by
  unfold m_slices_ContainsFunc_int64_int64_f82 at hm
  refine CallV.enter Try.func81 rfl (by kernel_rfl) Try.ntmps81 (env := [(0, .slice a0' s_0.length c0'), (1, .func (.func 82) #[] #[.pointer (some ⟨b1_0', o1_0', none⟩), .pointer (some ⟨b1_1', o1_1', none⟩)])]) ⟨rfl, rfl, trivial⟩ ?_
  refine WP.seq (fun K1 hK1 => ?_)
  refine WP.region ?_
  refine WL.runk 1 [0, 1] [(0, .slice a0' s_0.length c0'), (1, .func (.func 82) #[] #[.pointer (some ⟨b1_0', o1_0', none⟩), .pointer (some ⟨b1_1', o1_1', none⟩)])] (by kernel_rfl) ?_
  refine WL.nil ?_
  refine WQ.then_normal (hK1 _ _ _ ?_)
  refine WP.seq (fun K2 hK2 => ?_)
  refine WP.region ?_
  refine WL.runk 2 [5, 6] [(5, .slice a0' s_0.length c0'), (6, .func (.func 82) #[] #[.pointer (some ⟨b1_0', o1_0', none⟩), .pointer (some ⟨b1_1', o1_1', none⟩)])] (by kernel_rfl) ?_
  obtain ⟨x3, hx4, hm⟩ := bindE hm
  refine WL.call 92 #[.slice a0' s_0.length c0', .func (.func 82) #[] #[.pointer (some ⟨b1_0', o1_0', none⟩), .pointer (some ⟨b1_1', o1_1', none⟩)]] rfl rfl (by kernel_rfl) (c_92_82 n s_0 a0' c0' cap_1_0 b1_0' o1_0' cap_1_1 b1_1' o1_1' w hx4 (Rd.below h0 (Ext.refl w)) hle0 (RdB.below h1_0 (Ext.refl w)) (RdB.below h1_1 (Ext.refl w))) ?_
  rintro _ w5 ⟨rfl, hE6⟩
  refine ⟨_, rfl, ?_⟩
  have hb8 : Ext w w5 := Ext.trans (Ext.refl w) hE6
  have hL9 : w.heap.size ≤ w5.heap.size := Nat.le_trans (Nat.le_refl _) hE6.size
  have hS10 : SH w5 w.heap.size [] := SH.ext (SH.nil _ _) hE6
  refine WL.runk 2 [4] [(4, .bool (decide (x3 ≥ 0)))] (by kernel_rfl) ?_
  refine WL.nil ?_
  refine WQ.then_normal (hK2 _ _ _ ?_)
  refine WP.ret ?_
  obtain rfl := Option.some.inj hm
  exact WQ.ret1 _ rfl rfl ⟨rfl, hb8⟩

theorem c_58 (n : Nat) (list_0 : List Int) (a0' : Option Addr) (c0' : Nat) (low_1 : Int) (high_2 : Int) (w : World) {r : Bool} (hm : m_impl_outside n list_0 low_1 high_2 = some r) (h0 : Rd fInt.ty w a0' list_0) (hle0 : list_0.length ≤ c0') :
    CallV Try.prog 58 #[.slice a0' list_0.length c0', .int .i64 low_1, .int .i64 high_2] w (fun v w' => v = .bool r ∧ Ext w w') := by
  unfold m_impl_outside at hm
  refine CallV.enter Try.func58 rfl (by kernel_rfl) Try.ntmps58 (env := [(0, .slice a0' list_0.length c0'), (1, .int .i64 low_1), (2, .int .i64 high_2)]) ⟨rfl, rfl, rfl, trivial⟩ ?_
  refine WP.seq (fun K1 hK1 => ?_)
  refine WP.region ?_
  refine WL.box 2 [.int .i64 low_1] 4 (by kernel_rfl) rfl rfl rfl rfl ?_
  intro b2 w3 hE4 hR5
  have hb7 : Ext w w3 := Ext.trans (Ext.refl w) hE4
  have hL8 : w.heap.size ≤ w3.heap.size := Nat.le_trans (Nat.le_refl _) hE4.size
  have hS9 : SH w3 w.heap.size [aBox 2 b2 [.int .i64 low_1]] := SH.add (SH.nil _ _) hE4 (Nat.le_refl _) hR5
  refine WL.box 2 [.int .i64 high_2] 5 (by kernel_rfl) rfl rfl rfl rfl ?_
  intro b10 w11 hE12 hR13
  have hb15 : Ext w w11 := Ext.trans hb7 hE12
  have hL16 : w.heap.size ≤ w11.heap.size := Nat.le_trans hL8 hE12.size
  have hS17 : SH w11 w.heap.size [aBox 2 b10 [.int .i64 high_2], aBox 2 b2 [.int .i64 low_1]] := SH.add hS9 hE12 hL8 hR13
  refine WL.runk 1 [0, 4, 5] [(0, .slice a0' list_0.length c0'), (4, .pointer (some ⟨b2, 0, none⟩)), (5, .pointer (some ⟨b10, 0, none⟩))] (by kernel_rfl) ?_
  refine WL.nil ?_
  refine WQ.then_normal (hK1 _ _ _ ?_)
  refine WP.seq (fun K18 hK18 => ?_)
  refine WP.region ?_
  refine WL.runk 2 [7, 8] [(7, .slice a0' list_0.length c0'), (8, .func (.func 82) #[] #[.pointer (some ⟨b2, 0, none⟩), .pointer (some ⟨b10, 0, none⟩)])] (by kernel_rfl) ?_
  obtain ⟨x19, hx20, hm⟩ := bindE hm
  refine WL.call 81 #[.slice a0' list_0.length c0', .func (.func 82) #[] #[.pointer (some ⟨b2, 0, none⟩), .pointer (some ⟨b10, 0, none⟩)]] rfl rfl (by kernel_rfl) (c_81_82 n list_0 a0' c0' low_1 b2 0 high_2 b10 0 w11 hx20 (Rd.below h0 hb15) hle0 (SH.boxRd (SH.front 1 hS17)) (SH.boxRd (SH.front 0 hS17))) ?_
  rintro _ w21 ⟨rfl, hE22⟩
  refine ⟨_, rfl, ?_⟩
  have hb24 : Ext w w21 := Ext.trans hb15 hE22
  have hL25 : w.heap.size ≤ w21.heap.size := Nat.le_trans hL16 hE22.size
  have hS26 : SH w21 w.heap.size [aBox 2 b10 [.int .i64 high_2], aBox 2 b2 [.int .i64 low_1]] := SH.ext hS17 hE22
  refine WL.runk 1 [6] [(6, .bool x19)] (by kernel_rfl) ?_
  refine WL.nil ?_
  refine WQ.then_normal (hK18 _ _ _ ?_)
  refine WP.ret ?_
  obtain rfl := Option.some.inj hm
  exact WQ.ret1 _ rfl rfl ⟨rfl, hb24⟩

theorem c_22 (n : Nat) (short_0 : Int) (inside_1 : Int) (heel_2 : Int) (sole_3 : Int) (w : World) {r : List Int × Int} (hm : m_impl_RaiseFor n short_0 inside_1 heel_2 sole_3 = some r)  :
    CallV Try.prog 22 #[.int .i64 short_0, .int .i64 inside_1, .int .i64 heel_2, .int .i64 sole_3] w (fun v w' => ∃ (ra0 : Option Addr) (rc0 : Nat), v = .tuple #[.slice ra0 r.1.length rc0, .int .i64 r.2] ∧ Ext w w' ∧ SH w' w.heap.size [aOwn fInt 2 ra0 rc0 r.1]) := by
  unfold m_impl_RaiseFor at hm
  refine CallV.enter Try.func22 rfl (by kernel_rfl) Try.ntmps22 (env := [(0, .int .i64 short_0), (1, .int .i64 inside_1), (2, .int .i64 heel_2), (3, .int .i64 sole_3)]) ⟨rfl, rfl, rfl, rfl, trivial⟩ ?_
  refine WP.seq (fun K1 hK1 => ?_)
  refine WP.region ?_
  refine WL.runk 2 [0, 1, 2, 3] [(0, .int .i64 short_0), (1, .int .i64 inside_1), (2, .int .i64 heel_2), (3, .int .i64 sole_3)] (by kernel_rfl) ?_
  refine WL.nil ?_
  refine WQ.then_normal (hK1 _ _ _ ?_)
  refine WP.seq (fun K2 hK2 => ?_)
  refine WP.seq (fun K3 hK3 => ?_)
  refine WP.region ?_
  refine WL.runk 4 [0, 1, 2, 3, 13, 14, 15, 16] [(0, .int .i64 short_0), (1, .int .i64 inside_1), (2, .int .i64 heel_2), (3, .int .i64 sole_3), (13, .int .i64 short_0), (14, .int .i64 inside_1), (15, .int .i64 heel_2), (16, .int .i64 sole_3)] (by kernel_rfl) ?_
  refine WL.row fInt 2 ([short_0, inside_1, heel_2, sole_3] : List Int) 4 #[.int .i64 short_0, .int .i64 inside_1, .int .i64 heel_2, .int .i64 sole_3] 17 (by kernel_rfl) rfl rfl rfl rfl rfl rfl rfl ?_
  intro a4 c5 w6 hE7 hR8
  have hb10 : Ext w w6 := Ext.trans (Ext.refl w) hE7
  have hL11 : w.heap.size ≤ w6.heap.size := Nat.le_trans (Nat.le_refl _) hE7.size
  have hS12 : SH w6 w.heap.size [aOwn fInt 2 a4 c5 ([short_0, inside_1, heel_2, sole_3] : List Int)] := SH.add (SH.nil _ _) hE7 (Nat.le_refl _) hR8
  obtain ⟨x13, hx14, hm⟩ := bindE hm
  refine WL.call 58 #[.slice a4 (([short_0, inside_1, heel_2, sole_3] : List Int).length) c5, .int .i64 0, .int .i64 400] rfl rfl (by kernel_rfl) (c_58 n ([short_0, inside_1, heel_2, sole_3] : List Int) a4 c5 0 400 w6 hx14 (SH.rd (SH.front 0 hS12)) (SH.le (SH.front 0 hS12)).1) ?_
  rintro _ w15 ⟨rfl, hE16⟩
  refine ⟨_, rfl, ?_⟩
  have hb18 : Ext w w15 := Ext.trans hb10 hE16
  have hL19 : w.heap.size ≤ w15.heap.size := Nat.le_trans hL11 hE16.size
  have hS20 : SH w15 w.heap.size [aOwn fInt 2 a4 c5 ([short_0, inside_1, heel_2, sole_3] : List Int)] := SH.ext hS12 hE16
  refine WL.sub [(0, .int .i64 short_0), (1, .int .i64 inside_1), (2, .int .i64 heel_2), (3, .int .i64 sole_3), (18, .bool x13)] ⟨rfl, rfl, rfl, rfl, rfl, trivial⟩ ?_
  refine WL.nil ?_
  refine WQ.then_normal (hK3 _ _ _ ?_)
  refine WP.cond x13 rfl rfl (fun hc21 => ?_) (fun hc21 => ?_)
  · have hm := iteT hm hc21
    refine WP.seq (fun K22 hK22 => ?_)
    refine WP.region ?_
    refine WL.runk 2 [8, 9] [(8, .slice none 0 0), (9, .int .i64 2)] (by kernel_rfl) ?_
    refine WL.nil ?_
    refine WQ.then_normal (hK22 _ _ _ ?_)
    refine WP.ret ?_
    refine WQ.then_ret ?_
    obtain rfl := Option.some.inj hm
    have hS24 : SH w15 w.heap.size [aOwn fInt 2 none 0 ([] : List Int), aOwn fInt 2 a4 c5 ([short_0, inside_1, heel_2, sole_3] : List Int)] := SH.nilOwn hS20
    exact WQ.ret2 _ _ rfl rfl rfl ⟨_, _, rfl, hb18, (SH.take 1 hS24)⟩
  · have hm := iteF hm hc21
    refine WP.skip ?_
    refine WQ.then_normal (hK2 _ _ _ ?_)
    refine WP.seq (fun K25 hK25 => ?_)
    refine WP.region ?_
    refine WL.runk 4 [0, 2, 3, 10] [(0, .int .i64 short_0), (2, .int .i64 heel_2), (3, .int .i64 sole_3), (10, .int .i64 (imin short_0 inside_1))] (by kernel_rfl) ?_
    refine WL.nil ?_
    refine WQ.then_normal (hK25 _ _ _ ?_)
    refine WP.seq (fun K26 hK26 => ?_)
    refine WP.region ?_
    refine WL.runk 6 [0, 3, 10, 11] [(0, .int .i64 short_0), (3, .int .i64 sole_3), (10, .int .i64 (imin short_0 inside_1)), (11, .int .i64 (imin (wI64 (short_0 - (imin short_0 inside_1))) heel_2))] (by kernel_rfl) ?_
    refine WL.nil ?_
    refine WQ.then_normal (hK26 _ _ _ ?_)
    refine WP.seq (fun K27 hK27 => ?_)
    refine WP.region ?_
    refine WL.runk 8 [0, 10, 11, 12] [(0, .int .i64 short_0), (10, .int .i64 (imin short_0 inside_1)), (11, .int .i64 (imin (wI64 (short_0 - (imin short_0 inside_1))) heel_2)), (12, .int .i64 (imin (wI64 ((wI64 (short_0 - (imin short_0 inside_1))) - (imin (wI64 (short_0 - (imin short_0 inside_1))) heel_2))) sole_3))] (by kernel_rfl) ?_
    refine WL.nil ?_
    refine WQ.then_normal (hK27 _ _ _ ?_)
    refine WP.seq (fun K28 hK28 => ?_)
    refine WP.seq (fun K29 hK29 => ?_)
    refine WP.region ?_
    refine WL.runk 7 [10, 11, 12, 40] [(10, .int .i64 (imin short_0 inside_1)), (11, .int .i64 (imin (wI64 (short_0 - (imin short_0 inside_1))) heel_2)), (12, .int .i64 (imin (wI64 ((wI64 (short_0 - (imin short_0 inside_1))) - (imin (wI64 (short_0 - (imin short_0 inside_1))) heel_2))) sole_3)), (40, .bool (decide ((wI64 ((wI64 ((imin short_0 inside_1) + (imin (wI64 (short_0 - (imin short_0 inside_1))) heel_2))) + (imin (wI64 ((wI64 (short_0 - (imin short_0 inside_1))) - (imin (wI64 (short_0 - (imin short_0 inside_1))) heel_2))) sole_3))) < short_0)))] (by kernel_rfl) ?_
    refine WL.nil ?_
    refine WQ.then_normal (hK29 _ _ _ ?_)
    refine WP.cond (decide ((wI64 ((wI64 ((imin short_0 inside_1) + (imin (wI64 (short_0 - (imin short_0 inside_1))) heel_2))) + (imin (wI64 ((wI64 (short_0 - (imin short_0 inside_1))) - (imin (wI64 (short_0 - (imin short_0 inside_1))) heel_2))) sole_3))) < short_0)) rfl rfl (fun hc30 => ?_) (fun hc30 => ?_)
    · have hm := iteT hm hc30
      refine WP.seq (fun K31 hK31 => ?_)
      refine WP.region ?_
      refine WL.runk 2 [8, 9] [(8, .slice none 0 0), (9, .int .i64 10)] (by kernel_rfl) ?_
      refine WL.nil ?_
      refine WQ.then_normal (hK31 _ _ _ ?_)
      refine WP.ret ?_
      refine WQ.then_ret ?_
      obtain rfl := Option.some.inj hm
      have hS33 : SH w15 w.heap.size [aOwn fInt 2 none 0 ([] : List Int), aOwn fInt 2 a4 c5 ([short_0, inside_1, heel_2, sole_3] : List Int)] := SH.nilOwn hS20
      exact WQ.ret2 _ _ rfl rfl rfl ⟨_, _, rfl, hb18, (SH.take 1 hS33)⟩
    · have hm := iteF hm hc30
      refine WP.skip ?_
      refine WQ.then_normal (hK28 _ _ _ ?_)
      refine WP.seq (fun K34 hK34 => ?_)
      refine WP.region ?_
      refine WL.runk 5 [41, 44, 45] [(41, .int .i64 (imin short_0 inside_1)), (44, .int .i64 (wI64 ((imin (wI64 (short_0 - (imin short_0 inside_1))) heel_2) + (imin (wI64 ((wI64 (short_0 - (imin short_0 inside_1))) - (imin (wI64 (short_0 - (imin short_0 inside_1))) heel_2))) sole_3)))), (45, .int .i64 (imin (wI64 ((wI64 (short_0 - (imin short_0 inside_1))) - (imin (wI64 (short_0 - (imin short_0 inside_1))) heel_2))) sole_3))] (by kernel_rfl) ?_
      refine WL.row fInt 2 ([(imin short_0 inside_1), (wI64 ((imin (wI64 (short_0 - (imin short_0 inside_1))) heel_2) + (imin (wI64 ((wI64 (short_0 - (imin short_0 inside_1))) - (imin (wI64 (short_0 - (imin short_0 inside_1))) heel_2))) sole_3))), (imin (wI64 ((wI64 (short_0 - (imin short_0 inside_1))) - (imin (wI64 (short_0 - (imin short_0 inside_1))) heel_2))) sole_3)] : List Int) 3 #[.int .i64 (imin short_0 inside_1), .int .i64 (wI64 ((imin (wI64 (short_0 - (imin short_0 inside_1))) heel_2) + (imin (wI64 ((wI64 (short_0 - (imin short_0 inside_1))) - (imin (wI64 (short_0 - (imin short_0 inside_1))) heel_2))) sole_3))), .int .i64 (imin (wI64 ((wI64 (short_0 - (imin short_0 inside_1))) - (imin (wI64 (short_0 - (imin short_0 inside_1))) heel_2))) sole_3)] 46 (by kernel_rfl) rfl rfl rfl rfl rfl rfl rfl ?_
      intro a35 c36 w37 hE38 hR39
      have hb41 : Ext w w37 := Ext.trans hb18 hE38
      have hL42 : w.heap.size ≤ w37.heap.size := Nat.le_trans hL19 hE38.size
      have hS43 : SH w37 w.heap.size [aOwn fInt 2 a35 c36 ([(imin short_0 inside_1), (wI64 ((imin (wI64 (short_0 - (imin short_0 inside_1))) heel_2) + (imin (wI64 ((wI64 (short_0 - (imin short_0 inside_1))) - (imin (wI64 (short_0 - (imin short_0 inside_1))) heel_2))) sole_3))), (imin (wI64 ((wI64 (short_0 - (imin short_0 inside_1))) - (imin (wI64 (short_0 - (imin short_0 inside_1))) heel_2))) sole_3)] : List Int), aOwn fInt 2 a4 c5 ([short_0, inside_1, heel_2, sole_3] : List Int)] := SH.add hS20 hE38 hL19 hR39
      refine WL.runk 2 [8, 9] [(8, .slice a35 (([(imin short_0 inside_1), (wI64 ((imin (wI64 (short_0 - (imin short_0 inside_1))) heel_2) + (imin (wI64 ((wI64 (short_0 - (imin short_0 inside_1))) - (imin (wI64 (short_0 - (imin short_0 inside_1))) heel_2))) sole_3))), (imin (wI64 ((wI64 (short_0 - (imin short_0 inside_1))) - (imin (wI64 (short_0 - (imin short_0 inside_1))) heel_2))) sole_3)] : List Int).length) c36), (9, .int .i64 0)] (by kernel_rfl) ?_
      refine WL.nil ?_
      refine WQ.then_normal (hK34 _ _ _ ?_)
      refine WP.ret ?_
      obtain rfl := Option.some.inj hm
      exact WQ.ret2 _ _ rfl rfl rfl ⟨_, _, rfl, hb41, (SH.take 1 hS43)⟩

end Go.Proofs.Ytlplbjeegkkilaa
