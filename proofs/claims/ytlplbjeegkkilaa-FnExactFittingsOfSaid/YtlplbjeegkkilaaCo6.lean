/- Each call does what its Lean function says. -/
import Derived.Test.YtlplbjeegkkilaaCo5
set_option maxRecDepth 20000
namespace Go.Proofs.Ytlplbjeegkkilaa
open Go Go.Gv Go.RowKit

theorem c_30 (n : Nat) (c_0 : SChange) (step_1 : Int) (w : World) {r : List Int × Int} (hm : m_impl_FittingsOf n c_0 step_1 = some r)  :
    CallV Try.prog 30 #[.agg #[.int .i64 c_0.Kind, .int .i64 c_0.Amount], .int .i64 step_1] w (fun v w' => ∃ (ra0 : Option Addr) (rc0 : Nat), v = .tuple #[.slice ra0 r.1.length rc0, .int .i64 r.2] ∧ Ext w w' ∧ SH w' w.heap.size [aOwn fInt 2 ra0 rc0 r.1]) := by
  unfold m_impl_FittingsOf at hm
  refine CallV.enter Try.func30 rfl (by kernel_rfl) Try.ntmps30 (env := [(0, .agg #[.int .i64 c_0.Kind, .int .i64 c_0.Amount]), (1, .int .i64 step_1)]) ⟨rfl, rfl, trivial⟩ ?_
  refine WP.seq (fun K1 hK1 => ?_)
  refine WP.region ?_
  refine WL.box 42 [.int .i64 c_0.Kind, .int .i64 c_0.Amount] 2 (by kernel_rfl) rfl rfl rfl rfl ?_
  intro b2 w3 hE4 hR5
  have hb7 : Ext w w3 := Ext.trans (Ext.refl w) hE4
  have hL8 : w.heap.size ≤ w3.heap.size := Nat.le_trans (Nat.le_refl _) hE4.size
  have hS9 : SH w3 w.heap.size [aBox 42 b2 [.int .i64 c_0.Kind, .int .i64 c_0.Amount]] := SH.add (SH.nil _ _) hE4 (Nat.le_refl _) hR5
  refine WL.runk 2 [1, 2] [(1, .int .i64 step_1), (2, .pointer (some ⟨b2, 0, none⟩))] (by kernel_rfl) ?_
  refine WL.nil ?_
  refine WQ.then_normal (hK1 _ _ _ ?_)
  refine WP.seq (fun K10 hK10 => ?_)
  refine WP.block ?_
  refine WP.seq (fun K11 hK11 => ?_)
  refine WP.region ?_
  refine WL.st (.agg #[.int .i64 c_0.Kind, .int .i64 c_0.Amount]) (ST.loadAgg (vs := [.int .i64 c_0.Kind, .int .i64 c_0.Amount]) (fun j v hv => SH.boxPart (us := [.int .i64 c_0.Kind, .int .i64 c_0.Amount]) (SH.front 0 hS9) 0 rfl j v hv) rfl rfl rfl Try.underlying42 rfl (info42).1 (info42).2.1) rfl rfl rfl ?_
  obtain ⟨x12, hx13, hm⟩ := bindE hm
  refine WL.call 62 #[.agg #[.int .i64 c_0.Kind, .int .i64 c_0.Amount]] rfl rfl (by kernel_rfl) (c_62 n c_0 w3 hx13 ) ?_
  rintro _ w14 ⟨rfl, hE15⟩
  refine ⟨_, rfl, ?_⟩
  have hb17 : Ext w w14 := Ext.trans hb7 hE15
  have hL18 : w.heap.size ≤ w14.heap.size := Nat.le_trans hL8 hE15.size
  have hS19 : SH w14 w.heap.size [aBox 42 b2 [.int .i64 c_0.Kind, .int .i64 c_0.Amount]] := SH.ext hS9 hE15
  refine WL.runk 2 [1, 2, 11] [(1, .int .i64 step_1), (2, .pointer (some ⟨b2, 0, none⟩)), (11, .bool (!x12))] (by kernel_rfl) ?_
  refine WL.nil ?_
  refine WQ.then_normal (hK11 _ _ _ ?_)
  refine WP.cond (!x12) rfl rfl (fun hc20 => ?_) (fun hc20 => ?_)
  · have hm := iteT hm hc20
    refine WP.seq (fun K21 hK21 => ?_)
    refine WP.region ?_
    refine WL.runk 2 [4, 5] [(4, .slice none 0 0), (5, .int .i64 1)] (by kernel_rfl) ?_
    refine WL.nil ?_
    refine WQ.then_normal (hK21 _ _ _ ?_)
    refine WP.ret ?_
    refine WQ.block_ret ?_
    refine WQ.then_ret ?_
    obtain rfl := Option.some.inj hm
    have hS23 : SH w14 w.heap.size [aOwn fInt 2 none 0 ([] : List Int), aBox 42 b2 [.int .i64 c_0.Kind, .int .i64 c_0.Amount]] := SH.nilOwn hS19
    exact WQ.ret2 _ _ rfl rfl rfl ⟨_, _, rfl, hb17, (SH.take 1 hS23)⟩
  · have hm := iteF hm hc20
    refine WP.seq (fun K24 hK24 => ?_)
    refine WP.region ?_
    refine WL.runk 1 [1, 2, 16] [(1, .int .i64 step_1), (2, .pointer (some ⟨b2, 0, none⟩)), (16, .int .i64 step_1)] (by kernel_rfl) ?_
    obtain ⟨x25, hx26, hm⟩ := bindE hm
    refine WL.call 66 #[.int .i64 step_1, .int .i64 1, .int .i64 100] rfl rfl (by kernel_rfl) (c_66 n step_1 1 100 w14 hx26 ) ?_
    rintro _ w27 ⟨rfl, hE28⟩
    refine ⟨_, rfl, ?_⟩
    have hb30 : Ext w w27 := Ext.trans hb17 hE28
    have hL31 : w.heap.size ≤ w27.heap.size := Nat.le_trans hL18 hE28.size
    have hS32 : SH w27 w.heap.size [aBox 42 b2 [.int .i64 c_0.Kind, .int .i64 c_0.Amount]] := SH.ext hS19 hE28
    refine WL.runk 2 [1, 2, 15] [(1, .int .i64 step_1), (2, .pointer (some ⟨b2, 0, none⟩)), (15, .bool (!x25))] (by kernel_rfl) ?_
    refine WL.nil ?_
    refine WQ.then_normal (hK24 _ _ _ ?_)
    refine WP.cond (!x25) rfl rfl (fun hc33 => ?_) (fun hc33 => ?_)
    · have hm := iteT hm hc33
      refine WP.seq (fun K34 hK34 => ?_)
      refine WP.region ?_
      refine WL.runk 2 [4, 5] [(4, .slice none 0 0), (5, .int .i64 2)] (by kernel_rfl) ?_
      refine WL.nil ?_
      refine WQ.then_normal (hK34 _ _ _ ?_)
      refine WP.ret ?_
      refine WQ.block_ret ?_
      refine WQ.then_ret ?_
      obtain rfl := Option.some.inj hm
      have hS36 : SH w27 w.heap.size [aOwn fInt 2 none 0 ([] : List Int), aBox 42 b2 [.int .i64 c_0.Kind, .int .i64 c_0.Amount]] := SH.nilOwn hS32
      exact WQ.ret2 _ _ rfl rfl rfl ⟨_, _, rfl, hb30, (SH.take 1 hS36)⟩
    · have hm := iteF hm hc33
      refine WP.skip ?_
      refine WQ.block_normal ?_
      refine WQ.then_normal (hK10 _ _ _ ?_)
      refine WP.seq (fun K37 hK37 => ?_)
      refine WP.region ?_
      refine WL.runk 1 [1, 2, 19] [(1, .int .i64 step_1), (2, .pointer (some ⟨b2, 0, none⟩)), (19, .pointer (some ⟨b2, 1, none⟩))] (by kernel_rfl) ?_
      refine WL.st (.int .i64 c_0.Amount) (ST.load (cell_ext (SH.boxAt (SH.front 0 hS32) 1 _ rfl)) rfl rfl Try.underlying2 rfl) rfl rfl rfl ?_
      obtain ⟨x38, hx39, hm⟩ := bindE hm
      refine WL.call 67 #[.int .i64 c_0.Amount, .int .i64 0] rfl rfl (by kernel_rfl) (c_67 n c_0.Amount 0 w27 hx39 ) ?_
      rintro _ w40 ⟨rfl, hE41⟩
      refine ⟨_, rfl, ?_⟩
      have hb43 : Ext w w40 := Ext.trans hb30 hE41
      have hL44 : w.heap.size ≤ w40.heap.size := Nat.le_trans hL31 hE41.size
      have hS45 : SH w40 w.heap.size [aBox 42 b2 [.int .i64 c_0.Kind, .int .i64 c_0.Amount]] := SH.ext hS32 hE41
      refine WL.runk 1 [1, 2, 6] [(1, .int .i64 step_1), (2, .pointer (some ⟨b2, 0, none⟩)), (6, .int .i64 x38)] (by kernel_rfl) ?_
      refine WL.nil ?_
      refine WQ.then_normal (hK37 _ _ _ ?_)
      refine WP.seq (fun K46 hK46 => ?_)
      refine WP.region ?_
      refine WL.runk 5 [2, 6, 25, 26] [(2, .pointer (some ⟨b2, 0, none⟩)), (6, .int .i64 x38), (25, .int .i64 (wI64 ((wI64 (x38 + step_1)) - 1))), (26, .int .i64 step_1)] (by kernel_rfl) ?_
      obtain ⟨x47, hx48, hm⟩ := bindE hm
      refine WL.st (.int .i64 x47) (ST.quo (k := .i64) hx48 rfl rfl rfl) rfl rfl rfl ?_
      refine WL.row fInt 2 ([] : List Int) 0 #[] 28 (by kernel_rfl) rfl rfl rfl rfl rfl rfl rfl ?_
      intro a49 c50 w51 hE52 hR53
      have hb55 : Ext w w51 := Ext.trans hb43 hE52
      have hL56 : w.heap.size ≤ w51.heap.size := Nat.le_trans hL44 hE52.size
      have hS57 : SH w51 w.heap.size [aOwn fInt 2 a49 c50 ([] : List Int), aBox 42 b2 [.int .i64 c_0.Kind, .int .i64 c_0.Amount]] := SH.add hS45 hE52 hL44 hR53
      refine WL.runk 2 [2, 6, 7, 8] [(2, .pointer (some ⟨b2, 0, none⟩)), (6, .int .i64 x38), (7, .int .i64 x47), (8, .slice a49 (([] : List Int).length) c50)] (by kernel_rfl) ?_
      refine WL.nil ?_
      refine WQ.then_normal (hK46 _ _ _ ?_)
      refine WP.seq (fun K58 hK58 => ?_)
      refine WP.seq (fun K59 hK59 => ?_)
      refine WP.region ?_
      refine WL.runk 2 [2, 6, 7, 8, 29, 30] [(2, .pointer (some ⟨b2, 0, none⟩)), (6, .int .i64 x38), (7, .int .i64 x47), (8, .slice a49 (([] : List Int).length) c50), (29, .int .i64 x47), (30, .int .i64 0)] (by kernel_rfl) ?_
      refine WL.nil ?_
      refine WQ.then_normal (hK59 _ _ _ ?_)
      refine WP.block ?_
      obtain ⟨t74, ht75, hm⟩ := bindE hm
      have hmo69 := hm; clear hm
      refine WP.sub [(2, .pointer (some ⟨b2, 0, none⟩)), (6, .int .i64 x38), (7, .int .i64 x47), (8, .slice a49 (([] : List Int).length) c50), (29, .int .i64 x47), (30, .int .i64 0)] ⟨rfl, rfl, rfl, rfl, rfl, rfl, trivial⟩ ?_
      refine WP.loop (fun n' env' w' => ∃ (st60 : List Int × Int) (a61 : Option Addr) (c62 : Nat), env' = [(2, .pointer (some ⟨b2, 0, none⟩)), (6, .int .i64 x38), (7, .int .i64 x47), (8, .slice a61 st60.1.length c62), (29, .int .i64 x47), (30, .int .i64 st60.2)] ∧ Ext w w' ∧ w.heap.size ≤ w'.heap.size ∧ SH w' w.heap.size [aOwn fInt 2 a61 c62 st60.1, aBox 42 b2 [.int .i64 c_0.Kind, .int .i64 c_0.Amount]] ∧ loopN (m_impl_FittingsOf_l1 n c_0 x38 x47) n' st60 = some t74) n ⟨(([] : List Int), 0), _, _, rfl, hb55, hL56, hS57, ht75⟩ ?_
      rintro n71 _ w64 ⟨st60, a61, c62, rfl, hb65, hL66, hS67, hl68⟩ K70 hK70
      obtain ⟨n72, s73, rfl, hm, hl68⟩ := loopN_some hl68
      unfold m_impl_FittingsOf_l1 at hm
      refine WP.seq (fun K76 hK76 => ?_)
      refine WP.region ?_
      refine WL.runk 1 [2, 6, 7, 8, 29, 30, 31] [(2, .pointer (some ⟨b2, 0, none⟩)), (6, .int .i64 x38), (7, .int .i64 x47), (8, .slice a61 st60.1.length c62), (29, .int .i64 x47), (30, .int .i64 st60.2), (31, .bool (decide (st60.2 < x47)))] (by kernel_rfl) ?_
      refine WL.nil ?_
      refine WQ.then_normal (hK76 _ _ _ ?_)
      refine WP.seq (fun K77 hK77 => ?_)
      refine WP.cond (decide (st60.2 < x47)) rfl rfl (fun hc78 => ?_) (fun hc78 => ?_)
      · have hm := iteT hm hc78
        refine WP.skip ?_
        refine WQ.then_normal (hK77 _ _ _ ?_)
        refine WP.seq (fun K79 hK79 => ?_)
        refine WP.block ?_
        refine WP.seq (fun K80 hK80 => ?_)
        refine WP.region ?_
        refine WL.runk 2 [2, 6, 7, 8, 9, 29, 30] [(2, .pointer (some ⟨b2, 0, none⟩)), (6, .int .i64 x38), (7, .int .i64 x47), (8, .slice a61 st60.1.length c62), (29, .int .i64 x47), (30, .int .i64 st60.2), (9, .int .i64 st60.2)] (by kernel_rfl) ?_
        refine WL.nil ?_
        refine WQ.then_normal (hK80 _ _ _ ?_)
        refine WP.seq (fun K81 hK81 => ?_)
        refine WP.region ?_
        refine WL.runk 2 [2, 6, 7, 8, 9, 29, 30, 33, 34] [(2, .pointer (some ⟨b2, 0, none⟩)), (6, .int .i64 x38), (7, .int .i64 x47), (8, .slice a61 st60.1.length c62), (29, .int .i64 x47), (30, .int .i64 st60.2), (9, .int .i64 st60.2), (33, .int .i64 x38), (34, .int .i64 x47)] (by kernel_rfl) ?_
        obtain ⟨x82, hx83, hm⟩ := bindE hm
        refine WL.st (.int .i64 x82) (ST.quo (k := .i64) hx83 rfl rfl rfl) rfl rfl rfl ?_
        refine WL.runk 1 [2, 6, 7, 8, 9, 10, 29, 30] [(2, .pointer (some ⟨b2, 0, none⟩)), (6, .int .i64 x38), (7, .int .i64 x47), (8, .slice a61 st60.1.length c62), (29, .int .i64 x47), (30, .int .i64 st60.2), (9, .int .i64 st60.2), (10, .int .i64 x82)] (by kernel_rfl) ?_
        refine WL.nil ?_
        refine WQ.then_normal (hK81 _ _ _ ?_)
        refine WP.seq (fun K84 hK84 => ?_)
        refine WP.seq (fun K85 hK85 => ?_)
        refine WP.region ?_
        refine WL.runk 3 [2, 6, 7, 8, 10, 29, 30, 36, 37, 38] [(2, .pointer (some ⟨b2, 0, none⟩)), (6, .int .i64 x38), (7, .int .i64 x47), (8, .slice a61 st60.1.length c62), (29, .int .i64 x47), (30, .int .i64 st60.2), (10, .int .i64 x82), (36, .int .i64 st60.2), (37, .int .i64 x38), (38, .int .i64 x47)] (by kernel_rfl) ?_
        obtain ⟨x86, hx87, hm⟩ := bindE hm
        refine WL.st (.int .i64 x86) (ST.rem (k := .i64) hx87 rfl rfl rfl) rfl rfl rfl ?_
        refine WL.runk 1 [2, 6, 7, 8, 10, 29, 30, 40] [(2, .pointer (some ⟨b2, 0, none⟩)), (6, .int .i64 x38), (7, .int .i64 x47), (8, .slice a61 st60.1.length c62), (29, .int .i64 x47), (30, .int .i64 st60.2), (10, .int .i64 x82), (40, .bool (decide (st60.2 < x86)))] (by kernel_rfl) ?_
        refine WL.nil ?_
        refine WQ.then_normal (hK85 _ _ _ ?_)
        obtain ⟨x89, hx90, hm⟩ := bindE hm
        refine WP.cut (fun env' w' => env' = [(2, .pointer (some ⟨b2, 0, none⟩)), (6, .int .i64 x38), (7, .int .i64 x47), (8, .slice a61 st60.1.length c62), (29, .int .i64 x47), (30, .int .i64 st60.2), (10, .int .i64 x89)] ∧ Ext w w' ∧ w.heap.size ≤ w'.heap.size ∧ SH w' w.heap.size [aOwn fInt 2 a61 c62 st60.1, aBox 42 b2 [.int .i64 c_0.Kind, .int .i64 c_0.Amount]]) ?_ ?_
        · have hm := hx90; clear hx90
          refine WP.cond (decide (st60.2 < x86)) rfl rfl (fun hc88 => ?_) (fun hc88 => ?_)
          · have hm := iteT hm hc88
            refine WP.region ?_
            refine WL.runk 3 [2, 6, 7, 8, 10, 29, 30] [(2, .pointer (some ⟨b2, 0, none⟩)), (6, .int .i64 x38), (7, .int .i64 x47), (8, .slice a61 st60.1.length c62), (29, .int .i64 x47), (30, .int .i64 st60.2), (10, .int .i64 (wI64 (x82 + 1)))] (by kernel_rfl) ?_
            refine WL.nil ?_
            obtain rfl := Option.some.inj hm
            exact WQ.post' ⟨rfl, hb65, hL66, hS67⟩ ⟨rfl, rfl, rfl, rfl, rfl, rfl, rfl, trivial⟩
          · have hm := iteF hm hc88
            refine WP.skip ?_
            obtain rfl := Option.some.inj hm
            exact WQ.post' ⟨rfl, hb65, hL66, hS67⟩ ⟨rfl, rfl, rfl, rfl, rfl, rfl, rfl, trivial⟩
        · clear hx90
          rintro _ w91 ⟨rfl, hb92, hL93, hS94⟩
          refine WQ.then_normal (hK84 _ _ _ ?_)
          refine WP.seq (fun K95 hK95 => ?_)
          refine WP.seq (fun K96 hK96 => ?_)
          refine WP.region ?_
          refine WL.runk 1 [2, 6, 7, 8, 10, 29, 30, 43] [(2, .pointer (some ⟨b2, 0, none⟩)), (6, .int .i64 x38), (7, .int .i64 x47), (8, .slice a61 st60.1.length c62), (29, .int .i64 x47), (30, .int .i64 st60.2), (10, .int .i64 x89), (43, .pointer (some ⟨b2, 1, none⟩))] (by kernel_rfl) ?_
          refine WL.st (.int .i64 c_0.Amount) (ST.load (cell_ext (SH.boxAt (SH.front 1 hS94) 1 _ rfl)) rfl rfl Try.underlying2 rfl) rfl rfl rfl ?_
          refine WL.runk 1 [2, 6, 7, 8, 10, 29, 30, 45] [(2, .pointer (some ⟨b2, 0, none⟩)), (6, .int .i64 x38), (7, .int .i64 x47), (8, .slice a61 st60.1.length c62), (29, .int .i64 x47), (30, .int .i64 st60.2), (10, .int .i64 x89), (45, .bool (decide (c_0.Amount < 0)))] (by kernel_rfl) ?_
          refine WL.nil ?_
          refine WQ.then_normal (hK96 _ _ _ ?_)
          obtain ⟨x98, hx99, hm⟩ := bindE hm
          refine WP.cut (fun env' w' => env' = [(2, .pointer (some ⟨b2, 0, none⟩)), (6, .int .i64 x38), (7, .int .i64 x47), (8, .slice a61 st60.1.length c62), (29, .int .i64 x47), (30, .int .i64 st60.2), (10, .int .i64 x98)] ∧ Ext w w' ∧ w.heap.size ≤ w'.heap.size ∧ SH w' w.heap.size [aOwn fInt 2 a61 c62 st60.1, aBox 42 b2 [.int .i64 c_0.Kind, .int .i64 c_0.Amount]]) ?_ ?_
          · have hm := hx99; clear hx99
            refine WP.cond (decide (c_0.Amount < 0)) rfl rfl (fun hc97 => ?_) (fun hc97 => ?_)
            · have hm := iteT hm hc97
              refine WP.region ?_
              refine WL.runk 3 [2, 6, 7, 8, 10, 29, 30] [(2, .pointer (some ⟨b2, 0, none⟩)), (6, .int .i64 x38), (7, .int .i64 x47), (8, .slice a61 st60.1.length c62), (29, .int .i64 x47), (30, .int .i64 st60.2), (10, .int .i64 (wI64 (0 - x89)))] (by kernel_rfl) ?_
              refine WL.nil ?_
              obtain rfl := Option.some.inj hm
              exact WQ.post' ⟨rfl, hb92, hL93, hS94⟩ ⟨rfl, rfl, rfl, rfl, rfl, rfl, rfl, trivial⟩
            · have hm := iteF hm hc97
              refine WP.skip ?_
              obtain rfl := Option.some.inj hm
              exact WQ.post' ⟨rfl, hb92, hL93, hS94⟩ ⟨rfl, rfl, rfl, rfl, rfl, rfl, rfl, trivial⟩
          · clear hx99
            rintro _ w100 ⟨rfl, hb101, hL102, hS103⟩
            refine WQ.then_normal (hK95 _ _ _ ?_)
            refine WP.region ?_
            refine WL.runk 2 [2, 6, 7, 29, 30, 48, 49] [(2, .pointer (some ⟨b2, 0, none⟩)), (6, .int .i64 x38), (7, .int .i64 x47), (29, .int .i64 x47), (30, .int .i64 st60.2), (48, .slice a61 st60.1.length c62), (49, .int .i64 x98)] (by kernel_rfl) ?_
            refine WL.row fInt 2 ([x98] : List Int) 1 #[.int .i64 x98] 50 (by kernel_rfl) rfl rfl rfl rfl rfl rfl rfl ?_
            intro a104 c105 w106 hE107 hR108
            have hb110 : Ext w w106 := Ext.trans hb101 hE107
            have hL111 : w.heap.size ≤ w106.heap.size := Nat.le_trans hL102 hE107.size
            have hS112 : SH w106 w.heap.size [aOwn fInt 2 a104 c105 ([x98] : List Int), aOwn fInt 2 a61 c62 st60.1, aBox 42 b2 [.int .i64 c_0.Kind, .int .i64 c_0.Amount]] := SH.add hS103 hE107 hL102 hR108
            obtain ⟨x113, hx114, hm⟩ := bindE hm
            refine WL.append (F := fInt) (xs := st60.1) (ys := ([x98] : List Int)) 51 (SH.front 1 hS112) hL111 (SH.rd (SH.front 0 hS112)) hx114 rfl rfl rfl Try.underlying31 (info2).1 (info2).2.2.1 (info2).2.1 (info2).2.2.2 rfl rfl rfl rfl rfl ?_
            intro a115 c116 w117 hB118 hS119
            have hb120 : Ext w w117 := Below.trans hb110 hB118
            have hL121 : w.heap.size ≤ w117.heap.size := Nat.le_trans hL111 hB118.size
            refine WL.runk 1 [2, 6, 7, 8, 29, 30] [(2, .pointer (some ⟨b2, 0, none⟩)), (6, .int .i64 x38), (7, .int .i64 x47), (29, .int .i64 x47), (30, .int .i64 st60.2), (8, .slice a115 x113.length c116)] (by kernel_rfl) ?_
            refine WL.nil ?_
            refine WQ.block_normal ?_
            refine WQ.then_normal (hK79 _ _ _ ?_)
            refine WP.region ?_
            refine WL.runk 2 [2, 6, 7, 8, 29, 30] [(2, .pointer (some ⟨b2, 0, none⟩)), (6, .int .i64 x38), (7, .int .i64 x47), (29, .int .i64 x47), (30, .int .i64 (wI64 (st60.2 + 1))), (8, .slice a115 x113.length c116)] (by kernel_rfl) ?_
            refine WL.nil ?_
            obtain rfl := Option.some.inj hm
            exact WQ.round hK70 ⟨(x113, (wI64 (st60.2 + 1))), _, _, rfl, hb120, hL121, (SH.take 2 (SH.front 1 (SH.front 2 hS119))), hl68⟩ (Nat.lt_succ_self _) ⟨rfl, rfl, rfl, rfl, rfl, rfl, trivial⟩
      · have hm := iteF hm hc78
        refine WP.exit ?_
        refine WQ.then_exit ?_
        refine WQ.then_exit ?_
        refine WQ.block_here ?_
        obtain rfl := Option.some.inj hm
        obtain rfl := afterN_done hl68
        have hm := hmo69
        refine WQ.then_normal (hK58 _ _ _ ?_)
        refine WP.seq (fun K122 hK122 => ?_)
        refine WP.region ?_
        refine WL.runk 3 [4, 5] [(4, .slice a61 st60.1.length c62), (5, .int .i64 0)] (by kernel_rfl) ?_
        refine WL.nil ?_
        refine WQ.then_normal (hK122 _ _ _ ?_)
        refine WP.ret ?_
        obtain rfl := Option.some.inj hm
        exact WQ.ret2 _ _ rfl rfl rfl ⟨_, _, rfl, hb65, (SH.take 1 hS67)⟩

theorem c_7 (n : Nat) (aC_0 : SChange) (aStep_1 : Int) (w : World) {r : Bool} (hm : m_laws_FnExactFittingsOf n aC_0 aStep_1 = some r)  :
    CallV Try.prog 7 #[.agg #[.int .i64 aC_0.Kind, .int .i64 aC_0.Amount], .int .i64 aStep_1] w (fun v w' => v = .bool r ∧ Ext w w') := by
  unfold m_laws_FnExactFittingsOf at hm
  refine CallV.enter Try.func7 rfl (by kernel_rfl) Try.ntmps7 (env := [(0, .agg #[.int .i64 aC_0.Kind, .int .i64 aC_0.Amount]), (1, .int .i64 aStep_1)]) ⟨rfl, rfl, trivial⟩ ?_
  refine WP.seq (fun K1 hK1 => ?_)
  refine WP.region ?_
  refine WL.box 40 [.int .i64 aC_0.Kind, .int .i64 aC_0.Amount] 2 (by kernel_rfl) rfl rfl rfl rfl ?_
  intro b2 w3 hE4 hR5
  have hb7 : Ext w w3 := Ext.trans (Ext.refl w) hE4
  have hL8 : w.heap.size ≤ w3.heap.size := Nat.le_trans (Nat.le_refl _) hE4.size
  have hS9 : SH w3 w.heap.size [aBox 40 b2 [.int .i64 aC_0.Kind, .int .i64 aC_0.Amount]] := SH.add (SH.nil _ _) hE4 (Nat.le_refl _) hR5
  refine WL.runk 1 [1, 2] [(1, .int .i64 aStep_1), (2, .pointer (some ⟨b2, 0, none⟩))] (by kernel_rfl) ?_
  refine WL.nil ?_
  refine WQ.then_normal (hK1 _ _ _ ?_)
  refine WP.seq (fun K10 hK10 => ?_)
  refine WP.region ?_
  refine WL.st (.agg #[.int .i64 aC_0.Kind, .int .i64 aC_0.Amount]) (ST.loadAgg (vs := [.int .i64 aC_0.Kind, .int .i64 aC_0.Amount]) (fun j v hv => SH.boxPart (us := [.int .i64 aC_0.Kind, .int .i64 aC_0.Amount]) (SH.front 0 hS9) 0 rfl j v hv) rfl rfl rfl Try.underlying40 rfl (info40).1 (info40).2.1) rfl rfl rfl ?_
  obtain ⟨x11, hx12, hm⟩ := bindE hm
  refine WL.call 29 #[.agg #[.int .i64 aC_0.Kind, .int .i64 aC_0.Amount]] rfl rfl (by kernel_rfl) (c_29 n aC_0 w3 hx12 ) ?_
  rintro _ w13 ⟨rfl, hE14⟩
  refine ⟨_, rfl, ?_⟩
  have hb16 : Ext w w13 := Ext.trans hb7 hE14
  have hL17 : w.heap.size ≤ w13.heap.size := Nat.le_trans hL8 hE14.size
  have hS18 : SH w13 w.heap.size [aBox 40 b2 [.int .i64 aC_0.Kind, .int .i64 aC_0.Amount]] := SH.ext hS9 hE14
  refine WL.runk 1 [1, 2, 15, 16] [(1, .int .i64 aStep_1), (2, .pointer (some ⟨b2, 0, none⟩)), (15, .agg #[.int .i64 x11.Kind, .int .i64 x11.Amount]), (16, .int .i64 aStep_1)] (by kernel_rfl) ?_
  obtain ⟨x19, hx20, hm⟩ := bindE hm
  refine WL.call 28 #[.agg #[.int .i64 x11.Kind, .int .i64 x11.Amount], .int .i64 aStep_1] rfl rfl (by kernel_rfl) (c_28 n x11 aStep_1 w13 hx20 ) ?_
  rintro _ w24 ⟨a21, c22, rfl, hE25, hR26⟩
  refine ⟨_, rfl, ?_⟩
  have hb27 : Ext w w24 := Ext.trans hb16 hE25
  have hL28 : w.heap.size ≤ w24.heap.size := Nat.le_trans hL17 hE25.size
  have hS29 : SH w24 w.heap.size [aOwn fInt 2 a21 c22 x19.1, aBox 40 b2 [.int .i64 aC_0.Kind, .int .i64 aC_0.Amount]] := SH.add hS18 hE25 hL17 hR26
  refine WL.runk 5 [1, 2, 5, 6] [(1, .int .i64 aStep_1), (2, .pointer (some ⟨b2, 0, none⟩)), (5, .slice a21 x19.1.length c22), (6, .int .i64 x19.2)] (by kernel_rfl) ?_
  refine WL.nil ?_
  refine WQ.then_normal (hK10 _ _ _ ?_)
  refine WP.seq (fun K30 hK30 => ?_)
  refine WP.region ?_
  refine WL.st (.agg #[.int .i64 aC_0.Kind, .int .i64 aC_0.Amount]) (ST.loadAgg (vs := [.int .i64 aC_0.Kind, .int .i64 aC_0.Amount]) (fun j v hv => SH.boxPart (us := [.int .i64 aC_0.Kind, .int .i64 aC_0.Amount]) (SH.front 1 hS29) 0 rfl j v hv) rfl rfl rfl Try.underlying40 rfl (info40).1 (info40).2.1) rfl rfl rfl ?_
  obtain ⟨x31, hx32, hm⟩ := bindE hm
  refine WL.call 29 #[.agg #[.int .i64 aC_0.Kind, .int .i64 aC_0.Amount]] rfl rfl (by kernel_rfl) (c_29 n aC_0 w24 hx32 ) ?_
  rintro _ w33 ⟨rfl, hE34⟩
  refine ⟨_, rfl, ?_⟩
  have hb36 : Ext w w33 := Ext.trans hb27 hE34
  have hL37 : w.heap.size ≤ w33.heap.size := Nat.le_trans hL28 hE34.size
  have hS38 : SH w33 w.heap.size [aOwn fInt 2 a21 c22 x19.1, aBox 40 b2 [.int .i64 aC_0.Kind, .int .i64 aC_0.Amount]] := SH.ext hS29 hE34
  refine WL.runk 1 [1, 2, 5, 6, 22, 23] [(1, .int .i64 aStep_1), (2, .pointer (some ⟨b2, 0, none⟩)), (5, .slice a21 x19.1.length c22), (6, .int .i64 x19.2), (22, .agg #[.int .i64 x31.Kind, .int .i64 x31.Amount]), (23, .int .i64 aStep_1)] (by kernel_rfl) ?_
  obtain ⟨x39, hx40, hm⟩ := bindE hm
  refine WL.call 30 #[.agg #[.int .i64 x31.Kind, .int .i64 x31.Amount], .int .i64 aStep_1] rfl rfl (by kernel_rfl) (c_30 n x31 aStep_1 w33 hx40 ) ?_
  rintro _ w44 ⟨a41, c42, rfl, hE45, hR46⟩
  refine ⟨_, rfl, ?_⟩
  have hb47 : Ext w w44 := Ext.trans hb36 hE45
  have hL48 : w.heap.size ≤ w44.heap.size := Nat.le_trans hL37 hE45.size
  have hS49 : SH w44 w.heap.size [aOwn fInt 2 a41 c42 x39.1, aOwn fInt 2 a21 c22 x19.1, aBox 40 b2 [.int .i64 aC_0.Kind, .int .i64 aC_0.Amount]] := SH.add hS38 hE45 hL37 hR46
  refine WL.runk 5 [1, 2, 5, 6, 7, 8] [(1, .int .i64 aStep_1), (2, .pointer (some ⟨b2, 0, none⟩)), (5, .slice a21 x19.1.length c22), (6, .int .i64 x19.2), (7, .slice a41 x39.1.length c42), (8, .int .i64 x39.2)] (by kernel_rfl) ?_
  refine WL.nil ?_
  refine WQ.then_normal (hK30 _ _ _ ?_)
  refine WP.seq (fun K50 hK50 => ?_)
  refine WP.seq (fun K51 hK51 => ?_)
  obtain ⟨x61, hx62, hm⟩ := bindE hm
  refine WP.cut (fun env' w' => env' = [(1, .int .i64 aStep_1), (2, .pointer (some ⟨b2, 0, none⟩)), (5, .slice a21 x19.1.length c22), (6, .int .i64 x19.2), (7, .slice a41 x39.1.length c42), (35, .bool x61)] ∧ Ext w w' ∧ w.heap.size ≤ w'.heap.size ∧ SH w' w.heap.size [aOwn fInt 2 a41 c42 x39.1, aOwn fInt 2 a21 c22 x19.1, aBox 40 b2 [.int .i64 aC_0.Kind, .int .i64 aC_0.Amount]]) ?_ ?_
  · have hm := hx62; clear hx62
    refine WP.region ?_
    refine WL.runk 2 [1, 2, 5, 6, 7, 8, 27, 28] [(1, .int .i64 aStep_1), (2, .pointer (some ⟨b2, 0, none⟩)), (5, .slice a21 x19.1.length c22), (6, .int .i64 x19.2), (7, .slice a41 x39.1.length c42), (8, .int .i64 x39.2), (27, .slice a41 x39.1.length c42), (28, .slice a21 x19.1.length c22)] (by kernel_rfl) ?_
    obtain ⟨x63, hx64, hm⟩ := bindE hm
    refine WL.call 23 #[.slice a41 x39.1.length c42, .slice a21 x19.1.length c22] rfl rfl (by kernel_rfl) (c_23 n x39.1 a41 c42 x19.1 a21 c22 w44 hx64 (SH.rd (SH.front 0 hS49)) (SH.le (SH.front 0 hS49)).1 (SH.rd (SH.front 1 hS49)) (SH.le (SH.front 1 hS49)).1) ?_
    rintro _ w65 ⟨rfl, hE66⟩
    refine ⟨_, rfl, ?_⟩
    have hb68 : Ext w w65 := Ext.trans hb47 hE66
    have hL69 : w.heap.size ≤ w65.heap.size := Nat.le_trans hL48 hE66.size
    have hS70 : SH w65 w.heap.size [aOwn fInt 2 a41 c42 x39.1, aOwn fInt 2 a21 c22 x19.1, aBox 40 b2 [.int .i64 aC_0.Kind, .int .i64 aC_0.Amount]] := SH.ext hS49 hE66
    refine WL.runk 2 [1, 2, 5, 6, 7, 8, 31] [(1, .int .i64 aStep_1), (2, .pointer (some ⟨b2, 0, none⟩)), (5, .slice a21 x19.1.length c22), (6, .int .i64 x19.2), (7, .slice a41 x39.1.length c42), (8, .int .i64 x39.2), (31, .bool (!x63))] (by kernel_rfl) ?_
    refine WL.case (!x63) [31] ⟨rfl, trivial⟩ (fun hc71 => ?_) (fun hc71 => ?_)
    · have hm := iteT hm hc71
      refine WL.runk 4 [1, 2, 5, 6, 7, 35] [(1, .int .i64 aStep_1), (2, .pointer (some ⟨b2, 0, none⟩)), (5, .slice a21 x19.1.length c22), (6, .int .i64 x19.2), (7, .slice a41 x39.1.length c42), (35, .bool true)] (by kernel_rfl) ?_
      refine WL.nil ?_
      obtain rfl := Option.some.inj hm
      exact WQ.post' ⟨rfl, hb68, hL69, hS70⟩ ⟨rfl, rfl, rfl, rfl, rfl, rfl, trivial⟩
    · have hm := iteF hm hc71
      refine WL.runk 4 [1, 2, 5, 6, 7, 35] [(1, .int .i64 aStep_1), (2, .pointer (some ⟨b2, 0, none⟩)), (5, .slice a21 x19.1.length c22), (6, .int .i64 x19.2), (7, .slice a41 x39.1.length c42), (35, .bool (x39.2 != x19.2))] (by kernel_rfl) ?_
      refine WL.nil ?_
      obtain rfl := Option.some.inj hm
      exact WQ.post' ⟨rfl, hb68, hL69, hS70⟩ ⟨rfl, rfl, rfl, rfl, rfl, rfl, trivial⟩
  · clear hx62
    rintro _ w72 ⟨rfl, hb73, hL74, hS75⟩
    refine WQ.then_normal (hK51 _ _ _ ?_)
    refine WP.cond x61 rfl rfl (fun hc76 => ?_) (fun hc76 => ?_)
    · have hm := iteT hm hc76
      refine WP.seq (fun K77 hK77 => ?_)
      refine WP.region ?_
      refine WL.runk 1 [4] [(4, .bool false)] (by kernel_rfl) ?_
      refine WL.nil ?_
      refine WQ.then_normal (hK77 _ _ _ ?_)
      refine WP.ret ?_
      refine WQ.then_ret ?_
      obtain rfl := Option.some.inj hm
      exact WQ.ret1 _ rfl rfl ⟨rfl, hb73⟩
    · have hm := iteF hm hc76
      refine WP.skip ?_
      refine WQ.then_normal (hK50 _ _ _ ?_)
      refine WP.seq (fun K78 hK78 => ?_)
      refine WP.region ?_
      refine WL.runk 1 [1, 2, 5, 6, 7, 9] [(1, .int .i64 aStep_1), (2, .pointer (some ⟨b2, 0, none⟩)), (5, .slice a21 x19.1.length c22), (6, .int .i64 x19.2), (7, .slice a41 x39.1.length c42), (9, .int .i64 1)] (by kernel_rfl) ?_
      refine WL.nil ?_
      refine WQ.then_normal (hK78 _ _ _ ?_)
      refine WP.seq (fun K79 hK79 => ?_)
      refine WP.region ?_
      refine WL.runk 2 [1, 2, 5, 6, 7, 36, 37] [(1, .int .i64 aStep_1), (2, .pointer (some ⟨b2, 0, none⟩)), (5, .slice a21 x19.1.length c22), (6, .int .i64 x19.2), (7, .slice a41 x39.1.length c42), (36, .slice a41 x39.1.length c42), (37, .int .i64 1)] (by kernel_rfl) ?_
      obtain ⟨x80, hx81, hm⟩ := bindE hm
      refine WL.call 24 #[.slice a41 x39.1.length c42, .int .i64 1] rfl rfl (by kernel_rfl) (c_24 n x39.1 a41 c42 1 w72 w w.heap.size [aOwn fInt 2 a21 c22 x19.1, aBox 40 b2 [.int .i64 aC_0.Kind, .int .i64 aC_0.Amount]] hx81 hb73 (Nat.le_refl _) hL74  hS75) ?_
      rintro _ w82 ⟨rfl, hB86, hS85, hlen87⟩
      refine ⟨_, rfl, ?_⟩
      have hb88 : Ext w w82 := Below.trans hb73 hB86
      have hL89 : w.heap.size ≤ w82.heap.size := Nat.le_trans hL74 hB86.size
      refine WL.sub [(1, .int .i64 aStep_1), (2, .pointer (some ⟨b2, 0, none⟩)), (5, .slice a21 x19.1.length c22), (6, .int .i64 x19.2), (7, .slice a41 x80.2.length c42), (36, .slice a41 x80.2.length c42), (37, .int .i64 1), (38, .int .i64 x80.1)] ⟨rfl, rfl, rfl, rfl, by rw [hlen87]; rfl, by rw [hlen87]; rfl, rfl, rfl, trivial⟩ ?_
      refine WL.runk 1 [1, 2, 5, 6, 7, 9] [(1, .int .i64 aStep_1), (2, .pointer (some ⟨b2, 0, none⟩)), (5, .slice a21 x19.1.length c22), (6, .int .i64 x19.2), (7, .slice a41 x80.2.length c42), (9, .int .i64 x80.1)] (by kernel_rfl) ?_
      refine WL.nil ?_
      refine WQ.then_normal (hK79 _ _ _ ?_)
      refine WP.seq (fun K90 hK90 => ?_)
      refine WP.region ?_
      refine WL.runk 1 [1, 2, 5, 6, 7, 9, 10] [(1, .int .i64 aStep_1), (2, .pointer (some ⟨b2, 0, none⟩)), (5, .slice a21 x19.1.length c22), (6, .int .i64 x19.2), (7, .slice a41 x80.2.length c42), (9, .int .i64 x80.1), (10, .int .i64 1)] (by kernel_rfl) ?_
      refine WL.nil ?_
      refine WQ.then_normal (hK90 _ _ _ ?_)
      refine WP.seq (fun K91 hK91 => ?_)
      refine WP.region ?_
      refine WL.runk 2 [1, 2, 5, 6, 7, 9, 39, 40] [(1, .int .i64 aStep_1), (2, .pointer (some ⟨b2, 0, none⟩)), (5, .slice a21 x19.1.length c22), (6, .int .i64 x19.2), (7, .slice a41 x80.2.length c42), (9, .int .i64 x80.1), (39, .slice a41 x80.2.length c42), (40, .int .i64 1)] (by kernel_rfl) ?_
      obtain ⟨x92, hx93, hm⟩ := bindE hm
      refine WL.call 25 #[.slice a41 x80.2.length c42, .int .i64 1] rfl rfl (by kernel_rfl) (c_25 n x80.2 a41 c42 1 w82 hx93 (SH.rd (SH.front 0 hS85)) (SH.le (SH.front 0 hS85)).1) ?_
      rintro _ w94 ⟨rfl, hE95⟩
      refine ⟨_, rfl, ?_⟩
      have hb97 : Ext w w94 := Ext.trans hb88 hE95
      have hL98 : w.heap.size ≤ w94.heap.size := Nat.le_trans hL89 hE95.size
      have hS99 : SH w94 w.heap.size [aOwn fInt 2 a41 c42 x80.2, aOwn fInt 2 a21 c22 x19.1, aBox 40 b2 [.int .i64 aC_0.Kind, .int .i64 aC_0.Amount]] := SH.ext hS85 hE95
      refine WL.runk 1 [1, 2, 5, 6, 7, 9, 10] [(1, .int .i64 aStep_1), (2, .pointer (some ⟨b2, 0, none⟩)), (5, .slice a21 x19.1.length c22), (6, .int .i64 x19.2), (7, .slice a41 x80.2.length c42), (9, .int .i64 x80.1), (10, .int .i64 x92)] (by kernel_rfl) ?_
      refine WL.nil ?_
      refine WQ.then_normal (hK91 _ _ _ ?_)
      refine WP.seq (fun K100 hK100 => ?_)
      refine WP.seq (fun K101 hK101 => ?_)
      refine WP.region ?_
      refine WL.runk 2 [1, 2, 5, 6, 7, 9, 10, 43] [(1, .int .i64 aStep_1), (2, .pointer (some ⟨b2, 0, none⟩)), (5, .slice a21 x19.1.length c22), (6, .int .i64 x19.2), (7, .slice a41 x80.2.length c42), (9, .int .i64 x80.1), (10, .int .i64 x92), (43, .bool (decide (x92 < 0)))] (by kernel_rfl) ?_
      refine WL.nil ?_
      refine WQ.then_normal (hK101 _ _ _ ?_)
      refine WP.cond (decide (x92 < 0)) rfl rfl (fun hc102 => ?_) (fun hc102 => ?_)
      · have hm := iteT hm hc102
        refine WP.seq (fun K103 hK103 => ?_)
        refine WP.region ?_
        refine WL.runk 1 [4] [(4, .bool false)] (by kernel_rfl) ?_
        refine WL.nil ?_
        refine WQ.then_normal (hK103 _ _ _ ?_)
        refine WP.ret ?_
        refine WQ.then_ret ?_
        obtain rfl := Option.some.inj hm
        exact WQ.ret1 _ rfl rfl ⟨rfl, hb97⟩
      · have hm := iteF hm hc102
        refine WP.skip ?_
        refine WQ.then_normal (hK100 _ _ _ ?_)
        refine WP.seq (fun K104 hK104 => ?_)
        refine WP.seq (fun K105 hK105 => ?_)
        refine WP.region ?_
        refine WL.runk 3 [1, 2, 5, 6, 7, 9, 46] [(1, .int .i64 aStep_1), (2, .pointer (some ⟨b2, 0, none⟩)), (5, .slice a21 x19.1.length c22), (6, .int .i64 x19.2), (7, .slice a41 x80.2.length c42), (9, .int .i64 x80.1), (46, .bool (x92 != x80.1))] (by kernel_rfl) ?_
        refine WL.nil ?_
        refine WQ.then_normal (hK105 _ _ _ ?_)
        refine WP.cond (x92 != x80.1) rfl rfl (fun hc106 => ?_) (fun hc106 => ?_)
        · have hm := iteT hm hc106
          refine WP.seq (fun K107 hK107 => ?_)
          refine WP.region ?_
          refine WL.runk 1 [4] [(4, .bool false)] (by kernel_rfl) ?_
          refine WL.nil ?_
          refine WQ.then_normal (hK107 _ _ _ ?_)
          refine WP.ret ?_
          refine WQ.then_ret ?_
          obtain rfl := Option.some.inj hm
          exact WQ.ret1 _ rfl rfl ⟨rfl, hb97⟩
        · have hm := iteF hm hc106
          refine WP.skip ?_
          refine WQ.then_normal (hK104 _ _ _ ?_)
          refine WP.seq (fun K108 hK108 => ?_)
          refine WP.region ?_
          refine WL.st (.agg #[.int .i64 aC_0.Kind, .int .i64 aC_0.Amount]) (ST.loadAgg (vs := [.int .i64 aC_0.Kind, .int .i64 aC_0.Amount]) (fun j v hv => SH.boxPart (us := [.int .i64 aC_0.Kind, .int .i64 aC_0.Amount]) (SH.front 2 hS99) 0 rfl j v hv) rfl rfl rfl Try.underlying40 rfl (info40).1 (info40).2.1) rfl rfl rfl ?_
          obtain ⟨x109, hx110, hm⟩ := bindE hm
          refine WL.call 29 #[.agg #[.int .i64 aC_0.Kind, .int .i64 aC_0.Amount]] rfl rfl (by kernel_rfl) (c_29 n aC_0 w94 hx110 ) ?_
          rintro _ w111 ⟨rfl, hE112⟩
          refine ⟨_, rfl, ?_⟩
          have hb114 : Ext w w111 := Ext.trans hb97 hE112
          have hL115 : w.heap.size ≤ w111.heap.size := Nat.le_trans hL98 hE112.size
          have hS116 : SH w111 w.heap.size [aOwn fInt 2 a41 c42 x80.2, aOwn fInt 2 a21 c22 x19.1, aBox 40 b2 [.int .i64 aC_0.Kind, .int .i64 aC_0.Amount]] := SH.ext hS99 hE112
          refine WL.runk 1 [5, 6, 7, 9, 49, 50] [(5, .slice a21 x19.1.length c22), (6, .int .i64 x19.2), (7, .slice a41 x80.2.length c42), (9, .int .i64 x80.1), (49, .agg #[.int .i64 x109.Kind, .int .i64 x109.Amount]), (50, .int .i64 aStep_1)] (by kernel_rfl) ?_
          obtain ⟨x117, hx118, hm⟩ := bindE hm
          refine WL.call 30 #[.agg #[.int .i64 x109.Kind, .int .i64 x109.Amount], .int .i64 aStep_1] rfl rfl (by kernel_rfl) (c_30 n x109 aStep_1 w111 hx118 ) ?_
          rintro _ w122 ⟨a119, c120, rfl, hE123, hR124⟩
          refine ⟨_, rfl, ?_⟩
          have hb125 : Ext w w122 := Ext.trans hb114 hE123
          have hL126 : w.heap.size ≤ w122.heap.size := Nat.le_trans hL115 hE123.size
          have hS127 : SH w122 w.heap.size [aOwn fInt 2 a119 c120 x117.1, aOwn fInt 2 a41 c42 x80.2, aOwn fInt 2 a21 c22 x19.1, aBox 40 b2 [.int .i64 aC_0.Kind, .int .i64 aC_0.Amount]] := SH.add hS116 hE123 hL115 hR124
          refine WL.runk 5 [5, 6, 7, 9, 11, 12] [(5, .slice a21 x19.1.length c22), (6, .int .i64 x19.2), (7, .slice a41 x80.2.length c42), (9, .int .i64 x80.1), (11, .slice a119 x117.1.length c120), (12, .int .i64 x117.2)] (by kernel_rfl) ?_
          refine WL.nil ?_
          refine WQ.then_normal (hK108 _ _ _ ?_)
          refine WP.seq (fun K128 hK128 => ?_)
          refine WP.seq (fun K129 hK129 => ?_)
          obtain ⟨x139, hx140, hm⟩ := bindE hm
          refine WP.cut (fun env' w' => env' = [(7, .slice a41 x80.2.length c42), (9, .int .i64 x80.1), (62, .bool x139)] ∧ Ext w w' ∧ w.heap.size ≤ w'.heap.size ∧ SH w' w.heap.size [aOwn fInt 2 a119 c120 x117.1, aOwn fInt 2 a41 c42 x80.2, aOwn fInt 2 a21 c22 x19.1, aBox 40 b2 [.int .i64 aC_0.Kind, .int .i64 aC_0.Amount]]) ?_ ?_
          · have hm := hx140; clear hx140
            refine WP.region ?_
            refine WL.runk 2 [6, 7, 9, 12, 54, 55] [(6, .int .i64 x19.2), (7, .slice a41 x80.2.length c42), (9, .int .i64 x80.1), (12, .int .i64 x117.2), (54, .slice a119 x117.1.length c120), (55, .slice a21 x19.1.length c22)] (by kernel_rfl) ?_
            obtain ⟨x141, hx142, hm⟩ := bindE hm
            refine WL.call 23 #[.slice a119 x117.1.length c120, .slice a21 x19.1.length c22] rfl rfl (by kernel_rfl) (c_23 n x117.1 a119 c120 x19.1 a21 c22 w122 hx142 (SH.rd (SH.front 0 hS127)) (SH.le (SH.front 0 hS127)).1 (SH.rd (SH.front 2 hS127)) (SH.le (SH.front 2 hS127)).1) ?_
            rintro _ w143 ⟨rfl, hE144⟩
            refine ⟨_, rfl, ?_⟩
            have hb146 : Ext w w143 := Ext.trans hb125 hE144
            have hL147 : w.heap.size ≤ w143.heap.size := Nat.le_trans hL126 hE144.size
            have hS148 : SH w143 w.heap.size [aOwn fInt 2 a119 c120 x117.1, aOwn fInt 2 a41 c42 x80.2, aOwn fInt 2 a21 c22 x19.1, aBox 40 b2 [.int .i64 aC_0.Kind, .int .i64 aC_0.Amount]] := SH.ext hS127 hE144
            refine WL.runk 2 [6, 7, 9, 12, 58] [(6, .int .i64 x19.2), (7, .slice a41 x80.2.length c42), (9, .int .i64 x80.1), (12, .int .i64 x117.2), (58, .bool (!x141))] (by kernel_rfl) ?_
            refine WL.case (!x141) [58] ⟨rfl, trivial⟩ (fun hc149 => ?_) (fun hc149 => ?_)
            · have hm := iteT hm hc149
              refine WL.runk 4 [7, 9, 62] [(7, .slice a41 x80.2.length c42), (9, .int .i64 x80.1), (62, .bool true)] (by kernel_rfl) ?_
              refine WL.nil ?_
              obtain rfl := Option.some.inj hm
              exact WQ.post' ⟨rfl, hb146, hL147, hS148⟩ ⟨rfl, rfl, rfl, trivial⟩
            · have hm := iteF hm hc149
              refine WL.runk 4 [7, 9, 62] [(7, .slice a41 x80.2.length c42), (9, .int .i64 x80.1), (62, .bool (x117.2 != x19.2))] (by kernel_rfl) ?_
              refine WL.nil ?_
              obtain rfl := Option.some.inj hm
              exact WQ.post' ⟨rfl, hb146, hL147, hS148⟩ ⟨rfl, rfl, rfl, trivial⟩
          · clear hx140
            rintro _ w150 ⟨rfl, hb151, hL152, hS153⟩
            refine WQ.then_normal (hK129 _ _ _ ?_)
            refine WP.cond x139 rfl rfl (fun hc154 => ?_) (fun hc154 => ?_)
            · have hm := iteT hm hc154
              refine WP.seq (fun K155 hK155 => ?_)
              refine WP.region ?_
              refine WL.runk 1 [4] [(4, .bool false)] (by kernel_rfl) ?_
              refine WL.nil ?_
              refine WQ.then_normal (hK155 _ _ _ ?_)
              refine WP.ret ?_
              refine WQ.then_ret ?_
              obtain rfl := Option.some.inj hm
              exact WQ.ret1 _ rfl rfl ⟨rfl, hb151⟩
            · have hm := iteF hm hc154
              refine WP.skip ?_
              refine WQ.then_normal (hK128 _ _ _ ?_)
              refine WP.seq (fun K156 hK156 => ?_)
              refine WP.region ?_
              refine WL.runk 1 [7, 9, 10] [(7, .slice a41 x80.2.length c42), (9, .int .i64 x80.1), (10, .int .i64 1)] (by kernel_rfl) ?_
              refine WL.nil ?_
              refine WQ.then_normal (hK156 _ _ _ ?_)
              refine WP.seq (fun K157 hK157 => ?_)
              refine WP.region ?_
              refine WL.runk 2 [9, 63, 64] [(9, .int .i64 x80.1), (63, .slice a41 x80.2.length c42), (64, .int .i64 1)] (by kernel_rfl) ?_
              obtain ⟨x158, hx159, hm⟩ := bindE hm
              refine WL.call 25 #[.slice a41 x80.2.length c42, .int .i64 1] rfl rfl (by kernel_rfl) (c_25 n x80.2 a41 c42 1 w150 hx159 (SH.rd (SH.front 1 hS153)) (SH.le (SH.front 1 hS153)).1) ?_
              rintro _ w160 ⟨rfl, hE161⟩
              refine ⟨_, rfl, ?_⟩
              have hb163 : Ext w w160 := Ext.trans hb151 hE161
              have hL164 : w.heap.size ≤ w160.heap.size := Nat.le_trans hL152 hE161.size
              have hS165 : SH w160 w.heap.size [aOwn fInt 2 a119 c120 x117.1, aOwn fInt 2 a41 c42 x80.2, aOwn fInt 2 a21 c22 x19.1, aBox 40 b2 [.int .i64 aC_0.Kind, .int .i64 aC_0.Amount]] := SH.ext hS153 hE161
              refine WL.runk 1 [9, 10] [(9, .int .i64 x80.1), (10, .int .i64 x158)] (by kernel_rfl) ?_
              refine WL.nil ?_
              refine WQ.then_normal (hK157 _ _ _ ?_)
              refine WP.seq (fun K166 hK166 => ?_)
              refine WP.seq (fun K167 hK167 => ?_)
              refine WP.region ?_
              refine WL.runk 2 [9, 10, 67] [(9, .int .i64 x80.1), (10, .int .i64 x158), (67, .bool (decide (x158 < 0)))] (by kernel_rfl) ?_
              refine WL.nil ?_
              refine WQ.then_normal (hK167 _ _ _ ?_)
              refine WP.cond (decide (x158 < 0)) rfl rfl (fun hc168 => ?_) (fun hc168 => ?_)
              · have hm := iteT hm hc168
                refine WP.seq (fun K169 hK169 => ?_)
                refine WP.region ?_
                refine WL.runk 1 [4] [(4, .bool false)] (by kernel_rfl) ?_
                refine WL.nil ?_
                refine WQ.then_normal (hK169 _ _ _ ?_)
                refine WP.ret ?_
                refine WQ.then_ret ?_
                obtain rfl := Option.some.inj hm
                exact WQ.ret1 _ rfl rfl ⟨rfl, hb163⟩
              · have hm := iteF hm hc168
                refine WP.skip ?_
                refine WQ.then_normal (hK166 _ _ _ ?_)
                refine WP.seq (fun K170 hK170 => ?_)
                refine WP.seq (fun K171 hK171 => ?_)
                refine WP.region ?_
                refine WL.runk 3 [70] [(70, .bool (x158 != x80.1))] (by kernel_rfl) ?_
                refine WL.nil ?_
                refine WQ.then_normal (hK171 _ _ _ ?_)
                refine WP.cond (x158 != x80.1) rfl rfl (fun hc172 => ?_) (fun hc172 => ?_)
                · have hm := iteT hm hc172
                  refine WP.seq (fun K173 hK173 => ?_)
                  refine WP.region ?_
                  refine WL.runk 1 [4] [(4, .bool false)] (by kernel_rfl) ?_
                  refine WL.nil ?_
                  refine WQ.then_normal (hK173 _ _ _ ?_)
                  refine WP.ret ?_
                  refine WQ.then_ret ?_
                  obtain rfl := Option.some.inj hm
                  exact WQ.ret1 _ rfl rfl ⟨rfl, hb163⟩
                · have hm := iteF hm hc172
                  refine WP.skip ?_
                  refine WQ.then_normal (hK170 _ _ _ ?_)
                  refine WP.seq (fun K174 hK174 => ?_)
                  refine WP.region ?_
                  refine WL.runk 1 [4] [(4, .bool true)] (by kernel_rfl) ?_
                  refine WL.nil ?_
                  refine WQ.then_normal (hK174 _ _ _ ?_)
                  refine WP.ret ?_
                  obtain rfl := Option.some.inj hm
                  exact WQ.ret1 _ rfl rfl ⟨rfl, hb163⟩

theorem c_31 (n : Nat) (list_0 : List SChange) (a0' : Option Addr) (c0' : Nat) (w : World) {r : Int × Int × Int} (hm : m_spec_FirstClash n list_0 = some r) (h0 : Rd fChange.ty w a0' list_0) (hle0 : list_0.length ≤ c0') :
    CallV Try.prog 31 #[.slice a0' list_0.length c0'] w (fun v w' => v = .tuple #[.int .i64 r.1, .int .i64 r.2.1, .int .i64 r.2.2] ∧ Ext w w') := by
  unfold m_spec_FirstClash at hm
  refine CallV.enter Try.func31 rfl (by kernel_rfl) Try.ntmps31 (env := [(0, .slice a0' list_0.length c0')]) ⟨rfl, trivial⟩ ?_
  refine WP.seq (fun K1 hK1 => ?_)
  refine WP.region ?_
  refine WL.runk 3 [0] [(0, .slice a0' list_0.length c0')] (by kernel_rfl) ?_
  refine WL.nil ?_
  refine WQ.then_normal (hK1 _ _ _ ?_)
  refine WP.seq (fun K2 hK2 => ?_)
  refine WP.seq (fun K3 hK3 => ?_)
  refine WP.region ?_
  refine WL.runk 1 [0, 7] [(0, .slice a0' list_0.length c0'), (7, .slice a0' list_0.length c0')] (by kernel_rfl) ?_
  obtain ⟨x4, hx5, hm⟩ := bindE hm
  refine WL.call 59 #[.slice a0' list_0.length c0'] rfl rfl (by kernel_rfl) (c_59 n list_0 a0' c0' w hx5 (Rd.below h0 (Ext.refl w)) hle0) ?_
  rintro _ w6 ⟨rfl, hE7⟩
  refine ⟨_, rfl, ?_⟩
  have hb9 : Ext w w6 := Ext.trans (Ext.refl w) hE7
  have hL10 : w.heap.size ≤ w6.heap.size := Nat.le_trans (Nat.le_refl _) hE7.size
  have hS11 : SH w6 w.heap.size [] := SH.ext (SH.nil _ _) hE7
  refine WL.runk 1 [0, 9] [(0, .slice a0' list_0.length c0'), (9, .bool (!x4))] (by kernel_rfl) ?_
  refine WL.nil ?_
  refine WQ.then_normal (hK3 _ _ _ ?_)
  refine WP.cond (!x4) rfl rfl (fun hc12 => ?_) (fun hc12 => ?_)
  · have hm := iteT hm hc12
    refine WP.seq (fun K13 hK13 => ?_)
    refine WP.region ?_
    refine WL.runk 3 [2, 3, 4] [(2, .int .i64 0), (3, .int .i64 0), (4, .int .i64 1)] (by kernel_rfl) ?_
    refine WL.nil ?_
    refine WQ.then_normal (hK13 _ _ _ ?_)
    refine WP.ret ?_
    refine WQ.then_ret ?_
    obtain rfl := Option.some.inj hm
    exact WQ.ret3 _ _ _ rfl rfl rfl rfl ⟨rfl, hb9⟩
  · have hm := iteF hm hc12
    refine WP.skip ?_
    refine WQ.then_normal (hK2 _ _ _ ?_)
    refine WP.seq (fun K14 hK14 => ?_)
    refine WP.seq (fun K15 hK15 => ?_)
    refine WP.region ?_
    refine WL.runk 1 [0, 5] [(0, .slice a0' list_0.length c0'), (5, .int .i64 0)] (by kernel_rfl) ?_
    refine WL.nil ?_
    refine WQ.then_normal (hK15 _ _ _ ?_)
    refine WP.block ?_
    obtain ⟨t27, ht28, hm⟩ := bindE hm
    have hmo22 := hm; clear hm
    refine WP.sub [(0, .slice a0' list_0.length c0'), (5, .int .i64 0)] ⟨rfl, rfl, trivial⟩ ?_
    refine WP.loop (fun n' env' w' => ∃ (st16 : Int) , env' = [(0, .slice a0' list_0.length c0'), (5, .int .i64 st16)] ∧ Ext w w' ∧ w.heap.size ≤ w'.heap.size ∧ SH w' w.heap.size [] ∧ loopN (m_spec_FirstClash_l1 n list_0) n' st16 = some t27) n ⟨0, rfl, hb9, hL10, hS11, ht28⟩ ?_
    rintro n24 _ w17 ⟨st16, rfl, hb18, hL19, hS20, hl21⟩ K23 hK23
    obtain ⟨n25, s26, rfl, hm, hl21⟩ := loopN_some hl21
    unfold m_spec_FirstClash_l1 at hm
    refine WP.seq (fun K29 hK29 => ?_)
    refine WP.seq (fun K30 hK30 => ?_)
    refine WP.region ?_
    refine WL.runk 4 [0, 5, 13] [(0, .slice a0' list_0.length c0'), (5, .int .i64 st16), (13, .bool (decide (st16 < (list_0.length : Int))))] (by kernel_rfl) ?_
    refine WL.nil ?_
    refine WQ.then_normal (hK30 _ _ _ ?_)
    refine WP.cond (decide (st16 < (list_0.length : Int))) rfl rfl (fun hc31 => ?_) (fun hc31 => ?_)
    · have hm := iteT hm hc31
      refine WP.skip ?_
      refine WQ.then_normal (hK29 _ _ _ ?_)
      refine WP.seq (fun K32 hK32 => ?_)
      refine WP.block ?_
      refine WP.seq (fun K33 hK33 => ?_)
      refine WP.region ?_
      refine WL.runk 1 [0, 5, 6] [(0, .slice a0' list_0.length c0'), (5, .int .i64 st16), (6, .int .i64 0)] (by kernel_rfl) ?_
      refine WL.nil ?_
      refine WQ.then_normal (hK33 _ _ _ ?_)
      refine WP.block ?_
      obtain ⟨t45, ht46, hm⟩ := bindE hm
      have hmo40 := hm; clear hm
      refine WP.sub [(0, .slice a0' list_0.length c0'), (5, .int .i64 st16), (6, .int .i64 0)] ⟨rfl, rfl, rfl, trivial⟩ ?_
      refine WP.loop (fun n' env' w' => ∃ (st34 : Int) , env' = [(0, .slice a0' list_0.length c0'), (5, .int .i64 st16), (6, .int .i64 st34)] ∧ Ext w w' ∧ w.heap.size ≤ w'.heap.size ∧ SH w' w.heap.size [] ∧ loopN (m_spec_FirstClash_l2 n list_0 st16) n' st34 = some t45) n ⟨0, rfl, hb18, hL19, hS20, ht46⟩ ?_
      rintro n42 _ w35 ⟨st34, rfl, hb36, hL37, hS38, hl39⟩ K41 hK41
      obtain ⟨n43, s44, rfl, hm, hl39⟩ := loopN_some hl39
      unfold m_spec_FirstClash_l2 at hm
      refine WP.seq (fun K47 hK47 => ?_)
      refine WP.seq (fun K48 hK48 => ?_)
      refine WP.region ?_
      refine WL.runk 3 [0, 5, 6, 18] [(0, .slice a0' list_0.length c0'), (5, .int .i64 st16), (6, .int .i64 st34), (18, .bool (decide (st34 < st16)))] (by kernel_rfl) ?_
      refine WL.nil ?_
      refine WQ.then_normal (hK48 _ _ _ ?_)
      refine WP.cond (decide (st34 < st16)) rfl rfl (fun hc49 => ?_) (fun hc49 => ?_)
      · have hm := iteT hm hc49
        refine WP.skip ?_
        refine WQ.then_normal (hK47 _ _ _ ?_)
        refine WP.seq (fun K50 hK50 => ?_)
        refine WP.block ?_
        refine WP.seq (fun K51 hK51 => ?_)
        obtain ⟨x71, hx72, hm⟩ := bindE hm
        refine WP.cut (fun env' w' => env' = [(0, .slice a0' list_0.length c0'), (5, .int .i64 st16), (6, .int .i64 st34), (46, .bool x71)] ∧ Ext w w' ∧ w.heap.size ≤ w'.heap.size ∧ SH w' w.heap.size []) ?_ ?_
        · have hm := hx72; clear hx72
          refine WP.quiet (by kernel_rfl) (by kernel_rfl) ?_
          refine QL.step1 rfl (env' := [(0, .slice a0' list_0.length c0'), (5, .int .i64 st16), (6, .int .i64 st34), (18, .bool (decide (st34 < st16))), (21, .slice a0' list_0.length c0')]) (fun _ => by kernel_rfl) ?_
          refine QL.sub [(0, .slice a0' list_0.length c0'), (5, .int .i64 st16), (6, .int .i64 st34), (21, .slice a0' list_0.length c0')] ⟨rfl, rfl, rfl, rfl, trivial⟩ ?_
          refine QL.step1 rfl (env' := [(0, .slice a0' list_0.length c0'), (5, .int .i64 st16), (6, .int .i64 st34), (21, .slice a0' list_0.length c0'), (22, .int .i64 st34)]) (fun _ => by kernel_rfl) ?_
          obtain ⟨x73, hx74, hm⟩ := bindE hm
          refine QL.st (.pointer (some (at_ a0' (Int.toNat st34 * 2)))) (ST.index (T := fChange.ty) (xs := list_0) (Rd.below h0 hb36) hx74 rfl rfl rfl Try.underlying28 (info42).1 (info42).2.1) rfl rfl rfl ?_
          refine QL.step1 rfl (env' := [(0, .slice a0' list_0.length c0'), (5, .int .i64 st16), (6, .int .i64 st34), (21, .slice a0' list_0.length c0'), (22, .int .i64 st34), (23, .pointer (some (at_ a0' (Int.toNat st34 * 2)))), (24, .pointer (some (at_ a0' (Int.toNat st34 * 2))))]) (fun _ => by kernel_rfl) ?_
          refine QL.sub [(0, .slice a0' list_0.length c0'), (5, .int .i64 st16), (6, .int .i64 st34), (24, .pointer (some (at_ a0' (Int.toNat st34 * 2))))] ⟨rfl, rfl, rfl, rfl, trivial⟩ ?_
          refine QL.st (.int .i64 x73.Kind) (ST.load (cell_ext (Rd.flat (F := fChange) (Rd.below h0 hb36) hx74 0 rfl)) rfl rfl Try.underlying2 rfl) rfl rfl rfl ?_
          refine QL.step1 rfl (env' := [(0, .slice a0' list_0.length c0'), (5, .int .i64 st16), (6, .int .i64 st34), (24, .pointer (some (at_ a0' (Int.toNat st34 * 2)))), (25, .int .i64 x73.Kind), (26, .slice a0' list_0.length c0')]) (fun _ => by kernel_rfl) ?_
          refine QL.sub [(0, .slice a0' list_0.length c0'), (5, .int .i64 st16), (6, .int .i64 st34), (25, .int .i64 x73.Kind), (26, .slice a0' list_0.length c0')] ⟨rfl, rfl, rfl, rfl, rfl, trivial⟩ ?_
          refine QL.step1 rfl (env' := [(0, .slice a0' list_0.length c0'), (5, .int .i64 st16), (6, .int .i64 st34), (25, .int .i64 x73.Kind), (26, .slice a0' list_0.length c0'), (27, .int .i64 st16)]) (fun _ => by kernel_rfl) ?_
          obtain ⟨x75, hx76, hm⟩ := bindE hm
          refine QL.st (.pointer (some (at_ a0' (Int.toNat st16 * 2)))) (ST.index (T := fChange.ty) (xs := list_0) (Rd.below h0 hb36) hx76 rfl rfl rfl Try.underlying28 (info42).1 (info42).2.1) rfl rfl rfl ?_
          refine QL.step1 rfl (env' := [(0, .slice a0' list_0.length c0'), (5, .int .i64 st16), (6, .int .i64 st34), (25, .int .i64 x73.Kind), (26, .slice a0' list_0.length c0'), (27, .int .i64 st16), (28, .pointer (some (at_ a0' (Int.toNat st16 * 2)))), (29, .pointer (some (at_ a0' (Int.toNat st16 * 2))))]) (fun _ => by kernel_rfl) ?_
          refine QL.sub [(0, .slice a0' list_0.length c0'), (5, .int .i64 st16), (6, .int .i64 st34), (25, .int .i64 x73.Kind), (29, .pointer (some (at_ a0' (Int.toNat st16 * 2))))] ⟨rfl, rfl, rfl, rfl, rfl, trivial⟩ ?_
          refine QL.st (.int .i64 x75.Kind) (ST.load (cell_ext (Rd.flat (F := fChange) (Rd.below h0 hb36) hx76 0 rfl)) rfl rfl Try.underlying2 rfl) rfl rfl rfl ?_
          refine QL.step1 rfl (env' := [(0, .slice a0' list_0.length c0'), (5, .int .i64 st16), (6, .int .i64 st34), (25, .int .i64 x73.Kind), (29, .pointer (some (at_ a0' (Int.toNat st16 * 2)))), (30, .int .i64 x75.Kind), (31, .bool (x73.Kind == x75.Kind))]) (fun _ => by kernel_rfl) ?_
          refine QL.sub [(0, .slice a0' list_0.length c0'), (5, .int .i64 st16), (6, .int .i64 st34), (31, .bool (x73.Kind == x75.Kind))] ⟨rfl, rfl, rfl, rfl, trivial⟩ ?_
          refine QL.step1 rfl (env' := [(0, .slice a0' list_0.length c0'), (5, .int .i64 st16), (6, .int .i64 st34), (31, .bool (x73.Kind == x75.Kind)), (32, .bool (x73.Kind == x75.Kind))]) (fun _ => by kernel_rfl) ?_
          refine QL.sub [(0, .slice a0' list_0.length c0'), (5, .int .i64 st16), (6, .int .i64 st34), (32, .bool (x73.Kind == x75.Kind))] ⟨rfl, rfl, rfl, rfl, trivial⟩ ?_
          refine QL.case (x73.Kind == x75.Kind) [32] ⟨rfl, trivial⟩ (fun hc77 => ?_) (fun hc77 => ?_)
          · have hm := iteT hm hc77
            refine QL.step1 rfl (env' := [(0, .slice a0' list_0.length c0'), (5, .int .i64 st16), (6, .int .i64 st34), (32, .bool true), (33, .slice a0' list_0.length c0')]) (fun _ => by kernel_rfl) ?_
            refine QL.step1 rfl (env' := [(0, .slice a0' list_0.length c0'), (5, .int .i64 st16), (6, .int .i64 st34), (32, .bool true), (33, .slice a0' list_0.length c0'), (34, .int .i64 st34)]) (fun _ => by kernel_rfl) ?_
            obtain ⟨x78, hx79, hm⟩ := bindE hm
            refine QL.st (.pointer (some (at_ a0' (Int.toNat st34 * 2)))) (ST.index (T := fChange.ty) (xs := list_0) (Rd.below h0 hb36) hx79 rfl rfl rfl Try.underlying28 (info42).1 (info42).2.1) rfl rfl rfl ?_
            refine QL.step1 rfl (env' := [(0, .slice a0' list_0.length c0'), (5, .int .i64 st16), (6, .int .i64 st34), (32, .bool true), (33, .slice a0' list_0.length c0'), (34, .int .i64 st34), (35, .pointer (some (at_ a0' (Int.toNat st34 * 2)))), (36, .pointer (some (at_ a0' (Int.toNat st34 * 2 + 1))))]) (fun _ => by kernel_rfl) ?_
            refine QL.sub [(0, .slice a0' list_0.length c0'), (5, .int .i64 st16), (6, .int .i64 st34), (32, .bool true), (36, .pointer (some (at_ a0' (Int.toNat st34 * 2 + 1))))] ⟨rfl, rfl, rfl, rfl, rfl, trivial⟩ ?_
            refine QL.st (.int .i64 x78.Amount) (ST.load (cell_ext (Rd.flat (F := fChange) (Rd.below h0 hb36) hx79 1 rfl)) rfl rfl Try.underlying2 rfl) rfl rfl rfl ?_
            refine QL.step1 rfl (env' := [(0, .slice a0' list_0.length c0'), (5, .int .i64 st16), (6, .int .i64 st34), (32, .bool true), (36, .pointer (some (at_ a0' (Int.toNat st34 * 2 + 1)))), (37, .int .i64 x78.Amount), (38, .bool (decide (x78.Amount < 0)))]) (fun _ => by kernel_rfl) ?_
            refine QL.sub [(0, .slice a0' list_0.length c0'), (5, .int .i64 st16), (6, .int .i64 st34), (32, .bool true), (38, .bool (decide (x78.Amount < 0)))] ⟨rfl, rfl, rfl, rfl, rfl, trivial⟩ ?_
            refine QL.step1 rfl (env' := [(0, .slice a0' list_0.length c0'), (5, .int .i64 st16), (6, .int .i64 st34), (32, .bool true), (38, .bool (decide (x78.Amount < 0))), (39, .slice a0' list_0.length c0')]) (fun _ => by kernel_rfl) ?_
            refine QL.step1 rfl (env' := [(0, .slice a0' list_0.length c0'), (5, .int .i64 st16), (6, .int .i64 st34), (32, .bool true), (38, .bool (decide (x78.Amount < 0))), (39, .slice a0' list_0.length c0'), (40, .int .i64 st16)]) (fun _ => by kernel_rfl) ?_
            obtain ⟨x80, hx81, hm⟩ := bindE hm
            refine QL.st (.pointer (some (at_ a0' (Int.toNat st16 * 2)))) (ST.index (T := fChange.ty) (xs := list_0) (Rd.below h0 hb36) hx81 rfl rfl rfl Try.underlying28 (info42).1 (info42).2.1) rfl rfl rfl ?_
            refine QL.step1 rfl (env' := [(0, .slice a0' list_0.length c0'), (5, .int .i64 st16), (6, .int .i64 st34), (32, .bool true), (38, .bool (decide (x78.Amount < 0))), (39, .slice a0' list_0.length c0'), (40, .int .i64 st16), (41, .pointer (some (at_ a0' (Int.toNat st16 * 2)))), (42, .pointer (some (at_ a0' (Int.toNat st16 * 2 + 1))))]) (fun _ => by kernel_rfl) ?_
            refine QL.sub [(0, .slice a0' list_0.length c0'), (5, .int .i64 st16), (6, .int .i64 st34), (32, .bool true), (38, .bool (decide (x78.Amount < 0))), (42, .pointer (some (at_ a0' (Int.toNat st16 * 2 + 1))))] ⟨rfl, rfl, rfl, rfl, rfl, rfl, trivial⟩ ?_
            refine QL.st (.int .i64 x80.Amount) (ST.load (cell_ext (Rd.flat (F := fChange) (Rd.below h0 hb36) hx81 1 rfl)) rfl rfl Try.underlying2 rfl) rfl rfl rfl ?_
            refine QL.step1 rfl (env' := [(0, .slice a0' list_0.length c0'), (5, .int .i64 st16), (6, .int .i64 st34), (32, .bool true), (38, .bool (decide (x78.Amount < 0))), (42, .pointer (some (at_ a0' (Int.toNat st16 * 2 + 1)))), (43, .int .i64 x80.Amount), (44, .bool (decide (x80.Amount < 0)))]) (fun _ => by kernel_rfl) ?_
            refine QL.sub [(0, .slice a0' list_0.length c0'), (5, .int .i64 st16), (6, .int .i64 st34), (32, .bool true), (38, .bool (decide (x78.Amount < 0))), (44, .bool (decide (x80.Amount < 0)))] ⟨rfl, rfl, rfl, rfl, rfl, rfl, trivial⟩ ?_
            refine QL.step1 rfl (env' := [(0, .slice a0' list_0.length c0'), (5, .int .i64 st16), (6, .int .i64 st34), (32, .bool true), (38, .bool (decide (x78.Amount < 0))), (44, .bool (decide (x80.Amount < 0))), (45, .bool (!((decide (x78.Amount < 0)) == (decide (x80.Amount < 0)))))]) (fun _ => by kernel_rfl) ?_
            refine QL.sub [(0, .slice a0' list_0.length c0'), (5, .int .i64 st16), (6, .int .i64 st34), (32, .bool true), (45, .bool (!((decide (x78.Amount < 0)) == (decide (x80.Amount < 0)))))] ⟨rfl, rfl, rfl, rfl, rfl, trivial⟩ ?_
            refine QL.step1 rfl (env' := [(0, .slice a0' list_0.length c0'), (5, .int .i64 st16), (6, .int .i64 st34), (32, .bool true), (45, .bool (!((decide (x78.Amount < 0)) == (decide (x80.Amount < 0))))), (46, .bool (!((decide (x78.Amount < 0)) == (decide (x80.Amount < 0)))))]) (fun _ => by kernel_rfl) ?_
            refine QL.sub [(0, .slice a0' list_0.length c0'), (5, .int .i64 st16), (6, .int .i64 st34), (46, .bool (!((decide (x78.Amount < 0)) == (decide (x80.Amount < 0)))))] ⟨rfl, rfl, rfl, rfl, trivial⟩ ?_
            refine QL.sub [(0, .slice a0' list_0.length c0'), (5, .int .i64 st16), (6, .int .i64 st34), (46, .bool (!((decide (x78.Amount < 0)) == (decide (x80.Amount < 0)))))] ⟨rfl, rfl, rfl, rfl, trivial⟩ ?_
            refine QL.nil ?_
            intro w82 hE83
            have hb84 : Ext w w82 := Ext.trans hb36 hE83
            have hL85 : w.heap.size ≤ w82.heap.size := Nat.le_trans hL37 hE83.size
            have hS86 : SH w82 w.heap.size [] := SH.ext hS38 hE83
            obtain rfl := Option.some.inj hm
            exact WQ.post' ⟨rfl, hb84, hL85, hS86⟩ ⟨rfl, rfl, rfl, rfl, trivial⟩
          · have hm := iteF hm hc77
            refine QL.step1 rfl (env' := [(0, .slice a0' list_0.length c0'), (5, .int .i64 st16), (6, .int .i64 st34), (32, .bool false), (33, undef)]) (fun _ => by kernel_rfl) ?_
            refine QL.step1 rfl (env' := [(0, .slice a0' list_0.length c0'), (5, .int .i64 st16), (6, .int .i64 st34), (32, .bool false), (33, undef), (34, undef)]) (fun _ => by kernel_rfl) ?_
            refine QL.step1 rfl (env' := [(0, .slice a0' list_0.length c0'), (5, .int .i64 st16), (6, .int .i64 st34), (32, .bool false), (33, undef), (34, undef), (35, undef)]) (fun _ => by kernel_rfl) ?_
            refine QL.step1 rfl (env' := [(0, .slice a0' list_0.length c0'), (5, .int .i64 st16), (6, .int .i64 st34), (32, .bool false), (33, undef), (34, undef), (35, undef), (36, undef)]) (fun _ => by kernel_rfl) ?_
            refine QL.step1 rfl (env' := [(0, .slice a0' list_0.length c0'), (5, .int .i64 st16), (6, .int .i64 st34), (32, .bool false), (33, undef), (34, undef), (35, undef), (36, undef), (37, undef)]) (fun _ => by kernel_rfl) ?_
            refine QL.step1 rfl (env' := [(0, .slice a0' list_0.length c0'), (5, .int .i64 st16), (6, .int .i64 st34), (32, .bool false), (33, undef), (34, undef), (35, undef), (36, undef), (37, undef), (38, undef)]) (fun _ => by kernel_rfl) ?_
            refine QL.step1 rfl (env' := [(0, .slice a0' list_0.length c0'), (5, .int .i64 st16), (6, .int .i64 st34), (32, .bool false), (33, undef), (34, undef), (35, undef), (36, undef), (37, undef), (38, undef), (39, undef)]) (fun _ => by kernel_rfl) ?_
            refine QL.step1 rfl (env' := [(0, .slice a0' list_0.length c0'), (5, .int .i64 st16), (6, .int .i64 st34), (32, .bool false), (33, undef), (34, undef), (35, undef), (36, undef), (37, undef), (38, undef), (39, undef), (40, undef)]) (fun _ => by kernel_rfl) ?_
            refine QL.step1 rfl (env' := [(0, .slice a0' list_0.length c0'), (5, .int .i64 st16), (6, .int .i64 st34), (32, .bool false), (33, undef), (34, undef), (35, undef), (36, undef), (37, undef), (38, undef), (39, undef), (40, undef), (41, undef)]) (fun _ => by kernel_rfl) ?_
            refine QL.step1 rfl (env' := [(0, .slice a0' list_0.length c0'), (5, .int .i64 st16), (6, .int .i64 st34), (32, .bool false), (33, undef), (34, undef), (35, undef), (36, undef), (37, undef), (38, undef), (39, undef), (40, undef), (41, undef), (42, undef)]) (fun _ => by kernel_rfl) ?_
            refine QL.step1 rfl (env' := [(0, .slice a0' list_0.length c0'), (5, .int .i64 st16), (6, .int .i64 st34), (32, .bool false), (33, undef), (34, undef), (35, undef), (36, undef), (37, undef), (38, undef), (39, undef), (40, undef), (41, undef), (42, undef), (43, undef)]) (fun _ => by kernel_rfl) ?_
            refine QL.step1 rfl (env' := [(0, .slice a0' list_0.length c0'), (5, .int .i64 st16), (6, .int .i64 st34), (32, .bool false), (33, undef), (34, undef), (35, undef), (36, undef), (37, undef), (38, undef), (39, undef), (40, undef), (41, undef), (42, undef), (43, undef), (44, undef)]) (fun _ => by kernel_rfl) ?_
            refine QL.step1 rfl (env' := [(0, .slice a0' list_0.length c0'), (5, .int .i64 st16), (6, .int .i64 st34), (32, .bool false), (33, undef), (34, undef), (35, undef), (36, undef), (37, undef), (38, undef), (39, undef), (40, undef), (41, undef), (42, undef), (43, undef), (44, undef), (45, undef)]) (fun _ => by kernel_rfl) ?_
            refine QL.step1 rfl (env' := [(0, .slice a0' list_0.length c0'), (5, .int .i64 st16), (6, .int .i64 st34), (32, .bool false), (33, undef), (34, undef), (35, undef), (36, undef), (37, undef), (38, undef), (39, undef), (40, undef), (41, undef), (42, undef), (43, undef), (44, undef), (45, undef), (46, .bool false)]) (fun _ => by kernel_rfl) ?_
            refine QL.sub [(0, .slice a0' list_0.length c0'), (5, .int .i64 st16), (6, .int .i64 st34), (46, .bool false)] ⟨rfl, rfl, rfl, rfl, trivial⟩ ?_
            refine QL.sub [(0, .slice a0' list_0.length c0'), (5, .int .i64 st16), (6, .int .i64 st34), (46, .bool false)] ⟨rfl, rfl, rfl, rfl, trivial⟩ ?_
            refine QL.nil ?_
            intro w87 hE88
            have hb89 : Ext w w87 := Ext.trans hb36 hE88
            have hL90 : w.heap.size ≤ w87.heap.size := Nat.le_trans hL37 hE88.size
            have hS91 : SH w87 w.heap.size [] := SH.ext hS38 hE88
            obtain rfl := Option.some.inj hm
            exact WQ.post' ⟨rfl, hb89, hL90, hS91⟩ ⟨rfl, rfl, rfl, rfl, trivial⟩
        · clear hx72
          rintro _ w92 ⟨rfl, hb93, hL94, hS95⟩
          refine WQ.then_normal (hK51 _ _ _ ?_)
          refine WP.cond x71 rfl rfl (fun hc96 => ?_) (fun hc96 => ?_)
          · have hm := iteT hm hc96
            refine WP.seq (fun K97 hK97 => ?_)
            refine WP.region ?_
            refine WL.runk 5 [2, 3, 4] [(2, .int .i64 st16), (3, .int .i64 st34), (4, .int .i64 0)] (by kernel_rfl) ?_
            refine WL.nil ?_
            refine WQ.then_normal (hK97 _ _ _ ?_)
            refine WP.ret ?_
            refine WQ.block_ret ?_
            refine WQ.then_ret ?_
            refine WQ.then_ret ?_
            refine WQ.block_ret ?_
            refine WQ.block_ret ?_
            refine WQ.then_ret ?_
            refine WQ.then_ret ?_
            refine WQ.block_ret ?_
            refine WQ.then_ret ?_
            obtain rfl := Option.some.inj hm
            obtain rfl := afterN_done hl39
            have hm := hmo40
            obtain rfl := Option.some.inj hm
            obtain rfl := afterN_done hl21
            have hm := hmo22
            obtain rfl := Option.some.inj hm
            exact WQ.ret3 _ _ _ rfl rfl rfl rfl ⟨rfl, hb93⟩
          · have hm := iteF hm hc96
            refine WP.skip ?_
            refine WQ.block_normal ?_
            refine WQ.then_normal (hK50 _ _ _ ?_)
            refine WP.region ?_
            refine WL.runk 3 [0, 5, 6] [(0, .slice a0' list_0.length c0'), (5, .int .i64 st16), (6, .int .i64 (wI64 (st34 + 1)))] (by kernel_rfl) ?_
            refine WL.nil ?_
            obtain rfl := Option.some.inj hm
            exact WQ.round hK41 ⟨(wI64 (st34 + 1)), rfl, hb93, hL94, hS95, hl39⟩ (Nat.lt_succ_self _) ⟨rfl, rfl, rfl, trivial⟩
      · have hm := iteF hm hc49
        refine WP.exit ?_
        refine WQ.then_exit ?_
        refine WQ.then_exit ?_
        refine WQ.block_here ?_
        obtain rfl := Option.some.inj hm
        obtain rfl := afterN_done hl39
        have hm := hmo40
        refine WQ.block_normal ?_
        refine WQ.then_normal (hK32 _ _ _ ?_)
        refine WP.region ?_
        refine WL.runk 3 [0, 5] [(0, .slice a0' list_0.length c0'), (5, .int .i64 (wI64 (st16 + 1)))] (by kernel_rfl) ?_
        refine WL.nil ?_
        obtain rfl := Option.some.inj hm
        exact WQ.round hK23 ⟨(wI64 (st16 + 1)), rfl, hb36, hL37, hS38, hl21⟩ (Nat.lt_succ_self _) ⟨rfl, rfl, trivial⟩
    · have hm := iteF hm hc31
      refine WP.exit ?_
      refine WQ.then_exit ?_
      refine WQ.then_exit ?_
      refine WQ.block_here ?_
      obtain rfl := Option.some.inj hm
      obtain rfl := afterN_done hl21
      have hm := hmo22
      refine WQ.then_normal (hK14 _ _ _ ?_)
      refine WP.seq (fun K99 hK99 => ?_)
      refine WP.region ?_
      refine WL.runk 3 [2, 3, 4] [(2, .int .i64 0), (3, .int .i64 0), (4, .int .i64 3)] (by kernel_rfl) ?_
      refine WL.nil ?_
      refine WQ.then_normal (hK99 _ _ _ ?_)
      refine WP.ret ?_
      obtain rfl := Option.some.inj hm
      exact WQ.ret3 _ _ _ rfl rfl rfl rfl ⟨rfl, hb18⟩

theorem c_69 (n : Nat) (o_0 : SChange) (cap_1 : SChange) (b1' o1' : Nat) (w : World) {r : Bool} (hm : m_impl_FirstClash_1 n o_0 cap_1 = some r) (h1 : RdB w b1' o1' [.int .i64 cap_1.Kind, .int .i64 cap_1.Amount]) :
    CallV Try.prog 69 #[.agg #[.int .i64 o_0.Kind, .int .i64 o_0.Amount], .pointer (some ⟨b1', o1', none⟩)] w (fun v w' => v = .bool r ∧ Ext w w') := by
  unfold m_impl_FirstClash_1 at hm
  refine CallV.enter Try.func69 rfl (by kernel_rfl) Try.ntmps69 (env := [(0, .agg #[.int .i64 o_0.Kind, .int .i64 o_0.Amount]), (1, .pointer (some ⟨b1', o1', none⟩))]) ⟨rfl, rfl, trivial⟩ ?_
  refine WP.seq (fun K1 hK1 => ?_)
  refine WP.region ?_
  refine WL.box 42 [.int .i64 o_0.Kind, .int .i64 o_0.Amount] 2 (by kernel_rfl) rfl rfl rfl rfl ?_
  intro b2 w3 hE4 hR5
  have hb7 : Ext w w3 := Ext.trans (Ext.refl w) hE4
  have hL8 : w.heap.size ≤ w3.heap.size := Nat.le_trans (Nat.le_refl _) hE4.size
  have hS9 : SH w3 w.heap.size [aBox 42 b2 [.int .i64 o_0.Kind, .int .i64 o_0.Amount]] := SH.add (SH.nil _ _) hE4 (Nat.le_refl _) hR5
  refine WL.runk 1 [1, 2] [(1, .pointer (some ⟨b1', o1', none⟩)), (2, .pointer (some ⟨b2, 0, none⟩))] (by kernel_rfl) ?_
  refine WL.nil ?_
  refine WQ.then_normal (hK1 _ _ _ ?_)
  refine WP.seq (fun K10 hK10 => ?_)
  obtain ⟨x12, hx13, hm⟩ := bindE hm
  refine WP.cut (fun env' w' => env' = [(3, .bool x12)] ∧ Ext w w' ∧ w.heap.size ≤ w'.heap.size ∧ SH w' w.heap.size [aBox 42 b2 [.int .i64 o_0.Kind, .int .i64 o_0.Amount]]) ?_ ?_
  · have hm := hx13; clear hx13
    refine WP.region ?_
    refine WL.runk 1 [1, 2, 4] [(1, .pointer (some ⟨b1', o1', none⟩)), (2, .pointer (some ⟨b2, 0, none⟩)), (4, .pointer (some ⟨b2, 0, none⟩))] (by kernel_rfl) ?_
    refine WL.st (.int .i64 o_0.Kind) (ST.load (cell_ext (SH.boxAt (SH.front 0 hS9) 0 _ rfl)) rfl rfl Try.underlying2 rfl) rfl rfl rfl ?_
    refine WL.runk 1 [1, 2, 5, 6] [(1, .pointer (some ⟨b1', o1', none⟩)), (2, .pointer (some ⟨b2, 0, none⟩)), (5, .int .i64 o_0.Kind), (6, .pointer (some ⟨b1', o1', none⟩))] (by kernel_rfl) ?_
    refine WL.st (.int .i64 cap_1.Kind) (ST.load (cell_ext (RdB.at (RdB.below h1 hb7) 0 _ rfl)) rfl rfl Try.underlying2 rfl) rfl rfl rfl ?_
    refine WL.runk 2 [1, 2, 9] [(1, .pointer (some ⟨b1', o1', none⟩)), (2, .pointer (some ⟨b2, 0, none⟩)), (9, .bool (o_0.Kind == cap_1.Kind))] (by kernel_rfl) ?_
    refine WL.case (o_0.Kind == cap_1.Kind) [9] ⟨rfl, trivial⟩ (fun hc14 => ?_) (fun hc14 => ?_)
    · have hm := iteT hm hc14
      refine WL.runk 1 [1, 9, 10] [(1, .pointer (some ⟨b1', o1', none⟩)), (9, .bool true), (10, .pointer (some ⟨b2, 1, none⟩))] (by kernel_rfl) ?_
      refine WL.st (.int .i64 o_0.Amount) (ST.load (cell_ext (SH.boxAt (SH.front 0 hS9) 1 _ rfl)) rfl rfl Try.underlying2 rfl) rfl rfl rfl ?_
      refine WL.runk 2 [9, 12, 13] [(9, .bool true), (12, .bool (decide (o_0.Amount < 0))), (13, .pointer (some ⟨b1', o1' + 1, none⟩))] (by kernel_rfl) ?_
      refine WL.st (.int .i64 cap_1.Amount) (ST.load (cell_ext (RdB.at (RdB.below h1 hb7) 1 _ rfl)) rfl rfl Try.underlying2 rfl) rfl rfl rfl ?_
      refine WL.runk 4 [3] [(3, .bool (!((decide (o_0.Amount < 0)) == (decide (cap_1.Amount < 0)))))] (by kernel_rfl) ?_
      refine WL.nil ?_
      obtain rfl := Option.some.inj hm
      exact WQ.post' ⟨rfl, hb7, hL8, hS9⟩ ⟨rfl, trivial⟩
    · have hm := iteF hm hc14
      refine WL.runk 9 [3] [(3, .bool false)] (by kernel_rfl) ?_
      refine WL.nil ?_
      obtain rfl := Option.some.inj hm
      exact WQ.post' ⟨rfl, hb7, hL8, hS9⟩ ⟨rfl, trivial⟩
  · clear hx13
    rintro _ w15 ⟨rfl, hb16, hL17, hS18⟩
    refine WQ.then_normal (hK10 _ _ _ ?_)
    refine WP.ret ?_
    obtain rfl := Option.some.inj hm
    exact WQ.ret1 _ rfl rfl ⟨rfl, hb16⟩

theorem c_68_69 (n : Nat) (s_0 : List SChange) (a0' : Option Addr) (c0' : Nat) (cap_1_0 : SChange) (b1_0' o1_0' : Nat) (w : World) {r : Int} (hm : m_slices_IndexFunc_impl_Change_impl_Change_f69 n s_0 cap_1_0 = some r) (h0 : Rd fChange.ty w a0' s_0) (hle0 : s_0.length ≤ c0') (h1_0 : RdB w b1_0' o1_0' [.int .i64 cap_1_0.Kind, .int .i64 cap_1_0.Amount]) :
    CallV Try.prog 68 #[.slice a0' s_0.length c0', .func (.func 69) #[] #[.pointer (some ⟨b1_0', o1_0', none⟩)]] w (fun v w' => v = .int .i64 r ∧ Ext w w') := by
  unfold m_slices_IndexFunc_impl_Change_impl_Change_f69 at hm
  refine CallV.enter Try.func68 rfl (by kernel_rfl) Try.ntmps68 (env := [(0, .slice a0' s_0.length c0'), (1, .func (.func 69) #[] #[.pointer (some ⟨b1_0', o1_0', none⟩)])]) ⟨rfl, rfl, trivial⟩ ?_
  refine WP.seq (fun K1 hK1 => ?_)
  refine WP.region ?_
  refine WL.runk 1 [0, 1] [(0, .slice a0' s_0.length c0'), (1, .func (.func 69) #[] #[.pointer (some ⟨b1_0', o1_0', none⟩)])] (by kernel_rfl) ?_
  refine WL.nil ?_
  refine WQ.then_normal (hK1 _ _ _ ?_)
  refine WP.seq (fun K2 hK2 => ?_)
  refine WP.seq (fun K3 hK3 => ?_)
  refine WP.region ?_
  refine WL.runk 3 [0, 1, 7, 8] [(0, .slice a0' s_0.length c0'), (1, .func (.func 69) #[] #[.pointer (some ⟨b1_0', o1_0', none⟩)]), (7, .int .i64 (s_0.length : Int)), (8, .int .i64 0)] (by kernel_rfl) ?_
  refine WL.nil ?_
  refine WQ.then_normal (hK3 _ _ _ ?_)
  refine WP.block ?_
  obtain ⟨t15, ht16, hm⟩ := bindE hm
  have hmo10 := hm; clear hm
  refine WP.sub [(0, .slice a0' s_0.length c0'), (1, .func (.func 69) #[] #[.pointer (some ⟨b1_0', o1_0', none⟩)]), (7, .int .i64 (s_0.length : Int)), (8, .int .i64 0)] ⟨rfl, rfl, rfl, rfl, trivial⟩ ?_
  refine WP.loop (fun n' env' w' => ∃ (st4 : Int) , env' = [(0, .slice a0' s_0.length c0'), (1, .func (.func 69) #[] #[.pointer (some ⟨b1_0', o1_0', none⟩)]), (7, .int .i64 (s_0.length : Int)), (8, .int .i64 st4)] ∧ Ext w w' ∧ w.heap.size ≤ w'.heap.size ∧ SH w' w.heap.size [] ∧ loopN (m_slices_IndexFunc_impl_Change_impl_Change_f69_l1 n s_0 cap_1_0) n' st4 = some t15) n ⟨0, rfl, (Ext.refl w), (Nat.le_refl _), (SH.nil _ _), ht16⟩ ?_
  rintro n12 _ w5 ⟨st4, rfl, hb6, hL7, hS8, hl9⟩ K11 hK11
  obtain ⟨n13, s14, rfl, hm, hl9⟩ := loopN_some hl9
  unfold m_slices_IndexFunc_impl_Change_impl_Change_f69_l1 at hm
  refine WP.seq (fun K17 hK17 => ?_)
  refine WP.region ?_
  refine WL.runk 1 [0, 1, 7, 8, 9] [(0, .slice a0' s_0.length c0'), (1, .func (.func 69) #[] #[.pointer (some ⟨b1_0', o1_0', none⟩)]), (7, .int .i64 (s_0.length : Int)), (8, .int .i64 st4), (9, .bool (decide (st4 < (s_0.length : Int))))] (by kernel_rfl) ?_
  refine WL.nil ?_
  refine WQ.then_normal (hK17 _ _ _ ?_)
  refine WP.seq (fun K18 hK18 => ?_)
  refine WP.cond (decide (st4 < (s_0.length : Int))) rfl rfl (fun hc19 => ?_) (fun hc19 => ?_)
  · have hm := iteT hm hc19
    refine WP.skip ?_
    refine WQ.then_normal (hK18 _ _ _ ?_)
    refine WP.seq (fun K20 hK20 => ?_)
    refine WP.block ?_
    refine WP.seq (fun K21 hK21 => ?_)
    refine WP.region ?_
    refine WL.runk 2 [0, 1, 5, 7, 8] [(0, .slice a0' s_0.length c0'), (1, .func (.func 69) #[] #[.pointer (some ⟨b1_0', o1_0', none⟩)]), (7, .int .i64 (s_0.length : Int)), (8, .int .i64 st4), (5, .int .i64 st4)] (by kernel_rfl) ?_
    refine WL.nil ?_
    refine WQ.then_normal (hK21 _ _ _ ?_)
    refine WP.seq (fun K22 hK22 => ?_)
    refine WP.region ?_
    refine WL.runk 3 [0, 1, 5, 7, 8, 11, 12, 13] [(0, .slice a0' s_0.length c0'), (1, .func (.func 69) #[] #[.pointer (some ⟨b1_0', o1_0', none⟩)]), (7, .int .i64 (s_0.length : Int)), (8, .int .i64 st4), (5, .int .i64 st4), (11, .func (.func 69) #[] #[.pointer (some ⟨b1_0', o1_0', none⟩)]), (12, .slice a0' s_0.length c0'), (13, .int .i64 st4)] (by kernel_rfl) ?_
    obtain ⟨x23, hx24, hm⟩ := bindE hm
    refine WL.st (.pointer (some (at_ a0' (Int.toNat st4 * 2)))) (ST.index (T := fChange.ty) (xs := s_0) (Rd.below h0 hb6) hx24 rfl rfl rfl Try.underlying28 (info42).1 (info42).2.1) rfl rfl rfl ?_
    refine WL.st (.agg #[.int .i64 x23.Kind, .int .i64 x23.Amount]) (ST.loadAgg (vs := fChange.leaf x23) (fun j v hv => Rd.flatA (F := fChange) (Rd.below h0 hb6) hx24 j hv) rfl rfl rfl Try.underlying42 rfl (info42).1 (info42).2.1) rfl rfl rfl ?_
    obtain ⟨x25, hx26, hm⟩ := bindE hm
    refine WL.call 69 #[.agg #[.int .i64 x23.Kind, .int .i64 x23.Amount], .pointer (some ⟨b1_0', o1_0', none⟩)] rfl rfl (by kernel_rfl) (c_69 n x23 cap_1_0 b1_0' o1_0' w5 hx26 (RdB.below h1_0 hb6)) ?_
    rintro _ w27 ⟨rfl, hE28⟩
    refine ⟨_, rfl, ?_⟩
    have hb30 : Ext w w27 := Ext.trans hb6 hE28
    have hL31 : w.heap.size ≤ w27.heap.size := Nat.le_trans hL7 hE28.size
    have hS32 : SH w27 w.heap.size [] := SH.ext hS8 hE28
    refine WL.sub [(0, .slice a0' s_0.length c0'), (1, .func (.func 69) #[] #[.pointer (some ⟨b1_0', o1_0', none⟩)]), (7, .int .i64 (s_0.length : Int)), (8, .int .i64 st4), (5, .int .i64 st4), (16, .bool x25)] ⟨rfl, rfl, rfl, rfl, rfl, rfl, trivial⟩ ?_
    refine WL.nil ?_
    refine WQ.then_normal (hK22 _ _ _ ?_)
    refine WP.cond x25 rfl rfl (fun hc33 => ?_) (fun hc33 => ?_)
    · have hm := iteT hm hc33
      refine WP.seq (fun K34 hK34 => ?_)
      refine WP.region ?_
      refine WL.runk 2 [4] [(4, .int .i64 st4)] (by kernel_rfl) ?_
      refine WL.nil ?_
      refine WQ.then_normal (hK34 _ _ _ ?_)
      refine WP.ret ?_
      refine WQ.block_ret ?_
      refine WQ.then_ret ?_
      refine WQ.then_ret ?_
      refine WQ.block_ret ?_
      refine WQ.then_ret ?_
      obtain rfl := Option.some.inj hm
      obtain rfl := afterN_done hl9
      have hm := hmo10
      obtain rfl := Option.some.inj hm
      exact WQ.ret1 _ rfl rfl ⟨rfl, hb30⟩
    · have hm := iteF hm hc33
      refine WP.skip ?_
      refine WQ.block_normal ?_
      refine WQ.then_normal (hK20 _ _ _ ?_)
      refine WP.region ?_
      refine WL.runk 2 [0, 1, 7, 8] [(0, .slice a0' s_0.length c0'), (1, .func (.func 69) #[] #[.pointer (some ⟨b1_0', o1_0', none⟩)]), (7, .int .i64 (s_0.length : Int)), (8, .int .i64 (wI64 (st4 + 1)))] (by kernel_rfl) ?_
      refine WL.nil ?_
      obtain rfl := Option.some.inj hm
      exact WQ.round hK11 ⟨(wI64 (st4 + 1)), rfl, hb30, hL31, hS32, hl9⟩ (Nat.lt_succ_self _) ⟨rfl, rfl, rfl, rfl, trivial⟩
  · have hm := iteF hm hc19
    refine WP.exit ?_
    refine WQ.then_exit ?_
    refine WQ.then_exit ?_
    refine WQ.block_here ?_
    obtain rfl := Option.some.inj hm
    obtain rfl := afterN_done hl9
    have hm := hmo10
    refine WQ.then_normal (hK2 _ _ _ ?_)
    refine WP.seq (fun K35 hK35 => ?_)
    refine WP.region ?_
    refine WL.runk 1 [4] [(4, .int .i64 (-1))] (by kernel_rfl) ?_
    refine WL.nil ?_
    refine WQ.then_normal (hK35 _ _ _ ?_)
    refine WP.ret ?_
    obtain rfl := Option.some.inj hm
    exact WQ.ret1 _ rfl rfl ⟨rfl, hb6⟩

theorem c_32 (n : Nat) (list_0 : List SChange) (a0' : Option Addr) (c0' : Nat) (w : World) {r : Int × Int × Int} (hm : m_impl_FirstClash n list_0 = some r) (h0 : Rd fChange.ty w a0' list_0) (hle0 : list_0.length ≤ c0') :
    CallV Try.prog 32 #[.slice a0' list_0.length c0'] w (fun v w' => v = .tuple #[.int .i64 r.1, .int .i64 r.2.1, .int .i64 r.2.2] ∧ Ext w w') := by
  unfold m_impl_FirstClash at hm
  refine CallV.enter Try.func32 rfl (by kernel_rfl) Try.ntmps32 (env := [(0, .slice a0' list_0.length c0')]) ⟨rfl, trivial⟩ ?_
  refine WP.seq (fun K1 hK1 => ?_)
  refine WP.region ?_
  refine WL.runk 3 [0] [(0, .slice a0' list_0.length c0')] (by kernel_rfl) ?_
  refine WL.nil ?_
  refine WQ.then_normal (hK1 _ _ _ ?_)
  refine WP.seq (fun K2 hK2 => ?_)
  refine WP.seq (fun K3 hK3 => ?_)
  refine WP.region ?_
  refine WL.runk 1 [0, 8] [(0, .slice a0' list_0.length c0'), (8, .slice a0' list_0.length c0')] (by kernel_rfl) ?_
  obtain ⟨x4, hx5, hm⟩ := bindE hm
  refine WL.call 27 #[.slice a0' list_0.length c0'] rfl rfl (by kernel_rfl) (c_27 n list_0 a0' c0' w hx5 (Rd.below h0 (Ext.refl w)) hle0) ?_
  rintro _ w6 ⟨rfl, hE7⟩
  refine ⟨_, rfl, ?_⟩
  have hb9 : Ext w w6 := Ext.trans (Ext.refl w) hE7
  have hL10 : w.heap.size ≤ w6.heap.size := Nat.le_trans (Nat.le_refl _) hE7.size
  have hS11 : SH w6 w.heap.size [] := SH.ext (SH.nil _ _) hE7
  refine WL.runk 1 [0, 10] [(0, .slice a0' list_0.length c0'), (10, .bool (!x4))] (by kernel_rfl) ?_
  refine WL.nil ?_
  refine WQ.then_normal (hK3 _ _ _ ?_)
  refine WP.cond (!x4) rfl rfl (fun hc12 => ?_) (fun hc12 => ?_)
  · have hm := iteT hm hc12
    refine WP.seq (fun K13 hK13 => ?_)
    refine WP.region ?_
    refine WL.runk 3 [2, 3, 4] [(2, .int .i64 0), (3, .int .i64 0), (4, .int .i64 1)] (by kernel_rfl) ?_
    refine WL.nil ?_
    refine WQ.then_normal (hK13 _ _ _ ?_)
    refine WP.ret ?_
    refine WQ.then_ret ?_
    obtain rfl := Option.some.inj hm
    exact WQ.ret3 _ _ _ rfl rfl rfl rfl ⟨rfl, hb9⟩
  · have hm := iteF hm hc12
    refine WP.skip ?_
    refine WQ.then_normal (hK2 _ _ _ ?_)
    refine WP.seq (fun K14 hK14 => ?_)
    refine WP.seq (fun K15 hK15 => ?_)
    refine WP.region ?_
    refine WL.runk 3 [0, 11, 12, 13] [(0, .slice a0' list_0.length c0'), (11, .slice a0' list_0.length c0'), (12, .int .i64 (list_0.length : Int)), (13, .int .i64 0)] (by kernel_rfl) ?_
    refine WL.nil ?_
    refine WQ.then_normal (hK15 _ _ _ ?_)
    refine WP.block ?_
    obtain ⟨t27, ht28, hm⟩ := bindE hm
    have hmo22 := hm; clear hm
    refine WP.sub [(0, .slice a0' list_0.length c0'), (11, .slice a0' list_0.length c0'), (12, .int .i64 (list_0.length : Int)), (13, .int .i64 0)] ⟨rfl, rfl, rfl, rfl, trivial⟩ ?_
    refine WP.loop (fun n' env' w' => ∃ (st16 : Int) , env' = [(0, .slice a0' list_0.length c0'), (11, .slice a0' list_0.length c0'), (12, .int .i64 (list_0.length : Int)), (13, .int .i64 st16)] ∧ Ext w w' ∧ w.heap.size ≤ w'.heap.size ∧ SH w' w.heap.size [] ∧ loopN (m_impl_FirstClash_l1 n list_0) n' st16 = some t27) n ⟨0, rfl, hb9, hL10, hS11, ht28⟩ ?_
    rintro n24 _ w17 ⟨st16, rfl, hb18, hL19, hS20, hl21⟩ K23 hK23
    obtain ⟨n25, s26, rfl, hm, hl21⟩ := loopN_some hl21
    unfold m_impl_FirstClash_l1 at hm
    refine WP.seq (fun K29 hK29 => ?_)
    refine WP.region ?_
    refine WL.runk 1 [0, 11, 12, 13, 14] [(0, .slice a0' list_0.length c0'), (11, .slice a0' list_0.length c0'), (12, .int .i64 (list_0.length : Int)), (13, .int .i64 st16), (14, .bool (decide (st16 < (list_0.length : Int))))] (by kernel_rfl) ?_
    refine WL.nil ?_
    refine WQ.then_normal (hK29 _ _ _ ?_)
    refine WP.seq (fun K30 hK30 => ?_)
    refine WP.cond (decide (st16 < (list_0.length : Int))) rfl rfl (fun hc31 => ?_) (fun hc31 => ?_)
    · have hm := iteT hm hc31
      refine WP.skip ?_
      refine WQ.then_normal (hK30 _ _ _ ?_)
      refine WP.seq (fun K32 hK32 => ?_)
      refine WP.block ?_
      refine WP.seq (fun K33 hK33 => ?_)
      refine WP.region ?_
      refine WL.runk 1 [0, 11, 12, 13, 15] [(0, .slice a0' list_0.length c0'), (11, .slice a0' list_0.length c0'), (12, .int .i64 (list_0.length : Int)), (13, .int .i64 st16), (15, .int .i64 st16)] (by kernel_rfl) ?_
      obtain ⟨x34, hx35, hm⟩ := bindE hm
      refine WL.st (.pointer (some (at_ a0' (Int.toNat st16 * 2)))) (ST.index (T := fChange.ty) (xs := list_0) (Rd.below h0 hb18) hx35 rfl rfl rfl Try.underlying28 (info42).1 (info42).2.1) rfl rfl rfl ?_
      refine WL.st (.agg #[.int .i64 x34.Kind, .int .i64 x34.Amount]) (ST.loadAgg (vs := fChange.leaf x34) (fun j v hv => Rd.flatA (F := fChange) (Rd.below h0 hb18) hx35 j hv) rfl rfl rfl Try.underlying42 rfl (info42).1 (info42).2.1) rfl rfl rfl ?_
      refine WL.box 42 [.int .i64 0, .int .i64 0] 6 (by kernel_rfl) rfl rfl rfl rfl ?_
      intro b36 w37 hE38 hR39
      have hb41 : Ext w w37 := Ext.trans hb18 hE38
      have hL42 : w.heap.size ≤ w37.heap.size := Nat.le_trans hL19 hE38.size
      have hS43 : SH w37 w.heap.size [aBox 42 b36 [.int .i64 0, .int .i64 0]] := SH.add hS20 hE38 hL19 hR39
      refine WL.runk 1 [0, 5, 6, 11, 12, 13, 17] [(0, .slice a0' list_0.length c0'), (11, .slice a0' list_0.length c0'), (12, .int .i64 (list_0.length : Int)), (13, .int .i64 st16), (17, .agg #[.int .i64 x34.Kind, .int .i64 x34.Amount]), (6, .pointer (some ⟨b36, 0, none⟩)), (5, .int .i64 st16)] (by kernel_rfl) ?_
      refine WL.boxStore 0 [.int .i64 x34.Kind, .int .i64 x34.Amount] [.int .i64 x34.Kind, .int .i64 x34.Amount] (SH.front 0 hS43) hL42 rfl rfl rfl rfl rfl rfl rfl (info42).1 (info42).2.1 rfl rfl rfl ?_
      intro w44 hB45 hS46
      have hb47 : Ext w w44 := Below.trans hb41 hB45
      have hL48 : w.heap.size ≤ w44.heap.size := Nat.le_trans hL42 hB45.size
      refine WL.sub [(0, .slice a0' list_0.length c0'), (11, .slice a0' list_0.length c0'), (12, .int .i64 (list_0.length : Int)), (13, .int .i64 st16), (6, .pointer (some ⟨b36, 0, none⟩)), (5, .int .i64 st16)] ⟨rfl, rfl, rfl, rfl, rfl, rfl, trivial⟩ ?_
      refine WL.nil ?_
      refine WQ.then_normal (hK33 _ _ _ ?_)
      refine WP.seq (fun K49 hK49 => ?_)
      refine WP.region ?_
      refine WL.runk 2 [0, 5, 6, 11, 12, 13, 18, 19] [(0, .slice a0' list_0.length c0'), (11, .slice a0' list_0.length c0'), (12, .int .i64 (list_0.length : Int)), (13, .int .i64 st16), (6, .pointer (some ⟨b36, 0, none⟩)), (5, .int .i64 st16), (18, .slice a0' list_0.length c0'), (19, .int .i64 st16)] (by kernel_rfl) ?_
      obtain ⟨x50, hx51, hm⟩ := bindE hm
      refine WL.rsub (T := fChange.ty) 20 h0 hb47 hle0 hx51 rfl rfl Try.underlying28 (info42).1 (info42).2.1 rfl ⟨_, rfl⟩ rfl rfl rfl rfl ?_
      intro a52 c53 hR55 hle56
      refine WL.runk 1 [0, 5, 11, 12, 13, 20, 21] [(0, .slice a0' list_0.length c0'), (11, .slice a0' list_0.length c0'), (12, .int .i64 (list_0.length : Int)), (13, .int .i64 st16), (5, .int .i64 st16), (20, .slice a52 x50.length c53), (21, .func (.func 69) #[] #[.pointer (some ⟨b36, 0, none⟩)])] (by kernel_rfl) ?_
      obtain ⟨x58, hx59, hm⟩ := bindE hm
      refine WL.call 68 #[.slice a52 x50.length c53, .func (.func 69) #[] #[.pointer (some ⟨b36, 0, none⟩)]] rfl rfl (by kernel_rfl) (c_68_69 n x50 a52 c53 x34 b36 0 w44 hx59 (Rd.below hR55 hb47) hle56 (SH.boxRd (SH.front 0 hS46))) ?_
      rintro _ w60 ⟨rfl, hE61⟩
      refine ⟨_, rfl, ?_⟩
      have hb63 : Ext w w60 := Ext.trans hb47 hE61
      have hL64 : w.heap.size ≤ w60.heap.size := Nat.le_trans hL48 hE61.size
      have hS65 : SH w60 w.heap.size [aBox 42 b36 [.int .i64 x34.Kind, .int .i64 x34.Amount]] := SH.ext hS46 hE61
      refine WL.runk 1 [0, 5, 7, 11, 12, 13] [(0, .slice a0' list_0.length c0'), (11, .slice a0' list_0.length c0'), (12, .int .i64 (list_0.length : Int)), (13, .int .i64 st16), (5, .int .i64 st16), (7, .int .i64 x58)] (by kernel_rfl) ?_
      refine WL.nil ?_
      refine WQ.then_normal (hK49 _ _ _ ?_)
      refine WP.seq (fun K66 hK66 => ?_)
      refine WP.region ?_
      refine WL.runk 2 [0, 5, 7, 11, 12, 13, 24] [(0, .slice a0' list_0.length c0'), (11, .slice a0' list_0.length c0'), (12, .int .i64 (list_0.length : Int)), (13, .int .i64 st16), (5, .int .i64 st16), (7, .int .i64 x58), (24, .bool (decide (x58 ≥ 0)))] (by kernel_rfl) ?_
      refine WL.nil ?_
      refine WQ.then_normal (hK66 _ _ _ ?_)
      refine WP.cond (decide (x58 ≥ 0)) rfl rfl (fun hc67 => ?_) (fun hc67 => ?_)
      · have hm := iteT hm hc67
        refine WP.seq (fun K68 hK68 => ?_)
        refine WP.region ?_
        refine WL.runk 5 [2, 3, 4] [(2, .int .i64 st16), (3, .int .i64 x58), (4, .int .i64 0)] (by kernel_rfl) ?_
        refine WL.nil ?_
        refine WQ.then_normal (hK68 _ _ _ ?_)
        refine WP.ret ?_
        refine WQ.block_ret ?_
        refine WQ.then_ret ?_
        refine WQ.then_ret ?_
        refine WQ.block_ret ?_
        refine WQ.then_ret ?_
        obtain rfl := Option.some.inj hm
        obtain rfl := afterN_done hl21
        have hm := hmo22
        obtain rfl := Option.some.inj hm
        exact WQ.ret3 _ _ _ rfl rfl rfl rfl ⟨rfl, hb63⟩
      · have hm := iteF hm hc67
        refine WP.skip ?_
        refine WQ.block_normal ?_
        refine WQ.then_normal (hK32 _ _ _ ?_)
        refine WP.region ?_
        refine WL.runk 2 [0, 11, 12, 13] [(0, .slice a0' list_0.length c0'), (11, .slice a0' list_0.length c0'), (12, .int .i64 (list_0.length : Int)), (13, .int .i64 (wI64 (st16 + 1)))] (by kernel_rfl) ?_
        refine WL.nil ?_
        obtain rfl := Option.some.inj hm
        exact WQ.round hK23 ⟨(wI64 (st16 + 1)), rfl, hb63, hL64, (SH.take 0 hS65), hl21⟩ (Nat.lt_succ_self _) ⟨rfl, rfl, rfl, rfl, trivial⟩
    · have hm := iteF hm hc31
      refine WP.exit ?_
      refine WQ.then_exit ?_
      refine WQ.then_exit ?_
      refine WQ.block_here ?_
      obtain rfl := Option.some.inj hm
      obtain rfl := afterN_done hl21
      have hm := hmo22
      refine WQ.then_normal (hK14 _ _ _ ?_)
      refine WP.seq (fun K69 hK69 => ?_)
      refine WP.region ?_
      refine WL.runk 3 [2, 3, 4] [(2, .int .i64 0), (3, .int .i64 0), (4, .int .i64 3)] (by kernel_rfl) ?_
      refine WL.nil ?_
      refine WQ.then_normal (hK69 _ _ _ ?_)
      refine WP.ret ?_
      obtain rfl := Option.some.inj hm
      exact WQ.ret3 _ _ _ rfl rfl rfl rfl ⟨rfl, hb18⟩

theorem c_8 (n : Nat) (aList_0 : List SChange) (a0' : Option Addr) (c0' : Nat) (w : World) {r : Bool} (hm : m_laws_FnExactFirstClash n aList_0 = some r) (h0 : Rd fChange.ty w a0' aList_0) (hle0 : aList_0.length ≤ c0') :
    CallV Try.prog 8 #[.slice a0' aList_0.length c0'] w (fun v w' => v = .bool r ∧ Ext w w') := by
  unfold m_laws_FnExactFirstClash at hm
  refine CallV.enter Try.func8 rfl (by kernel_rfl) Try.ntmps8 (env := [(0, .slice a0' aList_0.length c0')]) ⟨rfl, trivial⟩ ?_
  refine WP.seq (fun K1 hK1 => ?_)
  refine WP.region ?_
  refine WL.runk 1 [0] [(0, .slice a0' aList_0.length c0')] (by kernel_rfl) ?_
  refine WL.nil ?_
  refine WQ.then_normal (hK1 _ _ _ ?_)
  refine WP.seq (fun K2 hK2 => ?_)
  refine WP.region ?_
  refine WL.runk 1 [0, 3] [(0, .slice a0' aList_0.length c0'), (3, .int .i64 1048576)] (by kernel_rfl) ?_
  refine WL.nil ?_
  refine WQ.then_normal (hK2 _ _ _ ?_)
  refine WP.seq (fun K3 hK3 => ?_)
  refine WP.region ?_
  refine WL.runk 2 [0, 11, 12] [(0, .slice a0' aList_0.length c0'), (11, .slice a0' aList_0.length c0'), (12, .int .i64 1048576)] (by kernel_rfl) ?_
  obtain ⟨x4, hx5, hm⟩ := bindE hm
  refine WL.call 16 #[.slice a0' aList_0.length c0', .int .i64 1048576] rfl rfl (by kernel_rfl) (c_16 n aList_0 a0' c0' 1048576 w hx5 (Rd.below h0 (Ext.refl w)) hle0) ?_
  rintro _ w6 ⟨rfl, hE7⟩
  refine ⟨_, rfl, ?_⟩
  have hb9 : Ext w w6 := Ext.trans (Ext.refl w) hE7
  have hL10 : w.heap.size ≤ w6.heap.size := Nat.le_trans (Nat.le_refl _) hE7.size
  have hS11 : SH w6 w.heap.size [] := SH.ext (SH.nil _ _) hE7
  refine WL.runk 1 [0, 3] [(0, .slice a0' aList_0.length c0'), (3, .int .i64 x4)] (by kernel_rfl) ?_
  refine WL.nil ?_
  refine WQ.then_normal (hK3 _ _ _ ?_)
  refine WP.seq (fun K12 hK12 => ?_)
  refine WP.seq (fun K13 hK13 => ?_)
  refine WP.region ?_
  refine WL.runk 2 [0, 15] [(0, .slice a0' aList_0.length c0'), (15, .bool (decide (x4 < 0)))] (by kernel_rfl) ?_
  refine WL.nil ?_
  refine WQ.then_normal (hK13 _ _ _ ?_)
  refine WP.cond (decide (x4 < 0)) rfl rfl (fun hc14 => ?_) (fun hc14 => ?_)
  · have hm := iteT hm hc14
    refine WP.seq (fun K15 hK15 => ?_)
    refine WP.region ?_
    refine WL.runk 1 [2] [(2, .bool true)] (by kernel_rfl) ?_
    refine WL.nil ?_
    refine WQ.then_normal (hK15 _ _ _ ?_)
    refine WP.ret ?_
    refine WQ.then_ret ?_
    obtain rfl := Option.some.inj hm
    exact WQ.ret1 _ rfl rfl ⟨rfl, hb9⟩
  · have hm := iteF hm hc14
    refine WP.skip ?_
    refine WQ.then_normal (hK12 _ _ _ ?_)
    refine WP.seq (fun K16 hK16 => ?_)
    refine WP.region ?_
    refine WL.runk 1 [0, 17] [(0, .slice a0' aList_0.length c0'), (17, .slice a0' aList_0.length c0')] (by kernel_rfl) ?_
    obtain ⟨x17, hx18, hm⟩ := bindE hm
    refine WL.call 18 #[.slice a0' aList_0.length c0'] rfl rfl (by kernel_rfl) (c_18 n aList_0 a0' c0' w6 hx18 (Rd.below h0 hb9) hle0) ?_
    rintro _ w22 ⟨a19, c20, rfl, hE23, hR24⟩
    refine ⟨_, rfl, ?_⟩
    have hb25 : Ext w w22 := Ext.trans hb9 hE23
    have hL26 : w.heap.size ≤ w22.heap.size := Nat.le_trans hL10 hE23.size
    have hS27 : SH w22 w.heap.size [aOwn fChange 42 a19 c20 x17] := SH.add hS11 hE23 hL10 hR24
    obtain ⟨x28, hx29, hm⟩ := bindE hm
    refine WL.call 31 #[.slice a19 x17.length c20] rfl rfl (by kernel_rfl) (c_31 n x17 a19 c20 w22 hx29 (SH.rd (SH.front 0 hS27)) (SH.le (SH.front 0 hS27)).1) ?_
    rintro _ w30 ⟨rfl, hE31⟩
    refine ⟨_, rfl, ?_⟩
    have hb33 : Ext w w30 := Ext.trans hb25 hE31
    have hL34 : w.heap.size ≤ w30.heap.size := Nat.le_trans hL26 hE31.size
    have hS35 : SH w30 w.heap.size [aOwn fChange 42 a19 c20 x17] := SH.ext hS27 hE31
    refine WL.runk 7 [0, 4, 5, 6] [(0, .slice a0' aList_0.length c0'), (4, .int .i64 x28.1), (5, .int .i64 x28.2.1), (6, .int .i64 x28.2.2)] (by kernel_rfl) ?_
    refine WL.nil ?_
    refine WQ.then_normal (hK16 _ _ _ ?_)
    refine WP.seq (fun K36 hK36 => ?_)
    refine WP.region ?_
    refine WL.runk 1 [0, 4, 5, 6, 23] [(0, .slice a0' aList_0.length c0'), (4, .int .i64 x28.1), (5, .int .i64 x28.2.1), (6, .int .i64 x28.2.2), (23, .slice a0' aList_0.length c0')] (by kernel_rfl) ?_
    obtain ⟨x37, hx38, hm⟩ := bindE hm
    refine WL.call 18 #[.slice a0' aList_0.length c0'] rfl rfl (by kernel_rfl) (c_18 n aList_0 a0' c0' w30 hx38 (Rd.below h0 hb33) hle0) ?_
    rintro _ w42 ⟨a39, c40, rfl, hE43, hR44⟩
    refine ⟨_, rfl, ?_⟩
    have hb45 : Ext w w42 := Ext.trans hb33 hE43
    have hL46 : w.heap.size ≤ w42.heap.size := Nat.le_trans hL34 hE43.size
    have hS47 : SH w42 w.heap.size [aOwn fChange 42 a39 c40 x37, aOwn fChange 42 a19 c20 x17] := SH.add hS35 hE43 hL34 hR44
    refine WL.runk 1 [0, 4, 5, 6, 7] [(0, .slice a0' aList_0.length c0'), (4, .int .i64 x28.1), (5, .int .i64 x28.2.1), (6, .int .i64 x28.2.2), (7, .slice a39 x37.length c40)] (by kernel_rfl) ?_
    refine WL.nil ?_
    refine WQ.then_normal (hK36 _ _ _ ?_)
    refine WP.seq (fun K48 hK48 => ?_)
    refine WP.region ?_
    refine WL.runk 1 [0, 4, 5, 6, 7, 26] [(0, .slice a0' aList_0.length c0'), (4, .int .i64 x28.1), (5, .int .i64 x28.2.1), (6, .int .i64 x28.2.2), (7, .slice a39 x37.length c40), (26, .slice a39 x37.length c40)] (by kernel_rfl) ?_
    obtain ⟨x49, hx50, hm⟩ := bindE hm
    refine WL.call 32 #[.slice a39 x37.length c40] rfl rfl (by kernel_rfl) (c_32 n x37 a39 c40 w42 hx50 (SH.rd (SH.front 0 hS47)) (SH.le (SH.front 0 hS47)).1) ?_
    rintro _ w51 ⟨rfl, hE52⟩
    refine ⟨_, rfl, ?_⟩
    have hb54 : Ext w w51 := Ext.trans hb45 hE52
    have hL55 : w.heap.size ≤ w51.heap.size := Nat.le_trans hL46 hE52.size
    have hS56 : SH w51 w.heap.size [aOwn fChange 42 a39 c40 x37, aOwn fChange 42 a19 c20 x17] := SH.ext hS47 hE52
    refine WL.runk 7 [0, 4, 5, 6, 7, 8, 9, 10] [(0, .slice a0' aList_0.length c0'), (4, .int .i64 x28.1), (5, .int .i64 x28.2.1), (6, .int .i64 x28.2.2), (7, .slice a39 x37.length c40), (8, .int .i64 x49.1), (9, .int .i64 x49.2.1), (10, .int .i64 x49.2.2)] (by kernel_rfl) ?_
    refine WL.nil ?_
    refine WQ.then_normal (hK48 _ _ _ ?_)
    refine WP.seq (fun K57 hK57 => ?_)
    refine WP.seq (fun K58 hK58 => ?_)
    obtain ⟨x61, hx62, hm⟩ := bindE hm
    refine WP.cut (fun env' w' => env' = [(0, .slice a0' aList_0.length c0'), (7, .slice a39 x37.length c40), (43, .bool x61)] ∧ Ext w w' ∧ w.heap.size ≤ w'.heap.size ∧ SH w' w.heap.size [aOwn fChange 42 a39 c40 x37, aOwn fChange 42 a19 c20 x17]) ?_ ?_
    · have hm := hx62; clear hx62
      refine WP.region ?_
      refine WL.runk 4 [0, 5, 6, 7, 9, 10, 34] [(0, .slice a0' aList_0.length c0'), (5, .int .i64 x28.2.1), (6, .int .i64 x28.2.2), (7, .slice a39 x37.length c40), (9, .int .i64 x49.2.1), (10, .int .i64 x49.2.2), (34, .bool (x49.1 != x28.1))] (by kernel_rfl) ?_
      refine WL.case (x49.1 != x28.1) [34] ⟨rfl, trivial⟩ (fun hc63 => ?_) (fun hc63 => ?_)
      · have hm := iteT hm hc63
        refine WL.runk 9 [0, 7, 43] [(0, .slice a0' aList_0.length c0'), (7, .slice a39 x37.length c40), (43, .bool true)] (by kernel_rfl) ?_
        refine WL.nil ?_
        obtain rfl := Option.some.inj hm
        exact WQ.post' ⟨rfl, hb54, hL55, hS56⟩ ⟨rfl, rfl, rfl, trivial⟩
      · have hm := iteF hm hc63
        refine WL.runk 5 [0, 6, 7, 10, 39] [(0, .slice a0' aList_0.length c0'), (6, .int .i64 x28.2.2), (7, .slice a39 x37.length c40), (10, .int .i64 x49.2.2), (39, .bool (x49.2.1 != x28.2.1))] (by kernel_rfl) ?_
        refine WL.case (x49.2.1 != x28.2.1) [39] ⟨rfl, trivial⟩ (fun hc64 => ?_) (fun hc64 => ?_)
        · have hm := iteT hm hc64
          refine WL.runk 4 [0, 7, 43] [(0, .slice a0' aList_0.length c0'), (7, .slice a39 x37.length c40), (43, .bool true)] (by kernel_rfl) ?_
          refine WL.nil ?_
          obtain rfl := Option.some.inj hm
          exact WQ.post' ⟨rfl, hb54, hL55, hS56⟩ ⟨rfl, rfl, rfl, trivial⟩
        · have hm := iteF hm hc64
          refine WL.runk 4 [0, 7, 43] [(0, .slice a0' aList_0.length c0'), (7, .slice a39 x37.length c40), (43, .bool (x49.2.2 != x28.2.2))] (by kernel_rfl) ?_
          refine WL.nil ?_
          obtain rfl := Option.some.inj hm
          exact WQ.post' ⟨rfl, hb54, hL55, hS56⟩ ⟨rfl, rfl, rfl, trivial⟩
    · clear hx62
      rintro _ w65 ⟨rfl, hb66, hL67, hS68⟩
      refine WQ.then_normal (hK58 _ _ _ ?_)
      refine WP.cond x61 rfl rfl (fun hc69 => ?_) (fun hc69 => ?_)
      · have hm := iteT hm hc69
        refine WP.seq (fun K70 hK70 => ?_)
        refine WP.region ?_
        refine WL.runk 1 [2] [(2, .bool false)] (by kernel_rfl) ?_
        refine WL.nil ?_
        refine WQ.then_normal (hK70 _ _ _ ?_)
        refine WP.ret ?_
        refine WQ.then_ret ?_
        obtain rfl := Option.some.inj hm
        exact WQ.ret1 _ rfl rfl ⟨rfl, hb66⟩
      · have hm := iteF hm hc69
        refine WP.skip ?_
        refine WQ.then_normal (hK57 _ _ _ ?_)
        refine WP.seq (fun K71 hK71 => ?_)
        refine WP.seq (fun K72 hK72 => ?_)
        refine WP.region ?_
        refine WL.runk 2 [44, 45] [(44, .slice a39 x37.length c40), (45, .slice a0' aList_0.length c0')] (by kernel_rfl) ?_
        obtain ⟨x73, hx74, hm⟩ := bindE hm
        refine WL.call 18 #[.slice a0' aList_0.length c0'] rfl rfl (by kernel_rfl) (c_18 n aList_0 a0' c0' w65 hx74 (Rd.below h0 hb66) hle0) ?_
        rintro _ w78 ⟨a75, c76, rfl, hE79, hR80⟩
        refine ⟨_, rfl, ?_⟩
        have hb81 : Ext w w78 := Ext.trans hb66 hE79
        have hL82 : w.heap.size ≤ w78.heap.size := Nat.le_trans hL67 hE79.size
        have hS83 : SH w78 w.heap.size [aOwn fChange 42 a75 c76 x73, aOwn fChange 42 a39 c40 x37, aOwn fChange 42 a19 c20 x17] := SH.add hS68 hE79 hL67 hR80
        obtain ⟨x84, hx85, hm⟩ := bindE hm
        refine WL.call 20 #[.slice a39 x37.length c40, .slice a75 x73.length c76] rfl rfl (by kernel_rfl) (c_20 n x37 a39 c40 x73 a75 c76 w78 hx85 (SH.rd (SH.front 1 hS83)) (SH.le (SH.front 1 hS83)).1 (SH.rd (SH.front 0 hS83)) (SH.le (SH.front 0 hS83)).1) ?_
        rintro _ w86 ⟨rfl, hE87⟩
        refine ⟨_, rfl, ?_⟩
        have hb89 : Ext w w86 := Ext.trans hb81 hE87
        have hL90 : w.heap.size ≤ w86.heap.size := Nat.le_trans hL82 hE87.size
        have hS91 : SH w86 w.heap.size [aOwn fChange 42 a75 c76 x73, aOwn fChange 42 a39 c40 x37, aOwn fChange 42 a19 c20 x17] := SH.ext hS83 hE87
        refine WL.runk 1 [48] [(48, .bool (!x84))] (by kernel_rfl) ?_
        refine WL.nil ?_
        refine WQ.then_normal (hK72 _ _ _ ?_)
        refine WP.cond (!x84) rfl rfl (fun hc92 => ?_) (fun hc92 => ?_)
        · have hm := iteT hm hc92
          refine WP.seq (fun K93 hK93 => ?_)
          refine WP.region ?_
          refine WL.runk 1 [2] [(2, .bool false)] (by kernel_rfl) ?_
          refine WL.nil ?_
          refine WQ.then_normal (hK93 _ _ _ ?_)
          refine WP.ret ?_
          refine WQ.then_ret ?_
          obtain rfl := Option.some.inj hm
          exact WQ.ret1 _ rfl rfl ⟨rfl, hb89⟩
        · have hm := iteF hm hc92
          refine WP.skip ?_
          refine WQ.then_normal (hK71 _ _ _ ?_)
          refine WP.seq (fun K94 hK94 => ?_)
          refine WP.region ?_
          refine WL.runk 1 [2] [(2, .bool true)] (by kernel_rfl) ?_
          refine WL.nil ?_
          refine WQ.then_normal (hK94 _ _ _ ?_)
          refine WP.ret ?_
          obtain rfl := Option.some.inj hm
          exact WQ.ret1 _ rfl rfl ⟨rfl, hb89⟩

theorem c_33 (n : Nat) (code_0 : List Int) (a0' : Option Addr) (c0' : Nat) (more_1 : List Int) (a1' : Option Addr) (c1' : Nat) (w : World) {r : Bool} (hm : m_laws_a2Long n code_0 more_1 = some r) (h0 : Rd fU8.ty w a0' code_0) (hle0 : code_0.length ≤ c0') (h1 : Rd fU8.ty w a1' more_1) (hle1 : more_1.length ≤ c1') :
    CallV Try.prog 33 #[.slice a0' code_0.length c0', .slice a1' more_1.length c1'] w (fun v w' => v = .bool r ∧ Ext w w') := by
  unfold m_laws_a2Long at hm
  refine CallV.enter Try.func33 rfl (by kernel_rfl) Try.ntmps33 (env := [(0, .slice a0' code_0.length c0'), (1, .slice a1' more_1.length c1')]) ⟨rfl, rfl, trivial⟩ ?_
  refine WP.seq (fun K1 hK1 => ?_)
  refine WP.region ?_
  refine WL.runk 1 [0, 1] [(0, .slice a0' code_0.length c0'), (1, .slice a1' more_1.length c1')] (by kernel_rfl) ?_
  refine WL.nil ?_
  refine WQ.then_normal (hK1 _ _ _ ?_)
  refine WP.seq (fun K2 hK2 => ?_)
  obtain ⟨x4, hx5, hm⟩ := bindE hm
  refine WP.cut (fun env' w' => env' = [(4, .bool x4)] ∧ Ext w w' ∧ w.heap.size ≤ w'.heap.size ∧ SH w' w.heap.size []) ?_ ?_
  · have hm := hx5; clear hx5
    refine WP.region ?_
    refine WL.runk 4 [1, 8] [(1, .slice a1' more_1.length c1'), (8, .bool (decide ((code_0.length : Int) > 3000)))] (by kernel_rfl) ?_
    refine WL.case (decide ((code_0.length : Int) > 3000)) [8] ⟨rfl, trivial⟩ (fun hc6 => ?_) (fun hc6 => ?_)
    · have hm := iteT hm hc6
      refine WL.runk 5 [4] [(4, .bool true)] (by kernel_rfl) ?_
      refine WL.nil ?_
      obtain rfl := Option.some.inj hm
      exact WQ.post' ⟨rfl, (Ext.refl w), (Nat.le_refl _), (SH.nil _ _)⟩ ⟨rfl, trivial⟩
    · have hm := iteF hm hc6
      refine WL.runk 5 [4] [(4, .bool (decide ((more_1.length : Int) > 3000)))] (by kernel_rfl) ?_
      refine WL.nil ?_
      obtain rfl := Option.some.inj hm
      exact WQ.post' ⟨rfl, (Ext.refl w), (Nat.le_refl _), (SH.nil _ _)⟩ ⟨rfl, trivial⟩
  · clear hx5
    rintro _ w7 ⟨rfl, hb8, hL9, hS10⟩
    refine WQ.then_normal (hK2 _ _ _ ?_)
    refine WP.ret ?_
    obtain rfl := Option.some.inj hm
    exact WQ.ret1 _ rfl rfl ⟨rfl, hb8⟩

end Go.Proofs.Ytlplbjeegkkilaa
