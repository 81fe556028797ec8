/- Each call does what its Lean function says. -/
import Derived.Test.YtoljnpoiclklpaaCo6
set_option maxRecDepth 20000
set_option maxHeartbeats 4000000
namespace Go.Proofs.Ytoljnpoiclklpaa
open Go Go.Gv Go.RowKit

theorem c_32 (n : Nat) (rows_0 : List (List UInt8)) (a0' : Option Addr) (c0' : Nat) (w : World) {r : List UInt8 × Int} (hm : m_impl_DiagnoseWear n rows_0 = some r) (h0 : Rd fStr.ty w a0' rows_0) (hle0 : rows_0.length ≤ c0') :
    CallV Try.prog 32 #[.slice a0' rows_0.length c0'] w (fun v w' => v = .tuple #[.string (bs r.1), .int .i64 r.2] ∧ Ext w w') := by
  unfold m_impl_DiagnoseWear at hm
  refine CallV.enter Try.func32 rfl (by kernel_rfl) Try.ntmps32 (env := [(0, .slice a0' rows_0.length c0')]) ⟨rfl, trivial⟩ ?_
  refine WP.seq (fun K1 hK1 => ?_)
  refine WP.region ?_
  refine WL.runk 2 [0] [(0, .slice a0' rows_0.length c0')] (by kernel_rfl) ?_
  refine WL.nil ?_
  refine WQ.then_normal (hK1 _ _ _ ?_)
  refine WP.seq (fun K2 hK2 => ?_)
  refine WP.seq (fun K3 hK3 => ?_)
  refine WP.region ?_
  refine WL.runk 1 [0, 7] [(0, .slice a0' rows_0.length c0'), (7, .slice a0' rows_0.length c0')] (by kernel_rfl) ?_
  obtain ⟨x4, hx5, hm⟩ := bindE hm
  refine WL.call 18 #[.slice a0' rows_0.length c0'] rfl rfl (by kernel_rfl) (c_18 n rows_0 a0' c0' w hx5 (Rd.below h0 (Ext.refl w)) hle0) ?_
  rintro _ w6 ⟨rfl, hE7⟩
  refine ⟨_, rfl, ?_⟩
  have hb9 : Ext w w6 := Ext.trans (Ext.refl w) hE7
  have hL10 : w.heap.size ≤ w6.heap.size := Nat.le_trans (Nat.le_refl _) hE7.size
  have hS11 : SH w6 w.heap.size [] := SH.ext (SH.nil _ _) hE7
  refine WL.runk 1 [0, 9] [(0, .slice a0' rows_0.length c0'), (9, .bool (!x4))] (by kernel_rfl) ?_
  refine WL.nil ?_
  refine WQ.then_normal (hK3 _ _ _ ?_)
  refine WP.cond (!x4) rfl rfl (fun hc12 => ?_) (fun hc12 => ?_)
  · have hm := iteT hm hc12
    refine WP.seq (fun K13 hK13 => ?_)
    refine WP.region ?_
    refine WL.runk 2 [2, 3] [(2, .string (bs [])), (3, .int .i64 1)] (by kernel_rfl) ?_
    refine WL.nil ?_
    refine WQ.then_normal (hK13 _ _ _ ?_)
    refine WP.ret ?_
    refine WQ.then_ret ?_
    obtain rfl := Option.some.inj hm
    exact WQ.ret2 _ _ rfl rfl rfl ⟨rfl, hb9⟩
  · have hm := iteF hm hc12
    refine WP.skip ?_
    refine WQ.then_normal (hK2 _ _ _ ?_)
    refine WP.seq (fun K14 hK14 => ?_)
    refine WP.region ?_
    refine WL.runk 1 [10] [(10, .slice a0' rows_0.length c0')] (by kernel_rfl) ?_
    obtain ⟨x15, hx16, hm⟩ := bindE hm
    refine WL.call 65 #[.slice a0' rows_0.length c0'] rfl rfl (by kernel_rfl) (c_65 n rows_0 a0' c0' w6 hx16 (Rd.below h0 hb9) hle0) ?_
    rintro _ w20 ⟨a17, c18, rfl, hE21, hR22⟩
    refine ⟨_, rfl, ?_⟩
    have hb23 : Ext w w20 := Ext.trans hb9 hE21
    have hL24 : w.heap.size ≤ w20.heap.size := Nat.le_trans hL10 hE21.size
    have hS25 : SH w20 w.heap.size [aOwn fInt 2 a17 c18 x15] := SH.add hS11 hE21 hL10 hR22
    refine WL.runk 1 [4] [(4, .slice a17 x15.length c18)] (by kernel_rfl) ?_
    refine WL.nil ?_
    refine WQ.then_normal (hK14 _ _ _ ?_)
    refine WP.seq (fun K26 hK26 => ?_)
    refine WP.seq (fun K27 hK27 => ?_)
    refine WP.region ?_
    refine WL.runk 2 [4, 12, 13] [(4, .slice a17 x15.length c18), (12, .agg #[.string (bs [105, 110, 110, 101, 114, 45, 116, 111, 101]), .string (bs [111, 117, 116, 101, 114, 45, 116, 111, 101]), .string (bs [105, 110, 110, 101, 114, 45, 104, 101, 101, 108]), .string (bs [111, 117, 116, 101, 114, 45, 104, 101, 101, 108])]), (13, .int .i64 0)] (by kernel_rfl) ?_
    refine WL.nil ?_
    refine WQ.then_normal (hK27 _ _ _ ?_)
    refine WP.block ?_
    obtain ⟨t39, ht40, hm⟩ := bindE hm
    have hmo34 := hm; clear hm
    refine WP.sub [(4, .slice a17 x15.length c18), (12, .agg #[.string (bs [105, 110, 110, 101, 114, 45, 116, 111, 101]), .string (bs [111, 117, 116, 101, 114, 45, 116, 111, 101]), .string (bs [105, 110, 110, 101, 114, 45, 104, 101, 101, 108]), .string (bs [111, 117, 116, 101, 114, 45, 104, 101, 101, 108])]), (13, .int .i64 0)] ⟨rfl, rfl, rfl, trivial⟩ ?_
    refine WP.loop (fun n' env' w' => ∃ (st28 : Int) , env' = [(4, .slice a17 x15.length c18), (12, .agg #[.string (bs [105, 110, 110, 101, 114, 45, 116, 111, 101]), .string (bs [111, 117, 116, 101, 114, 45, 116, 111, 101]), .string (bs [105, 110, 110, 101, 114, 45, 104, 101, 101, 108]), .string (bs [111, 117, 116, 101, 114, 45, 104, 101, 101, 108])]), (13, .int .i64 st28)] ∧ Ext w w' ∧ w.heap.size ≤ w'.heap.size ∧ SH w' w.heap.size [aOwn fInt 2 a17 c18 x15] ∧ loopN (m_impl_DiagnoseWear_l1 n x15) n' st28 = some t39) n ⟨0, rfl, hb23, hL24, hS25, ht40⟩ ?_
    rintro n36 _ w29 ⟨st28, rfl, hb30, hL31, hS32, hl33⟩ K35 hK35
    obtain ⟨n37, s38, rfl, hm, hl33⟩ := loopN_some hl33
    unfold m_impl_DiagnoseWear_l1 at hm
    refine WP.seq (fun K41 hK41 => ?_)
    refine WP.region ?_
    refine WL.runk 1 [4, 12, 13, 14] [(4, .slice a17 x15.length c18), (12, .agg #[.string (bs [105, 110, 110, 101, 114, 45, 116, 111, 101]), .string (bs [111, 117, 116, 101, 114, 45, 116, 111, 101]), .string (bs [105, 110, 110, 101, 114, 45, 104, 101, 101, 108]), .string (bs [111, 117, 116, 101, 114, 45, 104, 101, 101, 108])]), (13, .int .i64 st28), (14, .bool (decide (st28 < 4)))] (by kernel_rfl) ?_
    refine WL.nil ?_
    refine WQ.then_normal (hK41 _ _ _ ?_)
    refine WP.seq (fun K42 hK42 => ?_)
    refine WP.cond (decide (st28 < 4)) rfl rfl (fun hc43 => ?_) (fun hc43 => ?_)
    · have hm := iteT hm hc43
      refine WP.skip ?_
      refine WQ.then_normal (hK42 _ _ _ ?_)
      refine WP.seq (fun K44 hK44 => ?_)
      refine WP.block ?_
      refine WP.seq (fun K45 hK45 => ?_)
      refine WP.region ?_
      refine WL.runk 1 [4, 12, 13, 15] [(4, .slice a17 x15.length c18), (12, .agg #[.string (bs [105, 110, 110, 101, 114, 45, 116, 111, 101]), .string (bs [111, 117, 116, 101, 114, 45, 116, 111, 101]), .string (bs [105, 110, 110, 101, 114, 45, 104, 101, 101, 108]), .string (bs [111, 117, 116, 101, 114, 45, 104, 101, 101, 108])]), (13, .int .i64 st28), (15, .int .i64 st28)] (by kernel_rfl) ?_
      obtain ⟨x46, hx47, hm⟩ := bindE hm
      refine WL.st (.string (bs x46)) (ST.aindex (F := fStr) (xs := ([[105, 110, 110, 101, 114, 45, 116, 111, 101], [111, 117, 116, 101, 114, 45, 116, 111, 101], [105, 110, 110, 101, 114, 45, 104, 101, 101, 108], [111, 117, 116, 101, 114, 45, 104, 101, 101, 108]] : List (List UInt8))) rfl hx47 rfl rfl rfl Try.underlying63 rfl Try.underlying9 rfl (info9).1 (info9).2.1 _ rfl) rfl rfl rfl ?_
      refine WL.runk 2 [4, 5, 6, 12, 13] [(4, .slice a17 x15.length c18), (12, .agg #[.string (bs [105, 110, 110, 101, 114, 45, 116, 111, 101]), .string (bs [111, 117, 116, 101, 114, 45, 116, 111, 101]), .string (bs [105, 110, 110, 101, 114, 45, 104, 101, 101, 108]), .string (bs [111, 117, 116, 101, 114, 45, 104, 101, 101, 108])]), (13, .int .i64 st28), (5, .int .i64 st28), (6, .string (bs x46))] (by kernel_rfl) ?_
      refine WL.nil ?_
      refine WQ.then_normal (hK45 _ _ _ ?_)
      refine WP.seq (fun K48 hK48 => ?_)
      refine WP.quiet (by kernel_rfl) (by kernel_rfl) ?_
      refine QL.step1 rfl (env' := [(4, .slice a17 x15.length c18), (12, .agg #[.string (bs [105, 110, 110, 101, 114, 45, 116, 111, 101]), .string (bs [111, 117, 116, 101, 114, 45, 116, 111, 101]), .string (bs [105, 110, 110, 101, 114, 45, 104, 101, 101, 108]), .string (bs [111, 117, 116, 101, 114, 45, 104, 101, 101, 108])]), (13, .int .i64 st28), (5, .int .i64 st28), (6, .string (bs x46)), (17, .slice a17 x15.length c18)]) (fun _ => by kernel_rfl) ?_
      refine QL.step1 rfl (env' := [(4, .slice a17 x15.length c18), (12, .agg #[.string (bs [105, 110, 110, 101, 114, 45, 116, 111, 101]), .string (bs [111, 117, 116, 101, 114, 45, 116, 111, 101]), .string (bs [105, 110, 110, 101, 114, 45, 104, 101, 101, 108]), .string (bs [111, 117, 116, 101, 114, 45, 104, 101, 101, 108])]), (13, .int .i64 st28), (5, .int .i64 st28), (6, .string (bs x46)), (17, .slice a17 x15.length c18), (18, .int .i64 st28)]) (fun _ => by kernel_rfl) ?_
      refine QL.sub [(4, .slice a17 x15.length c18), (12, .agg #[.string (bs [105, 110, 110, 101, 114, 45, 116, 111, 101]), .string (bs [111, 117, 116, 101, 114, 45, 116, 111, 101]), .string (bs [105, 110, 110, 101, 114, 45, 104, 101, 101, 108]), .string (bs [111, 117, 116, 101, 114, 45, 104, 101, 101, 108])]), (13, .int .i64 st28), (6, .string (bs x46)), (17, .slice a17 x15.length c18), (18, .int .i64 st28)] ⟨rfl, rfl, rfl, rfl, rfl, rfl, trivial⟩ ?_
      obtain ⟨x49, hx50, hm⟩ := bindE hm
      refine QL.st (.pointer (some (at_ a17 (Int.toNat st28 * 1)))) (ST.index (T := fInt.ty) (xs := x15) (SH.rd (SH.front 0 hS32)) hx50 rfl rfl rfl Try.underlying40 (info2).1 (info2).2.1) rfl rfl rfl ?_
      refine QL.st (.int .i64 x49) (ST.load (cell_ext (Rd.flat (F := fInt) (SH.rd (SH.front 0 hS32)) hx50 0 rfl)) rfl rfl Try.underlying2 rfl) rfl rfl rfl ?_
      refine QL.step1 rfl (env' := [(4, .slice a17 x15.length c18), (12, .agg #[.string (bs [105, 110, 110, 101, 114, 45, 116, 111, 101]), .string (bs [111, 117, 116, 101, 114, 45, 116, 111, 101]), .string (bs [105, 110, 110, 101, 114, 45, 104, 101, 101, 108]), .string (bs [111, 117, 116, 101, 114, 45, 104, 101, 101, 108])]), (13, .int .i64 st28), (6, .string (bs x46)), (17, .slice a17 x15.length c18), (18, .int .i64 st28), (19, .pointer (some (at_ a17 (Int.toNat st28 * 1)))), (20, .int .i64 x49), (21, .int .i64 (wI64 (2 * x49)))]) (fun _ => by kernel_rfl) ?_
      refine QL.sub [(4, .slice a17 x15.length c18), (12, .agg #[.string (bs [105, 110, 110, 101, 114, 45, 116, 111, 101]), .string (bs [111, 117, 116, 101, 114, 45, 116, 111, 101]), .string (bs [105, 110, 110, 101, 114, 45, 104, 101, 101, 108]), .string (bs [111, 117, 116, 101, 114, 45, 104, 101, 101, 108])]), (13, .int .i64 st28), (6, .string (bs x46)), (21, .int .i64 (wI64 (2 * x49)))] ⟨rfl, rfl, rfl, rfl, rfl, trivial⟩ ?_
      refine QL.step1 rfl (env' := [(4, .slice a17 x15.length c18), (12, .agg #[.string (bs [105, 110, 110, 101, 114, 45, 116, 111, 101]), .string (bs [111, 117, 116, 101, 114, 45, 116, 111, 101]), .string (bs [105, 110, 110, 101, 114, 45, 104, 101, 101, 108]), .string (bs [111, 117, 116, 101, 114, 45, 104, 101, 101, 108])]), (13, .int .i64 st28), (6, .string (bs x46)), (21, .int .i64 (wI64 (2 * x49))), (22, .slice a17 x15.length c18)]) (fun _ => by kernel_rfl) ?_
      obtain ⟨x51, hx52, hm⟩ := bindE hm
      refine QL.call 66 #[.slice a17 x15.length c18] (.int .i64 x51) (fun _ => by kernel_rfl) (fun w53 hE54 => c_66 n x15 a17 c18 w53 hx52 (Rd.below (SH.rd (SH.front 0 hS32)) hE54) (SH.le (SH.front 0 hS32)).1) rfl rfl rfl ?_
      refine QL.step1 rfl (env' := [(4, .slice a17 x15.length c18), (12, .agg #[.string (bs [105, 110, 110, 101, 114, 45, 116, 111, 101]), .string (bs [111, 117, 116, 101, 114, 45, 116, 111, 101]), .string (bs [105, 110, 110, 101, 114, 45, 104, 101, 101, 108]), .string (bs [111, 117, 116, 101, 114, 45, 104, 101, 101, 108])]), (13, .int .i64 st28), (6, .string (bs x46)), (21, .int .i64 (wI64 (2 * x49))), (22, .slice a17 x15.length c18), (23, .int .i64 x51), (24, .bool (decide ((wI64 (2 * x49)) > x51)))]) (fun _ => by kernel_rfl) ?_
      refine QL.sub [(4, .slice a17 x15.length c18), (12, .agg #[.string (bs [105, 110, 110, 101, 114, 45, 116, 111, 101]), .string (bs [111, 117, 116, 101, 114, 45, 116, 111, 101]), .string (bs [105, 110, 110, 101, 114, 45, 104, 101, 101, 108]), .string (bs [111, 117, 116, 101, 114, 45, 104, 101, 101, 108])]), (13, .int .i64 st28), (6, .string (bs x46)), (24, .bool (decide ((wI64 (2 * x49)) > x51)))] ⟨rfl, rfl, rfl, rfl, rfl, trivial⟩ ?_
      refine QL.sub [(4, .slice a17 x15.length c18), (12, .agg #[.string (bs [105, 110, 110, 101, 114, 45, 116, 111, 101]), .string (bs [111, 117, 116, 101, 114, 45, 116, 111, 101]), .string (bs [105, 110, 110, 101, 114, 45, 104, 101, 101, 108]), .string (bs [111, 117, 116, 101, 114, 45, 104, 101, 101, 108])]), (13, .int .i64 st28), (6, .string (bs x46)), (24, .bool (decide ((wI64 (2 * x49)) > x51)))] ⟨rfl, rfl, rfl, rfl, rfl, trivial⟩ ?_
      refine QL.nil ?_
      intro w55 hE56
      have hb57 : Ext w w55 := Ext.trans hb30 hE56
      have hL58 : w.heap.size ≤ w55.heap.size := Nat.le_trans hL31 hE56.size
      have hS59 : SH w55 w.heap.size [aOwn fInt 2 a17 c18 x15] := SH.ext hS32 hE56
      refine WQ.then_normal (hK48 _ _ _ ?_)
      refine WP.cond (decide ((wI64 (2 * x49)) > x51)) rfl rfl (fun hc60 => ?_) (fun hc60 => ?_)
      · have hm := iteT hm hc60
        refine WP.seq (fun K61 hK61 => ?_)
        refine WP.region ?_
        refine WL.runk 3 [2, 3] [(2, .string (bs x46)), (3, .int .i64 0)] (by kernel_rfl) ?_
        refine WL.nil ?_
        refine WQ.then_normal (hK61 _ _ _ ?_)
        refine WP.ret ?_
        refine WQ.block_ret ?_
        refine WQ.then_ret ?_
        refine WQ.then_ret ?_
        refine WQ.block_ret ?_
        refine WQ.then_ret ?_
        obtain rfl := Option.some.inj hm
        obtain rfl := afterN_done hl33
        have hm := hmo34
        obtain rfl := Option.some.inj hm
        exact WQ.ret2 _ _ rfl rfl rfl ⟨rfl, hb57⟩
      · have hm := iteF hm hc60
        refine WP.skip ?_
        refine WQ.block_normal ?_
        refine WQ.then_normal (hK44 _ _ _ ?_)
        refine WP.region ?_
        refine WL.runk 2 [4, 12, 13] [(4, .slice a17 x15.length c18), (12, .agg #[.string (bs [105, 110, 110, 101, 114, 45, 116, 111, 101]), .string (bs [111, 117, 116, 101, 114, 45, 116, 111, 101]), .string (bs [105, 110, 110, 101, 114, 45, 104, 101, 101, 108]), .string (bs [111, 117, 116, 101, 114, 45, 104, 101, 101, 108])]), (13, .int .i64 (wI64 (st28 + 1)))] (by kernel_rfl) ?_
        refine WL.nil ?_
        obtain rfl := Option.some.inj hm
        exact WQ.round hK35 ⟨(wI64 (st28 + 1)), rfl, hb57, hL58, hS59, hl33⟩ (Nat.lt_succ_self _) ⟨rfl, rfl, rfl, trivial⟩
    · have hm := iteF hm hc43
      refine WP.exit ?_
      refine WQ.then_exit ?_
      refine WQ.then_exit ?_
      refine WQ.block_here ?_
      obtain rfl := Option.some.inj hm
      obtain rfl := afterN_done hl33
      have hm := hmo34
      refine WQ.then_normal (hK26 _ _ _ ?_)
      refine WP.seq (fun K62 hK62 => ?_)
      refine WP.region ?_
      refine WL.runk 2 [2, 3] [(2, .string (bs [101, 118, 101, 110])), (3, .int .i64 0)] (by kernel_rfl) ?_
      refine WL.nil ?_
      refine WQ.then_normal (hK62 _ _ _ ?_)
      refine WP.ret ?_
      obtain rfl := Option.some.inj hm
      exact WQ.ret2 _ _ rfl rfl rfl ⟨rfl, hb30⟩

theorem c_8 (n : Nat) (aRows_0 : List (List UInt8)) (a0' : Option Addr) (c0' : Nat) (w : World) {r : Bool} (hm : m_laws_FnExactDiagnoseWear n aRows_0 = some r) (h0 : Rd fStr.ty w a0' aRows_0) (hle0 : aRows_0.length ≤ c0') :
    CallV Try.prog 8 #[.slice a0' aRows_0.length c0'] w (fun v w' => v = .bool r ∧ Ext w w') := by
  unfold m_laws_FnExactDiagnoseWear at hm
  refine CallV.enter Try.func8 rfl (by kernel_rfl) Try.ntmps8 (env := [(0, .slice a0' aRows_0.length c0')]) ⟨rfl, trivial⟩ ?_
  refine WP.seq (fun K1 hK1 => ?_)
  refine WP.region ?_
  refine WL.runk 1 [0] [(0, .slice a0' aRows_0.length c0')] (by kernel_rfl) ?_
  refine WL.nil ?_
  refine WQ.then_normal (hK1 _ _ _ ?_)
  refine WP.seq (fun K2 hK2 => ?_)
  refine WP.region ?_
  refine WL.runk 1 [0, 3] [(0, .slice a0' aRows_0.length c0'), (3, .int .i64 1048576)] (by kernel_rfl) ?_
  refine WL.nil ?_
  refine WQ.then_normal (hK2 _ _ _ ?_)
  refine WP.seq (fun K3 hK3 => ?_)
  refine WP.region ?_
  refine WL.runk 2 [0, 9, 10] [(0, .slice a0' aRows_0.length c0'), (9, .slice a0' aRows_0.length c0'), (10, .int .i64 1048576)] (by kernel_rfl) ?_
  obtain ⟨x4, hx5, hm⟩ := bindE hm
  refine WL.call 15 #[.slice a0' aRows_0.length c0', .int .i64 1048576] rfl rfl (by kernel_rfl) (c_15 n aRows_0 a0' c0' 1048576 w hx5 (Rd.below h0 (Ext.refl w)) hle0) ?_
  rintro _ w6 ⟨rfl, hE7⟩
  refine ⟨_, rfl, ?_⟩
  have hb9 : Ext w w6 := Ext.trans (Ext.refl w) hE7
  have hL10 : w.heap.size ≤ w6.heap.size := Nat.le_trans (Nat.le_refl _) hE7.size
  have hS11 : SH w6 w.heap.size [] := SH.ext (SH.nil _ _) hE7
  refine WL.runk 1 [0, 3] [(0, .slice a0' aRows_0.length c0'), (3, .int .i64 x4)] (by kernel_rfl) ?_
  refine WL.nil ?_
  refine WQ.then_normal (hK3 _ _ _ ?_)
  refine WP.seq (fun K12 hK12 => ?_)
  refine WP.seq (fun K13 hK13 => ?_)
  refine WP.region ?_
  refine WL.runk 2 [0, 13] [(0, .slice a0' aRows_0.length c0'), (13, .bool (decide (x4 < 0)))] (by kernel_rfl) ?_
  refine WL.nil ?_
  refine WQ.then_normal (hK13 _ _ _ ?_)
  refine WP.cond (decide (x4 < 0)) rfl rfl (fun hc14 => ?_) (fun hc14 => ?_)
  · have hm := iteT hm hc14
    refine WP.seq (fun K15 hK15 => ?_)
    refine WP.region ?_
    refine WL.runk 1 [2] [(2, .bool true)] (by kernel_rfl) ?_
    refine WL.nil ?_
    refine WQ.then_normal (hK15 _ _ _ ?_)
    refine WP.ret ?_
    refine WQ.then_ret ?_
    obtain rfl := Option.some.inj hm
    exact WQ.ret1 _ rfl rfl ⟨rfl, hb9⟩
  · have hm := iteF hm hc14
    refine WP.skip ?_
    refine WQ.then_normal (hK12 _ _ _ ?_)
    refine WP.seq (fun K16 hK16 => ?_)
    refine WP.region ?_
    refine WL.runk 1 [0, 15] [(0, .slice a0' aRows_0.length c0'), (15, .slice a0' aRows_0.length c0')] (by kernel_rfl) ?_
    obtain ⟨x17, hx18, hm⟩ := bindE hm
    refine WL.call 17 #[.slice a0' aRows_0.length c0'] rfl rfl (by kernel_rfl) (c_17 n aRows_0 a0' c0' w6 hx18 (Rd.below h0 hb9) hle0) ?_
    rintro _ w22 ⟨a19, c20, rfl, hE23, hR24⟩
    refine ⟨_, rfl, ?_⟩
    have hb25 : Ext w w22 := Ext.trans hb9 hE23
    have hL26 : w.heap.size ≤ w22.heap.size := Nat.le_trans hL10 hE23.size
    have hS27 : SH w22 w.heap.size [aOwn fStr 9 a19 c20 x17] := SH.add hS11 hE23 hL10 hR24
    obtain ⟨x28, hx29, hm⟩ := bindE hm
    refine WL.call 31 #[.slice a19 x17.length c20] rfl rfl (by kernel_rfl) (c_31 n x17 a19 c20 w22 hx29 (SH.rd (SH.front 0 hS27)) (SH.le (SH.front 0 hS27)).1) ?_
    rintro _ w30 ⟨rfl, hE31⟩
    refine ⟨_, rfl, ?_⟩
    have hb33 : Ext w w30 := Ext.trans hb25 hE31
    have hL34 : w.heap.size ≤ w30.heap.size := Nat.le_trans hL26 hE31.size
    have hS35 : SH w30 w.heap.size [aOwn fStr 9 a19 c20 x17] := SH.ext hS27 hE31
    refine WL.runk 5 [0, 4, 5] [(0, .slice a0' aRows_0.length c0'), (4, .string (bs x28.1)), (5, .int .i64 x28.2)] (by kernel_rfl) ?_
    refine WL.nil ?_
    refine WQ.then_normal (hK16 _ _ _ ?_)
    refine WP.seq (fun K36 hK36 => ?_)
    refine WP.region ?_
    refine WL.runk 1 [0, 4, 5, 20] [(0, .slice a0' aRows_0.length c0'), (4, .string (bs x28.1)), (5, .int .i64 x28.2), (20, .slice a0' aRows_0.length c0')] (by kernel_rfl) ?_
    obtain ⟨x37, hx38, hm⟩ := bindE hm
    refine WL.call 17 #[.slice a0' aRows_0.length c0'] rfl rfl (by kernel_rfl) (c_17 n aRows_0 a0' c0' w30 hx38 (Rd.below h0 hb33) hle0) ?_
    rintro _ w42 ⟨a39, c40, rfl, hE43, hR44⟩
    refine ⟨_, rfl, ?_⟩
    have hb45 : Ext w w42 := Ext.trans hb33 hE43
    have hL46 : w.heap.size ≤ w42.heap.size := Nat.le_trans hL34 hE43.size
    have hS47 : SH w42 w.heap.size [aOwn fStr 9 a39 c40 x37, aOwn fStr 9 a19 c20 x17] := SH.add hS35 hE43 hL34 hR44
    refine WL.runk 1 [0, 4, 5, 6] [(0, .slice a0' aRows_0.length c0'), (4, .string (bs x28.1)), (5, .int .i64 x28.2), (6, .slice a39 x37.length c40)] (by kernel_rfl) ?_
    refine WL.nil ?_
    refine WQ.then_normal (hK36 _ _ _ ?_)
    refine WP.seq (fun K48 hK48 => ?_)
    refine WP.region ?_
    refine WL.runk 1 [0, 4, 5, 6, 23] [(0, .slice a0' aRows_0.length c0'), (4, .string (bs x28.1)), (5, .int .i64 x28.2), (6, .slice a39 x37.length c40), (23, .slice a39 x37.length c40)] (by kernel_rfl) ?_
    obtain ⟨x49, hx50, hm⟩ := bindE hm
    refine WL.call 32 #[.slice a39 x37.length c40] rfl rfl (by kernel_rfl) (c_32 n x37 a39 c40 w42 hx50 (SH.rd (SH.front 0 hS47)) (SH.le (SH.front 0 hS47)).1) ?_
    rintro _ w51 ⟨rfl, hE52⟩
    refine ⟨_, rfl, ?_⟩
    have hb54 : Ext w w51 := Ext.trans hb45 hE52
    have hL55 : w.heap.size ≤ w51.heap.size := Nat.le_trans hL46 hE52.size
    have hS56 : SH w51 w.heap.size [aOwn fStr 9 a39 c40 x37, aOwn fStr 9 a19 c20 x17] := SH.ext hS47 hE52
    refine WL.runk 5 [0, 4, 5, 6, 7, 8] [(0, .slice a0' aRows_0.length c0'), (4, .string (bs x28.1)), (5, .int .i64 x28.2), (6, .slice a39 x37.length c40), (7, .string (bs x49.1)), (8, .int .i64 x49.2)] (by kernel_rfl) ?_
    refine WL.nil ?_
    refine WQ.then_normal (hK48 _ _ _ ?_)
    refine WP.seq (fun K57 hK57 => ?_)
    refine WP.seq (fun K58 hK58 => ?_)
    obtain ⟨x60, hx61, hm⟩ := bindE hm
    refine WP.cut (fun env' w' => env' = [(0, .slice a0' aRows_0.length c0'), (6, .slice a39 x37.length c40), (34, .bool x60)] ∧ Ext w w' ∧ w.heap.size ≤ w'.heap.size ∧ SH w' w.heap.size [aOwn fStr 9 a39 c40 x37, aOwn fStr 9 a19 c20 x17]) ?_ ?_
    · have hm := hx61; clear hx61
      refine WP.region ?_
      refine WL.runk 2 [0, 5, 6, 8, 27, 28] [(0, .slice a0' aRows_0.length c0'), (5, .int .i64 x28.2), (6, .slice a39 x37.length c40), (8, .int .i64 x49.2), (27, .string (bs x49.1)), (28, .string (bs x28.1))] (by kernel_rfl) ?_
      refine WL.st (.bool (!(x49.1 == x28.1))) (ST.strne (x := x49.1) (y := x28.1) rfl rfl rfl) rfl rfl rfl ?_
      refine WL.runk 1 [0, 5, 6, 8, 30] [(0, .slice a0' aRows_0.length c0'), (5, .int .i64 x28.2), (6, .slice a39 x37.length c40), (8, .int .i64 x49.2), (30, .bool (!(x49.1 == x28.1)))] (by kernel_rfl) ?_
      refine WL.case (!(x49.1 == x28.1)) [30] ⟨rfl, trivial⟩ (fun hc62 => ?_) (fun hc62 => ?_)
      · have hm := iteT hm hc62
        refine WL.runk 4 [0, 6, 34] [(0, .slice a0' aRows_0.length c0'), (6, .slice a39 x37.length c40), (34, .bool true)] (by kernel_rfl) ?_
        refine WL.nil ?_
        obtain rfl := Option.some.inj hm
        exact WQ.post' ⟨rfl, hb54, hL55, hS56⟩ ⟨rfl, rfl, rfl, trivial⟩
      · have hm := iteF hm hc62
        refine WL.runk 4 [0, 6, 34] [(0, .slice a0' aRows_0.length c0'), (6, .slice a39 x37.length c40), (34, .bool (x49.2 != x28.2))] (by kernel_rfl) ?_
        refine WL.nil ?_
        obtain rfl := Option.some.inj hm
        exact WQ.post' ⟨rfl, hb54, hL55, hS56⟩ ⟨rfl, rfl, rfl, trivial⟩
    · clear hx61
      rintro _ w63 ⟨rfl, hb64, hL65, hS66⟩
      refine WQ.then_normal (hK58 _ _ _ ?_)
      refine WP.cond x60 rfl rfl (fun hc67 => ?_) (fun hc67 => ?_)
      · have hm := iteT hm hc67
        refine WP.seq (fun K68 hK68 => ?_)
        refine WP.region ?_
        refine WL.runk 1 [2] [(2, .bool false)] (by kernel_rfl) ?_
        refine WL.nil ?_
        refine WQ.then_normal (hK68 _ _ _ ?_)
        refine WP.ret ?_
        refine WQ.then_ret ?_
        obtain rfl := Option.some.inj hm
        exact WQ.ret1 _ rfl rfl ⟨rfl, hb64⟩
      · have hm := iteF hm hc67
        refine WP.skip ?_
        refine WQ.then_normal (hK57 _ _ _ ?_)
        refine WP.seq (fun K69 hK69 => ?_)
        refine WP.seq (fun K70 hK70 => ?_)
        refine WP.region ?_
        refine WL.runk 2 [35, 36] [(35, .slice a39 x37.length c40), (36, .slice a0' aRows_0.length c0')] (by kernel_rfl) ?_
        obtain ⟨x71, hx72, hm⟩ := bindE hm
        refine WL.call 17 #[.slice a0' aRows_0.length c0'] rfl rfl (by kernel_rfl) (c_17 n aRows_0 a0' c0' w63 hx72 (Rd.below h0 hb64) hle0) ?_
        rintro _ w76 ⟨a73, c74, rfl, hE77, hR78⟩
        refine ⟨_, rfl, ?_⟩
        have hb79 : Ext w w76 := Ext.trans hb64 hE77
        have hL80 : w.heap.size ≤ w76.heap.size := Nat.le_trans hL65 hE77.size
        have hS81 : SH w76 w.heap.size [aOwn fStr 9 a73 c74 x71, aOwn fStr 9 a39 c40 x37, aOwn fStr 9 a19 c20 x17] := SH.add hS66 hE77 hL65 hR78
        obtain ⟨x82, hx83, hm⟩ := bindE hm
        refine WL.call 19 #[.slice a39 x37.length c40, .slice a73 x71.length c74] rfl rfl (by kernel_rfl) (c_19 n x37 a39 c40 x71 a73 c74 w76 hx83 (SH.rd (SH.front 1 hS81)) (SH.le (SH.front 1 hS81)).1 (SH.rd (SH.front 0 hS81)) (SH.le (SH.front 0 hS81)).1) ?_
        rintro _ w84 ⟨rfl, hE85⟩
        refine ⟨_, rfl, ?_⟩
        have hb87 : Ext w w84 := Ext.trans hb79 hE85
        have hL88 : w.heap.size ≤ w84.heap.size := Nat.le_trans hL80 hE85.size
        have hS89 : SH w84 w.heap.size [aOwn fStr 9 a73 c74 x71, aOwn fStr 9 a39 c40 x37, aOwn fStr 9 a19 c20 x17] := SH.ext hS81 hE85
        refine WL.runk 1 [39] [(39, .bool (!x82))] (by kernel_rfl) ?_
        refine WL.nil ?_
        refine WQ.then_normal (hK70 _ _ _ ?_)
        refine WP.cond (!x82) rfl rfl (fun hc90 => ?_) (fun hc90 => ?_)
        · have hm := iteT hm hc90
          refine WP.seq (fun K91 hK91 => ?_)
          refine WP.region ?_
          refine WL.runk 1 [2] [(2, .bool false)] (by kernel_rfl) ?_
          refine WL.nil ?_
          refine WQ.then_normal (hK91 _ _ _ ?_)
          refine WP.ret ?_
          refine WQ.then_ret ?_
          obtain rfl := Option.some.inj hm
          exact WQ.ret1 _ rfl rfl ⟨rfl, hb87⟩
        · have hm := iteF hm hc90
          refine WP.skip ?_
          refine WQ.then_normal (hK69 _ _ _ ?_)
          refine WP.seq (fun K92 hK92 => ?_)
          refine WP.region ?_
          refine WL.runk 1 [2] [(2, .bool true)] (by kernel_rfl) ?_
          refine WL.nil ?_
          refine WQ.then_normal (hK92 _ _ _ ?_)
          refine WP.ret ?_
          obtain rfl := Option.some.inj hm
          exact WQ.ret1 _ rfl rfl ⟨rfl, hb87⟩

theorem c_33 (n : Nat) (rows_0 : List (List UInt8)) (a0' : Option Addr) (c0' : Nat) (w : World) {r : List Int × Int} (hm : m_spec_QuarterSums n rows_0 = some r) (h0 : Rd fStr.ty w a0' rows_0) (hle0 : rows_0.length ≤ c0') :
    CallV Try.prog 33 #[.slice a0' rows_0.length c0'] w (fun v w' => ∃ (ra0 : Option Addr) (rc0 : Nat), v = .tuple #[.slice ra0 r.1.length rc0, .int .i64 r.2] ∧ Ext w w' ∧ SH w' w.heap.size [aOwn fInt 2 ra0 rc0 r.1]) := by
  unfold m_spec_QuarterSums at hm
  refine CallV.enter Try.func33 rfl (by kernel_rfl) Try.ntmps33 (env := [(0, .slice a0' rows_0.length c0')]) ⟨rfl, trivial⟩ ?_
  refine WP.seq (fun K1 hK1 => ?_)
  refine WP.region ?_
  refine WL.runk 2 [0] [(0, .slice a0' rows_0.length c0')] (by kernel_rfl) ?_
  refine WL.nil ?_
  refine WQ.then_normal (hK1 _ _ _ ?_)
  refine WP.seq (fun K2 hK2 => ?_)
  refine WP.seq (fun K3 hK3 => ?_)
  refine WP.region ?_
  refine WL.runk 1 [0, 4] [(0, .slice a0' rows_0.length c0'), (4, .slice a0' rows_0.length c0')] (by kernel_rfl) ?_
  obtain ⟨x4, hx5, hm⟩ := bindE hm
  refine WL.call 49 #[.slice a0' rows_0.length c0'] rfl rfl (by kernel_rfl) (c_49 n rows_0 a0' c0' w hx5 (Rd.below h0 (Ext.refl w)) hle0) ?_
  rintro _ w6 ⟨rfl, hE7⟩
  refine ⟨_, rfl, ?_⟩
  have hb9 : Ext w w6 := Ext.trans (Ext.refl w) hE7
  have hL10 : w.heap.size ≤ w6.heap.size := Nat.le_trans (Nat.le_refl _) hE7.size
  have hS11 : SH w6 w.heap.size [] := SH.ext (SH.nil _ _) hE7
  refine WL.runk 1 [0, 6] [(0, .slice a0' rows_0.length c0'), (6, .bool (!x4))] (by kernel_rfl) ?_
  refine WL.nil ?_
  refine WQ.then_normal (hK3 _ _ _ ?_)
  refine WP.cond (!x4) rfl rfl (fun hc12 => ?_) (fun hc12 => ?_)
  · have hm := iteT hm hc12
    refine WP.seq (fun K13 hK13 => ?_)
    refine WP.region ?_
    refine WL.runk 2 [2, 3] [(2, .slice none 0 0), (3, .int .i64 1)] (by kernel_rfl) ?_
    refine WL.nil ?_
    refine WQ.then_normal (hK13 _ _ _ ?_)
    refine WP.ret ?_
    refine WQ.then_ret ?_
    obtain rfl := Option.some.inj hm
    have hS15 : SH w6 w.heap.size [aOwn fInt 2 none 0 ([] : List Int)] := SH.nilOwn hS11
    exact WQ.ret2 _ _ rfl rfl rfl ⟨_, _, rfl, hb9, hS15⟩
  · have hm := iteF hm hc12
    refine WP.skip ?_
    refine WQ.then_normal (hK2 _ _ _ ?_)
    refine WP.seq (fun K16 hK16 => ?_)
    refine WP.region ?_
    refine WL.runk 1 [7] [(7, .slice a0' rows_0.length c0')] (by kernel_rfl) ?_
    obtain ⟨x17, hx18, hm⟩ := bindE hm
    refine WL.call 63 #[.slice a0' rows_0.length c0'] rfl rfl (by kernel_rfl) (c_63 n rows_0 a0' c0' w6 hx18 (Rd.below h0 hb9) hle0) ?_
    rintro _ w22 ⟨a19, c20, rfl, hE23, hR24⟩
    refine ⟨_, rfl, ?_⟩
    have hb25 : Ext w w22 := Ext.trans hb9 hE23
    have hL26 : w.heap.size ≤ w22.heap.size := Nat.le_trans hL10 hE23.size
    have hS27 : SH w22 w.heap.size [aOwn fInt 2 a19 c20 x17] := SH.add hS11 hE23 hL10 hR24
    refine WL.runk 2 [2, 3] [(2, .slice a19 x17.length c20), (3, .int .i64 0)] (by kernel_rfl) ?_
    refine WL.nil ?_
    refine WQ.then_normal (hK16 _ _ _ ?_)
    refine WP.ret ?_
    obtain rfl := Option.some.inj hm
    exact WQ.ret2 _ _ rfl rfl rfl ⟨_, _, rfl, hb25, hS27⟩

theorem c_34 (n : Nat) (rows_0 : List (List UInt8)) (a0' : Option Addr) (c0' : Nat) (w : World) {r : List Int × Int} (hm : m_impl_QuarterSums n rows_0 = some r) (h0 : Rd fStr.ty w a0' rows_0) (hle0 : rows_0.length ≤ c0') :
    CallV Try.prog 34 #[.slice a0' rows_0.length c0'] w (fun v w' => ∃ (ra0 : Option Addr) (rc0 : Nat), v = .tuple #[.slice ra0 r.1.length rc0, .int .i64 r.2] ∧ Ext w w' ∧ SH w' w.heap.size [aOwn fInt 2 ra0 rc0 r.1]) := by
  unfold m_impl_QuarterSums at hm
  refine CallV.enter Try.func34 rfl (by kernel_rfl) Try.ntmps34 (env := [(0, .slice a0' rows_0.length c0')]) ⟨rfl, trivial⟩ ?_
  refine WP.seq (fun K1 hK1 => ?_)
  refine WP.region ?_
  refine WL.runk 2 [0] [(0, .slice a0' rows_0.length c0')] (by kernel_rfl) ?_
  refine WL.nil ?_
  refine WQ.then_normal (hK1 _ _ _ ?_)
  refine WP.seq (fun K2 hK2 => ?_)
  refine WP.seq (fun K3 hK3 => ?_)
  refine WP.region ?_
  refine WL.runk 1 [0, 4] [(0, .slice a0' rows_0.length c0'), (4, .slice a0' rows_0.length c0')] (by kernel_rfl) ?_
  obtain ⟨x4, hx5, hm⟩ := bindE hm
  refine WL.call 18 #[.slice a0' rows_0.length c0'] rfl rfl (by kernel_rfl) (c_18 n rows_0 a0' c0' w hx5 (Rd.below h0 (Ext.refl w)) hle0) ?_
  rintro _ w6 ⟨rfl, hE7⟩
  refine ⟨_, rfl, ?_⟩
  have hb9 : Ext w w6 := Ext.trans (Ext.refl w) hE7
  have hL10 : w.heap.size ≤ w6.heap.size := Nat.le_trans (Nat.le_refl _) hE7.size
  have hS11 : SH w6 w.heap.size [] := SH.ext (SH.nil _ _) hE7
  refine WL.runk 1 [0, 6] [(0, .slice a0' rows_0.length c0'), (6, .bool (!x4))] (by kernel_rfl) ?_
  refine WL.nil ?_
  refine WQ.then_normal (hK3 _ _ _ ?_)
  refine WP.cond (!x4) rfl rfl (fun hc12 => ?_) (fun hc12 => ?_)
  · have hm := iteT hm hc12
    refine WP.seq (fun K13 hK13 => ?_)
    refine WP.region ?_
    refine WL.runk 2 [2, 3] [(2, .slice none 0 0), (3, .int .i64 1)] (by kernel_rfl) ?_
    refine WL.nil ?_
    refine WQ.then_normal (hK13 _ _ _ ?_)
    refine WP.ret ?_
    refine WQ.then_ret ?_
    obtain rfl := Option.some.inj hm
    have hS15 : SH w6 w.heap.size [aOwn fInt 2 none 0 ([] : List Int)] := SH.nilOwn hS11
    exact WQ.ret2 _ _ rfl rfl rfl ⟨_, _, rfl, hb9, hS15⟩
  · have hm := iteF hm hc12
    refine WP.skip ?_
    refine WQ.then_normal (hK2 _ _ _ ?_)
    refine WP.seq (fun K16 hK16 => ?_)
    refine WP.region ?_
    refine WL.runk 1 [7] [(7, .slice a0' rows_0.length c0')] (by kernel_rfl) ?_
    obtain ⟨x17, hx18, hm⟩ := bindE hm
    refine WL.call 65 #[.slice a0' rows_0.length c0'] rfl rfl (by kernel_rfl) (c_65 n rows_0 a0' c0' w6 hx18 (Rd.below h0 hb9) hle0) ?_
    rintro _ w22 ⟨a19, c20, rfl, hE23, hR24⟩
    refine ⟨_, rfl, ?_⟩
    have hb25 : Ext w w22 := Ext.trans hb9 hE23
    have hL26 : w.heap.size ≤ w22.heap.size := Nat.le_trans hL10 hE23.size
    have hS27 : SH w22 w.heap.size [aOwn fInt 2 a19 c20 x17] := SH.add hS11 hE23 hL10 hR24
    refine WL.runk 2 [2, 3] [(2, .slice a19 x17.length c20), (3, .int .i64 0)] (by kernel_rfl) ?_
    refine WL.nil ?_
    refine WQ.then_normal (hK16 _ _ _ ?_)
    refine WP.ret ?_
    obtain rfl := Option.some.inj hm
    exact WQ.ret2 _ _ rfl rfl rfl ⟨_, _, rfl, hb25, hS27⟩

theorem c_35 (n : Nat) (a_0 : List Int) (a0' : Option Addr) (c0' : Nat) (b_1 : List Int) (a1' : Option Addr) (c1' : Nat) (w : World) {r : Bool} (hm : m_laws_eqInt64S n a_0 b_1 = some r) (h0 : Rd fInt.ty w a0' a_0) (hle0 : a_0.length ≤ c0') (h1 : Rd fInt.ty w a1' b_1) (hle1 : b_1.length ≤ c1') :
    CallV Try.prog 35 #[.slice a0' a_0.length c0', .slice a1' b_1.length c1'] w (fun v w' => v = .bool r ∧ Ext w w') := by
  unfold m_laws_eqInt64S at hm
  refine CallV.enter Try.func35 rfl (by kernel_rfl) Try.ntmps35 (env := [(0, .slice a0' a_0.length c0'), (1, .slice a1' b_1.length c1')]) ⟨rfl, rfl, trivial⟩ ?_
  refine WP.seq (fun K1 hK1 => ?_)
  refine WP.region ?_
  refine WL.runk 1 [0, 1] [(0, .slice a0' a_0.length c0'), (1, .slice a1' b_1.length c1')] (by kernel_rfl) ?_
  refine WL.nil ?_
  refine WQ.then_normal (hK1 _ _ _ ?_)
  refine WP.seq (fun K2 hK2 => ?_)
  refine WP.seq (fun K3 hK3 => ?_)
  refine WP.region ?_
  refine WL.runk 5 [0, 1, 10] [(0, .slice a0' a_0.length c0'), (1, .slice a1' b_1.length c1'), (10, .bool ((a_0.length : Int) != (b_1.length : Int)))] (by kernel_rfl) ?_
  refine WL.nil ?_
  refine WQ.then_normal (hK3 _ _ _ ?_)
  refine WP.cond ((a_0.length : Int) != (b_1.length : Int)) rfl rfl (fun hc4 => ?_) (fun hc4 => ?_)
  · have hm := iteT hm hc4
    refine WP.seq (fun K5 hK5 => ?_)
    refine WP.region ?_
    refine WL.runk 1 [4] [(4, .bool false)] (by kernel_rfl) ?_
    refine WL.nil ?_
    refine WQ.then_normal (hK5 _ _ _ ?_)
    refine WP.ret ?_
    refine WQ.then_ret ?_
    obtain rfl := Option.some.inj hm
    exact WQ.ret1 _ rfl rfl ⟨rfl, (Ext.refl w)⟩
  · have hm := iteF hm hc4
    refine WP.skip ?_
    refine WQ.then_normal (hK2 _ _ _ ?_)
    refine WP.seq (fun K6 hK6 => ?_)
    refine WP.seq (fun K7 hK7 => ?_)
    refine WP.region ?_
    refine WL.runk 1 [0, 1, 5] [(0, .slice a0' a_0.length c0'), (1, .slice a1' b_1.length c1'), (5, .int .i64 0)] (by kernel_rfl) ?_
    refine WL.nil ?_
    refine WQ.then_normal (hK7 _ _ _ ?_)
    refine WP.block ?_
    obtain ⟨t19, ht20, hm⟩ := bindE hm
    have hmo14 := hm; clear hm
    refine WP.sub [(0, .slice a0' a_0.length c0'), (1, .slice a1' b_1.length c1'), (5, .int .i64 0)] ⟨rfl, rfl, rfl, trivial⟩ ?_
    refine WP.loop (fun n' env' w' => ∃ (st8 : Int) , env' = [(0, .slice a0' a_0.length c0'), (1, .slice a1' b_1.length c1'), (5, .int .i64 st8)] ∧ Ext w w' ∧ w.heap.size ≤ w'.heap.size ∧ SH w' w.heap.size [] ∧ loopN (m_laws_eqInt64S_l1 n a_0 b_1) n' st8 = some t19) n ⟨0, rfl, (Ext.refl w), (Nat.le_refl _), (SH.nil _ _), ht20⟩ ?_
    rintro n16 _ w9 ⟨st8, rfl, hb10, hL11, hS12, hl13⟩ K15 hK15
    obtain ⟨n17, s18, rfl, hm, hl13⟩ := loopN_some hl13
    unfold m_laws_eqInt64S_l1 at hm
    refine WP.seq (fun K21 hK21 => ?_)
    refine WP.seq (fun K22 hK22 => ?_)
    refine WP.region ?_
    refine WL.runk 4 [0, 1, 5, 14] [(0, .slice a0' a_0.length c0'), (1, .slice a1' b_1.length c1'), (5, .int .i64 st8), (14, .bool (decide (st8 < (a_0.length : Int))))] (by kernel_rfl) ?_
    refine WL.nil ?_
    refine WQ.then_normal (hK22 _ _ _ ?_)
    refine WP.cond (decide (st8 < (a_0.length : Int))) rfl rfl (fun hc23 => ?_) (fun hc23 => ?_)
    · have hm := iteT hm hc23
      refine WP.skip ?_
      refine WQ.then_normal (hK21 _ _ _ ?_)
      refine WP.seq (fun K24 hK24 => ?_)
      refine WP.block ?_
      refine WP.seq (fun K25 hK25 => ?_)
      refine WP.quiet (by kernel_rfl) (by kernel_rfl) ?_
      refine QL.step1 rfl (env' := [(0, .slice a0' a_0.length c0'), (1, .slice a1' b_1.length c1'), (5, .int .i64 st8), (14, .bool (decide (st8 < (a_0.length : Int)))), (17, .slice a0' a_0.length c0')]) (fun _ => by kernel_rfl) ?_
      refine QL.sub [(0, .slice a0' a_0.length c0'), (1, .slice a1' b_1.length c1'), (5, .int .i64 st8), (17, .slice a0' a_0.length c0')] ⟨rfl, rfl, rfl, rfl, trivial⟩ ?_
      refine QL.step1 rfl (env' := [(0, .slice a0' a_0.length c0'), (1, .slice a1' b_1.length c1'), (5, .int .i64 st8), (17, .slice a0' a_0.length c0'), (18, .int .i64 st8)]) (fun _ => by kernel_rfl) ?_
      obtain ⟨x26, hx27, hm⟩ := bindE hm
      refine QL.st (.pointer (some (at_ a0' (Int.toNat st8 * 1)))) (ST.index (T := fInt.ty) (xs := a_0) (Rd.below h0 hb10) hx27 rfl rfl rfl Try.underlying40 (info2).1 (info2).2.1) rfl rfl rfl ?_
      refine QL.st (.int .i64 x26) (ST.load (cell_ext (Rd.flat (F := fInt) (Rd.below h0 hb10) hx27 0 rfl)) rfl rfl Try.underlying2 rfl) rfl rfl rfl ?_
      refine QL.step1 rfl (env' := [(0, .slice a0' a_0.length c0'), (1, .slice a1' b_1.length c1'), (5, .int .i64 st8), (17, .slice a0' a_0.length c0'), (18, .int .i64 st8), (19, .pointer (some (at_ a0' (Int.toNat st8 * 1)))), (20, .int .i64 x26), (21, .slice a1' b_1.length c1')]) (fun _ => by kernel_rfl) ?_
      refine QL.sub [(0, .slice a0' a_0.length c0'), (1, .slice a1' b_1.length c1'), (5, .int .i64 st8), (20, .int .i64 x26), (21, .slice a1' b_1.length c1')] ⟨rfl, rfl, rfl, rfl, rfl, trivial⟩ ?_
      refine QL.step1 rfl (env' := [(0, .slice a0' a_0.length c0'), (1, .slice a1' b_1.length c1'), (5, .int .i64 st8), (20, .int .i64 x26), (21, .slice a1' b_1.length c1'), (22, .int .i64 st8)]) (fun _ => by kernel_rfl) ?_
      obtain ⟨x28, hx29, hm⟩ := bindE hm
      refine QL.st (.pointer (some (at_ a1' (Int.toNat st8 * 1)))) (ST.index (T := fInt.ty) (xs := b_1) (Rd.below h1 hb10) hx29 rfl rfl rfl Try.underlying40 (info2).1 (info2).2.1) rfl rfl rfl ?_
      refine QL.st (.int .i64 x28) (ST.load (cell_ext (Rd.flat (F := fInt) (Rd.below h1 hb10) hx29 0 rfl)) rfl rfl Try.underlying2 rfl) rfl rfl rfl ?_
      refine QL.step1 rfl (env' := [(0, .slice a0' a_0.length c0'), (1, .slice a1' b_1.length c1'), (5, .int .i64 st8), (20, .int .i64 x26), (21, .slice a1' b_1.length c1'), (22, .int .i64 st8), (23, .pointer (some (at_ a1' (Int.toNat st8 * 1)))), (24, .int .i64 x28), (25, .bool (x26 != x28))]) (fun _ => by kernel_rfl) ?_
      refine QL.sub [(0, .slice a0' a_0.length c0'), (1, .slice a1' b_1.length c1'), (5, .int .i64 st8), (25, .bool (x26 != x28))] ⟨rfl, rfl, rfl, rfl, trivial⟩ ?_
      refine QL.sub [(0, .slice a0' a_0.length c0'), (1, .slice a1' b_1.length c1'), (5, .int .i64 st8), (25, .bool (x26 != x28))] ⟨rfl, rfl, rfl, rfl, trivial⟩ ?_
      refine QL.nil ?_
      intro w30 hE31
      have hb32 : Ext w w30 := Ext.trans hb10 hE31
      have hL33 : w.heap.size ≤ w30.heap.size := Nat.le_trans hL11 hE31.size
      have hS34 : SH w30 w.heap.size [] := SH.ext hS12 hE31
      refine WQ.then_normal (hK25 _ _ _ ?_)
      refine WP.cond (x26 != x28) rfl rfl (fun hc35 => ?_) (fun hc35 => ?_)
      · have hm := iteT hm hc35
        refine WP.seq (fun K36 hK36 => ?_)
        refine WP.region ?_
        refine WL.runk 1 [4] [(4, .bool false)] (by kernel_rfl) ?_
        refine WL.nil ?_
        refine WQ.then_normal (hK36 _ _ _ ?_)
        refine WP.ret ?_
        refine WQ.block_ret ?_
        refine WQ.then_ret ?_
        refine WQ.then_ret ?_
        refine WQ.block_ret ?_
        refine WQ.then_ret ?_
        obtain rfl := Option.some.inj hm
        obtain rfl := afterN_done hl13
        have hm := hmo14
        obtain rfl := Option.some.inj hm
        exact WQ.ret1 _ rfl rfl ⟨rfl, hb32⟩
      · have hm := iteF hm hc35
        refine WP.skip ?_
        refine WQ.block_normal ?_
        refine WQ.then_normal (hK24 _ _ _ ?_)
        refine WP.region ?_
        refine WL.runk 3 [0, 1, 5] [(0, .slice a0' a_0.length c0'), (1, .slice a1' b_1.length c1'), (5, .int .i64 (wI64 (st8 + 1)))] (by kernel_rfl) ?_
        refine WL.nil ?_
        obtain rfl := Option.some.inj hm
        exact WQ.round hK15 ⟨(wI64 (st8 + 1)), rfl, hb32, hL33, hS34, hl13⟩ (Nat.lt_succ_self _) ⟨rfl, rfl, rfl, trivial⟩
    · have hm := iteF hm hc23
      refine WP.exit ?_
      refine WQ.then_exit ?_
      refine WQ.then_exit ?_
      refine WQ.block_here ?_
      obtain rfl := Option.some.inj hm
      obtain rfl := afterN_done hl13
      have hm := hmo14
      refine WQ.then_normal (hK6 _ _ _ ?_)
      refine WP.seq (fun K37 hK37 => ?_)
      refine WP.region ?_
      refine WL.runk 1 [4] [(4, .bool true)] (by kernel_rfl) ?_
      refine WL.nil ?_
      refine WQ.then_normal (hK37 _ _ _ ?_)
      refine WP.ret ?_
      obtain rfl := Option.some.inj hm
      exact WQ.ret1 _ rfl rfl ⟨rfl, hb10⟩

theorem c_36 (n : Nat) (a_0 : List Int) (a0' : Option Addr) (c0' : Nat) (k_1 : Int) (w : World) (w0 : World) (B : Nat) (L : List Asrt) {r : Int × List Int} (hm : m_laws_markInt64S n a_0 k_1 = some r) (hE0 : Ext w0 w) (hW : w0.heap.size ≤ B) (hL : B ≤ w.heap.size) (hS : SH w B (aOwn fInt 2 a0' c0' a_0 :: L)) :
    CallV Try.prog 36 #[.slice a0' a_0.length c0', .int .i64 k_1] w (fun v w' => v = .int .i64 r.1 ∧ Below B w w' ∧ SH w' B (aOwn fInt 2 a0' c0' r.2 :: L) ∧ r.2.length = a_0.length) := by
  unfold m_laws_markInt64S at hm
  refine CallV.enter Try.func36 rfl (by kernel_rfl) Try.ntmps36 (env := [(0, .slice a0' a_0.length c0'), (1, .int .i64 k_1)]) ⟨rfl, rfl, trivial⟩ ?_
  refine WP.seq (fun K1 hK1 => ?_)
  refine WP.region ?_
  refine WL.runk 1 [0, 1] [(0, .slice a0' a_0.length c0'), (1, .int .i64 k_1)] (by kernel_rfl) ?_
  refine WL.nil ?_
  refine WQ.then_normal (hK1 _ _ _ ?_)
  refine WP.seq (fun K2 hK2 => ?_)
  refine WP.seq (fun K3 hK3 => ?_)
  refine WP.region ?_
  refine WL.runk 1 [0, 1, 5] [(0, .slice a0' a_0.length c0'), (1, .int .i64 k_1), (5, .int .i64 0)] (by kernel_rfl) ?_
  refine WL.nil ?_
  refine WQ.then_normal (hK3 _ _ _ ?_)
  refine WP.block ?_
  obtain ⟨t42, ht43, hm⟩ := bindE hm
  have hmo37 := hm; clear hm
  refine WP.sub [(0, .slice a0' a_0.length c0'), (1, .int .i64 k_1), (5, .int .i64 0)] ⟨rfl, rfl, rfl, trivial⟩ ?_
  refine WP.loop (fun n' env' w' => ∃ (st31 : Int × Int × List Int) , env' = [(0, .slice a0' st31.2.2.length c0'), (1, .int .i64 st31.1), (5, .int .i64 st31.2.1)] ∧ Below B w w' ∧ B ≤ w'.heap.size ∧ SH w' B (aOwn fInt 2 a0' c0' st31.2.2 :: L) ∧ st31.2.2.length = a_0.length ∧ loopN (m_laws_markInt64S_l1 n) n' st31 = some t42) n ⟨(k_1, 0, a_0), rfl, (Below.refl _ _), hL, hS, rfl, ht43⟩ ?_
  rintro n39 _ w32 ⟨st31, rfl, hb33, hL34, hS35, hn44, hl36⟩ K38 hK38
  obtain ⟨n40, s41, rfl, hm, hl36⟩ := loopN_some hl36
  unfold m_laws_markInt64S_l1 at hm
  refine WP.seq (fun K45 hK45 => ?_)
  refine WP.seq (fun K46 hK46 => ?_)
  refine WP.region ?_
  refine WL.runk 4 [0, 1, 5, 9] [(0, .slice a0' st31.2.2.length c0'), (1, .int .i64 st31.1), (5, .int .i64 st31.2.1), (9, .bool (decide (st31.2.1 < (st31.2.2.length : Int))))] (by kernel_rfl) ?_
  refine WL.nil ?_
  refine WQ.then_normal (hK46 _ _ _ ?_)
  refine WP.cond (decide (st31.2.1 < (st31.2.2.length : Int))) rfl rfl (fun hc47 => ?_) (fun hc47 => ?_)
  · have hm := iteT hm hc47
    refine WP.skip ?_
    refine WQ.then_normal (hK45 _ _ _ ?_)
    refine WP.seq (fun K48 hK48 => ?_)
    refine WP.block ?_
    refine WP.seq (fun K49 hK49 => ?_)
    refine WP.region ?_
    refine WL.runk 3 [0, 1, 5, 12, 13, 14] [(0, .slice a0' st31.2.2.length c0'), (1, .int .i64 st31.1), (5, .int .i64 st31.2.1), (12, .slice a0' st31.2.2.length c0'), (13, .int .i64 st31.2.1), (14, .int .i64 st31.1)] (by kernel_rfl) ?_
    obtain ⟨x50, hx51, hm⟩ := bindE hm
    refine WL.st (.pointer (some (at_ a0' (Int.toNat st31.2.1 * 1)))) (ST.index (T := fInt.ty) (xs := st31.2.2) (SH.rd (SH.front 0 hS35)) hx51 rfl rfl rfl Try.underlying40 (info2).1 (info2).2.1) rfl rfl rfl ?_
    refine WL.store (F := fInt) st31.1 0 [.int .i64 st31.1] (SH.front 0 hS35) hL34 hx51 rfl rfl rfl rfl rfl rfl rfl (info2).1 (info2).2.1 rfl rfl rfl ?_
    intro w52 hB53 hS54
    have hb55 : Below B w w52 := Below.trans hb33 hB53
    have hL56 : B ≤ w52.heap.size := Nat.le_trans hL34 hB53.size
    refine WL.sub [(0, .slice a0' ((st31.2.2.set (Int.toNat st31.2.1) st31.1).length) c0'), (1, .int .i64 st31.1), (5, .int .i64 st31.2.1), (12, .slice a0' ((st31.2.2.set (Int.toNat st31.2.1) st31.1).length) c0'), (13, .int .i64 st31.2.1), (14, .int .i64 st31.1)] ⟨by first | (simp only [List.length_set]; done) | (simp only [List.length_set]; rfl), rfl, rfl, by first | (simp only [List.length_set]; done) | (simp only [List.length_set]; rfl), rfl, rfl, trivial⟩ ?_
    have hn57 : (st31.2.2.set (Int.toNat st31.2.1) st31.1).length = a_0.length := List.length_set.trans hn44
    refine WL.sub [(0, .slice a0' ((st31.2.2.set (Int.toNat st31.2.1) st31.1).length) c0'), (1, .int .i64 st31.1), (5, .int .i64 st31.2.1)] ⟨rfl, rfl, rfl, trivial⟩ ?_
    refine WL.nil ?_
    refine WQ.then_normal (hK49 _ _ _ ?_)
    refine WP.region ?_
    refine WL.runk 3 [0, 1, 5] [(0, .slice a0' ((st31.2.2.set (Int.toNat st31.2.1) st31.1).length) c0'), (1, .int .i64 (wI64 (st31.1 + 1))), (5, .int .i64 st31.2.1)] (by kernel_rfl) ?_
    refine WL.nil ?_
    refine WQ.block_normal ?_
    refine WQ.then_normal (hK48 _ _ _ ?_)
    refine WP.region ?_
    refine WL.runk 3 [0, 1, 5] [(0, .slice a0' ((st31.2.2.set (Int.toNat st31.2.1) st31.1).length) c0'), (1, .int .i64 (wI64 (st31.1 + 1))), (5, .int .i64 (wI64 (st31.2.1 + 1)))] (by kernel_rfl) ?_
    refine WL.nil ?_
    obtain rfl := Option.some.inj hm
    exact WQ.round hK38 ⟨((wI64 (st31.1 + 1)), (wI64 (st31.2.1 + 1)), (st31.2.2.set (Int.toNat st31.2.1) st31.1)), rfl, hb55, hL56, hS54, hn57, hl36⟩ (Nat.lt_succ_self _) ⟨rfl, rfl, rfl, trivial⟩
  · have hm := iteF hm hc47
    refine WP.exit ?_
    refine WQ.then_exit ?_
    refine WQ.then_exit ?_
    refine WQ.block_here ?_
    obtain rfl := Option.some.inj hm
    obtain rfl := afterN_done hl36
    have hm := hmo37
    refine WQ.then_normal (hK2 _ _ _ ?_)
    refine WP.seq (fun K58 hK58 => ?_)
    refine WP.region ?_
    refine WL.runk 2 [4] [(4, .int .i64 st31.1)] (by kernel_rfl) ?_
    refine WL.nil ?_
    refine WQ.then_normal (hK58 _ _ _ ?_)
    refine WP.ret ?_
    obtain rfl := Option.some.inj hm
    exact WQ.ret1 _ rfl rfl ⟨rfl, hb33, hS35, hn44⟩

theorem c_37 (n : Nat) (a_0 : List Int) (a0' : Option Addr) (c0' : Nat) (k_1 : Int) (w : World) {r : Int} (hm : m_laws_heldInt64S n a_0 k_1 = some r) (h0 : Rd fInt.ty w a0' a_0) (hle0 : a_0.length ≤ c0') :
    CallV Try.prog 37 #[.slice a0' a_0.length c0', .int .i64 k_1] w (fun v w' => v = .int .i64 r ∧ Ext w w') := by
  unfold m_laws_heldInt64S at hm
  refine CallV.enter Try.func37 rfl (by kernel_rfl) Try.ntmps37 (env := [(0, .slice a0' a_0.length c0'), (1, .int .i64 k_1)]) ⟨rfl, rfl, trivial⟩ ?_
  refine WP.seq (fun K1 hK1 => ?_)
  refine WP.region ?_
  refine WL.runk 1 [0, 1] [(0, .slice a0' a_0.length c0'), (1, .int .i64 k_1)] (by kernel_rfl) ?_
  refine WL.nil ?_
  refine WQ.then_normal (hK1 _ _ _ ?_)
  refine WP.seq (fun K2 hK2 => ?_)
  refine WP.seq (fun K3 hK3 => ?_)
  refine WP.region ?_
  refine WL.runk 1 [0, 1, 5] [(0, .slice a0' a_0.length c0'), (1, .int .i64 k_1), (5, .int .i64 0)] (by kernel_rfl) ?_
  refine WL.nil ?_
  refine WQ.then_normal (hK3 _ _ _ ?_)
  refine WP.block ?_
  obtain ⟨t15, ht16, hm⟩ := bindE hm
  have hmo10 := hm; clear hm
  refine WP.sub [(0, .slice a0' a_0.length c0'), (1, .int .i64 k_1), (5, .int .i64 0)] ⟨rfl, rfl, rfl, trivial⟩ ?_
  refine WP.loop (fun n' env' w' => ∃ (st4 : Int × Int) , env' = [(0, .slice a0' a_0.length c0'), (1, .int .i64 st4.1), (5, .int .i64 st4.2)] ∧ Ext w w' ∧ w.heap.size ≤ w'.heap.size ∧ SH w' w.heap.size [] ∧ loopN (m_laws_heldInt64S_l1 n a_0) n' st4 = some t15) n ⟨(k_1, 0), rfl, (Ext.refl w), (Nat.le_refl _), (SH.nil _ _), ht16⟩ ?_
  rintro n12 _ w5 ⟨st4, rfl, hb6, hL7, hS8, hl9⟩ K11 hK11
  obtain ⟨n13, s14, rfl, hm, hl9⟩ := loopN_some hl9
  unfold m_laws_heldInt64S_l1 at hm
  refine WP.seq (fun K17 hK17 => ?_)
  refine WP.seq (fun K18 hK18 => ?_)
  refine WP.region ?_
  refine WL.runk 4 [0, 1, 5, 9] [(0, .slice a0' a_0.length c0'), (1, .int .i64 st4.1), (5, .int .i64 st4.2), (9, .bool (decide (st4.2 < (a_0.length : Int))))] (by kernel_rfl) ?_
  refine WL.nil ?_
  refine WQ.then_normal (hK18 _ _ _ ?_)
  refine WP.cond (decide (st4.2 < (a_0.length : Int))) rfl rfl (fun hc19 => ?_) (fun hc19 => ?_)
  · have hm := iteT hm hc19
    refine WP.skip ?_
    refine WQ.then_normal (hK17 _ _ _ ?_)
    refine WP.seq (fun K20 hK20 => ?_)
    refine WP.block ?_
    refine WP.seq (fun K21 hK21 => ?_)
    refine WP.seq (fun K22 hK22 => ?_)
    refine WP.region ?_
    refine WL.runk 2 [0, 1, 5, 12, 13] [(0, .slice a0' a_0.length c0'), (1, .int .i64 st4.1), (5, .int .i64 st4.2), (12, .slice a0' a_0.length c0'), (13, .int .i64 st4.2)] (by kernel_rfl) ?_
    obtain ⟨x23, hx24, hm⟩ := bindE hm
    refine WL.st (.pointer (some (at_ a0' (Int.toNat st4.2 * 1)))) (ST.index (T := fInt.ty) (xs := a_0) (Rd.below h0 hb6) hx24 rfl rfl rfl Try.underlying40 (info2).1 (info2).2.1) rfl rfl rfl ?_
    refine WL.st (.int .i64 x23) (ST.load (cell_ext (Rd.flat (F := fInt) (Rd.below h0 hb6) hx24 0 rfl)) rfl rfl Try.underlying2 rfl) rfl rfl rfl ?_
    refine WL.runk 2 [0, 1, 5, 17] [(0, .slice a0' a_0.length c0'), (1, .int .i64 st4.1), (5, .int .i64 st4.2), (17, .bool (x23 != st4.1))] (by kernel_rfl) ?_
    refine WL.nil ?_
    refine WQ.then_normal (hK22 _ _ _ ?_)
    refine WP.cond (x23 != st4.1) rfl rfl (fun hc25 => ?_) (fun hc25 => ?_)
    · have hm := iteT hm hc25
      refine WP.seq (fun K26 hK26 => ?_)
      refine WP.region ?_
      refine WL.runk 1 [4] [(4, .int .i64 (-1))] (by kernel_rfl) ?_
      refine WL.nil ?_
      refine WQ.then_normal (hK26 _ _ _ ?_)
      refine WP.ret ?_
      refine WQ.then_ret ?_
      refine WQ.block_ret ?_
      refine WQ.then_ret ?_
      refine WQ.then_ret ?_
      refine WQ.block_ret ?_
      refine WQ.then_ret ?_
      obtain rfl := Option.some.inj hm
      obtain rfl := afterN_done hl9
      have hm := hmo10
      obtain rfl := Option.some.inj hm
      exact WQ.ret1 _ rfl rfl ⟨rfl, hb6⟩
    · have hm := iteF hm hc25
      refine WP.skip ?_
      refine WQ.then_normal (hK21 _ _ _ ?_)
      refine WP.region ?_
      refine WL.runk 3 [0, 1, 5] [(0, .slice a0' a_0.length c0'), (1, .int .i64 (wI64 (st4.1 + 1))), (5, .int .i64 st4.2)] (by kernel_rfl) ?_
      refine WL.nil ?_
      refine WQ.block_normal ?_
      refine WQ.then_normal (hK20 _ _ _ ?_)
      refine WP.region ?_
      refine WL.runk 3 [0, 1, 5] [(0, .slice a0' a_0.length c0'), (1, .int .i64 (wI64 (st4.1 + 1))), (5, .int .i64 (wI64 (st4.2 + 1)))] (by kernel_rfl) ?_
      refine WL.nil ?_
      obtain rfl := Option.some.inj hm
      exact WQ.round hK11 ⟨((wI64 (st4.1 + 1)), (wI64 (st4.2 + 1))), rfl, hb6, hL7, hS8, hl9⟩ (Nat.lt_succ_self _) ⟨rfl, rfl, rfl, trivial⟩
  · have hm := iteF hm hc19
    refine WP.exit ?_
    refine WQ.then_exit ?_
    refine WQ.then_exit ?_
    refine WQ.block_here ?_
    obtain rfl := Option.some.inj hm
    obtain rfl := afterN_done hl9
    have hm := hmo10
    refine WQ.then_normal (hK2 _ _ _ ?_)
    refine WP.seq (fun K27 hK27 => ?_)
    refine WP.region ?_
    refine WL.runk 2 [4] [(4, .int .i64 st4.1)] (by kernel_rfl) ?_
    refine WL.nil ?_
    refine WQ.then_normal (hK27 _ _ _ ?_)
    refine WP.ret ?_
    obtain rfl := Option.some.inj hm
    exact WQ.ret1 _ rfl rfl ⟨rfl, hb6⟩

theorem c_9 (n : Nat) (aRows_0 : List (List UInt8)) (a0' : Option Addr) (c0' : Nat) (w : World) {r : Bool} (hm : m_laws_FnExactQuarterSums n aRows_0 = some r) (h0 : Rd fStr.ty w a0' aRows_0) (hle0 : aRows_0.length ≤ c0') :
    CallV Try.prog 9 #[.slice a0' aRows_0.length c0'] w (fun v w' => v = .bool r ∧ Ext w w') := by
  unfold m_laws_FnExactQuarterSums at hm
  refine CallV.enter Try.func9 rfl (by kernel_rfl) Try.ntmps9 (env := [(0, .slice a0' aRows_0.length c0')]) ⟨rfl, trivial⟩ ?_
  refine WP.seq (fun K1 hK1 => ?_)
  refine WP.region ?_
  refine WL.runk 1 [0] [(0, .slice a0' aRows_0.length c0')] (by kernel_rfl) ?_
  refine WL.nil ?_
  refine WQ.then_normal (hK1 _ _ _ ?_)
  refine WP.seq (fun K2 hK2 => ?_)
  refine WP.region ?_
  refine WL.runk 1 [0, 3] [(0, .slice a0' aRows_0.length c0'), (3, .int .i64 1048576)] (by kernel_rfl) ?_
  refine WL.nil ?_
  refine WQ.then_normal (hK2 _ _ _ ?_)
  refine WP.seq (fun K3 hK3 => ?_)
  refine WP.region ?_
  refine WL.runk 2 [0, 14, 15] [(0, .slice a0' aRows_0.length c0'), (14, .slice a0' aRows_0.length c0'), (15, .int .i64 1048576)] (by kernel_rfl) ?_
  obtain ⟨x4, hx5, hm⟩ := bindE hm
  refine WL.call 15 #[.slice a0' aRows_0.length c0', .int .i64 1048576] rfl rfl (by kernel_rfl) (c_15 n aRows_0 a0' c0' 1048576 w hx5 (Rd.below h0 (Ext.refl w)) hle0) ?_
  rintro _ w6 ⟨rfl, hE7⟩
  refine ⟨_, rfl, ?_⟩
  have hb9 : Ext w w6 := Ext.trans (Ext.refl w) hE7
  have hL10 : w.heap.size ≤ w6.heap.size := Nat.le_trans (Nat.le_refl _) hE7.size
  have hS11 : SH w6 w.heap.size [] := SH.ext (SH.nil _ _) hE7
  refine WL.runk 1 [0, 3] [(0, .slice a0' aRows_0.length c0'), (3, .int .i64 x4)] (by kernel_rfl) ?_
  refine WL.nil ?_
  refine WQ.then_normal (hK3 _ _ _ ?_)
  refine WP.seq (fun K12 hK12 => ?_)
  refine WP.seq (fun K13 hK13 => ?_)
  refine WP.region ?_
  refine WL.runk 2 [0, 18] [(0, .slice a0' aRows_0.length c0'), (18, .bool (decide (x4 < 0)))] (by kernel_rfl) ?_
  refine WL.nil ?_
  refine WQ.then_normal (hK13 _ _ _ ?_)
  refine WP.cond (decide (x4 < 0)) rfl rfl (fun hc14 => ?_) (fun hc14 => ?_)
  · have hm := iteT hm hc14
    refine WP.seq (fun K15 hK15 => ?_)
    refine WP.region ?_
    refine WL.runk 1 [2] [(2, .bool true)] (by kernel_rfl) ?_
    refine WL.nil ?_
    refine WQ.then_normal (hK15 _ _ _ ?_)
    refine WP.ret ?_
    refine WQ.then_ret ?_
    obtain rfl := Option.some.inj hm
    exact WQ.ret1 _ rfl rfl ⟨rfl, hb9⟩
  · have hm := iteF hm hc14
    refine WP.skip ?_
    refine WQ.then_normal (hK12 _ _ _ ?_)
    refine WP.seq (fun K16 hK16 => ?_)
    refine WP.region ?_
    refine WL.runk 1 [0, 20] [(0, .slice a0' aRows_0.length c0'), (20, .slice a0' aRows_0.length c0')] (by kernel_rfl) ?_
    obtain ⟨x17, hx18, hm⟩ := bindE hm
    refine WL.call 17 #[.slice a0' aRows_0.length c0'] rfl rfl (by kernel_rfl) (c_17 n aRows_0 a0' c0' w6 hx18 (Rd.below h0 hb9) hle0) ?_
    rintro _ w22 ⟨a19, c20, rfl, hE23, hR24⟩
    refine ⟨_, rfl, ?_⟩
    have hb25 : Ext w w22 := Ext.trans hb9 hE23
    have hL26 : w.heap.size ≤ w22.heap.size := Nat.le_trans hL10 hE23.size
    have hS27 : SH w22 w.heap.size [aOwn fStr 9 a19 c20 x17] := SH.add hS11 hE23 hL10 hR24
    obtain ⟨x28, hx29, hm⟩ := bindE hm
    refine WL.call 33 #[.slice a19 x17.length c20] rfl rfl (by kernel_rfl) (c_33 n x17 a19 c20 w22 hx29 (SH.rd (SH.front 0 hS27)) (SH.le (SH.front 0 hS27)).1) ?_
    rintro _ w33 ⟨a30, c31, rfl, hE34, hR35⟩
    refine ⟨_, rfl, ?_⟩
    have hb36 : Ext w w33 := Ext.trans hb25 hE34
    have hL37 : w.heap.size ≤ w33.heap.size := Nat.le_trans hL26 hE34.size
    have hS38 : SH w33 w.heap.size [aOwn fInt 2 a30 c31 x28.1, aOwn fStr 9 a19 c20 x17] := SH.add hS27 hE34 hL26 hR35
    refine WL.runk 5 [0, 4, 5] [(0, .slice a0' aRows_0.length c0'), (4, .slice a30 x28.1.length c31), (5, .int .i64 x28.2)] (by kernel_rfl) ?_
    refine WL.nil ?_
    refine WQ.then_normal (hK16 _ _ _ ?_)
    refine WP.seq (fun K39 hK39 => ?_)
    refine WP.region ?_
    refine WL.runk 1 [0, 4, 5, 25] [(0, .slice a0' aRows_0.length c0'), (4, .slice a30 x28.1.length c31), (5, .int .i64 x28.2), (25, .slice a0' aRows_0.length c0')] (by kernel_rfl) ?_
    obtain ⟨x40, hx41, hm⟩ := bindE hm
    refine WL.call 17 #[.slice a0' aRows_0.length c0'] rfl rfl (by kernel_rfl) (c_17 n aRows_0 a0' c0' w33 hx41 (Rd.below h0 hb36) hle0) ?_
    rintro _ w45 ⟨a42, c43, rfl, hE46, hR47⟩
    refine ⟨_, rfl, ?_⟩
    have hb48 : Ext w w45 := Ext.trans hb36 hE46
    have hL49 : w.heap.size ≤ w45.heap.size := Nat.le_trans hL37 hE46.size
    have hS50 : SH w45 w.heap.size [aOwn fStr 9 a42 c43 x40, aOwn fInt 2 a30 c31 x28.1, aOwn fStr 9 a19 c20 x17] := SH.add hS38 hE46 hL37 hR47
    refine WL.runk 1 [0, 4, 5, 6] [(0, .slice a0' aRows_0.length c0'), (4, .slice a30 x28.1.length c31), (5, .int .i64 x28.2), (6, .slice a42 x40.length c43)] (by kernel_rfl) ?_
    refine WL.nil ?_
    refine WQ.then_normal (hK39 _ _ _ ?_)
    refine WP.seq (fun K51 hK51 => ?_)
    refine WP.region ?_
    refine WL.runk 1 [0, 4, 5, 6, 28] [(0, .slice a0' aRows_0.length c0'), (4, .slice a30 x28.1.length c31), (5, .int .i64 x28.2), (6, .slice a42 x40.length c43), (28, .slice a42 x40.length c43)] (by kernel_rfl) ?_
    obtain ⟨x52, hx53, hm⟩ := bindE hm
    refine WL.call 34 #[.slice a42 x40.length c43] rfl rfl (by kernel_rfl) (c_34 n x40 a42 c43 w45 hx53 (SH.rd (SH.front 0 hS50)) (SH.le (SH.front 0 hS50)).1) ?_
    rintro _ w57 ⟨a54, c55, rfl, hE58, hR59⟩
    refine ⟨_, rfl, ?_⟩
    have hb60 : Ext w w57 := Ext.trans hb48 hE58
    have hL61 : w.heap.size ≤ w57.heap.size := Nat.le_trans hL49 hE58.size
    have hS62 : SH w57 w.heap.size [aOwn fInt 2 a54 c55 x52.1, aOwn fStr 9 a42 c43 x40, aOwn fInt 2 a30 c31 x28.1, aOwn fStr 9 a19 c20 x17] := SH.add hS50 hE58 hL49 hR59
    refine WL.runk 5 [0, 4, 5, 6, 7, 8] [(0, .slice a0' aRows_0.length c0'), (4, .slice a30 x28.1.length c31), (5, .int .i64 x28.2), (6, .slice a42 x40.length c43), (7, .slice a54 x52.1.length c55), (8, .int .i64 x52.2)] (by kernel_rfl) ?_
    refine WL.nil ?_
    refine WQ.then_normal (hK51 _ _ _ ?_)
    refine WP.seq (fun K63 hK63 => ?_)
    refine WP.seq (fun K64 hK64 => ?_)
    obtain ⟨x74, hx75, hm⟩ := bindE hm
    refine WP.cut (fun env' w' => env' = [(0, .slice a0' aRows_0.length c0'), (4, .slice a30 x28.1.length c31), (5, .int .i64 x28.2), (6, .slice a42 x40.length c43), (7, .slice a54 x52.1.length c55), (8, .int .i64 x52.2), (40, .bool x74)] ∧ Ext w w' ∧ w.heap.size ≤ w'.heap.size ∧ SH w' w.heap.size [aOwn fInt 2 a54 c55 x52.1, aOwn fStr 9 a42 c43 x40, aOwn fInt 2 a30 c31 x28.1, aOwn fStr 9 a19 c20 x17]) ?_ ?_
    · have hm := hx75; clear hx75
      refine WP.region ?_
      refine WL.runk 2 [0, 4, 5, 6, 7, 8, 32, 33] [(0, .slice a0' aRows_0.length c0'), (4, .slice a30 x28.1.length c31), (5, .int .i64 x28.2), (6, .slice a42 x40.length c43), (7, .slice a54 x52.1.length c55), (8, .int .i64 x52.2), (32, .slice a54 x52.1.length c55), (33, .slice a30 x28.1.length c31)] (by kernel_rfl) ?_
      obtain ⟨x76, hx77, hm⟩ := bindE hm
      refine WL.call 35 #[.slice a54 x52.1.length c55, .slice a30 x28.1.length c31] rfl rfl (by kernel_rfl) (c_35 n x52.1 a54 c55 x28.1 a30 c31 w57 hx77 (SH.rd (SH.front 0 hS62)) (SH.le (SH.front 0 hS62)).1 (SH.rd (SH.front 2 hS62)) (SH.le (SH.front 2 hS62)).1) ?_
      rintro _ w78 ⟨rfl, hE79⟩
      refine ⟨_, rfl, ?_⟩
      have hb81 : Ext w w78 := Ext.trans hb60 hE79
      have hL82 : w.heap.size ≤ w78.heap.size := Nat.le_trans hL61 hE79.size
      have hS83 : SH w78 w.heap.size [aOwn fInt 2 a54 c55 x52.1, aOwn fStr 9 a42 c43 x40, aOwn fInt 2 a30 c31 x28.1, aOwn fStr 9 a19 c20 x17] := SH.ext hS62 hE79
      refine WL.runk 2 [0, 4, 5, 6, 7, 8, 36] [(0, .slice a0' aRows_0.length c0'), (4, .slice a30 x28.1.length c31), (5, .int .i64 x28.2), (6, .slice a42 x40.length c43), (7, .slice a54 x52.1.length c55), (8, .int .i64 x52.2), (36, .bool (!x76))] (by kernel_rfl) ?_
      refine WL.case (!x76) [36] ⟨rfl, trivial⟩ (fun hc84 => ?_) (fun hc84 => ?_)
      · have hm := iteT hm hc84
        refine WL.runk 4 [0, 4, 5, 6, 7, 8, 40] [(0, .slice a0' aRows_0.length c0'), (4, .slice a30 x28.1.length c31), (5, .int .i64 x28.2), (6, .slice a42 x40.length c43), (7, .slice a54 x52.1.length c55), (8, .int .i64 x52.2), (40, .bool true)] (by kernel_rfl) ?_
        refine WL.nil ?_
        obtain rfl := Option.some.inj hm
        exact WQ.post' ⟨rfl, hb81, hL82, hS83⟩ ⟨rfl, rfl, rfl, rfl, rfl, rfl, rfl, trivial⟩
      · have hm := iteF hm hc84
        refine WL.runk 4 [0, 4, 5, 6, 7, 8, 40] [(0, .slice a0' aRows_0.length c0'), (4, .slice a30 x28.1.length c31), (5, .int .i64 x28.2), (6, .slice a42 x40.length c43), (7, .slice a54 x52.1.length c55), (8, .int .i64 x52.2), (40, .bool (x52.2 != x28.2))] (by kernel_rfl) ?_
        refine WL.nil ?_
        obtain rfl := Option.some.inj hm
        exact WQ.post' ⟨rfl, hb81, hL82, hS83⟩ ⟨rfl, rfl, rfl, rfl, rfl, rfl, rfl, trivial⟩
    · clear hx75
      rintro _ w85 ⟨rfl, hb86, hL87, hS88⟩
      refine WQ.then_normal (hK64 _ _ _ ?_)
      refine WP.cond x74 rfl rfl (fun hc89 => ?_) (fun hc89 => ?_)
      · have hm := iteT hm hc89
        refine WP.seq (fun K90 hK90 => ?_)
        refine WP.region ?_
        refine WL.runk 1 [2] [(2, .bool false)] (by kernel_rfl) ?_
        refine WL.nil ?_
        refine WQ.then_normal (hK90 _ _ _ ?_)
        refine WP.ret ?_
        refine WQ.then_ret ?_
        obtain rfl := Option.some.inj hm
        exact WQ.ret1 _ rfl rfl ⟨rfl, hb86⟩
      · have hm := iteF hm hc89
        refine WP.skip ?_
        refine WQ.then_normal (hK63 _ _ _ ?_)
        refine WP.seq (fun K91 hK91 => ?_)
        refine WP.seq (fun K92 hK92 => ?_)
        refine WP.region ?_
        refine WL.runk 2 [0, 4, 5, 6, 7, 8, 41, 42] [(0, .slice a0' aRows_0.length c0'), (4, .slice a30 x28.1.length c31), (5, .int .i64 x28.2), (6, .slice a42 x40.length c43), (7, .slice a54 x52.1.length c55), (8, .int .i64 x52.2), (41, .slice a42 x40.length c43), (42, .slice a0' aRows_0.length c0')] (by kernel_rfl) ?_
        obtain ⟨x93, hx94, hm⟩ := bindE hm
        refine WL.call 17 #[.slice a0' aRows_0.length c0'] rfl rfl (by kernel_rfl) (c_17 n aRows_0 a0' c0' w85 hx94 (Rd.below h0 hb86) hle0) ?_
        rintro _ w98 ⟨a95, c96, rfl, hE99, hR100⟩
        refine ⟨_, rfl, ?_⟩
        have hb101 : Ext w w98 := Ext.trans hb86 hE99
        have hL102 : w.heap.size ≤ w98.heap.size := Nat.le_trans hL87 hE99.size
        have hS103 : SH w98 w.heap.size [aOwn fStr 9 a95 c96 x93, aOwn fInt 2 a54 c55 x52.1, aOwn fStr 9 a42 c43 x40, aOwn fInt 2 a30 c31 x28.1, aOwn fStr 9 a19 c20 x17] := SH.add hS88 hE99 hL87 hR100
        obtain ⟨x104, hx105, hm⟩ := bindE hm
        refine WL.call 19 #[.slice a42 x40.length c43, .slice a95 x93.length c96] rfl rfl (by kernel_rfl) (c_19 n x40 a42 c43 x93 a95 c96 w98 hx105 (SH.rd (SH.front 2 hS103)) (SH.le (SH.front 2 hS103)).1 (SH.rd (SH.front 0 hS103)) (SH.le (SH.front 0 hS103)).1) ?_
        rintro _ w106 ⟨rfl, hE107⟩
        refine ⟨_, rfl, ?_⟩
        have hb109 : Ext w w106 := Ext.trans hb101 hE107
        have hL110 : w.heap.size ≤ w106.heap.size := Nat.le_trans hL102 hE107.size
        have hS111 : SH w106 w.heap.size [aOwn fStr 9 a95 c96 x93, aOwn fInt 2 a54 c55 x52.1, aOwn fStr 9 a42 c43 x40, aOwn fInt 2 a30 c31 x28.1, aOwn fStr 9 a19 c20 x17] := SH.ext hS103 hE107
        refine WL.runk 1 [0, 4, 5, 6, 7, 8, 45] [(0, .slice a0' aRows_0.length c0'), (4, .slice a30 x28.1.length c31), (5, .int .i64 x28.2), (6, .slice a42 x40.length c43), (7, .slice a54 x52.1.length c55), (8, .int .i64 x52.2), (45, .bool (!x104))] (by kernel_rfl) ?_
        refine WL.nil ?_
        refine WQ.then_normal (hK92 _ _ _ ?_)
        refine WP.cond (!x104) rfl rfl (fun hc112 => ?_) (fun hc112 => ?_)
        · have hm := iteT hm hc112
          refine WP.seq (fun K113 hK113 => ?_)
          refine WP.region ?_
          refine WL.runk 1 [2] [(2, .bool false)] (by kernel_rfl) ?_
          refine WL.nil ?_
          refine WQ.then_normal (hK113 _ _ _ ?_)
          refine WP.ret ?_
          refine WQ.then_ret ?_
          obtain rfl := Option.some.inj hm
          exact WQ.ret1 _ rfl rfl ⟨rfl, hb109⟩
        · have hm := iteF hm hc112
          refine WP.skip ?_
          refine WQ.then_normal (hK91 _ _ _ ?_)
          refine WP.seq (fun K114 hK114 => ?_)
          refine WP.region ?_
          refine WL.runk 1 [0, 4, 5, 6, 7, 8, 9] [(0, .slice a0' aRows_0.length c0'), (4, .slice a30 x28.1.length c31), (5, .int .i64 x28.2), (6, .slice a42 x40.length c43), (7, .slice a54 x52.1.length c55), (8, .int .i64 x52.2), (9, .int .i64 1)] (by kernel_rfl) ?_
          refine WL.nil ?_
          refine WQ.then_normal (hK114 _ _ _ ?_)
          refine WP.seq (fun K115 hK115 => ?_)
          refine WP.region ?_
          refine WL.runk 2 [0, 4, 5, 7, 8, 46, 47] [(0, .slice a0' aRows_0.length c0'), (4, .slice a30 x28.1.length c31), (5, .int .i64 x28.2), (7, .slice a54 x52.1.length c55), (8, .int .i64 x52.2), (46, .slice a42 x40.length c43), (47, .int .i64 1)] (by kernel_rfl) ?_
          obtain ⟨x116, hx117, hm⟩ := bindE hm
          refine WL.call 24 #[.slice a42 x40.length c43, .int .i64 1] rfl rfl (by kernel_rfl) (c_24 n x40 a42 c43 1 w106 w w.heap.size [aOwn fStr 9 a95 c96 x93, aOwn fInt 2 a54 c55 x52.1, aOwn fInt 2 a30 c31 x28.1, aOwn fStr 9 a19 c20 x17] hx117 hb109 (Nat.le_refl _) hL110  (SH.front 4 (SH.front 3 (SH.front 3 (SH.front 4 (SH.front 4 hS111)))))) ?_
          rintro _ w118 ⟨rfl, hB122, hS121, hlen123⟩
          refine ⟨_, rfl, ?_⟩
          have hb124 : Ext w w118 := Below.trans hb109 hB122
          have hL125 : w.heap.size ≤ w118.heap.size := Nat.le_trans hL110 hB122.size
          refine WL.sub [(0, .slice a0' aRows_0.length c0'), (4, .slice a30 x28.1.length c31), (5, .int .i64 x28.2), (7, .slice a54 x52.1.length c55), (8, .int .i64 x52.2), (46, .slice a42 x116.2.length c43), (47, .int .i64 1), (48, .int .i64 x116.1)] ⟨rfl, rfl, rfl, rfl, rfl, by rw [hlen123]; rfl, rfl, rfl, trivial⟩ ?_
          refine WL.runk 1 [0, 4, 5, 7, 8, 9] [(0, .slice a0' aRows_0.length c0'), (4, .slice a30 x28.1.length c31), (5, .int .i64 x28.2), (7, .slice a54 x52.1.length c55), (8, .int .i64 x52.2), (9, .int .i64 x116.1)] (by kernel_rfl) ?_
          refine WL.nil ?_
          refine WQ.then_normal (hK115 _ _ _ ?_)
          refine WP.seq (fun K126 hK126 => ?_)
          refine WP.seq (fun K127 hK127 => ?_)
          obtain ⟨x138, hx139, hm⟩ := bindE hm
          refine WP.cut (fun env' w' => env' = [(0, .slice a0' aRows_0.length c0'), (4, .slice a30 x28.1.length c31), (5, .int .i64 x28.2), (7, .slice a54 x52.1.length c55), (61, .bool x138)] ∧ Ext w w' ∧ w.heap.size ≤ w'.heap.size ∧ SH w' w.heap.size [aOwn fStr 9 a42 c43 x116.2, aOwn fStr 9 a95 c96 x93, aOwn fInt 2 a54 c55 x52.1, aOwn fInt 2 a30 c31 x28.1, aOwn fStr 9 a19 c20 x17]) ?_ ?_
          · have hm := hx139; clear hx139
            refine WP.region ?_
            refine WL.runk 3 [0, 4, 5, 7, 8, 51] [(0, .slice a0' aRows_0.length c0'), (4, .slice a30 x28.1.length c31), (5, .int .i64 x28.2), (7, .slice a54 x52.1.length c55), (8, .int .i64 x52.2), (51, .bool (decide (x116.1 < 0)))] (by kernel_rfl) ?_
            refine WL.case (decide (x116.1 < 0)) [51] ⟨rfl, trivial⟩ (fun hc140 => ?_) (fun hc140 => ?_)
            · have hm := iteT hm hc140
              refine WL.runk 10 [0, 4, 5, 7, 61] [(0, .slice a0' aRows_0.length c0'), (4, .slice a30 x28.1.length c31), (5, .int .i64 x28.2), (7, .slice a54 x52.1.length c55), (61, .bool true)] (by kernel_rfl) ?_
              refine WL.nil ?_
              obtain rfl := Option.some.inj hm
              exact WQ.post' ⟨rfl, hb124, hL125, hS121⟩ ⟨rfl, rfl, rfl, rfl, rfl, trivial⟩
            · have hm := iteF hm hc140
              refine WL.runk 2 [0, 4, 5, 7, 8, 51, 52, 53] [(0, .slice a0' aRows_0.length c0'), (4, .slice a30 x28.1.length c31), (5, .int .i64 x28.2), (7, .slice a54 x52.1.length c55), (8, .int .i64 x52.2), (51, .bool false), (52, .slice a54 x52.1.length c55), (53, .slice a30 x28.1.length c31)] (by kernel_rfl) ?_
              obtain ⟨x141, hx142, hm⟩ := bindE hm
              refine WL.call 35 #[.slice a54 x52.1.length c55, .slice a30 x28.1.length c31] rfl rfl (by kernel_rfl) (c_35 n x52.1 a54 c55 x28.1 a30 c31 w118 hx142 (SH.rd (SH.front 2 hS121)) (SH.le (SH.front 2 hS121)).1 (SH.rd (SH.front 3 hS121)) (SH.le (SH.front 3 hS121)).1) ?_
              rintro _ w143 ⟨rfl, hE144⟩
              refine ⟨_, rfl, ?_⟩
              have hb146 : Ext w w143 := Ext.trans hb124 hE144
              have hL147 : w.heap.size ≤ w143.heap.size := Nat.le_trans hL125 hE144.size
              have hS148 : SH w143 w.heap.size [aOwn fStr 9 a42 c43 x116.2, aOwn fStr 9 a95 c96 x93, aOwn fInt 2 a54 c55 x52.1, aOwn fInt 2 a30 c31 x28.1, aOwn fStr 9 a19 c20 x17] := SH.ext hS121 hE144
              refine WL.runk 3 [0, 4, 5, 7, 8, 57] [(0, .slice a0' aRows_0.length c0'), (4, .slice a30 x28.1.length c31), (5, .int .i64 x28.2), (7, .slice a54 x52.1.length c55), (8, .int .i64 x52.2), (57, .bool (!x141))] (by kernel_rfl) ?_
              refine WL.case (!x141) [57] ⟨rfl, trivial⟩ (fun hc149 => ?_) (fun hc149 => ?_)
              · have hm := iteT hm hc149
                refine WL.runk 4 [0, 4, 5, 7, 61] [(0, .slice a0' aRows_0.length c0'), (4, .slice a30 x28.1.length c31), (5, .int .i64 x28.2), (7, .slice a54 x52.1.length c55), (61, .bool true)] (by kernel_rfl) ?_
                refine WL.nil ?_
                obtain rfl := Option.some.inj hm
                exact WQ.post' ⟨rfl, hb146, hL147, hS148⟩ ⟨rfl, rfl, rfl, rfl, rfl, trivial⟩
              · have hm := iteF hm hc149
                refine WL.runk 4 [0, 4, 5, 7, 61] [(0, .slice a0' aRows_0.length c0'), (4, .slice a30 x28.1.length c31), (5, .int .i64 x28.2), (7, .slice a54 x52.1.length c55), (61, .bool (x52.2 != x28.2))] (by kernel_rfl) ?_
                refine WL.nil ?_
                obtain rfl := Option.some.inj hm
                exact WQ.post' ⟨rfl, hb146, hL147, hS148⟩ ⟨rfl, rfl, rfl, rfl, rfl, trivial⟩
          · clear hx139
            rintro _ w150 ⟨rfl, hb151, hL152, hS153⟩
            refine WQ.then_normal (hK127 _ _ _ ?_)
            refine WP.cond x138 rfl rfl (fun hc154 => ?_) (fun hc154 => ?_)
            · have hm := iteT hm hc154
              refine WP.seq (fun K155 hK155 => ?_)
              refine WP.region ?_
              refine WL.runk 1 [2] [(2, .bool false)] (by kernel_rfl) ?_
              refine WL.nil ?_
              refine WQ.then_normal (hK155 _ _ _ ?_)
              refine WP.ret ?_
              refine WQ.then_ret ?_
              obtain rfl := Option.some.inj hm
              exact WQ.ret1 _ rfl rfl ⟨rfl, hb151⟩
            · have hm := iteF hm hc154
              refine WP.skip ?_
              refine WQ.then_normal (hK126 _ _ _ ?_)
              refine WP.seq (fun K156 hK156 => ?_)
              refine WP.region ?_
              refine WL.runk 1 [0, 4, 5, 7, 10] [(0, .slice a0' aRows_0.length c0'), (4, .slice a30 x28.1.length c31), (5, .int .i64 x28.2), (7, .slice a54 x52.1.length c55), (10, .int .i64 1)] (by kernel_rfl) ?_
              refine WL.nil ?_
              refine WQ.then_normal (hK156 _ _ _ ?_)
              refine WP.seq (fun K157 hK157 => ?_)
              refine WP.region ?_
              refine WL.runk 2 [0, 4, 5, 7, 62, 63] [(0, .slice a0' aRows_0.length c0'), (4, .slice a30 x28.1.length c31), (5, .int .i64 x28.2), (7, .slice a54 x52.1.length c55), (62, .slice a54 x52.1.length c55), (63, .int .i64 1)] (by kernel_rfl) ?_
              obtain ⟨x158, hx159, hm⟩ := bindE hm
              refine WL.call 36 #[.slice a54 x52.1.length c55, .int .i64 1] rfl rfl (by kernel_rfl) (c_36 n x52.1 a54 c55 1 w150 w w.heap.size [aOwn fStr 9 a42 c43 x116.2, aOwn fStr 9 a95 c96 x93, aOwn fInt 2 a30 c31 x28.1, aOwn fStr 9 a19 c20 x17] hx159 hb151 (Nat.le_refl _) hL152  (SH.front 4 (SH.front 3 (SH.front 3 (SH.front 4 (SH.front 4 hS153)))))) ?_
              rintro _ w160 ⟨rfl, hB164, hS163, hlen165⟩
              refine ⟨_, rfl, ?_⟩
              have hb166 : Ext w w160 := Below.trans hb151 hB164
              have hL167 : w.heap.size ≤ w160.heap.size := Nat.le_trans hL152 hB164.size
              refine WL.sub [(0, .slice a0' aRows_0.length c0'), (4, .slice a30 x28.1.length c31), (5, .int .i64 x28.2), (7, .slice a54 x158.2.length c55), (62, .slice a54 x158.2.length c55), (63, .int .i64 1), (64, .int .i64 x158.1)] ⟨rfl, rfl, rfl, by rw [hlen165]; rfl, by rw [hlen165]; rfl, rfl, rfl, trivial⟩ ?_
              refine WL.runk 1 [0, 4, 5, 7, 10] [(0, .slice a0' aRows_0.length c0'), (4, .slice a30 x28.1.length c31), (5, .int .i64 x28.2), (7, .slice a54 x158.2.length c55), (10, .int .i64 x158.1)] (by kernel_rfl) ?_
              refine WL.nil ?_
              refine WQ.then_normal (hK157 _ _ _ ?_)
              refine WP.seq (fun K168 hK168 => ?_)
              refine WP.region ?_
              refine WL.runk 1 [0, 4, 5, 7, 10, 11] [(0, .slice a0' aRows_0.length c0'), (4, .slice a30 x28.1.length c31), (5, .int .i64 x28.2), (7, .slice a54 x158.2.length c55), (10, .int .i64 x158.1), (11, .int .i64 1)] (by kernel_rfl) ?_
              refine WL.nil ?_
              refine WQ.then_normal (hK168 _ _ _ ?_)
              refine WP.seq (fun K169 hK169 => ?_)
              refine WP.region ?_
              refine WL.runk 2 [0, 4, 5, 7, 10, 65, 66] [(0, .slice a0' aRows_0.length c0'), (4, .slice a30 x28.1.length c31), (5, .int .i64 x28.2), (7, .slice a54 x158.2.length c55), (10, .int .i64 x158.1), (65, .slice a54 x158.2.length c55), (66, .int .i64 1)] (by kernel_rfl) ?_
              obtain ⟨x170, hx171, hm⟩ := bindE hm
              refine WL.call 37 #[.slice a54 x158.2.length c55, .int .i64 1] rfl rfl (by kernel_rfl) (c_37 n x158.2 a54 c55 1 w160 hx171 (SH.rd (SH.front 0 hS163)) (SH.le (SH.front 0 hS163)).1) ?_
              rintro _ w172 ⟨rfl, hE173⟩
              refine ⟨_, rfl, ?_⟩
              have hb175 : Ext w w172 := Ext.trans hb166 hE173
              have hL176 : w.heap.size ≤ w172.heap.size := Nat.le_trans hL167 hE173.size
              have hS177 : SH w172 w.heap.size [aOwn fInt 2 a54 c55 x158.2, aOwn fStr 9 a42 c43 x116.2, aOwn fStr 9 a95 c96 x93, aOwn fInt 2 a30 c31 x28.1, aOwn fStr 9 a19 c20 x17] := SH.ext hS163 hE173
              refine WL.runk 1 [0, 4, 5, 7, 10, 11] [(0, .slice a0' aRows_0.length c0'), (4, .slice a30 x28.1.length c31), (5, .int .i64 x28.2), (7, .slice a54 x158.2.length c55), (10, .int .i64 x158.1), (11, .int .i64 x170)] (by kernel_rfl) ?_
              refine WL.nil ?_
              refine WQ.then_normal (hK169 _ _ _ ?_)
              refine WP.seq (fun K178 hK178 => ?_)
              refine WP.seq (fun K179 hK179 => ?_)
              refine WP.region ?_
              refine WL.runk 2 [0, 4, 5, 7, 10, 11, 69] [(0, .slice a0' aRows_0.length c0'), (4, .slice a30 x28.1.length c31), (5, .int .i64 x28.2), (7, .slice a54 x158.2.length c55), (10, .int .i64 x158.1), (11, .int .i64 x170), (69, .bool (decide (x170 < 0)))] (by kernel_rfl) ?_
              refine WL.nil ?_
              refine WQ.then_normal (hK179 _ _ _ ?_)
              refine WP.cond (decide (x170 < 0)) rfl rfl (fun hc180 => ?_) (fun hc180 => ?_)
              · have hm := iteT hm hc180
                refine WP.seq (fun K181 hK181 => ?_)
                refine WP.region ?_
                refine WL.runk 1 [2] [(2, .bool false)] (by kernel_rfl) ?_
                refine WL.nil ?_
                refine WQ.then_normal (hK181 _ _ _ ?_)
                refine WP.ret ?_
                refine WQ.then_ret ?_
                obtain rfl := Option.some.inj hm
                exact WQ.ret1 _ rfl rfl ⟨rfl, hb175⟩
              · have hm := iteF hm hc180
                refine WP.skip ?_
                refine WQ.then_normal (hK178 _ _ _ ?_)
                refine WP.seq (fun K182 hK182 => ?_)
                refine WP.seq (fun K183 hK183 => ?_)
                refine WP.region ?_
                refine WL.runk 3 [0, 4, 5, 7, 10, 72] [(0, .slice a0' aRows_0.length c0'), (4, .slice a30 x28.1.length c31), (5, .int .i64 x28.2), (7, .slice a54 x158.2.length c55), (10, .int .i64 x158.1), (72, .bool (x170 != x158.1))] (by kernel_rfl) ?_
                refine WL.nil ?_
                refine WQ.then_normal (hK183 _ _ _ ?_)
                refine WP.cond (x170 != x158.1) rfl rfl (fun hc184 => ?_) (fun hc184 => ?_)
                · have hm := iteT hm hc184
                  refine WP.seq (fun K185 hK185 => ?_)
                  refine WP.region ?_
                  refine WL.runk 1 [2] [(2, .bool false)] (by kernel_rfl) ?_
                  refine WL.nil ?_
                  refine WQ.then_normal (hK185 _ _ _ ?_)
                  refine WP.ret ?_
                  refine WQ.then_ret ?_
                  obtain rfl := Option.some.inj hm
                  exact WQ.ret1 _ rfl rfl ⟨rfl, hb175⟩
                · have hm := iteF hm hc184
                  refine WP.skip ?_
                  refine WQ.then_normal (hK182 _ _ _ ?_)
                  refine WP.seq (fun K186 hK186 => ?_)
                  refine WP.region ?_
                  refine WL.runk 1 [4, 5, 7, 10, 74] [(4, .slice a30 x28.1.length c31), (5, .int .i64 x28.2), (7, .slice a54 x158.2.length c55), (10, .int .i64 x158.1), (74, .slice a0' aRows_0.length c0')] (by kernel_rfl) ?_
                  obtain ⟨x187, hx188, hm⟩ := bindE hm
                  refine WL.call 17 #[.slice a0' aRows_0.length c0'] rfl rfl (by kernel_rfl) (c_17 n aRows_0 a0' c0' w172 hx188 (Rd.below h0 hb175) hle0) ?_
                  rintro _ w192 ⟨a189, c190, rfl, hE193, hR194⟩
                  refine ⟨_, rfl, ?_⟩
                  have hb195 : Ext w w192 := Ext.trans hb175 hE193
                  have hL196 : w.heap.size ≤ w192.heap.size := Nat.le_trans hL176 hE193.size
                  have hS197 : SH w192 w.heap.size [aOwn fStr 9 a189 c190 x187, aOwn fInt 2 a54 c55 x158.2, aOwn fStr 9 a42 c43 x116.2, aOwn fStr 9 a95 c96 x93, aOwn fInt 2 a30 c31 x28.1, aOwn fStr 9 a19 c20 x17] := SH.add hS177 hE193 hL176 hR194
                  obtain ⟨x198, hx199, hm⟩ := bindE hm
                  refine WL.call 34 #[.slice a189 x187.length c190] rfl rfl (by kernel_rfl) (c_34 n x187 a189 c190 w192 hx199 (SH.rd (SH.front 0 hS197)) (SH.le (SH.front 0 hS197)).1) ?_
                  rintro _ w203 ⟨a200, c201, rfl, hE204, hR205⟩
                  refine ⟨_, rfl, ?_⟩
                  have hb206 : Ext w w203 := Ext.trans hb195 hE204
                  have hL207 : w.heap.size ≤ w203.heap.size := Nat.le_trans hL196 hE204.size
                  have hS208 : SH w203 w.heap.size [aOwn fInt 2 a200 c201 x198.1, aOwn fStr 9 a189 c190 x187, aOwn fInt 2 a54 c55 x158.2, aOwn fStr 9 a42 c43 x116.2, aOwn fStr 9 a95 c96 x93, aOwn fInt 2 a30 c31 x28.1, aOwn fStr 9 a19 c20 x17] := SH.add hS197 hE204 hL196 hR205
                  refine WL.runk 5 [4, 5, 7, 10, 12, 13] [(4, .slice a30 x28.1.length c31), (5, .int .i64 x28.2), (7, .slice a54 x158.2.length c55), (10, .int .i64 x158.1), (12, .slice a200 x198.1.length c201), (13, .int .i64 x198.2)] (by kernel_rfl) ?_
                  refine WL.nil ?_
                  refine WQ.then_normal (hK186 _ _ _ ?_)
                  refine WP.seq (fun K209 hK209 => ?_)
                  refine WP.seq (fun K210 hK210 => ?_)
                  obtain ⟨x220, hx221, hm⟩ := bindE hm
                  refine WP.cut (fun env' w' => env' = [(7, .slice a54 x158.2.length c55), (10, .int .i64 x158.1), (87, .bool x220)] ∧ Ext w w' ∧ w.heap.size ≤ w'.heap.size ∧ SH w' w.heap.size [aOwn fInt 2 a200 c201 x198.1, aOwn fStr 9 a189 c190 x187, aOwn fInt 2 a54 c55 x158.2, aOwn fStr 9 a42 c43 x116.2, aOwn fStr 9 a95 c96 x93, aOwn fInt 2 a30 c31 x28.1, aOwn fStr 9 a19 c20 x17]) ?_ ?_
                  · have hm := hx221; clear hx221
                    refine WP.region ?_
                    refine WL.runk 2 [5, 7, 10, 13, 79, 80] [(5, .int .i64 x28.2), (7, .slice a54 x158.2.length c55), (10, .int .i64 x158.1), (13, .int .i64 x198.2), (79, .slice a200 x198.1.length c201), (80, .slice a30 x28.1.length c31)] (by kernel_rfl) ?_
                    obtain ⟨x222, hx223, hm⟩ := bindE hm
                    refine WL.call 35 #[.slice a200 x198.1.length c201, .slice a30 x28.1.length c31] rfl rfl (by kernel_rfl) (c_35 n x198.1 a200 c201 x28.1 a30 c31 w203 hx223 (SH.rd (SH.front 0 hS208)) (SH.le (SH.front 0 hS208)).1 (SH.rd (SH.front 5 hS208)) (SH.le (SH.front 5 hS208)).1) ?_
                    rintro _ w224 ⟨rfl, hE225⟩
                    refine ⟨_, rfl, ?_⟩
                    have hb227 : Ext w w224 := Ext.trans hb206 hE225
                    have hL228 : w.heap.size ≤ w224.heap.size := Nat.le_trans hL207 hE225.size
                    have hS229 : SH w224 w.heap.size [aOwn fInt 2 a200 c201 x198.1, aOwn fStr 9 a189 c190 x187, aOwn fInt 2 a54 c55 x158.2, aOwn fStr 9 a42 c43 x116.2, aOwn fStr 9 a95 c96 x93, aOwn fInt 2 a30 c31 x28.1, aOwn fStr 9 a19 c20 x17] := SH.ext hS208 hE225
                    refine WL.runk 2 [5, 7, 10, 13, 83] [(5, .int .i64 x28.2), (7, .slice a54 x158.2.length c55), (10, .int .i64 x158.1), (13, .int .i64 x198.2), (83, .bool (!x222))] (by kernel_rfl) ?_
                    refine WL.case (!x222) [83] ⟨rfl, trivial⟩ (fun hc230 => ?_) (fun hc230 => ?_)
                    · have hm := iteT hm hc230
                      refine WL.runk 4 [7, 10, 87] [(7, .slice a54 x158.2.length c55), (10, .int .i64 x158.1), (87, .bool true)] (by kernel_rfl) ?_
                      refine WL.nil ?_
                      obtain rfl := Option.some.inj hm
                      exact WQ.post' ⟨rfl, hb227, hL228, hS229⟩ ⟨rfl, rfl, rfl, trivial⟩
                    · have hm := iteF hm hc230
                      refine WL.runk 4 [7, 10, 87] [(7, .slice a54 x158.2.length c55), (10, .int .i64 x158.1), (87, .bool (x198.2 != x28.2))] (by kernel_rfl) ?_
                      refine WL.nil ?_
                      obtain rfl := Option.some.inj hm
                      exact WQ.post' ⟨rfl, hb227, hL228, hS229⟩ ⟨rfl, rfl, rfl, trivial⟩
                  · clear hx221
                    rintro _ w231 ⟨rfl, hb232, hL233, hS234⟩
                    refine WQ.then_normal (hK210 _ _ _ ?_)
                    refine WP.cond x220 rfl rfl (fun hc235 => ?_) (fun hc235 => ?_)
                    · have hm := iteT hm hc235
                      refine WP.seq (fun K236 hK236 => ?_)
                      refine WP.region ?_
                      refine WL.runk 1 [2] [(2, .bool false)] (by kernel_rfl) ?_
                      refine WL.nil ?_
                      refine WQ.then_normal (hK236 _ _ _ ?_)
                      refine WP.ret ?_
                      refine WQ.then_ret ?_
                      obtain rfl := Option.some.inj hm
                      exact WQ.ret1 _ rfl rfl ⟨rfl, hb232⟩
                    · have hm := iteF hm hc235
                      refine WP.skip ?_
                      refine WQ.then_normal (hK209 _ _ _ ?_)
                      refine WP.seq (fun K237 hK237 => ?_)
                      refine WP.region ?_
                      refine WL.runk 1 [7, 10, 11] [(7, .slice a54 x158.2.length c55), (10, .int .i64 x158.1), (11, .int .i64 1)] (by kernel_rfl) ?_
                      refine WL.nil ?_
                      refine WQ.then_normal (hK237 _ _ _ ?_)
                      refine WP.seq (fun K238 hK238 => ?_)
                      refine WP.region ?_
                      refine WL.runk 2 [10, 88, 89] [(10, .int .i64 x158.1), (88, .slice a54 x158.2.length c55), (89, .int .i64 1)] (by kernel_rfl) ?_
                      obtain ⟨x239, hx240, hm⟩ := bindE hm
                      refine WL.call 37 #[.slice a54 x158.2.length c55, .int .i64 1] rfl rfl (by kernel_rfl) (c_37 n x158.2 a54 c55 1 w231 hx240 (SH.rd (SH.front 2 hS234)) (SH.le (SH.front 2 hS234)).1) ?_
                      rintro _ w241 ⟨rfl, hE242⟩
                      refine ⟨_, rfl, ?_⟩
                      have hb244 : Ext w w241 := Ext.trans hb232 hE242
                      have hL245 : w.heap.size ≤ w241.heap.size := Nat.le_trans hL233 hE242.size
                      have hS246 : SH w241 w.heap.size [aOwn fInt 2 a200 c201 x198.1, aOwn fStr 9 a189 c190 x187, aOwn fInt 2 a54 c55 x158.2, aOwn fStr 9 a42 c43 x116.2, aOwn fStr 9 a95 c96 x93, aOwn fInt 2 a30 c31 x28.1, aOwn fStr 9 a19 c20 x17] := SH.ext hS234 hE242
                      refine WL.runk 1 [10, 11] [(10, .int .i64 x158.1), (11, .int .i64 x239)] (by kernel_rfl) ?_
                      refine WL.nil ?_
                      refine WQ.then_normal (hK238 _ _ _ ?_)
                      refine WP.seq (fun K247 hK247 => ?_)
                      refine WP.seq (fun K248 hK248 => ?_)
                      refine WP.region ?_
                      refine WL.runk 2 [10, 11, 92] [(10, .int .i64 x158.1), (11, .int .i64 x239), (92, .bool (decide (x239 < 0)))] (by kernel_rfl) ?_
                      refine WL.nil ?_
                      refine WQ.then_normal (hK248 _ _ _ ?_)
                      refine WP.cond (decide (x239 < 0)) rfl rfl (fun hc249 => ?_) (fun hc249 => ?_)
                      · have hm := iteT hm hc249
                        refine WP.seq (fun K250 hK250 => ?_)
                        refine WP.region ?_
                        refine WL.runk 1 [2] [(2, .bool false)] (by kernel_rfl) ?_
                        refine WL.nil ?_
                        refine WQ.then_normal (hK250 _ _ _ ?_)
                        refine WP.ret ?_
                        refine WQ.then_ret ?_
                        obtain rfl := Option.some.inj hm
                        exact WQ.ret1 _ rfl rfl ⟨rfl, hb244⟩
                      · have hm := iteF hm hc249
                        refine WP.skip ?_
                        refine WQ.then_normal (hK247 _ _ _ ?_)
                        refine WP.seq (fun K251 hK251 => ?_)
                        refine WP.seq (fun K252 hK252 => ?_)
                        refine WP.region ?_
                        refine WL.runk 3 [95] [(95, .bool (x239 != x158.1))] (by kernel_rfl) ?_
                        refine WL.nil ?_
                        refine WQ.then_normal (hK252 _ _ _ ?_)
                        refine WP.cond (x239 != x158.1) rfl rfl (fun hc253 => ?_) (fun hc253 => ?_)
                        · have hm := iteT hm hc253
                          refine WP.seq (fun K254 hK254 => ?_)
                          refine WP.region ?_
                          refine WL.runk 1 [2] [(2, .bool false)] (by kernel_rfl) ?_
                          refine WL.nil ?_
                          refine WQ.then_normal (hK254 _ _ _ ?_)
                          refine WP.ret ?_
                          refine WQ.then_ret ?_
                          obtain rfl := Option.some.inj hm
                          exact WQ.ret1 _ rfl rfl ⟨rfl, hb244⟩
                        · have hm := iteF hm hc253
                          refine WP.skip ?_
                          refine WQ.then_normal (hK251 _ _ _ ?_)
                          refine WP.seq (fun K255 hK255 => ?_)
                          refine WP.region ?_
                          refine WL.runk 1 [2] [(2, .bool true)] (by kernel_rfl) ?_
                          refine WL.nil ?_
                          refine WQ.then_normal (hK255 _ _ _ ?_)
                          refine WP.ret ?_
                          obtain rfl := Option.some.inj hm
                          exact WQ.ret1 _ rfl rfl ⟨rfl, hb244⟩

end Go.Proofs.Ytoljnpoiclklpaa
