/- Each call does what its Lean function says. -/
import Derived.Test.YtkglfbcelaphhaaGreatDoorKRepairs1
set_option maxRecDepth 20000
set_option maxHeartbeats 40000000
namespace Go.Proofs.YtkglfbcelaphhaaGreatDoor
open Go Go.Gv Go.RowKit

theorem c_86 (n : Nat) (s_0_code : List Int) (a0_code' : Option Addr) (c0_code' : Nat) (s_0_at_ : Int) (s_0_seed : Int) (b0' : Nat) (w : World) (w0 : World) (B : Nat) (L : List Asrt) {r : List Int × Int × Int} (hm : m_spec_l21DrawFaults n s_0_code s_0_at_ s_0_seed = some r) (hE0 : Ext w0 w) (hW : w0.heap.size ≤ B) (hL : B ≤ w.heap.size) (h0_code : Rd fU8.ty w0 a0_code' s_0_code) (hle0_code : s_0_code.length ≤ c0_code') (hS : SH w B (aBox 82 b0' [.slice a0_code' s_0_code.length c0_code', .int .i64 s_0_at_, .int .u64 s_0_seed] :: L)) :
    CallV Tryz.prog 86 #[.pointer (some ⟨b0', 0, none⟩)] w (fun v w' => ∃ (ra0 : Option Addr) (rc0 : Nat), v = .slice ra0 r.1.length rc0 ∧ Below B w w' ∧ SH w' B (aOwn fInt 2 ra0 rc0 r.1 :: aBox 82 b0' [.slice a0_code' s_0_code.length c0_code', .int .i64 r.2.1, .int .u64 r.2.2] :: L)) := by
  unfold m_spec_l21DrawFaults at hm
  refine CallV.enter Tryz.func86 rfl (by kernel_rfl) Tryz.ntmps86 (env := [(0, .pointer (some ⟨b0', 0, none⟩))]) ⟨rfl, trivial⟩ ?_
  refine WP.seq (fun K1 hK1 => ?_)
  refine WP.region ?_
  refine WL.runk 1 [0] [(0, .pointer (some ⟨b0', 0, none⟩))] (by kernel_rfl) ?_
  refine WL.nil ?_
  refine WQ.then_normal (hK1 _ _ _ ?_)
  refine WP.seq (fun K2 hK2 => ?_)
  refine WP.region ?_
  refine WL.row fInt 2 ([] : List Int) 0 #[] 5 (by kernel_rfl) rfl rfl rfl rfl rfl rfl rfl ?_
  intro a3 c4 w5 hE6 hR7
  have hb9 : Below B w w5 := Below.trans (Below.refl _ _) (Below.mono hE6 hL)
  have hL10 : B ≤ w5.heap.size := Nat.le_trans hL hE6.size
  have hS11 : SH w5 B (aOwn fInt 2 a3 c4 ([] : List Int) :: aBox 82 b0' [.slice a0_code' s_0_code.length c0_code', .int .i64 s_0_at_, .int .u64 s_0_seed] :: L) := SH.add hS hE6 hL hR7
  refine WL.runk 1 [0, 3] [(0, .pointer (some ⟨b0', 0, none⟩)), (3, .slice a3 (([] : List Int).length) c4)] (by kernel_rfl) ?_
  refine WL.nil ?_
  refine WQ.then_normal (hK2 _ _ _ ?_)
  refine WP.seq (fun K12 hK12 => ?_)
  refine WP.seq (fun K13 hK13 => ?_)
  refine WP.region ?_
  refine WL.runk 1 [0, 3, 4] [(0, .pointer (some ⟨b0', 0, none⟩)), (3, .slice a3 (([] : List Int).length) c4), (4, .int .i64 0)] (by kernel_rfl) ?_
  refine WL.nil ?_
  refine WQ.then_normal (hK13 _ _ _ ?_)
  refine WP.block ?_
  obtain ⟨t275, ht276, hm⟩ := bindE hm
  have hmo270 := hm; clear hm
  refine WP.sub [(0, .pointer (some ⟨b0', 0, none⟩)), (3, .slice a3 (([] : List Int).length) c4), (4, .int .i64 0)] ⟨rfl, rfl, rfl, trivial⟩ ?_
  refine WP.loop (fun n' env' w' => ∃ (st261 : List Int × Int × Int × Int) (a262 : Option Addr) (c263 : Nat), env' = [(0, .pointer (some ⟨b0', 0, none⟩)), (3, .slice a262 st261.1.length c263), (4, .int .i64 st261.2.1)] ∧ Below B w w' ∧ B ≤ w'.heap.size ∧ SH w' B (aOwn fInt 2 a262 c263 st261.1 :: aBox 82 b0' [.slice a0_code' s_0_code.length c0_code', .int .i64 st261.2.2.1, .int .u64 st261.2.2.2] :: L) ∧ loopN (m_spec_l21DrawFaults_l1 n s_0_code) n' st261 = some t275) n ⟨(([] : List Int), 0, s_0_at_, s_0_seed), _, _, rfl, hb9, hL10, hS11, ht276⟩ ?_
  rintro n272 _ w265 ⟨st261, a262, c263, rfl, hb266, hL267, hS268, hl269⟩ K271 hK271
  obtain ⟨n273, s274, rfl, hm, hl269⟩ := loopN_some hl269
  unfold m_spec_l21DrawFaults_l1 at hm
  refine WP.seq (fun K277 hK277 => ?_)
  refine WP.seq (fun K278 hK278 => ?_)
  refine WP.region ?_
  refine WL.runk 2 [0, 3, 4, 7] [(0, .pointer (some ⟨b0', 0, none⟩)), (3, .slice a262 st261.1.length c263), (4, .int .i64 st261.2.1), (7, .bool (decide (st261.2.1 < 5)))] (by kernel_rfl) ?_
  refine WL.nil ?_
  refine WQ.then_normal (hK278 _ _ _ ?_)
  refine WP.cond (decide (st261.2.1 < 5)) rfl rfl (fun hc279 => ?_) (fun hc279 => ?_)
  · have hm := iteT hm hc279
    refine WP.skip ?_
    refine WQ.then_normal (hK277 _ _ _ ?_)
    refine WP.seq (fun K280 hK280 => ?_)
    refine WP.block ?_
    refine WP.seq (fun K281 hK281 => ?_)
    refine WP.region ?_
    refine WL.runk 1 [0, 3, 4, 10] [(0, .pointer (some ⟨b0', 0, none⟩)), (3, .slice a262 st261.1.length c263), (4, .int .i64 st261.2.1), (10, .pointer (some ⟨b0', 0, none⟩))] (by kernel_rfl) ?_
    obtain ⟨x282, hx283, hm⟩ := bindE hm
    refine WL.call 48 #[.pointer (some ⟨b0', 0, none⟩), .int .i64 3] rfl rfl (by kernel_rfl) (c_48 n s_0_code a0_code' c0_code' st261.2.2.1 st261.2.2.2 b0' 3 w265 w0 B (aOwn fInt 2 a262 c263 st261.1 :: L) hx283 (Below.trans hE0 (Below.mono hb266 hW)) hW hL267 h0_code hle0_code (SH.front 1 hS268)) ?_
    rintro _ w284 ⟨rfl, hB288, hS287⟩
    refine ⟨_, rfl, ?_⟩
    have hb289 : Below B w w284 := Below.trans hb266 hB288
    have hL290 : B ≤ w284.heap.size := Nat.le_trans hL267 hB288.size
    refine WL.sub [(0, .pointer (some ⟨b0', 0, none⟩)), (3, .slice a262 st261.1.length c263), (4, .int .i64 st261.2.1), (11, .bool x282.1)] ⟨rfl, rfl, rfl, rfl, trivial⟩ ?_
    refine WL.nil ?_
    refine WQ.then_normal (hK281 _ _ _ ?_)
    obtain ⟨x310, hx311, hm⟩ := bindE hm
    refine WP.cut (fun env' w' => ∃ (a312 : Option Addr) (c313 : Nat), env' = [(0, .pointer (some ⟨b0', 0, none⟩)), (3, .slice a312 x310.length c313), (4, .int .i64 st261.2.1)] ∧ Below B w w' ∧ B ≤ w'.heap.size ∧ SH w' B (aOwn fInt 2 a312 c313 x310 :: aBox 82 b0' [.slice a0_code' s_0_code.length c0_code', .int .i64 x282.2.1, .int .u64 x282.2.2] :: L)) ?_ ?_
    rotate_left
    · clear hx311
      rintro _ w333 ⟨a312, c313, rfl, hb334, hL335, hS336⟩
      refine WQ.block_normal ?_
      refine WQ.then_normal (hK280 _ _ _ ?_)
      refine WP.region ?_
      refine WL.runk 3 [0, 3, 4] [(0, .pointer (some ⟨b0', 0, none⟩)), (3, .slice a312 x310.length c313), (4, .int .i64 (wI64 (st261.2.1 + 1)))] (by kernel_rfl) ?_
      refine WL.nil ?_
      obtain rfl := Option.some.inj hm
      exact WQ.round hK271 ⟨(x310, (wI64 (st261.2.1 + 1)), x282.2.1, x282.2.2), _, _, rfl, hb334, hL335, hS336, hl269⟩ (Nat.lt_succ_self _) ⟨rfl, rfl, rfl, trivial⟩
    have hm := hx311; clear hx311
    refine WP.cond x282.1 rfl rfl (fun hc291 => ?_) (fun hc291 => ?_)
    rotate_left
    · have hm := iteF hm hc291
      refine WP.skip ?_
      obtain rfl := Option.some.inj hm
      exact WQ.post' ⟨_, _, rfl, hb289, hL290, (SH.front 1 hS287)⟩ ⟨rfl, rfl, rfl, trivial⟩
    have hm := iteT hm hc291
    refine WP.region ?_
    refine WL.runk 2 [0, 4, 12, 13] [(0, .pointer (some ⟨b0', 0, none⟩)), (4, .int .i64 st261.2.1), (12, .slice a262 st261.1.length c263), (13, .int .i64 st261.2.1)] (by kernel_rfl) ?_
    refine WL.row fInt 2 ([st261.2.1] : List Int) 1 #[.int .i64 st261.2.1] 14 (by kernel_rfl) rfl rfl rfl rfl rfl rfl rfl ?_
    intro a315 c316 w317 hE318 hR319
    have hb321 : Below B w w317 := Below.trans hb289 (Below.mono hE318 hL290)
    have hL322 : B ≤ w317.heap.size := Nat.le_trans hL290 hE318.size
    have hS323 : SH w317 B (aOwn fInt 2 a315 c316 ([st261.2.1] : List Int) :: aBox 82 b0' [.slice a0_code' s_0_code.length c0_code', .int .i64 x282.2.1, .int .u64 x282.2.2] :: aOwn fInt 2 a262 c263 st261.1 :: L) := SH.add hS287 hE318 hL290 hR319
    obtain ⟨x324, hx325, hm⟩ := bindE hm
    refine WL.append (F := fInt) (xs := st261.1) (ys := ([st261.2.1] : List Int)) 15 (SH.front 2 hS323) hL322 (SH.rd (SH.front 0 hS323)) hx325 rfl rfl rfl Tryz.underlying25 (info2).1 (info2).2.2.1 (info2).2.1 (info2).2.2.2 rfl rfl rfl rfl rfl ?_
    intro a326 c327 w328 hB329 hS330
    have hb331 : Below B w w328 := Below.trans hb321 hB329
    have hL332 : B ≤ w328.heap.size := Nat.le_trans hL322 hB329.size
    refine WL.runk 1 [0, 3, 4] [(0, .pointer (some ⟨b0', 0, none⟩)), (4, .int .i64 st261.2.1), (3, .slice a326 x324.length c327)] (by kernel_rfl) ?_
    refine WL.nil ?_
    obtain rfl := Option.some.inj hm
    exact WQ.post' ⟨_, _, rfl, hb331, hL332, (SH.cutOut 2 1 (SH.front 1 (SH.front 2 hS330)))⟩ ⟨rfl, rfl, rfl, trivial⟩
  have hm := iteF hm hc279
  refine WP.exit ?_
  refine WQ.then_exit ?_
  refine WQ.then_exit ?_
  refine WQ.block_here ?_
  obtain rfl := Option.some.inj hm
  obtain rfl := afterN_done hl269
  have hm := hmo270
  refine WQ.then_normal (hK12 _ _ _ ?_)
  refine WP.seq (fun K337 hK337 => ?_)
  refine WP.seq (fun K338 hK338 => ?_)
  refine WP.region ?_
  refine WL.runk 1 [0, 3, 16] [(0, .pointer (some ⟨b0', 0, none⟩)), (3, .slice a262 st261.1.length c263), (16, .pointer (some ⟨b0', 0, none⟩))] (by kernel_rfl) ?_
  obtain ⟨x339, hx340, hm⟩ := bindE hm
  refine WL.call 48 #[.pointer (some ⟨b0', 0, none⟩), .int .i64 12] rfl rfl (by kernel_rfl) (c_48 n s_0_code a0_code' c0_code' st261.2.2.1 st261.2.2.2 b0' 12 w265 w0 B (aOwn fInt 2 a262 c263 st261.1 :: L) hx340 (Below.trans hE0 (Below.mono hb266 hW)) hW hL267 h0_code hle0_code (SH.front 1 hS268)) ?_
  rintro _ w341 ⟨rfl, hB345, hS344⟩
  refine ⟨_, rfl, ?_⟩
  have hb346 : Below B w w341 := Below.trans hb266 hB345
  have hL347 : B ≤ w341.heap.size := Nat.le_trans hL267 hB345.size
  refine WL.sub [(0, .pointer (some ⟨b0', 0, none⟩)), (3, .slice a262 st261.1.length c263), (17, .bool x339.1)] ⟨rfl, rfl, rfl, trivial⟩ ?_
  refine WL.nil ?_
  refine WQ.then_normal (hK338 _ _ _ ?_)
  obtain ⟨x462, hx463, hm⟩ := bindE hm
  refine WP.cut (fun env' w' => ∃ (a464 : Option Addr) (c465 : Nat), env' = [(3, .slice a464 x462.1.length c465)] ∧ Below B w w' ∧ B ≤ w'.heap.size ∧ SH w' B (aOwn fInt 2 a464 c465 x462.1 :: aBox 82 b0' [.slice a0_code' s_0_code.length c0_code', .int .i64 x462.2.1, .int .u64 x462.2.2] :: L)) ?_ ?_
  rotate_left
  · clear hx463
    rintro _ w503 ⟨a464, c465, rfl, hb504, hL505, hS506⟩
    refine WQ.then_normal (hK337 _ _ _ ?_)
    refine WP.seq (fun K507 hK507 => ?_)
    refine WP.region ?_
    refine WL.runk 2 [2] [(2, .slice a464 x462.1.length c465)] (by kernel_rfl) ?_
    refine WL.nil ?_
    refine WQ.then_normal (hK507 _ _ _ ?_)
    refine WP.ret ?_
    obtain rfl := Option.some.inj hm
    exact WQ.ret1 _ rfl rfl ⟨_, _, rfl, hb504, hS506⟩
  have hm := hx463; clear hx463
  refine WP.cond x339.1 rfl rfl (fun hc348 => ?_) (fun hc348 => ?_)
  rotate_left
  · have hm := iteF hm hc348
    refine WP.skip ?_
    obtain rfl := Option.some.inj hm
    exact WQ.post' ⟨_, _, rfl, hb346, hL347, (SH.front 1 hS344)⟩ ⟨rfl, trivial⟩
  have hm := iteT hm hc348
  refine WP.region ?_
  refine WL.runk 2 [18, 19] [(18, .slice a262 st261.1.length c263), (19, .pointer (some ⟨b0', 0, none⟩))] (by kernel_rfl) ?_
  refine WL.row fInt 2 ([(-1), 4, 9, 10] : List Int) 4 #[.int .i64 (-1), .int .i64 4, .int .i64 9, .int .i64 10] 20 (by kernel_rfl) rfl rfl rfl rfl rfl rfl rfl ?_
  intro a467 c468 w469 hE470 hR471
  have hb473 : Below B w w469 := Below.trans hb346 (Below.mono hE470 hL347)
  have hL474 : B ≤ w469.heap.size := Nat.le_trans hL347 hE470.size
  have hS475 : SH w469 B (aOwn fInt 2 a467 c468 ([(-1), 4, 9, 10] : List Int) :: aBox 82 b0' [.slice a0_code' s_0_code.length c0_code', .int .i64 x339.2.1, .int .u64 x339.2.2] :: aOwn fInt 2 a262 c263 st261.1 :: L) := SH.add hS344 hE470 hL347 hR471
  obtain ⟨x476, hx477, hm⟩ := bindE hm
  refine WL.call 49 #[.pointer (some ⟨b0', 0, none⟩), .slice a467 (([(-1), 4, 9, 10] : List Int).length) c468] rfl rfl (by kernel_rfl) (c_49_o1 n s_0_code a0_code' c0_code' x339.2.1 x339.2.2 b0' ([(-1), 4, 9, 10] : List Int) a467 c468 w469 w0 B (aOwn fInt 2 a262 c263 st261.1 :: L) hx477 (Below.trans hE0 (Below.mono hb473 hW)) hW hL474 h0_code hle0_code (SH.front 2 (SH.front 1 (SH.front 2 hS475)))) ?_
  rintro _ w478 ⟨rfl, hB482, hS481⟩
  refine ⟨_, rfl, ?_⟩
  have hb483 : Below B w w478 := Below.trans hb473 hB482
  have hL484 : B ≤ w478.heap.size := Nat.le_trans hL474 hB482.size
  refine WL.row fInt 2 ([x476.1] : List Int) 1 #[.int .i64 x476.1] 22 (by kernel_rfl) rfl rfl rfl rfl rfl rfl rfl ?_
  intro a485 c486 w487 hE488 hR489
  have hb491 : Below B w w487 := Below.trans hb483 (Below.mono hE488 hL484)
  have hL492 : B ≤ w487.heap.size := Nat.le_trans hL484 hE488.size
  have hS493 : SH w487 B (aOwn fInt 2 a485 c486 ([x476.1] : List Int) :: aBox 82 b0' [.slice a0_code' s_0_code.length c0_code', .int .i64 x476.2.1, .int .u64 x476.2.2] :: aOwn fInt 2 a467 c468 ([(-1), 4, 9, 10] : List Int) :: aOwn fInt 2 a262 c263 st261.1 :: L) := SH.add hS481 hE488 hL484 hR489
  obtain ⟨x494, hx495, hm⟩ := bindE hm
  refine WL.append (F := fInt) (xs := st261.1) (ys := ([x476.1] : List Int)) 23 (SH.front 3 hS493) hL492 (SH.rd (SH.front 0 hS493)) hx495 rfl rfl rfl Tryz.underlying25 (info2).1 (info2).2.2.1 (info2).2.1 (info2).2.2.2 rfl rfl rfl rfl rfl ?_
  intro a496 c497 w498 hB499 hS500
  have hb501 : Below B w w498 := Below.trans hb491 hB499
  have hL502 : B ≤ w498.heap.size := Nat.le_trans hL492 hB499.size
  refine WL.runk 1 [3] [(3, .slice a496 x494.length c497)] (by kernel_rfl) ?_
  refine WL.nil ?_
  obtain rfl := Option.some.inj hm
  exact WQ.post' ⟨_, _, rfl, hb501, hL502, (SH.cutOut 2 2 (SH.front 1 (SH.front 2 hS500)))⟩ ⟨rfl, trivial⟩

theorem c_69 (n : Nat) (code_0 : List Int) (a0' : Option Addr) (c0' : Nat) (w : World) {r : List SRepair × List Int × List Int} (hm : m_spec_l21DrawSome n code_0 = some r) (h0 : Rd fU8.ty w a0' code_0) (hle0 : code_0.length ≤ c0') :
    CallV Tryz.prog 69 #[.slice a0' code_0.length c0'] w (fun v w' => ∃ (ra0 : Option Addr) (rc0 : Nat) (ra1 : Option Addr) (rc1 : Nat) (ra2 : Option Addr) (rc2 : Nat), v = .tuple #[.slice ra0 r.1.length rc0, .slice ra1 r.2.1.length rc1, .slice ra2 r.2.2.length rc2] ∧ Ext w w' ∧ SH w' w.heap.size [aNest fRepair 48 2 ra0 rc0 r.1, aOwn fInt 2 ra1 rc1 r.2.1, aOwn fInt 2 ra2 rc2 r.2.2]) := by
  unfold m_spec_l21DrawSome at hm
  refine CallV.enter Tryz.func69 rfl (by kernel_rfl) Tryz.ntmps69 (env := [(0, .slice a0' code_0.length c0')]) ⟨rfl, trivial⟩ ?_
  refine WP.seq (fun K1 hK1 => ?_)
  refine WP.region ?_
  refine WL.runk 3 [0] [(0, .slice a0' code_0.length c0')] (by kernel_rfl) ?_
  refine WL.nil ?_
  refine WQ.then_normal (hK1 _ _ _ ?_)
  refine WP.seq (fun K2 hK2 => ?_)
  refine WP.region ?_
  refine WL.runk 1 [10] [(10, .slice a0' code_0.length c0')] (by kernel_rfl) ?_
  obtain ⟨x3, hx4, hm⟩ := bindE hm
  refine WL.call 46 #[.slice a0' code_0.length c0'] rfl rfl (by kernel_rfl) (c_46 n code_0 a0' c0' w hx4 (Rd.below h0 (Ext.refl w)) hle0) ?_
  rintro _ w7 ⟨b5, rfl, hE8, hR9⟩
  refine ⟨_, rfl, ?_⟩
  have hb10 : Ext w w7 := Ext.trans (Ext.refl w) hE8
  have hL11 : w.heap.size ≤ w7.heap.size := Nat.le_trans (Nat.le_refl _) hE8.size
  have hS12 : SH w7 w.heap.size [aBox 82 b5 [.slice a0' code_0.length c0', .int .i64 x3.1, .int .u64 x3.2]] := SH.add (SH.nil _ _) hE8 (Nat.le_refl _) hR9
  refine WL.runk 1 [5] [(5, .pointer (some ⟨b5, 0, none⟩))] (by kernel_rfl) ?_
  refine WL.nil ?_
  refine WQ.then_normal (hK2 _ _ _ ?_)
  refine WP.seq (fun K13 hK13 => ?_)
  refine WP.region ?_
  refine WL.runk 1 [5, 12] [(5, .pointer (some ⟨b5, 0, none⟩)), (12, .pointer (some ⟨b5, 0, none⟩))] (by kernel_rfl) ?_
  obtain ⟨x14, hx15, hm⟩ := bindE hm
  refine WL.call 47 #[.pointer (some ⟨b5, 0, none⟩)] rfl rfl (by kernel_rfl) (c_47 n code_0 a0' c0' x3.1 x3.2 b5 w7 w w.heap.size [] hx15 hb10 (Nat.le_refl _) hL11 h0 hle0 hS12) ?_
  rintro _ w19 ⟨a16, c17, rfl, hB23, hS22⟩
  refine ⟨_, rfl, ?_⟩
  have hb24 : Ext w w19 := Below.trans hb10 hB23
  have hL25 : w.heap.size ≤ w19.heap.size := Nat.le_trans hL11 hB23.size
  refine WL.runk 1 [5, 6] [(5, .pointer (some ⟨b5, 0, none⟩)), (6, .slice a16 x14.1.length c17)] (by kernel_rfl) ?_
  refine WL.nil ?_
  refine WQ.then_normal (hK13 _ _ _ ?_)
  refine WP.seq (fun K26 hK26 => ?_)
  refine WP.region ?_
  refine WL.runk 1 [5, 6, 14] [(5, .pointer (some ⟨b5, 0, none⟩)), (6, .slice a16 x14.1.length c17), (14, .pointer (some ⟨b5, 0, none⟩))] (by kernel_rfl) ?_
  obtain ⟨x27, hx28, hm⟩ := bindE hm
  refine WL.call 86 #[.pointer (some ⟨b5, 0, none⟩)] rfl rfl (by kernel_rfl) (c_86 n code_0 a0' c0' x14.2.1 x14.2.2 b5 w19 w w.heap.size [aNest fRepair 48 2 a16 c17 x14.1] hx28 hb24 (Nat.le_refl _) hL25 h0 hle0 (SH.front 1 hS22)) ?_
  rintro _ w32 ⟨a29, c30, rfl, hB36, hS35⟩
  refine ⟨_, rfl, ?_⟩
  have hb37 : Ext w w32 := Below.trans hb24 hB36
  have hL38 : w.heap.size ≤ w32.heap.size := Nat.le_trans hL25 hB36.size
  refine WL.runk 1 [5, 6, 7] [(5, .pointer (some ⟨b5, 0, none⟩)), (6, .slice a16 x14.1.length c17), (7, .slice a29 x27.1.length c30)] (by kernel_rfl) ?_
  refine WL.nil ?_
  refine WQ.then_normal (hK26 _ _ _ ?_)
  refine WP.seq (fun K39 hK39 => ?_)
  refine WP.region ?_
  refine WL.row fInt 2 ([] : List Int) 0 #[] 16 (by kernel_rfl) rfl rfl rfl rfl rfl rfl rfl ?_
  intro a40 c41 w42 hE43 hR44
  have hb46 : Ext w w42 := Ext.trans hb37 hE43
  have hL47 : w.heap.size ≤ w42.heap.size := Nat.le_trans hL38 hE43.size
  have hS48 : SH w42 w.heap.size [aOwn fInt 2 a40 c41 ([] : List Int), aOwn fInt 2 a29 c30 x27.1, aBox 82 b5 [.slice a0' code_0.length c0', .int .i64 x27.2.1, .int .u64 x27.2.2], aNest fRepair 48 2 a16 c17 x14.1] := SH.add hS35 hE43 hL38 hR44
  refine WL.runk 1 [5, 6, 7, 8] [(5, .pointer (some ⟨b5, 0, none⟩)), (6, .slice a16 x14.1.length c17), (7, .slice a29 x27.1.length c30), (8, .slice a40 (([] : List Int).length) c41)] (by kernel_rfl) ?_
  refine WL.nil ?_
  refine WQ.then_normal (hK39 _ _ _ ?_)
  refine WP.seq (fun K49 hK49 => ?_)
  refine WP.seq (fun K50 hK50 => ?_)
  refine WP.region ?_
  refine WL.runk 1 [5, 6, 7, 8, 9] [(5, .pointer (some ⟨b5, 0, none⟩)), (6, .slice a16 x14.1.length c17), (7, .slice a29 x27.1.length c30), (8, .slice a40 (([] : List Int).length) c41), (9, .int .i64 0)] (by kernel_rfl) ?_
  refine WL.nil ?_
  refine WQ.then_normal (hK50 _ _ _ ?_)
  refine WP.block ?_
  obtain ⟨t426, ht427, hm⟩ := bindE hm
  have hmo421 := hm; clear hm
  refine WP.sub [(5, .pointer (some ⟨b5, 0, none⟩)), (6, .slice a16 x14.1.length c17), (7, .slice a29 x27.1.length c30), (8, .slice a40 (([] : List Int).length) c41), (9, .int .i64 0)] ⟨rfl, rfl, rfl, rfl, rfl, trivial⟩ ?_
  refine WP.loop (fun n' env' w' => ∃ (st412 : List Int × Int × Int × Int) (a413 : Option Addr) (c414 : Nat), env' = [(5, .pointer (some ⟨b5, 0, none⟩)), (6, .slice a16 x14.1.length c17), (7, .slice a29 x27.1.length c30), (8, .slice a413 st412.1.length c414), (9, .int .i64 st412.2.1)] ∧ Ext w w' ∧ w.heap.size ≤ w'.heap.size ∧ SH w' w.heap.size [aOwn fInt 2 a413 c414 st412.1, aOwn fInt 2 a29 c30 x27.1, aBox 82 b5 [.slice a0' code_0.length c0', .int .i64 st412.2.2.1, .int .u64 st412.2.2.2], aNest fRepair 48 2 a16 c17 x14.1] ∧ loopN (m_spec_l21DrawSome_l1 n code_0 x14) n' st412 = some t426) n ⟨(([] : List Int), 0, x27.2.1, x27.2.2), _, _, rfl, hb46, hL47, hS48, ht427⟩ ?_
  rintro n423 _ w416 ⟨st412, a413, c414, rfl, hb417, hL418, hS419, hl420⟩ K422 hK422
  obtain ⟨n424, s425, rfl, hm, hl420⟩ := loopN_some hl420
  unfold m_spec_l21DrawSome_l1 at hm
  refine WP.seq (fun K428 hK428 => ?_)
  refine WP.seq (fun K429 hK429 => ?_)
  refine WP.region ?_
  refine WL.runk 4 [5, 6, 7, 8, 9, 20] [(5, .pointer (some ⟨b5, 0, none⟩)), (6, .slice a16 x14.1.length c17), (7, .slice a29 x27.1.length c30), (8, .slice a413 st412.1.length c414), (9, .int .i64 st412.2.1), (20, .bool (decide (st412.2.1 < (x14.1.length : Int))))] (by kernel_rfl) ?_
  refine WL.nil ?_
  refine WQ.then_normal (hK429 _ _ _ ?_)
  refine WP.cond (decide (st412.2.1 < (x14.1.length : Int))) rfl rfl (fun hc430 => ?_) (fun hc430 => ?_)
  · have hm := iteT hm hc430
    refine WP.skip ?_
    refine WQ.then_normal (hK428 _ _ _ ?_)
    refine WP.seq (fun K431 hK431 => ?_)
    refine WP.block ?_
    refine WP.seq (fun K432 hK432 => ?_)
    refine WP.region ?_
    refine WL.runk 1 [5, 6, 7, 8, 9, 23] [(5, .pointer (some ⟨b5, 0, none⟩)), (6, .slice a16 x14.1.length c17), (7, .slice a29 x27.1.length c30), (8, .slice a413 st412.1.length c414), (9, .int .i64 st412.2.1), (23, .pointer (some ⟨b5, 0, none⟩))] (by kernel_rfl) ?_
    obtain ⟨x433, hx434, hm⟩ := bindE hm
    refine WL.call 48 #[.pointer (some ⟨b5, 0, none⟩), .int .i64 3] rfl rfl (by kernel_rfl) (c_48 n code_0 a0' c0' st412.2.2.1 st412.2.2.2 b5 3 w416 w w.heap.size [aOwn fInt 2 a413 c414 st412.1, aOwn fInt 2 a29 c30 x27.1, aNest fRepair 48 2 a16 c17 x14.1] hx434 hb417 (Nat.le_refl _) hL418 h0 hle0 (SH.front 3 (SH.front 2 (SH.front 2 (SH.front 3 hS419))))) ?_
    rintro _ w435 ⟨rfl, hB439, hS438⟩
    refine ⟨_, rfl, ?_⟩
    have hb440 : Ext w w435 := Below.trans hb417 hB439
    have hL441 : w.heap.size ≤ w435.heap.size := Nat.le_trans hL418 hB439.size
    refine WL.runk 1 [5, 6, 7, 8, 9, 25] [(5, .pointer (some ⟨b5, 0, none⟩)), (6, .slice a16 x14.1.length c17), (7, .slice a29 x27.1.length c30), (8, .slice a413 st412.1.length c414), (9, .int .i64 st412.2.1), (25, .bool (!x433.1))] (by kernel_rfl) ?_
    refine WL.nil ?_
    refine WQ.then_normal (hK432 _ _ _ ?_)
    obtain ⟨x461, hx462, hm⟩ := bindE hm
    refine WP.cut (fun env' w' => ∃ (a463 : Option Addr) (c464 : Nat), env' = [(5, .pointer (some ⟨b5, 0, none⟩)), (6, .slice a16 x14.1.length c17), (7, .slice a29 x27.1.length c30), (8, .slice a463 x461.length c464), (9, .int .i64 st412.2.1)] ∧ Ext w w' ∧ w.heap.size ≤ w'.heap.size ∧ SH w' w.heap.size [aOwn fInt 2 a463 c464 x461, aBox 82 b5 [.slice a0' code_0.length c0', .int .i64 x433.2.1, .int .u64 x433.2.2], aOwn fInt 2 a29 c30 x27.1, aNest fRepair 48 2 a16 c17 x14.1]) ?_ ?_
    rotate_left
    · clear hx462
      rintro _ w484 ⟨a463, c464, rfl, hb485, hL486, hS487⟩
      refine WQ.block_normal ?_
      refine WQ.then_normal (hK431 _ _ _ ?_)
      refine WP.region ?_
      refine WL.runk 3 [5, 6, 7, 8, 9] [(5, .pointer (some ⟨b5, 0, none⟩)), (6, .slice a16 x14.1.length c17), (7, .slice a29 x27.1.length c30), (8, .slice a463 x461.length c464), (9, .int .i64 (wI64 (st412.2.1 + 1)))] (by kernel_rfl) ?_
      refine WL.nil ?_
      obtain rfl := Option.some.inj hm
      exact WQ.round hK422 ⟨(x461, (wI64 (st412.2.1 + 1)), x433.2.1, x433.2.2), _, _, rfl, hb485, hL486, (SH.front 3 (SH.front 3 (SH.front 2 (SH.front 3 hS487)))), hl420⟩ (Nat.lt_succ_self _) ⟨rfl, rfl, rfl, rfl, rfl, trivial⟩
    have hm := hx462; clear hx462
    refine WP.cond (!x433.1) rfl rfl (fun hc442 => ?_) (fun hc442 => ?_)
    rotate_left
    · have hm := iteF hm hc442
      refine WP.skip ?_
      obtain rfl := Option.some.inj hm
      exact WQ.post' ⟨_, _, rfl, hb440, hL441, (SH.front 3 (SH.front 2 (SH.front 3 (SH.front 3 hS438))))⟩ ⟨rfl, rfl, rfl, rfl, rfl, trivial⟩
    have hm := iteT hm hc442
    refine WP.region ?_
    refine WL.runk 2 [5, 6, 7, 9, 26, 27] [(5, .pointer (some ⟨b5, 0, none⟩)), (6, .slice a16 x14.1.length c17), (7, .slice a29 x27.1.length c30), (9, .int .i64 st412.2.1), (26, .slice a413 st412.1.length c414), (27, .int .i64 st412.2.1)] (by kernel_rfl) ?_
    refine WL.row fInt 2 ([st412.2.1] : List Int) 1 #[.int .i64 st412.2.1] 28 (by kernel_rfl) rfl rfl rfl rfl rfl rfl rfl ?_
    intro a466 c467 w468 hE469 hR470
    have hb472 : Ext w w468 := Ext.trans hb440 hE469
    have hL473 : w.heap.size ≤ w468.heap.size := Nat.le_trans hL441 hE469.size
    have hS474 : SH w468 w.heap.size [aOwn fInt 2 a466 c467 ([st412.2.1] : List Int), aBox 82 b5 [.slice a0' code_0.length c0', .int .i64 x433.2.1, .int .u64 x433.2.2], aOwn fInt 2 a413 c414 st412.1, aOwn fInt 2 a29 c30 x27.1, aNest fRepair 48 2 a16 c17 x14.1] := SH.add hS438 hE469 hL441 hR470
    obtain ⟨x475, hx476, hm⟩ := bindE hm
    refine WL.append (F := fInt) (xs := st412.1) (ys := ([st412.2.1] : List Int)) 29 (SH.front 2 hS474) hL473 (SH.rd (SH.front 0 hS474)) hx476 rfl rfl rfl Tryz.underlying25 (info2).1 (info2).2.2.1 (info2).2.1 (info2).2.2.2 rfl rfl rfl rfl rfl ?_
    intro a477 c478 w479 hB480 hS481
    have hb482 : Ext w w479 := Below.trans hb472 hB480
    have hL483 : w.heap.size ≤ w479.heap.size := Nat.le_trans hL473 hB480.size
    refine WL.runk 1 [5, 6, 7, 8, 9] [(5, .pointer (some ⟨b5, 0, none⟩)), (6, .slice a16 x14.1.length c17), (7, .slice a29 x27.1.length c30), (9, .int .i64 st412.2.1), (8, .slice a477 x475.length c478)] (by kernel_rfl) ?_
    refine WL.nil ?_
    obtain rfl := Option.some.inj hm
    exact WQ.post' ⟨_, _, rfl, hb482, hL483, (SH.take 4 (SH.front 3 (SH.front 4 (SH.front 4 (SH.front 4 hS481)))))⟩ ⟨rfl, rfl, rfl, rfl, rfl, trivial⟩
  have hm := iteF hm hc430
  refine WP.exit ?_
  refine WQ.then_exit ?_
  refine WQ.then_exit ?_
  refine WQ.block_here ?_
  obtain rfl := Option.some.inj hm
  obtain rfl := afterN_done hl420
  have hm := hmo421
  refine WQ.then_normal (hK49 _ _ _ ?_)
  refine WP.seq (fun K488 hK488 => ?_)
  refine WP.seq (fun K489 hK489 => ?_)
  obtain ⟨x546, hx547, hm⟩ := bindE hm
  refine WP.cut (fun env' w' => env' = [(5, .pointer (some ⟨b5, 0, none⟩)), (6, .slice a16 x14.1.length c17), (7, .slice a29 x27.1.length c30), (8, .slice a413 st412.1.length c414), (38, .bool x546.1)] ∧ Ext w w' ∧ w.heap.size ≤ w'.heap.size ∧ SH w' w.heap.size [aOwn fInt 2 a413 c414 st412.1, aOwn fInt 2 a29 c30 x27.1, aBox 82 b5 [.slice a0' code_0.length c0', .int .i64 x546.2.1, .int .u64 x546.2.2], aNest fRepair 48 2 a16 c17 x14.1]) ?_ ?_
  · have hm := hx547; clear hx547
    refine WP.region ?_
    refine WL.runk 2 [5, 6, 7, 8, 30, 31] [(5, .pointer (some ⟨b5, 0, none⟩)), (6, .slice a16 x14.1.length c17), (7, .slice a29 x27.1.length c30), (8, .slice a413 st412.1.length c414), (30, .slice a16 x14.1.length c17), (31, .slice a413 st412.1.length c414)] (by kernel_rfl) ?_
    obtain ⟨x548, hx549, hm⟩ := bindE hm
    refine WL.call 33 #[.slice a16 x14.1.length c17, .slice a413 st412.1.length c414] rfl rfl (by kernel_rfl) (c_33 n x14.1 a16 c17 st412.1 a413 c414 w416 hx549 (SH.rdN (SH.front 3 hS419)) (SH.leN (SH.front 3 hS419)).1 (SH.rd (SH.front 0 hS419)) (SH.le (SH.front 0 hS419)).1) ?_
    rintro _ w550 ⟨rfl, hE551⟩
    refine ⟨_, rfl, ?_⟩
    have hb553 : Ext w w550 := Ext.trans hb417 hE551
    have hL554 : w.heap.size ≤ w550.heap.size := Nat.le_trans hL418 hE551.size
    have hS555 : SH w550 w.heap.size [aOwn fInt 2 a413 c414 st412.1, aOwn fInt 2 a29 c30 x27.1, aBox 82 b5 [.slice a0' code_0.length c0', .int .i64 st412.2.2.1, .int .u64 st412.2.2.2], aNest fRepair 48 2 a16 c17 x14.1] := SH.ext hS419 hE551
    refine WL.runk 2 [5, 6, 7, 8, 34] [(5, .pointer (some ⟨b5, 0, none⟩)), (6, .slice a16 x14.1.length c17), (7, .slice a29 x27.1.length c30), (8, .slice a413 st412.1.length c414), (34, .bool (x548 == 0))] (by kernel_rfl) ?_
    refine WL.case (x548 == 0) [34] ⟨rfl, trivial⟩ (fun hc556 => ?_) (fun hc556 => ?_)
    rotate_left
    · have hm := iteF hm hc556
      refine WL.runk 4 [5, 6, 7, 8, 38] [(5, .pointer (some ⟨b5, 0, none⟩)), (6, .slice a16 x14.1.length c17), (7, .slice a29 x27.1.length c30), (8, .slice a413 st412.1.length c414), (38, .bool false)] (by kernel_rfl) ?_
      refine WL.nil ?_
      obtain rfl := Option.some.inj hm
      exact WQ.post' ⟨rfl, hb553, hL554, hS555⟩ ⟨rfl, rfl, rfl, rfl, rfl, trivial⟩
    have hm := iteT hm hc556
    refine WL.runk 1 [5, 6, 7, 8, 34, 35] [(5, .pointer (some ⟨b5, 0, none⟩)), (6, .slice a16 x14.1.length c17), (7, .slice a29 x27.1.length c30), (8, .slice a413 st412.1.length c414), (34, .bool true), (35, .pointer (some ⟨b5, 0, none⟩))] (by kernel_rfl) ?_
    obtain ⟨x557, hx558, hm⟩ := bindE hm
    refine WL.call 48 #[.pointer (some ⟨b5, 0, none⟩), .int .i64 4] rfl rfl (by kernel_rfl) (c_48 n code_0 a0' c0' st412.2.2.1 st412.2.2.2 b5 4 w550 w w.heap.size [aOwn fInt 2 a413 c414 st412.1, aOwn fInt 2 a29 c30 x27.1, aNest fRepair 48 2 a16 c17 x14.1] hx558 hb553 (Nat.le_refl _) hL554 h0 hle0 (SH.front 3 (SH.front 2 (SH.front 2 (SH.front 3 hS555))))) ?_
    rintro _ w559 ⟨rfl, hB563, hS562⟩
    refine ⟨_, rfl, ?_⟩
    have hb564 : Ext w w559 := Below.trans hb553 hB563
    have hL565 : w.heap.size ≤ w559.heap.size := Nat.le_trans hL554 hB563.size
    refine WL.runk 2 [5, 6, 7, 8, 38] [(5, .pointer (some ⟨b5, 0, none⟩)), (6, .slice a16 x14.1.length c17), (7, .slice a29 x27.1.length c30), (8, .slice a413 st412.1.length c414), (38, .bool (!x557.1))] (by kernel_rfl) ?_
    refine WL.nil ?_
    obtain rfl := Option.some.inj hm
    exact WQ.post' ⟨rfl, hb564, hL565, (SH.front 3 (SH.front 3 (SH.front 1 (SH.front 3 hS562))))⟩ ⟨rfl, rfl, rfl, rfl, rfl, trivial⟩
  clear hx547
  rintro _ w566 ⟨rfl, hb567, hL568, hS569⟩
  refine WQ.then_normal (hK489 _ _ _ ?_)
  obtain ⟨x582, hx583, hm⟩ := bindE hm
  refine WP.cut (fun env' w' => ∃ (a584 : Option Addr) (c585 : Nat), env' = [(5, .pointer (some ⟨b5, 0, none⟩)), (6, .slice a16 x14.1.length c17), (7, .slice a29 x27.1.length c30), (8, .slice a584 x582.length c585)] ∧ Ext w w' ∧ w.heap.size ≤ w'.heap.size ∧ SH w' w.heap.size [aOwn fInt 2 a584 c585 x582, aOwn fInt 2 a29 c30 x27.1, aBox 82 b5 [.slice a0' code_0.length c0', .int .i64 x546.2.1, .int .u64 x546.2.2], aNest fRepair 48 2 a16 c17 x14.1]) ?_ ?_
  · have hm := hx583; clear hx583
    refine WP.cond x546.1 rfl rfl (fun hc570 => ?_) (fun hc570 => ?_)
    rotate_left
    · have hm := iteF hm hc570
      refine WP.skip ?_
      obtain rfl := Option.some.inj hm
      exact WQ.post' ⟨_, _, rfl, hb567, hL568, hS569⟩ ⟨rfl, rfl, rfl, rfl, trivial⟩
    have hm := iteT hm hc570
    refine WP.region ?_
    refine WL.runk 2 [5, 6, 7, 39, 40] [(5, .pointer (some ⟨b5, 0, none⟩)), (6, .slice a16 x14.1.length c17), (7, .slice a29 x27.1.length c30), (39, .slice a16 x14.1.length c17), (40, .slice a413 st412.1.length c414)] (by kernel_rfl) ?_
    obtain ⟨x587, hx588, hm⟩ := bindE hm
    refine WL.call 34 #[.slice a16 x14.1.length c17, .slice a413 st412.1.length c414] rfl rfl (by kernel_rfl) (c_34 n x14.1 a16 c17 st412.1 a413 c414 w566 hx588 (SH.rdN (SH.front 3 hS569)) (SH.leN (SH.front 3 hS569)).1 (SH.rd (SH.front 0 hS569)) (SH.le (SH.front 0 hS569)).1) ?_
    rintro _ w592 ⟨a589, c590, rfl, hE593, hR594⟩
    refine ⟨_, rfl, ?_⟩
    have hb595 : Ext w w592 := Ext.trans hb567 hE593
    have hL596 : w.heap.size ≤ w592.heap.size := Nat.le_trans hL568 hE593.size
    have hS597 : SH w592 w.heap.size [aOwn fInt 2 a589 c590 x587, aOwn fInt 2 a413 c414 st412.1, aOwn fInt 2 a29 c30 x27.1, aBox 82 b5 [.slice a0' code_0.length c0', .int .i64 x546.2.1, .int .u64 x546.2.2], aNest fRepair 48 2 a16 c17 x14.1] := SH.add hS569 hE593 hL568 hR594
    refine WL.runk 1 [5, 6, 7, 8] [(5, .pointer (some ⟨b5, 0, none⟩)), (6, .slice a16 x14.1.length c17), (7, .slice a29 x27.1.length c30), (8, .slice a589 x587.length c590)] (by kernel_rfl) ?_
    refine WL.nil ?_
    obtain rfl := Option.some.inj hm
    exact WQ.post' ⟨_, _, rfl, hb595, hL596, (SH.take 4 (SH.front 3 (SH.front 4 (SH.front 4 (SH.front 4 hS597)))))⟩ ⟨rfl, rfl, rfl, rfl, trivial⟩
  clear hx583
  rintro _ w598 ⟨a584, c585, rfl, hb599, hL600, hS601⟩
  refine WQ.then_normal (hK488 _ _ _ ?_)
  refine WP.seq (fun K602 hK602 => ?_)
  refine WP.seq (fun K603 hK603 => ?_)
  refine WP.region ?_
  refine WL.runk 1 [5, 6, 7, 8, 42] [(5, .pointer (some ⟨b5, 0, none⟩)), (6, .slice a16 x14.1.length c17), (7, .slice a29 x27.1.length c30), (8, .slice a584 x582.length c585), (42, .pointer (some ⟨b5, 0, none⟩))] (by kernel_rfl) ?_
  obtain ⟨x604, hx605, hm⟩ := bindE hm
  refine WL.call 48 #[.pointer (some ⟨b5, 0, none⟩), .int .i64 16] rfl rfl (by kernel_rfl) (c_48 n code_0 a0' c0' x546.2.1 x546.2.2 b5 16 w598 w w.heap.size [aOwn fInt 2 a584 c585 x582, aOwn fInt 2 a29 c30 x27.1, aNest fRepair 48 2 a16 c17 x14.1] hx605 hb599 (Nat.le_refl _) hL600 h0 hle0 (SH.front 3 (SH.front 2 (SH.front 2 (SH.front 3 hS601))))) ?_
  rintro _ w606 ⟨rfl, hB610, hS609⟩
  refine ⟨_, rfl, ?_⟩
  have hb611 : Ext w w606 := Below.trans hb599 hB610
  have hL612 : w.heap.size ≤ w606.heap.size := Nat.le_trans hL600 hB610.size
  refine WL.sub [(5, .pointer (some ⟨b5, 0, none⟩)), (6, .slice a16 x14.1.length c17), (7, .slice a29 x27.1.length c30), (8, .slice a584 x582.length c585), (43, .bool x604.1)] ⟨rfl, rfl, rfl, rfl, rfl, trivial⟩ ?_
  refine WL.nil ?_
  refine WQ.then_normal (hK603 _ _ _ ?_)
  obtain ⟨x727, hx728, hm⟩ := bindE hm
  refine WP.cut (fun env' w' => ∃ (a729 : Option Addr) (c730 : Nat), env' = [(6, .slice a16 x14.1.length c17), (7, .slice a29 x27.1.length c30), (8, .slice a729 x727.1.length c730)] ∧ Ext w w' ∧ w.heap.size ≤ w'.heap.size ∧ SH w' w.heap.size [aOwn fInt 2 a729 c730 x727.1, aBox 82 b5 [.slice a0' code_0.length c0', .int .i64 x727.2.1, .int .u64 x727.2.2], aOwn fInt 2 a29 c30 x27.1, aNest fRepair 48 2 a16 c17 x14.1]) ?_ ?_
  rotate_left
  · clear hx728
    rintro _ w768 ⟨a729, c730, rfl, hb769, hL770, hS771⟩
    refine WQ.then_normal (hK602 _ _ _ ?_)
    refine WP.seq (fun K772 hK772 => ?_)
    refine WP.region ?_
    refine WL.runk 6 [2, 3, 4] [(2, .slice a16 x14.1.length c17), (3, .slice a729 x727.1.length c730), (4, .slice a29 x27.1.length c30)] (by kernel_rfl) ?_
    refine WL.nil ?_
    refine WQ.then_normal (hK772 _ _ _ ?_)
    refine WP.ret ?_
    obtain rfl := Option.some.inj hm
    exact WQ.ret3 _ _ _ rfl rfl rfl rfl ⟨_, _, _, _, _, _, rfl, hb769, (SH.take 3 (SH.front 3 (SH.front 1 (SH.front 2 hS771))))⟩
  have hm := hx728; clear hx728
  refine WP.cond x604.1 rfl rfl (fun hc613 => ?_) (fun hc613 => ?_)
  rotate_left
  · have hm := iteF hm hc613
    refine WP.skip ?_
    obtain rfl := Option.some.inj hm
    exact WQ.post' ⟨_, _, rfl, hb611, hL612, (SH.front 3 (SH.front 2 (SH.front 3 (SH.front 3 hS609))))⟩ ⟨rfl, rfl, rfl, trivial⟩
  have hm := iteT hm hc613
  refine WP.region ?_
  refine WL.runk 4 [6, 7, 44, 45, 47] [(6, .slice a16 x14.1.length c17), (7, .slice a29 x27.1.length c30), (44, .slice a584 x582.length c585), (45, .pointer (some ⟨b5, 0, none⟩)), (47, .int .i64 (x14.1.length : Int))] (by kernel_rfl) ?_
  refine WL.row fInt 2 ([(-1), 0, (x14.1.length : Int)] : List Int) 3 #[.int .i64 (-1), .int .i64 0, .int .i64 (x14.1.length : Int)] 48 (by kernel_rfl) rfl rfl rfl rfl rfl rfl rfl ?_
  intro a732 c733 w734 hE735 hR736
  have hb738 : Ext w w734 := Ext.trans hb611 hE735
  have hL739 : w.heap.size ≤ w734.heap.size := Nat.le_trans hL612 hE735.size
  have hS740 : SH w734 w.heap.size [aOwn fInt 2 a732 c733 ([(-1), 0, (x14.1.length : Int)] : List Int), aBox 82 b5 [.slice a0' code_0.length c0', .int .i64 x604.2.1, .int .u64 x604.2.2], aOwn fInt 2 a584 c585 x582, aOwn fInt 2 a29 c30 x27.1, aNest fRepair 48 2 a16 c17 x14.1] := SH.add hS609 hE735 hL612 hR736
  obtain ⟨x741, hx742, hm⟩ := bindE hm
  refine WL.call 49 #[.pointer (some ⟨b5, 0, none⟩), .slice a732 (([(-1), 0, (x14.1.length : Int)] : List Int).length) c733] rfl rfl (by kernel_rfl) (c_49_o1 n code_0 a0' c0' x604.2.1 x604.2.2 b5 ([(-1), 0, (x14.1.length : Int)] : List Int) a732 c733 w734 w w.heap.size [aOwn fInt 2 a584 c585 x582, aOwn fInt 2 a29 c30 x27.1, aNest fRepair 48 2 a16 c17 x14.1] hx742 hb738 (Nat.le_refl _) hL739 h0 hle0 (SH.front 4 (SH.front 3 (SH.front 4 (SH.front 4 (SH.front 4 hS740)))))) ?_
  rintro _ w743 ⟨rfl, hB747, hS746⟩
  refine ⟨_, rfl, ?_⟩
  have hb748 : Ext w w743 := Below.trans hb738 hB747
  have hL749 : w.heap.size ≤ w743.heap.size := Nat.le_trans hL739 hB747.size
  refine WL.row fInt 2 ([x741.1] : List Int) 1 #[.int .i64 x741.1] 50 (by kernel_rfl) rfl rfl rfl rfl rfl rfl rfl ?_
  intro a750 c751 w752 hE753 hR754
  have hb756 : Ext w w752 := Ext.trans hb748 hE753
  have hL757 : w.heap.size ≤ w752.heap.size := Nat.le_trans hL749 hE753.size
  have hS758 : SH w752 w.heap.size [aOwn fInt 2 a750 c751 ([x741.1] : List Int), aBox 82 b5 [.slice a0' code_0.length c0', .int .i64 x741.2.1, .int .u64 x741.2.2], aOwn fInt 2 a732 c733 ([(-1), 0, (x14.1.length : Int)] : List Int), aOwn fInt 2 a584 c585 x582, aOwn fInt 2 a29 c30 x27.1, aNest fRepair 48 2 a16 c17 x14.1] := SH.add hS746 hE753 hL749 hR754
  obtain ⟨x759, hx760, hm⟩ := bindE hm
  refine WL.append (F := fInt) (xs := x582) (ys := ([x741.1] : List Int)) 51 (SH.front 3 hS758) hL757 (SH.rd (SH.front 0 hS758)) hx760 rfl rfl rfl Tryz.underlying25 (info2).1 (info2).2.2.1 (info2).2.1 (info2).2.2.2 rfl rfl rfl rfl rfl ?_
  intro a761 c762 w763 hB764 hS765
  have hb766 : Ext w w763 := Below.trans hb756 hB764
  have hL767 : w.heap.size ≤ w763.heap.size := Nat.le_trans hL757 hB764.size
  refine WL.runk 1 [6, 7, 8] [(6, .slice a16 x14.1.length c17), (7, .slice a29 x27.1.length c30), (8, .slice a761 x759.length c762)] (by kernel_rfl) ?_
  refine WL.nil ?_
  obtain rfl := Option.some.inj hm
  exact WQ.post' ⟨_, _, rfl, hb766, hL767, (SH.take 4 (SH.front 3 (SH.front 4 (SH.front 5 (SH.front 5 hS765)))))⟩ ⟨rfl, rfl, rfl, trivial⟩

theorem c_29 (n : Nat) (code_0 : List Int) (a0' : Option Addr) (c0' : Nat) (w : World) {r : List SRepair × List Int} (hm : m_spec_l21Only n code_0 = some r) (h0 : Rd fU8.ty w a0' code_0) (hle0 : code_0.length ≤ c0') :
    CallV Tryz.prog 29 #[.slice a0' code_0.length c0'] w (fun v w' => ∃ (ra0 : Option Addr) (rc0 : Nat) (ra1 : Option Addr) (rc1 : Nat), v = .tuple #[.slice ra0 r.1.length rc0, .slice ra1 r.2.length rc1] ∧ Ext w w' ∧ SH w' w.heap.size [aNest fRepair 48 2 ra0 rc0 r.1, aOwn fInt 2 ra1 rc1 r.2]) := by
  unfold m_spec_l21Only at hm
  refine CallV.enter Tryz.func29 rfl (by kernel_rfl) Tryz.ntmps29 (env := [(0, .slice a0' code_0.length c0')]) ⟨rfl, trivial⟩ ?_
  refine WP.seq (fun K1 hK1 => ?_)
  refine WP.region ?_
  refine WL.runk 2 [0] [(0, .slice a0' code_0.length c0')] (by kernel_rfl) ?_
  refine WL.nil ?_
  refine WQ.then_normal (hK1 _ _ _ ?_)
  refine WP.seq (fun K2 hK2 => ?_)
  refine WP.region ?_
  refine WL.runk 1 [8] [(8, .slice a0' code_0.length c0')] (by kernel_rfl) ?_
  obtain ⟨x3, hx4, hm⟩ := bindE hm
  refine WL.call 69 #[.slice a0' code_0.length c0'] rfl rfl (by kernel_rfl) (c_69 n code_0 a0' c0' w hx4 (Rd.below h0 (Ext.refl w)) hle0) ?_
  rintro _ w14 ⟨a5, c6, a8, c9, a11, c12, rfl, hE15, hR16⟩
  refine ⟨_, rfl, ?_⟩
  have hb17 : Ext w w14 := Ext.trans (Ext.refl w) hE15
  have hL18 : w.heap.size ≤ w14.heap.size := Nat.le_trans (Nat.le_refl _) hE15.size
  have hS19 : SH w14 w.heap.size [aNest fRepair 48 2 a5 c6 x3.1, aOwn fInt 2 a8 c9 x3.2.1, aOwn fInt 2 a11 c12 x3.2.2] := SH.add (SH.nil _ _) hE15 (Nat.le_refl _) hR16
  refine WL.runk 7 [4, 5] [(4, .slice a5 x3.1.length c6), (5, .slice a8 x3.2.1.length c9)] (by kernel_rfl) ?_
  refine WL.nil ?_
  refine WQ.then_normal (hK2 _ _ _ ?_)
  refine WP.seq (fun K20 hK20 => ?_)
  refine WP.region ?_
  refine WL.runk 4 [2, 3] [(2, .slice a5 x3.1.length c6), (3, .slice a8 x3.2.1.length c9)] (by kernel_rfl) ?_
  refine WL.nil ?_
  refine WQ.then_normal (hK20 _ _ _ ?_)
  refine WP.ret ?_
  obtain rfl := Option.some.inj hm
  exact WQ.ret2 _ _ rfl rfl rfl ⟨_, _, _, _, rfl, hb17, (SH.take 2 (SH.front 1 (SH.front 1 hS19)))⟩

theorem c_5 (n : Nat) (code_0 : List Int) (a0' : Option Addr) (c0' : Nat) (w : World) {r : List SRepair × List Int} (hm : m_spec_DrawWithFirst n code_0 = some r) (h0 : Rd fU8.ty w a0' code_0) (hle0 : code_0.length ≤ c0') :
    CallV Tryz.prog 5 #[.slice a0' code_0.length c0'] w (fun v w' => ∃ (ra0 : Option Addr) (rc0 : Nat) (ra1 : Option Addr) (rc1 : Nat), v = .tuple #[.slice ra0 r.1.length rc0, .slice ra1 r.2.length rc1] ∧ Ext w w' ∧ SH w' w.heap.size [aNest fRepair 48 2 ra0 rc0 r.1, aOwn fInt 2 ra1 rc1 r.2]) := by
  unfold m_spec_DrawWithFirst at hm
  refine CallV.enter Tryz.func5 rfl (by kernel_rfl) Tryz.ntmps5 (env := [(0, .slice a0' code_0.length c0')]) ⟨rfl, trivial⟩ ?_
  refine WP.seq (fun K1 hK1 => ?_)
  refine WP.region ?_
  refine WL.runk 2 [0] [(0, .slice a0' code_0.length c0')] (by kernel_rfl) ?_
  refine WL.nil ?_
  refine WQ.then_normal (hK1 _ _ _ ?_)
  refine WP.seq (fun K2 hK2 => ?_)
  refine WP.region ?_
  refine WL.runk 1 [4] [(4, .slice a0' code_0.length c0')] (by kernel_rfl) ?_
  obtain ⟨x3, hx4, hm⟩ := bindE hm
  refine WL.call 29 #[.slice a0' code_0.length c0'] rfl rfl (by kernel_rfl) (c_29 n code_0 a0' c0' w hx4 (Rd.below h0 (Ext.refl w)) hle0) ?_
  rintro _ w11 ⟨a5, c6, a8, c9, rfl, hE12, hR13⟩
  refine ⟨_, rfl, ?_⟩
  have hb14 : Ext w w11 := Ext.trans (Ext.refl w) hE12
  have hL15 : w.heap.size ≤ w11.heap.size := Nat.le_trans (Nat.le_refl _) hE12.size
  have hS16 : SH w11 w.heap.size [aNest fRepair 48 2 a5 c6 x3.1, aOwn fInt 2 a8 c9 x3.2] := SH.add (SH.nil _ _) hE12 (Nat.le_refl _) hR13
  refine WL.runk 4 [2, 3] [(2, .slice a5 x3.1.length c6), (3, .slice a8 x3.2.length c9)] (by kernel_rfl) ?_
  refine WL.nil ?_
  refine WQ.then_normal (hK2 _ _ _ ?_)
  refine WP.ret ?_
  obtain rfl := Option.some.inj hm
  exact WQ.ret2 _ _ rfl rfl rfl ⟨_, _, _, _, rfl, hb14, hS16⟩

theorem c_51 (n : Nat) (n_0 : Int) (low_1 : Int) (high_2 : Int) (w : World) {r : Bool} (hm : m_impl_within n n_0 low_1 high_2 = some r)  :
    CallV Tryz.prog 51 #[.int .i64 n_0, .int .i64 low_1, .int .i64 high_2] w (fun v w' => v = .bool r ∧ Ext w w') := by
  unfold m_impl_within at hm
  refine CallV.enter Tryz.func51 rfl (by kernel_rfl) Tryz.ntmps51 (env := [(0, .int .i64 n_0), (1, .int .i64 low_1), (2, .int .i64 high_2)]) ⟨rfl, rfl, rfl, trivial⟩ ?_
  refine WP.seq (fun K1 hK1 => ?_)
  refine WP.region ?_
  refine WL.runk 1 [0, 1, 2] [(0, .int .i64 n_0), (1, .int .i64 low_1), (2, .int .i64 high_2)] (by kernel_rfl) ?_
  refine WL.nil ?_
  refine WQ.then_normal (hK1 _ _ _ ?_)
  refine WP.seq (fun K2 hK2 => ?_)
  obtain ⟨x4, hx5, hm⟩ := bindE hm
  refine WP.cut (fun env' w' => env' = [(6, .bool x4)] ∧ Ext w w' ∧ w.heap.size ≤ w'.heap.size ∧ SH w' w.heap.size []) ?_ ?_
  rotate_left
  · clear hx5
    rintro _ w7 ⟨rfl, hb8, hL9, hS10⟩
    refine WQ.then_normal (hK2 _ _ _ ?_)
    refine WP.ret ?_
    obtain rfl := Option.some.inj hm
    exact WQ.ret1 _ rfl rfl ⟨rfl, hb8⟩
  have hm := hx5; clear hx5
  refine WP.region ?_
  refine WL.runk 4 [0, 2, 10] [(0, .int .i64 n_0), (2, .int .i64 high_2), (10, .bool (decide (n_0 ≥ low_1)))] (by kernel_rfl) ?_
  refine WL.case (decide (n_0 ≥ low_1)) [10] ⟨rfl, trivial⟩ (fun hc6 => ?_) (fun hc6 => ?_)
  · have hm := iteT hm hc6
    refine WL.runk 5 [6] [(6, .bool (decide (n_0 ≤ high_2)))] (by kernel_rfl) ?_
    refine WL.nil ?_
    obtain rfl := Option.some.inj hm
    exact WQ.post' ⟨rfl, (Ext.refl w), (Nat.le_refl _), (SH.nil _ _)⟩ ⟨rfl, trivial⟩
  have hm := iteF hm hc6
  refine WL.runk 5 [6] [(6, .bool false)] (by kernel_rfl) ?_
  refine WL.nil ?_
  obtain rfl := Option.some.inj hm
  exact WQ.post' ⟨rfl, (Ext.refl w), (Nat.le_refl _), (SH.nil _ _)⟩ ⟨rfl, trivial⟩

theorem c_64 (n : Nat) (s_0 : List UInt8) (w : World) {r : Bool} (hm : m_impl_IsName n s_0 = some r)  :
    CallV Tryz.prog 64 #[.string (bs s_0)] w (fun v w' => v = .bool r ∧ Ext w w') := by
  unfold m_impl_IsName at hm
  refine CallV.enter Tryz.func64 rfl (by kernel_rfl) Tryz.ntmps64 (env := [(0, .string (bs s_0))]) ⟨rfl, trivial⟩ ?_
  refine WP.seq (fun K1 hK1 => ?_)
  refine WP.region ?_
  refine WL.runk 1 [0] [(0, .string (bs s_0))] (by kernel_rfl) ?_
  refine WL.nil ?_
  refine WQ.then_normal (hK1 _ _ _ ?_)
  refine WP.seq (fun K2 hK2 => ?_)
  refine WP.seq (fun K3 hK3 => ?_)
  obtain ⟨x11, hx12, hm⟩ := bindE hm
  refine WP.cut (fun env' w' => env' = [(0, .string (bs s_0)), (21, .bool x11)] ∧ Ext w w' ∧ w.heap.size ≤ w'.heap.size ∧ SH w' w.heap.size []) ?_ ?_
  · have hm := hx12; clear hx12
    refine WP.region ?_
    refine WL.runk 4 [0, 7] [(0, .string (bs s_0)), (7, .bool (decide ((s_0.length : Int) < 1)))] (by kernel_rfl) ?_
    refine WL.case (decide ((s_0.length : Int) < 1)) [7] ⟨rfl, trivial⟩ (fun hc13 => ?_) (fun hc13 => ?_)
    · have hm := iteT hm hc13
      refine WL.runk 14 [0, 21] [(0, .string (bs s_0)), (21, .bool true)] (by kernel_rfl) ?_
      refine WL.nil ?_
      obtain rfl := Option.some.inj hm
      exact WQ.post' ⟨rfl, (Ext.refl w), (Nat.le_refl _), (SH.nil _ _)⟩ ⟨rfl, rfl, trivial⟩
    have hm := iteF hm hc13
    refine WL.runk 5 [0, 12] [(0, .string (bs s_0)), (12, .bool (decide ((s_0.length : Int) > 12)))] (by kernel_rfl) ?_
    refine WL.case (decide ((s_0.length : Int) > 12)) [12] ⟨rfl, trivial⟩ (fun hc14 => ?_) (fun hc14 => ?_)
    · have hm := iteT hm hc14
      refine WL.runk 9 [0, 21] [(0, .string (bs s_0)), (21, .bool true)] (by kernel_rfl) ?_
      refine WL.nil ?_
      obtain rfl := Option.some.inj hm
      exact WQ.post' ⟨rfl, (Ext.refl w), (Nat.le_refl _), (SH.nil _ _)⟩ ⟨rfl, rfl, trivial⟩
    have hm := iteF hm hc14
    refine WL.runk 1 [0, 12, 13] [(0, .string (bs s_0)), (12, .bool false), (13, .string (bs s_0))] (by kernel_rfl) ?_
    obtain ⟨x15, hx16, hm⟩ := bindE hm
    refine WL.st (.int .u8 (x15.toNat : Int)) (ST.sindex hx16 rfl rfl rfl Tryz.underlying9) rfl rfl rfl ?_
    refine WL.runk 3 [0, 17] [(0, .string (bs s_0)), (17, .bool (decide ((x15.toNat : Int) < 97)))] (by kernel_rfl) ?_
    refine WL.case (decide ((x15.toNat : Int) < 97)) [17] ⟨rfl, trivial⟩ (fun hc17 => ?_) (fun hc17 => ?_)
    · have hm := iteT hm hc17
      refine WL.runk 4 [0, 21] [(0, .string (bs s_0)), (21, .bool true)] (by kernel_rfl) ?_
      refine WL.nil ?_
      obtain rfl := Option.some.inj hm
      exact WQ.post' ⟨rfl, (Ext.refl w), (Nat.le_refl _), (SH.nil _ _)⟩ ⟨rfl, rfl, trivial⟩
    have hm := iteF hm hc17
    refine WL.runk 1 [0, 17, 18] [(0, .string (bs s_0)), (17, .bool false), (18, .string (bs s_0))] (by kernel_rfl) ?_
    obtain ⟨x18, hx19, hm⟩ := bindE hm
    refine WL.st (.int .u8 (x18.toNat : Int)) (ST.sindex hx19 rfl rfl rfl Tryz.underlying9) rfl rfl rfl ?_
    refine WL.runk 2 [0, 21] [(0, .string (bs s_0)), (21, .bool (decide ((x18.toNat : Int) > 122)))] (by kernel_rfl) ?_
    refine WL.nil ?_
    obtain rfl := Option.some.inj hm
    exact WQ.post' ⟨rfl, (Ext.refl w), (Nat.le_refl _), (SH.nil _ _)⟩ ⟨rfl, rfl, trivial⟩
  clear hx12
  rintro _ w20 ⟨rfl, hb21, hL22, hS23⟩
  refine WQ.then_normal (hK3 _ _ _ ?_)
  refine WP.cond x11 rfl rfl (fun hc24 => ?_) (fun hc24 => ?_)
  · have hm := iteT hm hc24
    refine WP.seq (fun K25 hK25 => ?_)
    refine WP.region ?_
    refine WL.runk 1 [2] [(2, .bool false)] (by kernel_rfl) ?_
    refine WL.nil ?_
    refine WQ.then_normal (hK25 _ _ _ ?_)
    refine WP.ret ?_
    refine WQ.then_ret ?_
    obtain rfl := Option.some.inj hm
    exact WQ.ret1 _ rfl rfl ⟨rfl, hb21⟩
  have hm := iteF hm hc24
  refine WP.skip ?_
  refine WQ.then_normal (hK2 _ _ _ ?_)
  refine WP.seq (fun K26 hK26 => ?_)
  refine WP.seq (fun K27 hK27 => ?_)
  refine WP.region ?_
  refine WL.runk 1 [0, 3] [(0, .string (bs s_0)), (3, .int .i64 1)] (by kernel_rfl) ?_
  refine WL.nil ?_
  refine WQ.then_normal (hK27 _ _ _ ?_)
  refine WP.block ?_
  obtain ⟨t39, ht40, hm⟩ := bindE hm
  have hmo34 := hm; clear hm
  refine WP.sub [(0, .string (bs s_0)), (3, .int .i64 1)] ⟨rfl, rfl, trivial⟩ ?_
  refine WP.loop (fun n' env' w' => ∃ (st28 : Int) , env' = [(0, .string (bs s_0)), (3, .int .i64 st28)] ∧ Ext w w' ∧ w.heap.size ≤ w'.heap.size ∧ SH w' w.heap.size [] ∧ loopN (m_impl_IsName_l1 n s_0) n' st28 = some t39) n ⟨1, rfl, hb21, hL22, hS23, ht40⟩ ?_
  rintro n36 _ w29 ⟨st28, rfl, hb30, hL31, hS32, hl33⟩ K35 hK35
  obtain ⟨n37, s38, rfl, hm, hl33⟩ := loopN_some hl33
  unfold m_impl_IsName_l1 at hm
  refine WP.seq (fun K41 hK41 => ?_)
  refine WP.seq (fun K42 hK42 => ?_)
  refine WP.region ?_
  refine WL.runk 4 [0, 3, 25] [(0, .string (bs s_0)), (3, .int .i64 st28), (25, .bool (decide (st28 < (s_0.length : Int))))] (by kernel_rfl) ?_
  refine WL.nil ?_
  refine WQ.then_normal (hK42 _ _ _ ?_)
  refine WP.cond (decide (st28 < (s_0.length : Int))) rfl rfl (fun hc43 => ?_) (fun hc43 => ?_)
  rotate_left
  · have hm := iteF hm hc43
    refine WP.exit ?_
    refine WQ.then_exit ?_
    refine WQ.then_exit ?_
    refine WQ.block_here ?_
    obtain rfl := Option.some.inj hm
    obtain rfl := afterN_done hl33
    have hm := hmo34
    refine WQ.then_normal (hK26 _ _ _ ?_)
    refine WP.seq (fun K106 hK106 => ?_)
    refine WP.region ?_
    refine WL.runk 1 [2] [(2, .bool true)] (by kernel_rfl) ?_
    refine WL.nil ?_
    refine WQ.then_normal (hK106 _ _ _ ?_)
    refine WP.ret ?_
    obtain rfl := Option.some.inj hm
    exact WQ.ret1 _ rfl rfl ⟨rfl, hb30⟩
  have hm := iteT hm hc43
  refine WP.skip ?_
  refine WQ.then_normal (hK41 _ _ _ ?_)
  refine WP.seq (fun K44 hK44 => ?_)
  refine WP.block ?_
  refine WP.seq (fun K45 hK45 => ?_)
  obtain ⟨x72, hx73, hm⟩ := bindE hm
  refine WP.cut (fun env' w' => env' = [(0, .string (bs s_0)), (3, .int .i64 st28), (55, .bool x72)] ∧ Ext w w' ∧ w.heap.size ≤ w'.heap.size ∧ SH w' w.heap.size []) ?_ ?_
  rotate_left
  · clear hx73
    rintro _ w100 ⟨rfl, hb101, hL102, hS103⟩
    refine WQ.then_normal (hK45 _ _ _ ?_)
    refine WP.cond x72 rfl rfl (fun hc104 => ?_) (fun hc104 => ?_)
    rotate_left
    · have hm := iteF hm hc104
      refine WP.skip ?_
      refine WQ.block_normal ?_
      refine WQ.then_normal (hK44 _ _ _ ?_)
      refine WP.region ?_
      refine WL.runk 3 [0, 3] [(0, .string (bs s_0)), (3, .int .i64 (wI64 (st28 + 1)))] (by kernel_rfl) ?_
      refine WL.nil ?_
      obtain rfl := Option.some.inj hm
      exact WQ.round hK35 ⟨(wI64 (st28 + 1)), rfl, hb101, hL102, hS103, hl33⟩ (Nat.lt_succ_self _) ⟨rfl, rfl, trivial⟩
    have hm := iteT hm hc104
    refine WP.seq (fun K105 hK105 => ?_)
    refine WP.region ?_
    refine WL.runk 1 [2] [(2, .bool false)] (by kernel_rfl) ?_
    refine WL.nil ?_
    refine WQ.then_normal (hK105 _ _ _ ?_)
    refine WP.ret ?_
    refine WQ.block_ret ?_
    refine WQ.then_ret ?_
    refine WQ.then_ret ?_
    refine WQ.block_ret ?_
    refine WQ.then_ret ?_
    obtain rfl := Option.some.inj hm
    obtain rfl := afterN_done hl33
    have hm := hmo34
    obtain rfl := Option.some.inj hm
    exact WQ.ret1 _ rfl rfl ⟨rfl, hb101⟩
  have hm := hx73; clear hx73
  refine WP.region ?_
  refine WL.runk 2 [0, 3, 28, 29] [(0, .string (bs s_0)), (3, .int .i64 st28), (28, .string (bs s_0)), (29, .int .i64 st28)] (by kernel_rfl) ?_
  obtain ⟨x74, hx75, hm⟩ := bindE hm
  refine WL.st (.int .u8 (x74.toNat : Int)) (ST.sindex hx75 rfl rfl rfl Tryz.underlying9) rfl rfl rfl ?_
  refine WL.runk 2 [0, 3, 32] [(0, .string (bs s_0)), (3, .int .i64 st28), (32, .bool (decide ((x74.toNat : Int) < 97)))] (by kernel_rfl) ?_
  refine WL.case (decide ((x74.toNat : Int) < 97)) [32] ⟨rfl, trivial⟩ (fun hc76 => ?_) (fun hc76 => ?_)
  · have hm := iteT hm hc76
    refine WL.runk 8 [0, 3, 38, 39, 40] [(0, .string (bs s_0)), (3, .int .i64 st28), (38, .bool true), (39, .string (bs s_0)), (40, .int .i64 st28)] (by kernel_rfl) ?_
    obtain ⟨x77, hx78, hm⟩ := bindE hm
    refine WL.st (.int .u8 (x77.toNat : Int)) (ST.sindex hx78 rfl rfl rfl Tryz.underlying9) rfl rfl rfl ?_
    refine WL.runk 2 [0, 3, 38, 43] [(0, .string (bs s_0)), (3, .int .i64 st28), (38, .bool true), (43, .bool (decide ((x77.toNat : Int) < 48)))] (by kernel_rfl) ?_
    refine WL.case (decide ((x77.toNat : Int) < 48)) [43] ⟨rfl, trivial⟩ (fun hc79 => ?_) (fun hc79 => ?_)
    · have hm := iteT hm hc79
      refine WL.runk 9 [0, 3, 50, 51, 52] [(0, .string (bs s_0)), (3, .int .i64 st28), (50, .bool true), (51, .string (bs s_0)), (52, .int .i64 st28)] (by kernel_rfl) ?_
      obtain ⟨x80, hx81, hm⟩ := bindE hm
      refine WL.st (.int .u8 (x80.toNat : Int)) (ST.sindex hx81 rfl rfl rfl Tryz.underlying9) rfl rfl rfl ?_
      refine WL.runk 2 [0, 3, 55] [(0, .string (bs s_0)), (3, .int .i64 st28), (55, .bool ((x80.toNat : Int) != 45))] (by kernel_rfl) ?_
      refine WL.nil ?_
      obtain rfl := Option.some.inj hm
      exact WQ.post' ⟨rfl, hb30, hL31, hS32⟩ ⟨rfl, rfl, rfl, trivial⟩
    have hm := iteF hm hc79
    refine WL.runk 2 [0, 3, 38, 43, 44, 45] [(0, .string (bs s_0)), (3, .int .i64 st28), (38, .bool true), (43, .bool false), (44, .string (bs s_0)), (45, .int .i64 st28)] (by kernel_rfl) ?_
    obtain ⟨x82, hx83, hm⟩ := bindE hm
    refine WL.st (.int .u8 (x82.toNat : Int)) (ST.sindex hx83 rfl rfl rfl Tryz.underlying9) rfl rfl rfl ?_
    refine WL.runk 4 [0, 3, 50] [(0, .string (bs s_0)), (3, .int .i64 st28), (50, .bool (decide ((x82.toNat : Int) > 57)))] (by kernel_rfl) ?_
    refine WL.case (decide ((x82.toNat : Int) > 57)) [50] ⟨rfl, trivial⟩ (fun hc84 => ?_) (fun hc84 => ?_)
    rotate_left
    · have hm := iteF hm hc84
      refine WL.runk 5 [0, 3, 55] [(0, .string (bs s_0)), (3, .int .i64 st28), (55, .bool false)] (by kernel_rfl) ?_
      refine WL.nil ?_
      obtain rfl := Option.some.inj hm
      exact WQ.post' ⟨rfl, hb30, hL31, hS32⟩ ⟨rfl, rfl, rfl, trivial⟩
    have hm := iteT hm hc84
    refine WL.runk 2 [0, 3, 50, 51, 52] [(0, .string (bs s_0)), (3, .int .i64 st28), (50, .bool true), (51, .string (bs s_0)), (52, .int .i64 st28)] (by kernel_rfl) ?_
    obtain ⟨x85, hx86, hm⟩ := bindE hm
    refine WL.st (.int .u8 (x85.toNat : Int)) (ST.sindex hx86 rfl rfl rfl Tryz.underlying9) rfl rfl rfl ?_
    refine WL.runk 2 [0, 3, 55] [(0, .string (bs s_0)), (3, .int .i64 st28), (55, .bool ((x85.toNat : Int) != 45))] (by kernel_rfl) ?_
    refine WL.nil ?_
    obtain rfl := Option.some.inj hm
    exact WQ.post' ⟨rfl, hb30, hL31, hS32⟩ ⟨rfl, rfl, rfl, trivial⟩
  have hm := iteF hm hc76
  refine WL.runk 2 [0, 3, 32, 33, 34] [(0, .string (bs s_0)), (3, .int .i64 st28), (32, .bool false), (33, .string (bs s_0)), (34, .int .i64 st28)] (by kernel_rfl) ?_
  obtain ⟨x87, hx88, hm⟩ := bindE hm
  refine WL.st (.int .u8 (x87.toNat : Int)) (ST.sindex hx88 rfl rfl rfl Tryz.underlying9) rfl rfl rfl ?_
  refine WL.runk 3 [0, 3, 38] [(0, .string (bs s_0)), (3, .int .i64 st28), (38, .bool (decide ((x87.toNat : Int) > 122)))] (by kernel_rfl) ?_
  refine WL.case (decide ((x87.toNat : Int) > 122)) [38] ⟨rfl, trivial⟩ (fun hc89 => ?_) (fun hc89 => ?_)
  rotate_left
  · have hm := iteF hm hc89
    refine WL.runk 17 [0, 3, 55] [(0, .string (bs s_0)), (3, .int .i64 st28), (55, .bool false)] (by kernel_rfl) ?_
    refine WL.nil ?_
    obtain rfl := Option.some.inj hm
    exact WQ.post' ⟨rfl, hb30, hL31, hS32⟩ ⟨rfl, rfl, rfl, trivial⟩
  have hm := iteT hm hc89
  refine WL.runk 2 [0, 3, 38, 39, 40] [(0, .string (bs s_0)), (3, .int .i64 st28), (38, .bool true), (39, .string (bs s_0)), (40, .int .i64 st28)] (by kernel_rfl) ?_
  obtain ⟨x90, hx91, hm⟩ := bindE hm
  refine WL.st (.int .u8 (x90.toNat : Int)) (ST.sindex hx91 rfl rfl rfl Tryz.underlying9) rfl rfl rfl ?_
  refine WL.runk 2 [0, 3, 38, 43] [(0, .string (bs s_0)), (3, .int .i64 st28), (38, .bool true), (43, .bool (decide ((x90.toNat : Int) < 48)))] (by kernel_rfl) ?_
  refine WL.case (decide ((x90.toNat : Int) < 48)) [43] ⟨rfl, trivial⟩ (fun hc92 => ?_) (fun hc92 => ?_)
  · have hm := iteT hm hc92
    refine WL.runk 9 [0, 3, 50, 51, 52] [(0, .string (bs s_0)), (3, .int .i64 st28), (50, .bool true), (51, .string (bs s_0)), (52, .int .i64 st28)] (by kernel_rfl) ?_
    obtain ⟨x93, hx94, hm⟩ := bindE hm
    refine WL.st (.int .u8 (x93.toNat : Int)) (ST.sindex hx94 rfl rfl rfl Tryz.underlying9) rfl rfl rfl ?_
    refine WL.runk 2 [0, 3, 55] [(0, .string (bs s_0)), (3, .int .i64 st28), (55, .bool ((x93.toNat : Int) != 45))] (by kernel_rfl) ?_
    refine WL.nil ?_
    obtain rfl := Option.some.inj hm
    exact WQ.post' ⟨rfl, hb30, hL31, hS32⟩ ⟨rfl, rfl, rfl, trivial⟩
  have hm := iteF hm hc92
  refine WL.runk 2 [0, 3, 38, 43, 44, 45] [(0, .string (bs s_0)), (3, .int .i64 st28), (38, .bool true), (43, .bool false), (44, .string (bs s_0)), (45, .int .i64 st28)] (by kernel_rfl) ?_
  obtain ⟨x95, hx96, hm⟩ := bindE hm
  refine WL.st (.int .u8 (x95.toNat : Int)) (ST.sindex hx96 rfl rfl rfl Tryz.underlying9) rfl rfl rfl ?_
  refine WL.runk 4 [0, 3, 50] [(0, .string (bs s_0)), (3, .int .i64 st28), (50, .bool (decide ((x95.toNat : Int) > 57)))] (by kernel_rfl) ?_
  refine WL.case (decide ((x95.toNat : Int) > 57)) [50] ⟨rfl, trivial⟩ (fun hc97 => ?_) (fun hc97 => ?_)
  rotate_left
  · have hm := iteF hm hc97
    refine WL.runk 5 [0, 3, 55] [(0, .string (bs s_0)), (3, .int .i64 st28), (55, .bool false)] (by kernel_rfl) ?_
    refine WL.nil ?_
    obtain rfl := Option.some.inj hm
    exact WQ.post' ⟨rfl, hb30, hL31, hS32⟩ ⟨rfl, rfl, rfl, trivial⟩
  have hm := iteT hm hc97
  refine WL.runk 2 [0, 3, 50, 51, 52] [(0, .string (bs s_0)), (3, .int .i64 st28), (50, .bool true), (51, .string (bs s_0)), (52, .int .i64 st28)] (by kernel_rfl) ?_
  obtain ⟨x98, hx99, hm⟩ := bindE hm
  refine WL.st (.int .u8 (x98.toNat : Int)) (ST.sindex hx99 rfl rfl rfl Tryz.underlying9) rfl rfl rfl ?_
  refine WL.runk 2 [0, 3, 55] [(0, .string (bs s_0)), (3, .int .i64 st28), (55, .bool ((x98.toNat : Int) != 45))] (by kernel_rfl) ?_
  refine WL.nil ?_
  obtain rfl := Option.some.inj hm
  exact WQ.post' ⟨rfl, hb30, hL31, hS32⟩ ⟨rfl, rfl, rfl, trivial⟩

theorem c_66 (n : Nat) (list_0 : List Int) (a0' : Option Addr) (c0' : Nat) (low_1 : Int) (high_2 : Int) (w : World) {r : Bool} (hm : m_impl_isIncreasing n list_0 low_1 high_2 = some r) (h0 : Rd fInt.ty w a0' list_0) (_hle0 : list_0.length ≤ c0') :
    CallV Tryz.prog 66 #[.slice a0' list_0.length c0', .int .i64 low_1, .int .i64 high_2] w (fun v w' => v = .bool r ∧ Ext w w') := by
  unfold m_impl_isIncreasing at hm
  refine CallV.enter Tryz.func66 rfl (by kernel_rfl) Tryz.ntmps66 (env := [(0, .slice a0' list_0.length c0'), (1, .int .i64 low_1), (2, .int .i64 high_2)]) ⟨rfl, rfl, rfl, trivial⟩ ?_
  refine WP.seq (fun K1 hK1 => ?_)
  refine WP.region ?_
  refine WL.runk 1 [0, 1, 2] [(0, .slice a0' list_0.length c0'), (1, .int .i64 low_1), (2, .int .i64 high_2)] (by kernel_rfl) ?_
  refine WL.nil ?_
  refine WQ.then_normal (hK1 _ _ _ ?_)
  refine WP.seq (fun K2 hK2 => ?_)
  refine WP.seq (fun K3 hK3 => ?_)
  refine WP.region ?_
  refine WL.runk 3 [0, 1, 2, 9, 10, 11] [(0, .slice a0' list_0.length c0'), (1, .int .i64 low_1), (2, .int .i64 high_2), (9, .slice a0' list_0.length c0'), (10, .int .i64 (list_0.length : Int)), (11, .int .i64 0)] (by kernel_rfl) ?_
  refine WL.nil ?_
  refine WQ.then_normal (hK3 _ _ _ ?_)
  refine WP.block ?_
  obtain ⟨t15, ht16, hm⟩ := bindE hm
  have hmo10 := hm; clear hm
  refine WP.sub [(0, .slice a0' list_0.length c0'), (1, .int .i64 low_1), (2, .int .i64 high_2), (9, .slice a0' list_0.length c0'), (10, .int .i64 (list_0.length : Int)), (11, .int .i64 0)] ⟨rfl, rfl, rfl, rfl, rfl, rfl, trivial⟩ ?_
  refine WP.loop (fun n' env' w' => ∃ (st4 : Int) , env' = [(0, .slice a0' list_0.length c0'), (1, .int .i64 low_1), (2, .int .i64 high_2), (9, .slice a0' list_0.length c0'), (10, .int .i64 (list_0.length : Int)), (11, .int .i64 st4)] ∧ Ext w w' ∧ w.heap.size ≤ w'.heap.size ∧ SH w' w.heap.size [] ∧ loopN (m_impl_isIncreasing_l1 n list_0 low_1 high_2) n' st4 = some t15) n ⟨0, rfl, (Ext.refl w), (Nat.le_refl _), (SH.nil _ _), ht16⟩ ?_
  rintro n12 _ w5 ⟨st4, rfl, hb6, hL7, hS8, hl9⟩ K11 hK11
  obtain ⟨n13, s14, rfl, hm, hl9⟩ := loopN_some hl9
  unfold m_impl_isIncreasing_l1 at hm
  refine WP.seq (fun K17 hK17 => ?_)
  refine WP.region ?_
  refine WL.runk 1 [0, 1, 2, 9, 10, 11, 12] [(0, .slice a0' list_0.length c0'), (1, .int .i64 low_1), (2, .int .i64 high_2), (9, .slice a0' list_0.length c0'), (10, .int .i64 (list_0.length : Int)), (11, .int .i64 st4), (12, .bool (decide (st4 < (list_0.length : Int))))] (by kernel_rfl) ?_
  refine WL.nil ?_
  refine WQ.then_normal (hK17 _ _ _ ?_)
  refine WP.seq (fun K18 hK18 => ?_)
  refine WP.cond (decide (st4 < (list_0.length : Int))) rfl rfl (fun hc19 => ?_) (fun hc19 => ?_)
  rotate_left
  · have hm := iteF hm hc19
    refine WP.exit ?_
    refine WQ.then_exit ?_
    refine WQ.then_exit ?_
    refine WQ.block_here ?_
    obtain rfl := Option.some.inj hm
    obtain rfl := afterN_done hl9
    have hm := hmo10
    refine WQ.then_normal (hK2 _ _ _ ?_)
    refine WP.seq (fun K57 hK57 => ?_)
    refine WP.region ?_
    refine WL.runk 1 [6] [(6, .bool true)] (by kernel_rfl) ?_
    refine WL.nil ?_
    refine WQ.then_normal (hK57 _ _ _ ?_)
    refine WP.ret ?_
    obtain rfl := Option.some.inj hm
    exact WQ.ret1 _ rfl rfl ⟨rfl, hb6⟩
  have hm := iteT hm hc19
  refine WP.skip ?_
  refine WQ.then_normal (hK18 _ _ _ ?_)
  refine WP.seq (fun K20 hK20 => ?_)
  refine WP.block ?_
  refine WP.seq (fun K21 hK21 => ?_)
  refine WP.region ?_
  refine WL.runk 1 [0, 1, 2, 9, 10, 11, 13] [(0, .slice a0' list_0.length c0'), (1, .int .i64 low_1), (2, .int .i64 high_2), (9, .slice a0' list_0.length c0'), (10, .int .i64 (list_0.length : Int)), (11, .int .i64 st4), (13, .int .i64 st4)] (by kernel_rfl) ?_
  obtain ⟨x22, hx23, hm⟩ := bindE hm
  refine WL.st (.pointer (some (at_ a0' (Int.toNat st4 * 1)))) (ST.index (T := fInt.ty) (xs := list_0) (Rd.below h0 hb6) hx23 rfl rfl rfl Tryz.underlying25 (info2).1 (info2).2.1) rfl rfl rfl ?_
  refine WL.st (.int .i64 x22) (ST.load (cell_ext (Rd.flat (F := fInt) (Rd.below h0 hb6) hx23 0 rfl)) rfl rfl Tryz.underlying2 rfl) rfl rfl rfl ?_
  refine WL.runk 2 [0, 1, 2, 7, 8, 9, 10, 11] [(0, .slice a0' list_0.length c0'), (1, .int .i64 low_1), (2, .int .i64 high_2), (9, .slice a0' list_0.length c0'), (10, .int .i64 (list_0.length : Int)), (11, .int .i64 st4), (7, .int .i64 st4), (8, .int .i64 x22)] (by kernel_rfl) ?_
  refine WL.nil ?_
  refine WQ.then_normal (hK21 _ _ _ ?_)
  refine WP.seq (fun K24 hK24 => ?_)
  obtain ⟨x37, hx38, hm⟩ := bindE hm
  refine WP.cut (fun env' w' => env' = [(0, .slice a0' list_0.length c0'), (1, .int .i64 low_1), (2, .int .i64 high_2), (9, .slice a0' list_0.length c0'), (10, .int .i64 (list_0.length : Int)), (11, .int .i64 st4), (33, .bool x37)] ∧ Ext w w' ∧ w.heap.size ≤ w'.heap.size ∧ SH w' w.heap.size []) ?_ ?_
  rotate_left
  · clear hx38
    rintro _ w51 ⟨rfl, hb52, hL53, hS54⟩
    refine WQ.then_normal (hK24 _ _ _ ?_)
    refine WP.cond x37 rfl rfl (fun hc55 => ?_) (fun hc55 => ?_)
    rotate_left
    · have hm := iteF hm hc55
      refine WP.skip ?_
      refine WQ.block_normal ?_
      refine WQ.then_normal (hK20 _ _ _ ?_)
      refine WP.region ?_
      refine WL.runk 2 [0, 1, 2, 9, 10, 11] [(0, .slice a0' list_0.length c0'), (1, .int .i64 low_1), (2, .int .i64 high_2), (9, .slice a0' list_0.length c0'), (10, .int .i64 (list_0.length : Int)), (11, .int .i64 (wI64 (st4 + 1)))] (by kernel_rfl) ?_
      refine WL.nil ?_
      obtain rfl := Option.some.inj hm
      exact WQ.round hK11 ⟨(wI64 (st4 + 1)), rfl, hb52, hL53, hS54, hl9⟩ (Nat.lt_succ_self _) ⟨rfl, rfl, rfl, rfl, rfl, rfl, trivial⟩
    have hm := iteT hm hc55
    refine WP.seq (fun K56 hK56 => ?_)
    refine WP.region ?_
    refine WL.runk 1 [6] [(6, .bool false)] (by kernel_rfl) ?_
    refine WL.nil ?_
    refine WQ.then_normal (hK56 _ _ _ ?_)
    refine WP.ret ?_
    refine WQ.block_ret ?_
    refine WQ.then_ret ?_
    refine WQ.then_ret ?_
    refine WQ.block_ret ?_
    refine WQ.then_ret ?_
    obtain rfl := Option.some.inj hm
    obtain rfl := afterN_done hl9
    have hm := hmo10
    obtain rfl := Option.some.inj hm
    exact WQ.ret1 _ rfl rfl ⟨rfl, hb52⟩
  have hm := hx38; clear hx38
  refine WP.region ?_
  refine WL.runk 3 [0, 1, 2, 7, 8, 9, 10, 11, 16, 17, 18] [(0, .slice a0' list_0.length c0'), (1, .int .i64 low_1), (2, .int .i64 high_2), (9, .slice a0' list_0.length c0'), (10, .int .i64 (list_0.length : Int)), (11, .int .i64 st4), (7, .int .i64 st4), (8, .int .i64 x22), (16, .int .i64 x22), (17, .int .i64 low_1), (18, .int .i64 high_2)] (by kernel_rfl) ?_
  obtain ⟨x39, hx40, hm⟩ := bindE hm
  refine WL.call 51 #[.int .i64 x22, .int .i64 low_1, .int .i64 high_2] rfl rfl (by kernel_rfl) (c_51 n x22 low_1 high_2 w5 hx40 ) ?_
  rintro _ w41 ⟨rfl, hE42⟩
  refine ⟨_, rfl, ?_⟩
  have hb44 : Ext w w41 := Ext.trans hb6 hE42
  have hL45 : w.heap.size ≤ w41.heap.size := Nat.le_trans hL7 hE42.size
  have hS46 : SH w41 w.heap.size [] := SH.ext hS8 hE42
  refine WL.runk 2 [0, 1, 2, 7, 8, 9, 10, 11, 21] [(0, .slice a0' list_0.length c0'), (1, .int .i64 low_1), (2, .int .i64 high_2), (9, .slice a0' list_0.length c0'), (10, .int .i64 (list_0.length : Int)), (11, .int .i64 st4), (7, .int .i64 st4), (8, .int .i64 x22), (21, .bool (!x39))] (by kernel_rfl) ?_
  refine WL.case (!x39) [21] ⟨rfl, trivial⟩ (fun hc47 => ?_) (fun hc47 => ?_)
  · have hm := iteT hm hc47
    refine WL.runk 12 [0, 1, 2, 9, 10, 11, 33] [(0, .slice a0' list_0.length c0'), (1, .int .i64 low_1), (2, .int .i64 high_2), (9, .slice a0' list_0.length c0'), (10, .int .i64 (list_0.length : Int)), (11, .int .i64 st4), (33, .bool true)] (by kernel_rfl) ?_
    refine WL.nil ?_
    obtain rfl := Option.some.inj hm
    exact WQ.post' ⟨rfl, hb44, hL45, hS46⟩ ⟨rfl, rfl, rfl, rfl, rfl, rfl, rfl, trivial⟩
  have hm := iteF hm hc47
  refine WL.runk 3 [0, 1, 2, 7, 8, 9, 10, 11, 21, 24] [(0, .slice a0' list_0.length c0'), (1, .int .i64 low_1), (2, .int .i64 high_2), (9, .slice a0' list_0.length c0'), (10, .int .i64 (list_0.length : Int)), (11, .int .i64 st4), (7, .int .i64 st4), (8, .int .i64 x22), (21, .bool false), (24, .bool (decide (st4 > 0)))] (by kernel_rfl) ?_
  refine WL.case (decide (st4 > 0)) [24] ⟨rfl, trivial⟩ (fun hc48 => ?_) (fun hc48 => ?_)
  rotate_left
  · have hm := iteF hm hc48
    refine WL.runk 9 [0, 1, 2, 9, 10, 11, 33] [(0, .slice a0' list_0.length c0'), (1, .int .i64 low_1), (2, .int .i64 high_2), (9, .slice a0' list_0.length c0'), (10, .int .i64 (list_0.length : Int)), (11, .int .i64 st4), (33, .bool false)] (by kernel_rfl) ?_
    refine WL.nil ?_
    obtain rfl := Option.some.inj hm
    exact WQ.post' ⟨rfl, hb44, hL45, hS46⟩ ⟨rfl, rfl, rfl, rfl, rfl, rfl, rfl, trivial⟩
  have hm := iteT hm hc48
  refine WL.runk 3 [0, 1, 2, 8, 9, 10, 11, 21, 24, 25, 27] [(0, .slice a0' list_0.length c0'), (1, .int .i64 low_1), (2, .int .i64 high_2), (9, .slice a0' list_0.length c0'), (10, .int .i64 (list_0.length : Int)), (11, .int .i64 st4), (8, .int .i64 x22), (21, .bool false), (24, .bool true), (25, .slice a0' list_0.length c0'), (27, .int .i64 (wI64 (st4 - 1)))] (by kernel_rfl) ?_
  obtain ⟨x49, hx50, hm⟩ := bindE hm
  refine WL.st (.pointer (some (at_ a0' (Int.toNat (wI64 (st4 - 1)) * 1)))) (ST.index (T := fInt.ty) (xs := list_0) (Rd.below h0 hb44) hx50 rfl rfl rfl Tryz.underlying25 (info2).1 (info2).2.1) rfl rfl rfl ?_
  refine WL.st (.int .i64 x49) (ST.load (cell_ext (Rd.flat (F := fInt) (Rd.below h0 hb44) hx50 0 rfl)) rfl rfl Tryz.underlying2 rfl) rfl rfl rfl ?_
  refine WL.runk 4 [0, 1, 2, 9, 10, 11, 33] [(0, .slice a0' list_0.length c0'), (1, .int .i64 low_1), (2, .int .i64 high_2), (9, .slice a0' list_0.length c0'), (10, .int .i64 (list_0.length : Int)), (11, .int .i64 st4), (33, .bool (decide (x49 ≥ x22)))] (by kernel_rfl) ?_
  refine WL.nil ?_
  obtain rfl := Option.some.inj hm
  exact WQ.post' ⟨rfl, hb44, hL45, hS46⟩ ⟨rfl, rfl, rfl, rfl, rfl, rfl, rfl, trivial⟩

theorem c_65 (n : Nat) (faults_0 : List Int) (a0' : Option Addr) (c0' : Nat) (w : World) {r : Bool} (hm : m_impl_areFaults n faults_0 = some r) (h0 : Rd fInt.ty w a0' faults_0) (hle0 : faults_0.length ≤ c0') :
    CallV Tryz.prog 65 #[.slice a0' faults_0.length c0'] w (fun v w' => v = .bool r ∧ Ext w w') := by
  unfold m_impl_areFaults at hm
  refine CallV.enter Tryz.func65 rfl (by kernel_rfl) Tryz.ntmps65 (env := [(0, .slice a0' faults_0.length c0')]) ⟨rfl, trivial⟩ ?_
  refine WP.seq (fun K1 hK1 => ?_)
  refine WP.region ?_
  refine WL.runk 1 [0] [(0, .slice a0' faults_0.length c0')] (by kernel_rfl) ?_
  refine WL.nil ?_
  refine WQ.then_normal (hK1 _ _ _ ?_)
  refine WP.seq (fun K2 hK2 => ?_)
  refine WP.region ?_
  refine WL.runk 1 [3] [(3, .slice a0' faults_0.length c0')] (by kernel_rfl) ?_
  obtain ⟨x3, hx4, hm⟩ := bindE hm
  refine WL.call 66 #[.slice a0' faults_0.length c0', .int .i64 0, .int .i64 9] rfl rfl (by kernel_rfl) (c_66 n faults_0 a0' c0' 0 9 w hx4 (Rd.below h0 (Ext.refl w)) hle0) ?_
  rintro _ w5 ⟨rfl, hE6⟩
  refine ⟨_, rfl, ?_⟩
  have hb8 : Ext w w5 := Ext.trans (Ext.refl w) hE6
  have hL9 : w.heap.size ≤ w5.heap.size := Nat.le_trans (Nat.le_refl _) hE6.size
  have hS10 : SH w5 w.heap.size [] := SH.ext (SH.nil _ _) hE6
  refine WL.runk 1 [2] [(2, .bool x3)] (by kernel_rfl) ?_
  refine WL.nil ?_
  refine WQ.then_normal (hK2 _ _ _ ?_)
  refine WP.ret ?_
  obtain rfl := Option.some.inj hm
  exact WQ.ret1 _ rfl rfl ⟨rfl, hb8⟩

theorem c_67 (n : Nat) (o_0 : SRepair) (a0_1' : Option Addr) (c0_1' : Nat) (a0_2' : Option Addr) (c0_2' : Nat) (cap_1 : SRepair) (b1' o1' : Nat) (aB1_1' : Option Addr) (cB1_1' : Nat) (aB1_2' : Option Addr) (cB1_2' : Nat) (w : World) {r : Bool} (hm : m_impl_ValidRepairs_1 n o_0 cap_1 = some r) (_hr0_1 : Rd fInt.ty w a0_1' o_0.Mends) (_hle0_1 : o_0.Mends.length ≤ c0_1') (_hr0_2 : Rd fInt.ty w a0_2' o_0.First) (_hle0_2 : o_0.First.length ≤ c0_2') (h1 : RdB w b1' o1' [.string (bs cap_1.Name), .slice aB1_1' cap_1.Mends.length cB1_1', .slice aB1_2' cap_1.First.length cB1_2', .int .i64 cap_1.Price, .int .i64 cap_1.Hours]) (_hrB1_1 : Rd fInt.ty w aB1_1' cap_1.Mends) (_hleB1_1 : cap_1.Mends.length ≤ cB1_1') (_hrB1_2 : Rd fInt.ty w aB1_2' cap_1.First) (_hleB1_2 : cap_1.First.length ≤ cB1_2') :
    CallV Tryz.prog 67 #[.agg #[.string (bs o_0.Name), .slice a0_1' o_0.Mends.length c0_1', .slice a0_2' o_0.First.length c0_2', .int .i64 o_0.Price, .int .i64 o_0.Hours], .pointer (some ⟨b1', o1', none⟩)] w (fun v w' => v = .bool r ∧ Ext w w') := by
  unfold m_impl_ValidRepairs_1 at hm
  refine CallV.enter Tryz.func67 rfl (by kernel_rfl) Tryz.ntmps67 (env := [(0, .agg #[.string (bs o_0.Name), .slice a0_1' o_0.Mends.length c0_1', .slice a0_2' o_0.First.length c0_2', .int .i64 o_0.Price, .int .i64 o_0.Hours]), (1, .pointer (some ⟨b1', o1', none⟩))]) ⟨rfl, rfl, trivial⟩ ?_
  refine WP.seq (fun K1 hK1 => ?_)
  refine WP.region ?_
  refine WL.box 48 [.string (bs o_0.Name), .slice a0_1' o_0.Mends.length c0_1', .slice a0_2' o_0.First.length c0_2', .int .i64 o_0.Price, .int .i64 o_0.Hours] 2 (by kernel_rfl) rfl rfl rfl rfl ?_
  intro b2 w3 hE4 hR5
  have hb7 : Ext w w3 := Ext.trans (Ext.refl w) hE4
  have hL8 : w.heap.size ≤ w3.heap.size := Nat.le_trans (Nat.le_refl _) hE4.size
  have hS9 : SH w3 w.heap.size [aBox 48 b2 [.string (bs o_0.Name), .slice a0_1' o_0.Mends.length c0_1', .slice a0_2' o_0.First.length c0_2', .int .i64 o_0.Price, .int .i64 o_0.Hours]] := SH.add (SH.nil _ _) hE4 (Nat.le_refl _) hR5
  refine WL.runk 1 [1, 2] [(1, .pointer (some ⟨b1', o1', none⟩)), (2, .pointer (some ⟨b2, 0, none⟩))] (by kernel_rfl) ?_
  refine WL.nil ?_
  refine WQ.then_normal (hK1 _ _ _ ?_)
  refine WP.seq (fun K10 hK10 => ?_)
  refine WP.region ?_
  refine WL.runk 1 [1, 4] [(1, .pointer (some ⟨b1', o1', none⟩)), (4, .pointer (some ⟨b2, 0, none⟩))] (by kernel_rfl) ?_
  refine WL.st (.string (bs o_0.Name)) (ST.load (cell_ext (SH.boxAt (SH.front 0 hS9) 0 _ rfl)) rfl rfl Tryz.underlying9 rfl) rfl rfl rfl ?_
  refine WL.runk 1 [5, 6] [(5, .string (bs o_0.Name)), (6, .pointer (some ⟨b1', o1', none⟩))] (by kernel_rfl) ?_
  refine WL.st (.string (bs cap_1.Name)) (ST.load (cell_ext (RdB.at (RdB.below h1 hb7) 0 _ rfl)) rfl rfl Tryz.underlying9 rfl) rfl rfl rfl ?_
  refine WL.st (.bool (o_0.Name == cap_1.Name)) (ST.streq (x := o_0.Name) (y := cap_1.Name) rfl rfl rfl) rfl rfl rfl ?_
  refine WL.runk 1 [3] [(3, .bool (o_0.Name == cap_1.Name))] (by kernel_rfl) ?_
  refine WL.nil ?_
  refine WQ.then_normal (hK10 _ _ _ ?_)
  refine WP.ret ?_
  obtain rfl := Option.some.inj hm
  exact WQ.ret1 _ rfl rfl ⟨rfl, hb7⟩

theorem c_73_67 (n : Nat) (s_0 : List SRepair) (a0' : Option Addr) (c0' : Nat) (cap_1_0 : SRepair) (b1_0' o1_0' : Nat) (aB1_0_1' : Option Addr) (cB1_0_1' : Nat) (aB1_0_2' : Option Addr) (cB1_0_2' : Nat) (w : World) {r : Int} (hm : m_slices_IndexFunc_impl_Repair_impl_Repair_f67 n s_0 cap_1_0 = some r) (h0 : Rd fRepair.ty w a0' s_0) (_hle0 : s_0.length ≤ c0') (h1_0 : RdB w b1_0' o1_0' [.string (bs cap_1_0.Name), .slice aB1_0_1' cap_1_0.Mends.length cB1_0_1', .slice aB1_0_2' cap_1_0.First.length cB1_0_2', .int .i64 cap_1_0.Price, .int .i64 cap_1_0.Hours]) (hrB1_0_1 : Rd fInt.ty w aB1_0_1' cap_1_0.Mends) (hleB1_0_1 : cap_1_0.Mends.length ≤ cB1_0_1') (hrB1_0_2 : Rd fInt.ty w aB1_0_2' cap_1_0.First) (hleB1_0_2 : cap_1_0.First.length ≤ cB1_0_2') :
    CallV Tryz.prog 73 #[.slice a0' s_0.length c0', .func (.func 67) #[] #[.pointer (some ⟨b1_0', o1_0', none⟩)]] w (fun v w' => v = .int .i64 r ∧ Ext w w') := by
  unfold m_slices_IndexFunc_impl_Repair_impl_Repair_f67 at hm
  refine CallV.enter Tryz.func73 rfl (by kernel_rfl) Tryz.ntmps73 (env := [(0, .slice a0' s_0.length c0'), (1, .func (.func 67) #[] #[.pointer (some ⟨b1_0', o1_0', none⟩)])]) ⟨rfl, rfl, trivial⟩ ?_
  refine WP.seq (fun K1 hK1 => ?_)
  refine WP.region ?_
  refine WL.runk 1 [0, 1] [(0, .slice a0' s_0.length c0'), (1, .func (.func 67) #[] #[.pointer (some ⟨b1_0', o1_0', none⟩)])] (by kernel_rfl) ?_
  refine WL.nil ?_
  refine WQ.then_normal (hK1 _ _ _ ?_)
  refine WP.seq (fun K2 hK2 => ?_)
  refine WP.seq (fun K3 hK3 => ?_)
  refine WP.region ?_
  refine WL.runk 3 [0, 1, 7, 8] [(0, .slice a0' s_0.length c0'), (1, .func (.func 67) #[] #[.pointer (some ⟨b1_0', o1_0', none⟩)]), (7, .int .i64 (s_0.length : Int)), (8, .int .i64 0)] (by kernel_rfl) ?_
  refine WL.nil ?_
  refine WQ.then_normal (hK3 _ _ _ ?_)
  refine WP.block ?_
  obtain ⟨t15, ht16, hm⟩ := bindE hm
  have hmo10 := hm; clear hm
  refine WP.sub [(0, .slice a0' s_0.length c0'), (1, .func (.func 67) #[] #[.pointer (some ⟨b1_0', o1_0', none⟩)]), (7, .int .i64 (s_0.length : Int)), (8, .int .i64 0)] ⟨rfl, rfl, rfl, rfl, trivial⟩ ?_
  refine WP.loop (fun n' env' w' => ∃ (st4 : Int) , env' = [(0, .slice a0' s_0.length c0'), (1, .func (.func 67) #[] #[.pointer (some ⟨b1_0', o1_0', none⟩)]), (7, .int .i64 (s_0.length : Int)), (8, .int .i64 st4)] ∧ Ext w w' ∧ w.heap.size ≤ w'.heap.size ∧ SH w' w.heap.size [] ∧ loopN (m_slices_IndexFunc_impl_Repair_impl_Repair_f67_l1 n s_0 cap_1_0) n' st4 = some t15) n ⟨0, rfl, (Ext.refl w), (Nat.le_refl _), (SH.nil _ _), ht16⟩ ?_
  rintro n12 _ w5 ⟨st4, rfl, hb6, hL7, hS8, hl9⟩ K11 hK11
  obtain ⟨n13, s14, rfl, hm, hl9⟩ := loopN_some hl9
  unfold m_slices_IndexFunc_impl_Repair_impl_Repair_f67_l1 at hm
  refine WP.seq (fun K17 hK17 => ?_)
  refine WP.region ?_
  refine WL.runk 1 [0, 1, 7, 8, 9] [(0, .slice a0' s_0.length c0'), (1, .func (.func 67) #[] #[.pointer (some ⟨b1_0', o1_0', none⟩)]), (7, .int .i64 (s_0.length : Int)), (8, .int .i64 st4), (9, .bool (decide (st4 < (s_0.length : Int))))] (by kernel_rfl) ?_
  refine WL.nil ?_
  refine WQ.then_normal (hK17 _ _ _ ?_)
  refine WP.seq (fun K18 hK18 => ?_)
  refine WP.cond (decide (st4 < (s_0.length : Int))) rfl rfl (fun hc19 => ?_) (fun hc19 => ?_)
  rotate_left
  · have hm := iteF hm hc19
    refine WP.exit ?_
    refine WQ.then_exit ?_
    refine WQ.then_exit ?_
    refine WQ.block_here ?_
    obtain rfl := Option.some.inj hm
    obtain rfl := afterN_done hl9
    have hm := hmo10
    refine WQ.then_normal (hK2 _ _ _ ?_)
    refine WP.seq (fun K46 hK46 => ?_)
    refine WP.region ?_
    refine WL.runk 1 [4] [(4, .int .i64 (-1))] (by kernel_rfl) ?_
    refine WL.nil ?_
    refine WQ.then_normal (hK46 _ _ _ ?_)
    refine WP.ret ?_
    obtain rfl := Option.some.inj hm
    exact WQ.ret1 _ rfl rfl ⟨rfl, hb6⟩
  have hm := iteT hm hc19
  refine WP.skip ?_
  refine WQ.then_normal (hK18 _ _ _ ?_)
  refine WP.seq (fun K20 hK20 => ?_)
  refine WP.block ?_
  refine WP.seq (fun K21 hK21 => ?_)
  refine WP.region ?_
  refine WL.runk 2 [0, 1, 5, 7, 8] [(0, .slice a0' s_0.length c0'), (1, .func (.func 67) #[] #[.pointer (some ⟨b1_0', o1_0', none⟩)]), (7, .int .i64 (s_0.length : Int)), (8, .int .i64 st4), (5, .int .i64 st4)] (by kernel_rfl) ?_
  refine WL.nil ?_
  refine WQ.then_normal (hK21 _ _ _ ?_)
  refine WP.seq (fun K22 hK22 => ?_)
  refine WP.region ?_
  refine WL.runk 3 [0, 1, 5, 7, 8, 11, 12, 13] [(0, .slice a0' s_0.length c0'), (1, .func (.func 67) #[] #[.pointer (some ⟨b1_0', o1_0', none⟩)]), (7, .int .i64 (s_0.length : Int)), (8, .int .i64 st4), (5, .int .i64 st4), (11, .func (.func 67) #[] #[.pointer (some ⟨b1_0', o1_0', none⟩)]), (12, .slice a0' s_0.length c0'), (13, .int .i64 st4)] (by kernel_rfl) ?_
  obtain ⟨x23, hx24, hm⟩ := bindE hm
  obtain ⟨a25, c26, a30, c31, hc35, hR27, hle28, hR32, hle33⟩ := nest_Repair h0 hx24
  refine WL.st (.pointer (some (at_ a0' (Int.toNat st4 * 5)))) (ST.index (T := fRepair.ty) (xs := s_0) (Rd.below h0 hb6) hx24 rfl rfl rfl Tryz.underlying24 (info48).1 (info48).2.1) rfl rfl rfl ?_
  refine WL.st (.agg #[.string (bs x23.Name), .slice a25 x23.Mends.length c26, .slice a30 x23.First.length c31, .int .i64 x23.Price, .int .i64 x23.Hours]) (ST.loadAgg (vs := [.string (bs x23.Name), .slice a25 x23.Mends.length c26, .slice a30 x23.First.length c31, .int .i64 x23.Price, .int .i64 x23.Hours]) (at_agg (cells_ext hc35 hb6)) rfl rfl rfl Tryz.underlying48 rfl (info48).1 (info48).2.1) rfl rfl rfl ?_
  obtain ⟨x36, hx37, hm⟩ := bindE hm
  refine WL.call 67 #[.agg #[.string (bs x23.Name), .slice a25 x23.Mends.length c26, .slice a30 x23.First.length c31, .int .i64 x23.Price, .int .i64 x23.Hours], .pointer (some ⟨b1_0', o1_0', none⟩)] rfl rfl (by kernel_rfl) (c_67 n x23 a25 c26 a30 c31 cap_1_0 b1_0' o1_0' aB1_0_1' cB1_0_1' aB1_0_2' cB1_0_2' w5 hx37 (Rd.below hR27 hb6) hle28 (Rd.below hR32 hb6) hle33 (RdB.below h1_0 hb6) (Rd.below hrB1_0_1 hb6) hleB1_0_1 (Rd.below hrB1_0_2 hb6) hleB1_0_2) ?_
  rintro _ w38 ⟨rfl, hE39⟩
  refine ⟨_, rfl, ?_⟩
  have hb41 : Ext w w38 := Ext.trans hb6 hE39
  have hL42 : w.heap.size ≤ w38.heap.size := Nat.le_trans hL7 hE39.size
  have hS43 : SH w38 w.heap.size [] := SH.ext hS8 hE39
  refine WL.sub [(0, .slice a0' s_0.length c0'), (1, .func (.func 67) #[] #[.pointer (some ⟨b1_0', o1_0', none⟩)]), (7, .int .i64 (s_0.length : Int)), (8, .int .i64 st4), (5, .int .i64 st4), (16, .bool x36)] ⟨rfl, rfl, rfl, rfl, rfl, rfl, trivial⟩ ?_
  refine WL.nil ?_
  refine WQ.then_normal (hK22 _ _ _ ?_)
  refine WP.cond x36 rfl rfl (fun hc44 => ?_) (fun hc44 => ?_)
  rotate_left
  · have hm := iteF hm hc44
    refine WP.skip ?_
    refine WQ.block_normal ?_
    refine WQ.then_normal (hK20 _ _ _ ?_)
    refine WP.region ?_
    refine WL.runk 2 [0, 1, 7, 8] [(0, .slice a0' s_0.length c0'), (1, .func (.func 67) #[] #[.pointer (some ⟨b1_0', o1_0', none⟩)]), (7, .int .i64 (s_0.length : Int)), (8, .int .i64 (wI64 (st4 + 1)))] (by kernel_rfl) ?_
    refine WL.nil ?_
    obtain rfl := Option.some.inj hm
    exact WQ.round hK11 ⟨(wI64 (st4 + 1)), rfl, hb41, hL42, hS43, hl9⟩ (Nat.lt_succ_self _) ⟨rfl, rfl, rfl, rfl, trivial⟩
  have hm := iteT hm hc44
  refine WP.seq (fun K45 hK45 => ?_)
  refine WP.region ?_
  refine WL.runk 2 [4] [(4, .int .i64 st4)] (by kernel_rfl) ?_
  refine WL.nil ?_
  refine WQ.then_normal (hK45 _ _ _ ?_)
  refine WP.ret ?_
  refine WQ.block_ret ?_
  refine WQ.then_ret ?_
  refine WQ.then_ret ?_
  refine WQ.block_ret ?_
  refine WQ.then_ret ?_
  obtain rfl := Option.some.inj hm
  obtain rfl := afterN_done hl9
  have hm := hmo10
  obtain rfl := Option.some.inj hm
  exact WQ.ret1 _ rfl rfl ⟨rfl, hb41⟩

theorem c_41_67 (n : Nat) (s_0 : List SRepair) (a0' : Option Addr) (c0' : Nat) (cap_1_0 : SRepair) (b1_0' o1_0' : Nat) (aB1_0_1' : Option Addr) (cB1_0_1' : Nat) (aB1_0_2' : Option Addr) (cB1_0_2' : Nat) (w : World) {r : Bool} (hm : m_slices_ContainsFunc_impl_Repair_impl_Repair_f67 n s_0 cap_1_0 = some r) (h0 : Rd fRepair.ty w a0' s_0) (hle0 : s_0.length ≤ c0') (h1_0 : RdB w b1_0' o1_0' [.string (bs cap_1_0.Name), .slice aB1_0_1' cap_1_0.Mends.length cB1_0_1', .slice aB1_0_2' cap_1_0.First.length cB1_0_2', .int .i64 cap_1_0.Price, .int .i64 cap_1_0.Hours]) (hrB1_0_1 : Rd fInt.ty w aB1_0_1' cap_1_0.Mends) (hleB1_0_1 : cap_1_0.Mends.length ≤ cB1_0_1') (hrB1_0_2 : Rd fInt.ty w aB1_0_2' cap_1_0.First) (hleB1_0_2 : cap_1_0.First.length ≤ cB1_0_2') :
    CallV Tryz.prog 41 #[.slice a0' s_0.length c0', .func (.func 67) #[] #[.pointer (some ⟨b1_0', o1_0', none⟩)]] w (fun v w' => v = .bool r ∧ Ext w w') := by
  unfold m_slices_ContainsFunc_impl_Repair_impl_Repair_f67 at hm
  refine CallV.enter Tryz.func41 rfl (by kernel_rfl) Tryz.ntmps41 (env := [(0, .slice a0' s_0.length c0'), (1, .func (.func 67) #[] #[.pointer (some ⟨b1_0', o1_0', none⟩)])]) ⟨rfl, rfl, trivial⟩ ?_
  refine WP.seq (fun K1 hK1 => ?_)
  refine WP.region ?_
  refine WL.runk 1 [0, 1] [(0, .slice a0' s_0.length c0'), (1, .func (.func 67) #[] #[.pointer (some ⟨b1_0', o1_0', none⟩)])] (by kernel_rfl) ?_
  refine WL.nil ?_
  refine WQ.then_normal (hK1 _ _ _ ?_)
  refine WP.seq (fun K2 hK2 => ?_)
  refine WP.region ?_
  refine WL.runk 2 [5, 6] [(5, .slice a0' s_0.length c0'), (6, .func (.func 67) #[] #[.pointer (some ⟨b1_0', o1_0', none⟩)])] (by kernel_rfl) ?_
  obtain ⟨x3, hx4, hm⟩ := bindE hm
  refine WL.call 73 #[.slice a0' s_0.length c0', .func (.func 67) #[] #[.pointer (some ⟨b1_0', o1_0', none⟩)]] rfl rfl (by kernel_rfl) (c_73_67 n s_0 a0' c0' cap_1_0 b1_0' o1_0' aB1_0_1' cB1_0_1' aB1_0_2' cB1_0_2' w hx4 (Rd.below h0 (Ext.refl w)) hle0 (RdB.below h1_0 (Ext.refl w)) (Rd.below hrB1_0_1 (Ext.refl w)) hleB1_0_1 (Rd.below hrB1_0_2 (Ext.refl w)) hleB1_0_2) ?_
  rintro _ w5 ⟨rfl, hE6⟩
  refine ⟨_, rfl, ?_⟩
  have hb8 : Ext w w5 := Ext.trans (Ext.refl w) hE6
  have hL9 : w.heap.size ≤ w5.heap.size := Nat.le_trans (Nat.le_refl _) hE6.size
  have hS10 : SH w5 w.heap.size [] := SH.ext (SH.nil _ _) hE6
  refine WL.runk 2 [4] [(4, .bool (decide (x3 ≥ 0)))] (by kernel_rfl) ?_
  refine WL.nil ?_
  refine WQ.then_normal (hK2 _ _ _ ?_)
  refine WP.ret ?_
  obtain rfl := Option.some.inj hm
  exact WQ.ret1 _ rfl rfl ⟨rfl, hb8⟩

theorem c_25 (n : Nat) (list_0 : List SRepair) (a0' : Option Addr) (c0' : Nat) (w : World) {r : Bool} (hm : m_impl_ValidRepairs n list_0 = some r) (h0 : Rd fRepair.ty w a0' list_0) (hle0 : list_0.length ≤ c0') :
    CallV Tryz.prog 25 #[.slice a0' list_0.length c0'] w (fun v w' => v = .bool r ∧ Ext w w') := by
  unfold m_impl_ValidRepairs at hm
  refine CallV.enter Tryz.func25 rfl (by kernel_rfl) Tryz.ntmps25 (env := [(0, .slice a0' list_0.length c0')]) ⟨rfl, trivial⟩ ?_
  refine WP.seq (fun K1 hK1 => ?_)
  refine WP.region ?_
  refine WL.runk 1 [0] [(0, .slice a0' list_0.length c0')] (by kernel_rfl) ?_
  refine WL.nil ?_
  refine WQ.then_normal (hK1 _ _ _ ?_)
  refine WP.seq (fun K2 hK2 => ?_)
  refine WP.seq (fun K3 hK3 => ?_)
  refine WP.region ?_
  refine WL.runk 3 [0, 5, 6, 7] [(0, .slice a0' list_0.length c0'), (5, .slice a0' list_0.length c0'), (6, .int .i64 (list_0.length : Int)), (7, .int .i64 0)] (by kernel_rfl) ?_
  refine WL.nil ?_
  refine WQ.then_normal (hK3 _ _ _ ?_)
  refine WP.block ?_
  obtain ⟨t15, ht16, hm⟩ := bindE hm
  have hmo10 := hm; clear hm
  refine WP.sub [(0, .slice a0' list_0.length c0'), (5, .slice a0' list_0.length c0'), (6, .int .i64 (list_0.length : Int)), (7, .int .i64 0)] ⟨rfl, rfl, rfl, rfl, trivial⟩ ?_
  refine WP.loop (fun n' env' w' => ∃ (st4 : Int) , env' = [(0, .slice a0' list_0.length c0'), (5, .slice a0' list_0.length c0'), (6, .int .i64 (list_0.length : Int)), (7, .int .i64 st4)] ∧ Ext w w' ∧ w.heap.size ≤ w'.heap.size ∧ SH w' w.heap.size [] ∧ loopN (m_impl_ValidRepairs_l1 n list_0) n' st4 = some t15) n ⟨0, rfl, (Ext.refl w), (Nat.le_refl _), (SH.nil _ _), ht16⟩ ?_
  rintro n12 _ w5 ⟨st4, rfl, hb6, hL7, hS8, hl9⟩ K11 hK11
  obtain ⟨n13, s14, rfl, hm, hl9⟩ := loopN_some hl9
  unfold m_impl_ValidRepairs_l1 at hm
  refine WP.seq (fun K17 hK17 => ?_)
  refine WP.region ?_
  refine WL.runk 1 [0, 5, 6, 7, 8] [(0, .slice a0' list_0.length c0'), (5, .slice a0' list_0.length c0'), (6, .int .i64 (list_0.length : Int)), (7, .int .i64 st4), (8, .bool (decide (st4 < (list_0.length : Int))))] (by kernel_rfl) ?_
  refine WL.nil ?_
  refine WQ.then_normal (hK17 _ _ _ ?_)
  refine WP.seq (fun K18 hK18 => ?_)
  refine WP.cond (decide (st4 < (list_0.length : Int))) rfl rfl (fun hc19 => ?_) (fun hc19 => ?_)
  rotate_left
  · have hm := iteF hm hc19
    refine WP.exit ?_
    refine WQ.then_exit ?_
    refine WQ.then_exit ?_
    refine WQ.block_here ?_
    obtain rfl := Option.some.inj hm
    obtain rfl := afterN_done hl9
    have hm := hmo10
    refine WQ.then_normal (hK2 _ _ _ ?_)
    refine WP.seq (fun K179 hK179 => ?_)
    refine WP.region ?_
    refine WL.runk 4 [2] [(2, .bool (decide ((list_0.length : Int) ≤ 10)))] (by kernel_rfl) ?_
    refine WL.nil ?_
    refine WQ.then_normal (hK179 _ _ _ ?_)
    refine WP.ret ?_
    obtain rfl := Option.some.inj hm
    exact WQ.ret1 _ rfl rfl ⟨rfl, hb6⟩
  have hm := iteT hm hc19
  refine WP.skip ?_
  refine WQ.then_normal (hK18 _ _ _ ?_)
  refine WP.seq (fun K20 hK20 => ?_)
  refine WP.block ?_
  refine WP.seq (fun K21 hK21 => ?_)
  refine WP.region ?_
  refine WL.runk 1 [0, 5, 6, 7, 9] [(0, .slice a0' list_0.length c0'), (5, .slice a0' list_0.length c0'), (6, .int .i64 (list_0.length : Int)), (7, .int .i64 st4), (9, .int .i64 st4)] (by kernel_rfl) ?_
  obtain ⟨x22, hx23, hm⟩ := bindE hm
  obtain ⟨a24, c25, a29, c30, hc34, hR26, hle27, hR31, hle32⟩ := nest_Repair h0 hx23
  refine WL.st (.pointer (some (at_ a0' (Int.toNat st4 * 5)))) (ST.index (T := fRepair.ty) (xs := list_0) (Rd.below h0 hb6) hx23 rfl rfl rfl Tryz.underlying24 (info48).1 (info48).2.1) rfl rfl rfl ?_
  refine WL.st (.agg #[.string (bs x22.Name), .slice a24 x22.Mends.length c25, .slice a29 x22.First.length c30, .int .i64 x22.Price, .int .i64 x22.Hours]) (ST.loadAgg (vs := [.string (bs x22.Name), .slice a24 x22.Mends.length c25, .slice a29 x22.First.length c30, .int .i64 x22.Price, .int .i64 x22.Hours]) (at_agg (cells_ext hc34 hb6)) rfl rfl rfl Tryz.underlying48 rfl (info48).1 (info48).2.1) rfl rfl rfl ?_
  refine WL.box 48 [.string (bs []), .slice none 0 0, .slice none 0 0, .int .i64 0, .int .i64 0] 4 (by kernel_rfl) rfl rfl rfl rfl ?_
  intro b35 w36 hE37 hR38
  have hb40 : Ext w w36 := Ext.trans hb6 hE37
  have hL41 : w.heap.size ≤ w36.heap.size := Nat.le_trans hL7 hE37.size
  have hS42 : SH w36 w.heap.size [aBox 48 b35 [.string (bs []), .slice none 0 0, .slice none 0 0, .int .i64 0, .int .i64 0]] := SH.add hS8 hE37 hL7 hR38
  refine WL.runk 1 [0, 3, 4, 5, 6, 7, 11] [(0, .slice a0' list_0.length c0'), (5, .slice a0' list_0.length c0'), (6, .int .i64 (list_0.length : Int)), (7, .int .i64 st4), (11, .agg #[.string (bs x22.Name), .slice a24 x22.Mends.length c25, .slice a29 x22.First.length c30, .int .i64 x22.Price, .int .i64 x22.Hours]), (4, .pointer (some ⟨b35, 0, none⟩)), (3, .int .i64 st4)] (by kernel_rfl) ?_
  refine WL.boxStore 0 [.string (bs x22.Name), .slice a24 x22.Mends.length c25, .slice a29 x22.First.length c30, .int .i64 x22.Price, .int .i64 x22.Hours] [.string (bs x22.Name), .slice a24 x22.Mends.length c25, .slice a29 x22.First.length c30, .int .i64 x22.Price, .int .i64 x22.Hours] (SH.front 0 hS42) hL41 rfl rfl rfl rfl rfl rfl rfl (info48).1 (info48).2.1 rfl rfl rfl ?_
  intro w43 hB44 hS45
  have hb46 : Ext w w43 := Below.trans hb40 hB44
  have hL47 : w.heap.size ≤ w43.heap.size := Nat.le_trans hL41 hB44.size
  refine WL.sub [(0, .slice a0' list_0.length c0'), (5, .slice a0' list_0.length c0'), (6, .int .i64 (list_0.length : Int)), (7, .int .i64 st4), (4, .pointer (some ⟨b35, 0, none⟩)), (3, .int .i64 st4)] ⟨rfl, rfl, rfl, rfl, rfl, rfl, trivial⟩ ?_
  refine WL.nil ?_
  refine WQ.then_normal (hK21 _ _ _ ?_)
  refine WP.seq (fun K48 hK48 => ?_)
  obtain ⟨x110, hx111, hm⟩ := bindE hm
  refine WP.cut (fun env' w' => env' = [(0, .slice a0' list_0.length c0'), (5, .slice a0' list_0.length c0'), (6, .int .i64 (list_0.length : Int)), (7, .int .i64 st4), (48, .bool x110)] ∧ Ext w w' ∧ w.heap.size ≤ w'.heap.size ∧ SH w' w.heap.size [aBox 48 b35 [.string (bs x22.Name), .slice a24 x22.Mends.length c25, .slice a29 x22.First.length c30, .int .i64 x22.Price, .int .i64 x22.Hours]]) ?_ ?_
  rotate_left
  · clear hx111
    rintro _ w173 ⟨rfl, hb174, hL175, hS176⟩
    refine WQ.then_normal (hK48 _ _ _ ?_)
    refine WP.cond x110 rfl rfl (fun hc177 => ?_) (fun hc177 => ?_)
    rotate_left
    · have hm := iteF hm hc177
      refine WP.skip ?_
      refine WQ.block_normal ?_
      refine WQ.then_normal (hK20 _ _ _ ?_)
      refine WP.region ?_
      refine WL.runk 2 [0, 5, 6, 7] [(0, .slice a0' list_0.length c0'), (5, .slice a0' list_0.length c0'), (6, .int .i64 (list_0.length : Int)), (7, .int .i64 (wI64 (st4 + 1)))] (by kernel_rfl) ?_
      refine WL.nil ?_
      obtain rfl := Option.some.inj hm
      exact WQ.round hK11 ⟨(wI64 (st4 + 1)), rfl, hb174, hL175, (SH.take 0 hS176), hl9⟩ (Nat.lt_succ_self _) ⟨rfl, rfl, rfl, rfl, trivial⟩
    have hm := iteT hm hc177
    refine WP.seq (fun K178 hK178 => ?_)
    refine WP.region ?_
    refine WL.runk 1 [2] [(2, .bool false)] (by kernel_rfl) ?_
    refine WL.nil ?_
    refine WQ.then_normal (hK178 _ _ _ ?_)
    refine WP.ret ?_
    refine WQ.block_ret ?_
    refine WQ.then_ret ?_
    refine WQ.then_ret ?_
    refine WQ.block_ret ?_
    refine WQ.then_ret ?_
    obtain rfl := Option.some.inj hm
    obtain rfl := afterN_done hl9
    have hm := hmo10
    obtain rfl := Option.some.inj hm
    exact WQ.ret1 _ rfl rfl ⟨rfl, hb174⟩
  have hm := hx111; clear hx111
  refine WP.region ?_
  refine WL.runk 1 [0, 3, 4, 5, 6, 7, 12] [(0, .slice a0' list_0.length c0'), (5, .slice a0' list_0.length c0'), (6, .int .i64 (list_0.length : Int)), (7, .int .i64 st4), (4, .pointer (some ⟨b35, 0, none⟩)), (3, .int .i64 st4), (12, .pointer (some ⟨b35, 0, none⟩))] (by kernel_rfl) ?_
  refine WL.st (.string (bs x22.Name)) (ST.load (cell_ext (SH.boxAt (SH.front 0 hS45) 0 _ rfl)) rfl rfl Tryz.underlying9 rfl) rfl rfl rfl ?_
  obtain ⟨x112, hx113, hm⟩ := bindE hm
  refine WL.call 64 #[.string (bs x22.Name)] rfl rfl (by kernel_rfl) (c_64 n x22.Name w43 hx113 ) ?_
  rintro _ w114 ⟨rfl, hE115⟩
  refine ⟨_, rfl, ?_⟩
  have hb117 : Ext w w114 := Ext.trans hb46 hE115
  have hL118 : w.heap.size ≤ w114.heap.size := Nat.le_trans hL47 hE115.size
  have hS119 : SH w114 w.heap.size [aBox 48 b35 [.string (bs x22.Name), .slice a24 x22.Mends.length c25, .slice a29 x22.First.length c30, .int .i64 x22.Price, .int .i64 x22.Hours]] := SH.ext hS45 hE115
  refine WL.runk 2 [0, 3, 4, 5, 6, 7, 16] [(0, .slice a0' list_0.length c0'), (5, .slice a0' list_0.length c0'), (6, .int .i64 (list_0.length : Int)), (7, .int .i64 st4), (4, .pointer (some ⟨b35, 0, none⟩)), (3, .int .i64 st4), (16, .bool (!x112))] (by kernel_rfl) ?_
  refine WL.case (!x112) [16] ⟨rfl, trivial⟩ (fun hc120 => ?_) (fun hc120 => ?_)
  · have hm := iteT hm hc120
    refine WL.runk 32 [0, 5, 6, 7, 48] [(0, .slice a0' list_0.length c0'), (5, .slice a0' list_0.length c0'), (6, .int .i64 (list_0.length : Int)), (7, .int .i64 st4), (48, .bool true)] (by kernel_rfl) ?_
    refine WL.nil ?_
    obtain rfl := Option.some.inj hm
    exact WQ.post' ⟨rfl, hb117, hL118, hS119⟩ ⟨rfl, rfl, rfl, rfl, rfl, trivial⟩
  have hm := iteF hm hc120
  refine WL.runk 1 [0, 3, 4, 5, 6, 7, 16, 17] [(0, .slice a0' list_0.length c0'), (5, .slice a0' list_0.length c0'), (6, .int .i64 (list_0.length : Int)), (7, .int .i64 st4), (4, .pointer (some ⟨b35, 0, none⟩)), (3, .int .i64 st4), (16, .bool false), (17, .pointer (some ⟨b35, 1, none⟩))] (by kernel_rfl) ?_
  refine WL.st (.slice a24 x22.Mends.length c25) (ST.load (cell_ext (SH.boxAt (SH.front 0 hS119) 1 _ rfl)) rfl rfl Tryz.underlying25 rfl) rfl rfl rfl ?_
  obtain ⟨x121, hx122, hm⟩ := bindE hm
  refine WL.call 65 #[.slice a24 x22.Mends.length c25] rfl rfl (by kernel_rfl) (c_65 n x22.Mends a24 c25 w114 hx122 (Rd.below hR26 hb117) hle27) ?_
  rintro _ w123 ⟨rfl, hE124⟩
  refine ⟨_, rfl, ?_⟩
  have hb126 : Ext w w123 := Ext.trans hb117 hE124
  have hL127 : w.heap.size ≤ w123.heap.size := Nat.le_trans hL118 hE124.size
  have hS128 : SH w123 w.heap.size [aBox 48 b35 [.string (bs x22.Name), .slice a24 x22.Mends.length c25, .slice a29 x22.First.length c30, .int .i64 x22.Price, .int .i64 x22.Hours]] := SH.ext hS119 hE124
  refine WL.runk 3 [0, 3, 4, 5, 6, 7, 22] [(0, .slice a0' list_0.length c0'), (5, .slice a0' list_0.length c0'), (6, .int .i64 (list_0.length : Int)), (7, .int .i64 st4), (4, .pointer (some ⟨b35, 0, none⟩)), (3, .int .i64 st4), (22, .bool (!x121))] (by kernel_rfl) ?_
  refine WL.case (!x121) [22] ⟨rfl, trivial⟩ (fun hc129 => ?_) (fun hc129 => ?_)
  · have hm := iteT hm hc129
    refine WL.runk 26 [0, 5, 6, 7, 48] [(0, .slice a0' list_0.length c0'), (5, .slice a0' list_0.length c0'), (6, .int .i64 (list_0.length : Int)), (7, .int .i64 st4), (48, .bool true)] (by kernel_rfl) ?_
    refine WL.nil ?_
    obtain rfl := Option.some.inj hm
    exact WQ.post' ⟨rfl, hb126, hL127, hS128⟩ ⟨rfl, rfl, rfl, rfl, rfl, trivial⟩
  have hm := iteF hm hc129
  refine WL.runk 1 [0, 3, 4, 5, 6, 7, 22, 23] [(0, .slice a0' list_0.length c0'), (5, .slice a0' list_0.length c0'), (6, .int .i64 (list_0.length : Int)), (7, .int .i64 st4), (4, .pointer (some ⟨b35, 0, none⟩)), (3, .int .i64 st4), (22, .bool false), (23, .pointer (some ⟨b35, 2, none⟩))] (by kernel_rfl) ?_
  refine WL.st (.slice a29 x22.First.length c30) (ST.load (cell_ext (SH.boxAt (SH.front 0 hS128) 2 _ rfl)) rfl rfl Tryz.underlying25 rfl) rfl rfl rfl ?_
  refine WL.runk 2 [0, 3, 4, 5, 6, 7, 22, 24, 26] [(0, .slice a0' list_0.length c0'), (5, .slice a0' list_0.length c0'), (6, .int .i64 (list_0.length : Int)), (7, .int .i64 st4), (4, .pointer (some ⟨b35, 0, none⟩)), (3, .int .i64 st4), (22, .bool false), (24, .slice a29 x22.First.length c30), (26, .int .i64 (wI64 (st4 - 1)))] (by kernel_rfl) ?_
  obtain ⟨x130, hx131, hm⟩ := bindE hm
  refine WL.call 66 #[.slice a29 x22.First.length c30, .int .i64 0, .int .i64 (wI64 (st4 - 1))] rfl rfl (by kernel_rfl) (c_66 n x22.First a29 c30 0 (wI64 (st4 - 1)) w123 hx131 (Rd.below hR31 hb126) hle32) ?_
  rintro _ w132 ⟨rfl, hE133⟩
  refine ⟨_, rfl, ?_⟩
  have hb135 : Ext w w132 := Ext.trans hb126 hE133
  have hL136 : w.heap.size ≤ w132.heap.size := Nat.le_trans hL127 hE133.size
  have hS137 : SH w132 w.heap.size [aBox 48 b35 [.string (bs x22.Name), .slice a24 x22.Mends.length c25, .slice a29 x22.First.length c30, .int .i64 x22.Price, .int .i64 x22.Hours]] := SH.ext hS128 hE133
  refine WL.runk 3 [0, 3, 4, 5, 6, 7, 30] [(0, .slice a0' list_0.length c0'), (5, .slice a0' list_0.length c0'), (6, .int .i64 (list_0.length : Int)), (7, .int .i64 st4), (4, .pointer (some ⟨b35, 0, none⟩)), (3, .int .i64 st4), (30, .bool (!x130))] (by kernel_rfl) ?_
  refine WL.case (!x130) [30] ⟨rfl, trivial⟩ (fun hc138 => ?_) (fun hc138 => ?_)
  · have hm := iteT hm hc138
    refine WL.runk 18 [0, 5, 6, 7, 48] [(0, .slice a0' list_0.length c0'), (5, .slice a0' list_0.length c0'), (6, .int .i64 (list_0.length : Int)), (7, .int .i64 st4), (48, .bool true)] (by kernel_rfl) ?_
    refine WL.nil ?_
    obtain rfl := Option.some.inj hm
    exact WQ.post' ⟨rfl, hb135, hL136, hS137⟩ ⟨rfl, rfl, rfl, rfl, rfl, trivial⟩
  have hm := iteF hm hc138
  refine WL.runk 1 [0, 3, 4, 5, 6, 7, 30, 31] [(0, .slice a0' list_0.length c0'), (5, .slice a0' list_0.length c0'), (6, .int .i64 (list_0.length : Int)), (7, .int .i64 st4), (4, .pointer (some ⟨b35, 0, none⟩)), (3, .int .i64 st4), (30, .bool false), (31, .pointer (some ⟨b35, 3, none⟩))] (by kernel_rfl) ?_
  refine WL.st (.int .i64 x22.Price) (ST.load (cell_ext (SH.boxAt (SH.front 0 hS137) 3 _ rfl)) rfl rfl Tryz.underlying2 rfl) rfl rfl rfl ?_
  obtain ⟨x139, hx140, hm⟩ := bindE hm
  refine WL.call 51 #[.int .i64 x22.Price, .int .i64 0, .int .i64 100000] rfl rfl (by kernel_rfl) (c_51 n x22.Price 0 100000 w132 hx140 ) ?_
  rintro _ w141 ⟨rfl, hE142⟩
  refine ⟨_, rfl, ?_⟩
  have hb144 : Ext w w141 := Ext.trans hb135 hE142
  have hL145 : w.heap.size ≤ w141.heap.size := Nat.le_trans hL136 hE142.size
  have hS146 : SH w141 w.heap.size [aBox 48 b35 [.string (bs x22.Name), .slice a24 x22.Mends.length c25, .slice a29 x22.First.length c30, .int .i64 x22.Price, .int .i64 x22.Hours]] := SH.ext hS137 hE142
  refine WL.runk 3 [0, 3, 4, 5, 6, 7, 36] [(0, .slice a0' list_0.length c0'), (5, .slice a0' list_0.length c0'), (6, .int .i64 (list_0.length : Int)), (7, .int .i64 st4), (4, .pointer (some ⟨b35, 0, none⟩)), (3, .int .i64 st4), (36, .bool (!x139))] (by kernel_rfl) ?_
  refine WL.case (!x139) [36] ⟨rfl, trivial⟩ (fun hc147 => ?_) (fun hc147 => ?_)
  · have hm := iteT hm hc147
    refine WL.runk 12 [0, 5, 6, 7, 48] [(0, .slice a0' list_0.length c0'), (5, .slice a0' list_0.length c0'), (6, .int .i64 (list_0.length : Int)), (7, .int .i64 st4), (48, .bool true)] (by kernel_rfl) ?_
    refine WL.nil ?_
    obtain rfl := Option.some.inj hm
    exact WQ.post' ⟨rfl, hb144, hL145, hS146⟩ ⟨rfl, rfl, rfl, rfl, rfl, trivial⟩
  have hm := iteF hm hc147
  refine WL.runk 1 [0, 3, 4, 5, 6, 7, 36, 37] [(0, .slice a0' list_0.length c0'), (5, .slice a0' list_0.length c0'), (6, .int .i64 (list_0.length : Int)), (7, .int .i64 st4), (4, .pointer (some ⟨b35, 0, none⟩)), (3, .int .i64 st4), (36, .bool false), (37, .pointer (some ⟨b35, 4, none⟩))] (by kernel_rfl) ?_
  refine WL.st (.int .i64 x22.Hours) (ST.load (cell_ext (SH.boxAt (SH.front 0 hS146) 4 _ rfl)) rfl rfl Tryz.underlying2 rfl) rfl rfl rfl ?_
  obtain ⟨x148, hx149, hm⟩ := bindE hm
  refine WL.call 51 #[.int .i64 x22.Hours, .int .i64 0, .int .i64 1000] rfl rfl (by kernel_rfl) (c_51 n x22.Hours 0 1000 w141 hx149 ) ?_
  rintro _ w150 ⟨rfl, hE151⟩
  refine ⟨_, rfl, ?_⟩
  have hb153 : Ext w w150 := Ext.trans hb144 hE151
  have hL154 : w.heap.size ≤ w150.heap.size := Nat.le_trans hL145 hE151.size
  have hS155 : SH w150 w.heap.size [aBox 48 b35 [.string (bs x22.Name), .slice a24 x22.Mends.length c25, .slice a29 x22.First.length c30, .int .i64 x22.Price, .int .i64 x22.Hours]] := SH.ext hS146 hE151
  refine WL.runk 3 [0, 3, 4, 5, 6, 7, 42] [(0, .slice a0' list_0.length c0'), (5, .slice a0' list_0.length c0'), (6, .int .i64 (list_0.length : Int)), (7, .int .i64 st4), (4, .pointer (some ⟨b35, 0, none⟩)), (3, .int .i64 st4), (42, .bool (!x148))] (by kernel_rfl) ?_
  refine WL.case (!x148) [42] ⟨rfl, trivial⟩ (fun hc156 => ?_) (fun hc156 => ?_)
  · have hm := iteT hm hc156
    refine WL.runk 6 [0, 5, 6, 7, 48] [(0, .slice a0' list_0.length c0'), (5, .slice a0' list_0.length c0'), (6, .int .i64 (list_0.length : Int)), (7, .int .i64 st4), (48, .bool true)] (by kernel_rfl) ?_
    refine WL.nil ?_
    obtain rfl := Option.some.inj hm
    exact WQ.post' ⟨rfl, hb153, hL154, hS155⟩ ⟨rfl, rfl, rfl, rfl, rfl, trivial⟩
  have hm := iteF hm hc156
  refine WL.runk 2 [0, 4, 5, 6, 7, 42, 43, 44] [(0, .slice a0' list_0.length c0'), (5, .slice a0' list_0.length c0'), (6, .int .i64 (list_0.length : Int)), (7, .int .i64 st4), (4, .pointer (some ⟨b35, 0, none⟩)), (42, .bool false), (43, .slice a0' list_0.length c0'), (44, .int .i64 st4)] (by kernel_rfl) ?_
  obtain ⟨x157, hx158, hm⟩ := bindE hm
  refine WL.rsub (T := fRepair.ty) 45 h0 hb153 hle0 hx158 rfl rfl Tryz.underlying24 (info48).1 (info48).2.1 rfl ⟨_, rfl⟩ rfl rfl rfl rfl ?_
  intro a159 c160 hR162 hle163
  refine WL.runk 1 [0, 5, 6, 7, 42, 45, 46] [(0, .slice a0' list_0.length c0'), (5, .slice a0' list_0.length c0'), (6, .int .i64 (list_0.length : Int)), (7, .int .i64 st4), (42, .bool false), (45, .slice a159 x157.length c160), (46, .func (.func 67) #[] #[.pointer (some ⟨b35, 0, none⟩)])] (by kernel_rfl) ?_
  obtain ⟨x165, hx166, hm⟩ := bindE hm
  refine WL.call 41 #[.slice a159 x157.length c160, .func (.func 67) #[] #[.pointer (some ⟨b35, 0, none⟩)]] rfl rfl (by kernel_rfl) (c_41_67 n x157 a159 c160 x22 b35 0 a24 c25 a29 c30 w150 hx166 (Rd.below hR162 hb153) hle163 (SH.boxRd (SH.front 0 hS155)) (Rd.below hR26 hb153) hle27 (Rd.below hR31 hb153) hle32) ?_
  rintro _ w167 ⟨rfl, hE168⟩
  refine ⟨_, rfl, ?_⟩
  have hb170 : Ext w w167 := Ext.trans hb153 hE168
  have hL171 : w.heap.size ≤ w167.heap.size := Nat.le_trans hL154 hE168.size
  have hS172 : SH w167 w.heap.size [aBox 48 b35 [.string (bs x22.Name), .slice a24 x22.Mends.length c25, .slice a29 x22.First.length c30, .int .i64 x22.Price, .int .i64 x22.Hours]] := SH.ext hS155 hE168
  refine WL.runk 1 [0, 5, 6, 7, 48] [(0, .slice a0' list_0.length c0'), (5, .slice a0' list_0.length c0'), (6, .int .i64 (list_0.length : Int)), (7, .int .i64 st4), (48, .bool x165)] (by kernel_rfl) ?_
  refine WL.nil ?_
  obtain rfl := Option.some.inj hm
  exact WQ.post' ⟨rfl, hb170, hL171, hS172⟩ ⟨rfl, rfl, rfl, rfl, rfl, trivial⟩

theorem c_30 (n : Nat) (list_0 : List SRepair) (a0' : Option Addr) (c0' : Nat) (some_1 : List Int) (a1' : Option Addr) (c1' : Nat) (faults_2 : List Int) (a2' : Option Addr) (c2' : Nat) (w : World) {r : Int} (hm : m_impl_someCode n list_0 some_1 faults_2 = some r) (h0 : Rd fRepair.ty w a0' list_0) (hle0 : list_0.length ≤ c0') (h1 : Rd fInt.ty w a1' some_1) (hle1 : some_1.length ≤ c1') (h2 : Rd fInt.ty w a2' faults_2) (hle2 : faults_2.length ≤ c2') :
    CallV Tryz.prog 30 #[.slice a0' list_0.length c0', .slice a1' some_1.length c1', .slice a2' faults_2.length c2'] w (fun v w' => v = .int .i64 r ∧ Ext w w') := by
  unfold m_impl_someCode at hm
  refine CallV.enter Tryz.func30 rfl (by kernel_rfl) Tryz.ntmps30 (env := [(0, .slice a0' list_0.length c0'), (1, .slice a1' some_1.length c1'), (2, .slice a2' faults_2.length c2')]) ⟨rfl, rfl, rfl, trivial⟩ ?_
  refine WP.seq (fun K1 hK1 => ?_)
  refine WP.region ?_
  refine WL.runk 1 [0, 1, 2] [(0, .slice a0' list_0.length c0'), (1, .slice a1' some_1.length c1'), (2, .slice a2' faults_2.length c2')] (by kernel_rfl) ?_
  refine WL.nil ?_
  refine WQ.then_normal (hK1 _ _ _ ?_)
  refine WP.seq (fun K2 hK2 => ?_)
  refine WP.block ?_
  refine WP.seq (fun K3 hK3 => ?_)
  refine WP.region ?_
  refine WL.runk 1 [0, 1, 2, 8] [(0, .slice a0' list_0.length c0'), (1, .slice a1' some_1.length c1'), (2, .slice a2' faults_2.length c2'), (8, .slice a0' list_0.length c0')] (by kernel_rfl) ?_
  obtain ⟨x4, hx5, hm⟩ := bindE hm
  refine WL.call 25 #[.slice a0' list_0.length c0'] rfl rfl (by kernel_rfl) (c_25 n list_0 a0' c0' w hx5 (Rd.below h0 (Ext.refl w)) hle0) ?_
  rintro _ w6 ⟨rfl, hE7⟩
  refine ⟨_, rfl, ?_⟩
  have hb9 : Ext w w6 := Ext.trans (Ext.refl w) hE7
  have hL10 : w.heap.size ≤ w6.heap.size := Nat.le_trans (Nat.le_refl _) hE7.size
  have hS11 : SH w6 w.heap.size [] := SH.ext (SH.nil _ _) hE7
  refine WL.runk 2 [0, 1, 2, 7] [(0, .slice a0' list_0.length c0'), (1, .slice a1' some_1.length c1'), (2, .slice a2' faults_2.length c2'), (7, .bool (!x4))] (by kernel_rfl) ?_
  refine WL.nil ?_
  refine WQ.then_normal (hK3 _ _ _ ?_)
  refine WP.cond (!x4) rfl rfl (fun hc12 => ?_) (fun hc12 => ?_)
  · have hm := iteT hm hc12
    refine WP.seq (fun K13 hK13 => ?_)
    refine WP.region ?_
    refine WL.runk 1 [6] [(6, .int .i64 1)] (by kernel_rfl) ?_
    refine WL.nil ?_
    refine WQ.then_normal (hK13 _ _ _ ?_)
    refine WP.ret ?_
    refine WQ.block_ret ?_
    refine WQ.then_ret ?_
    obtain rfl := Option.some.inj hm
    exact WQ.ret1 _ rfl rfl ⟨rfl, hb9⟩
  have hm := iteF hm hc12
  refine WP.seq (fun K14 hK14 => ?_)
  obtain ⟨x32, hx33, hm⟩ := bindE hm
  refine WP.cut (fun env' w' => env' = [(11, .bool x32)] ∧ Ext w w' ∧ w.heap.size ≤ w'.heap.size ∧ SH w' w.heap.size []) ?_ ?_
  rotate_left
  · clear hx33
    rintro _ w51 ⟨rfl, hb52, hL53, hS54⟩
    refine WQ.then_normal (hK14 _ _ _ ?_)
    refine WP.cond x32 rfl rfl (fun hc55 => ?_) (fun hc55 => ?_)
    · have hm := iteT hm hc55
      refine WP.seq (fun K56 hK56 => ?_)
      refine WP.region ?_
      refine WL.runk 1 [6] [(6, .int .i64 2)] (by kernel_rfl) ?_
      refine WL.nil ?_
      refine WQ.then_normal (hK56 _ _ _ ?_)
      refine WP.ret ?_
      refine WQ.block_ret ?_
      refine WQ.then_ret ?_
      obtain rfl := Option.some.inj hm
      exact WQ.ret1 _ rfl rfl ⟨rfl, hb52⟩
    have hm := iteF hm hc55
    refine WP.skip ?_
    refine WQ.block_normal ?_
    refine WQ.then_normal (hK2 _ _ _ ?_)
    refine WP.seq (fun K57 hK57 => ?_)
    refine WP.region ?_
    refine WL.runk 1 [6] [(6, .int .i64 0)] (by kernel_rfl) ?_
    refine WL.nil ?_
    refine WQ.then_normal (hK57 _ _ _ ?_)
    refine WP.ret ?_
    obtain rfl := Option.some.inj hm
    exact WQ.ret1 _ rfl rfl ⟨rfl, hb52⟩
  have hm := hx33; clear hx33
  refine WP.region ?_
  refine WL.runk 4 [2, 12, 15] [(2, .slice a2' faults_2.length c2'), (12, .slice a1' some_1.length c1'), (15, .int .i64 (wI64 ((list_0.length : Int) - 1)))] (by kernel_rfl) ?_
  obtain ⟨x34, hx35, hm⟩ := bindE hm
  refine WL.call 66 #[.slice a1' some_1.length c1', .int .i64 0, .int .i64 (wI64 ((list_0.length : Int) - 1))] rfl rfl (by kernel_rfl) (c_66 n some_1 a1' c1' 0 (wI64 ((list_0.length : Int) - 1)) w6 hx35 (Rd.below h1 hb9) hle1) ?_
  rintro _ w36 ⟨rfl, hE37⟩
  refine ⟨_, rfl, ?_⟩
  have hb39 : Ext w w36 := Ext.trans hb9 hE37
  have hL40 : w.heap.size ≤ w36.heap.size := Nat.le_trans hL10 hE37.size
  have hS41 : SH w36 w.heap.size [] := SH.ext hS11 hE37
  refine WL.runk 2 [2, 18] [(2, .slice a2' faults_2.length c2'), (18, .bool (!x34))] (by kernel_rfl) ?_
  refine WL.case (!x34) [18] ⟨rfl, trivial⟩ (fun hc42 => ?_) (fun hc42 => ?_)
  · have hm := iteT hm hc42
    refine WL.runk 5 [11] [(11, .bool true)] (by kernel_rfl) ?_
    refine WL.nil ?_
    obtain rfl := Option.some.inj hm
    exact WQ.post' ⟨rfl, hb39, hL40, hS41⟩ ⟨rfl, trivial⟩
  have hm := iteF hm hc42
  refine WL.runk 1 [18, 19] [(18, .bool false), (19, .slice a2' faults_2.length c2')] (by kernel_rfl) ?_
  obtain ⟨x43, hx44, hm⟩ := bindE hm
  refine WL.call 65 #[.slice a2' faults_2.length c2'] rfl rfl (by kernel_rfl) (c_65 n faults_2 a2' c2' w36 hx44 (Rd.below h2 hb39) hle2) ?_
  rintro _ w45 ⟨rfl, hE46⟩
  refine ⟨_, rfl, ?_⟩
  have hb48 : Ext w w45 := Ext.trans hb39 hE46
  have hL49 : w.heap.size ≤ w45.heap.size := Nat.le_trans hL40 hE46.size
  have hS50 : SH w45 w.heap.size [] := SH.ext hS41 hE46
  refine WL.runk 3 [11] [(11, .bool (!x43))] (by kernel_rfl) ?_
  refine WL.nil ?_
  obtain rfl := Option.some.inj hm
  exact WQ.post' ⟨rfl, hb48, hL49, hS50⟩ ⟨rfl, trivial⟩

theorem c_31 (n : Nat) (set_0 : Int) (k_1 : Int) (w : World) {r : Bool} (hm : m_impl_has n set_0 k_1 = some r)  :
    CallV Tryz.prog 31 #[.int .i64 set_0, .int .i64 k_1] w (fun v w' => v = .bool r ∧ Ext w w') := by
  unfold m_impl_has at hm
  refine CallV.enter Tryz.func31 rfl (by kernel_rfl) Tryz.ntmps31 (env := [(0, .int .i64 set_0), (1, .int .i64 k_1)]) ⟨rfl, rfl, trivial⟩ ?_
  refine WP.seq (fun K1 hK1 => ?_)
  refine WP.region ?_
  refine WL.runk 1 [0, 1] [(0, .int .i64 set_0), (1, .int .i64 k_1)] (by kernel_rfl) ?_
  refine WL.nil ?_
  refine WQ.then_normal (hK1 _ _ _ ?_)
  refine WP.seq (fun K2 hK2 => ?_)
  refine WP.region ?_
  refine WL.runk 3 [5, 7] [(5, .int .i64 set_0), (7, .int .u64 (IntKind.u64.wrap k_1))] (by kernel_rfl) ?_
  obtain ⟨x3, hx4, hm⟩ := bindE hm
  refine WL.st (.int .i64 x3) (ST.shr (k := .i64) hx4 rfl rfl rfl) rfl rfl rfl ?_
  refine WL.runk 3 [4] [(4, .bool ((iand .i64 x3 1) == 1))] (by kernel_rfl) ?_
  refine WL.nil ?_
  refine WQ.then_normal (hK2 _ _ _ ?_)
  refine WP.ret ?_
  obtain rfl := Option.some.inj hm
  exact WQ.ret1 _ rfl rfl ⟨rfl, (Ext.refl w)⟩

theorem c_32 (n : Nat) (s_0 : List Int) (a0' : Option Addr) (c0' : Nat) (w : World) (w0 : World) (B : Nat) (L : List Asrt) {r : List Int} (hm : m_slices_Reverse_int64_int64 n s_0 = some r) (_hE0 : Ext w0 w) (_hW : w0.heap.size ≤ B) (hL : B ≤ w.heap.size) (hS : SH w B (aOwn fInt 2 a0' c0' s_0 :: L)) :
    CallV Tryz.prog 32 #[.slice a0' s_0.length c0'] w (fun v w' => v = .tuple #[] ∧ Below B w w' ∧ SH w' B (aOwn fInt 2 a0' c0' r :: L) ∧ r.length = s_0.length) := by
  unfold m_slices_Reverse_int64_int64 at hm
  refine CallV.enter Tryz.func32 rfl (by kernel_rfl) Tryz.ntmps32 (env := [(0, .slice a0' s_0.length c0')]) ⟨rfl, trivial⟩ ?_
  refine WP.seq (fun K1 hK1 => ?_)
  refine WP.region ?_
  refine WL.runk 5 [0, 2, 3] [(0, .slice a0' s_0.length c0'), (2, .int .i64 0), (3, .int .i64 (wI64 ((s_0.length : Int) - 1)))] (by kernel_rfl) ?_
  refine WL.nil ?_
  refine WQ.then_normal (hK1 _ _ _ ?_)
  refine WP.block ?_
  obtain ⟨t60, ht61, hm⟩ := bindE hm
  have hmo55 := hm; clear hm
  refine WP.sub [(0, .slice a0' s_0.length c0'), (2, .int .i64 0), (3, .int .i64 (wI64 ((s_0.length : Int) - 1)))] ⟨rfl, rfl, rfl, trivial⟩ ?_
  refine WP.loop (fun n' env' w' => ∃ (st49 : Int × Int × List Int) , env' = [(0, .slice a0' st49.2.2.length c0'), (2, .int .i64 st49.1), (3, .int .i64 st49.2.1)] ∧ Below B w w' ∧ B ≤ w'.heap.size ∧ SH w' B (aOwn fInt 2 a0' c0' st49.2.2 :: L) ∧ st49.2.2.length = s_0.length ∧ loopN (m_slices_Reverse_int64_int64_l1 n) n' st49 = some t60) n ⟨(0, (wI64 ((s_0.length : Int) - 1)), s_0), rfl, (Below.refl _ _), hL, hS, rfl, ht61⟩ ?_
  rintro n57 _ w50 ⟨st49, rfl, hb51, hL52, hS53, hn62, hl54⟩ K56 hK56
  obtain ⟨n58, s59, rfl, hm, hl54⟩ := loopN_some hl54
  unfold m_slices_Reverse_int64_int64_l1 at hm
  refine WP.seq (fun K63 hK63 => ?_)
  refine WP.seq (fun K64 hK64 => ?_)
  refine WP.region ?_
  refine WL.runk 3 [0, 2, 3, 9] [(0, .slice a0' st49.2.2.length c0'), (2, .int .i64 st49.1), (3, .int .i64 st49.2.1), (9, .bool (decide (st49.1 < st49.2.1)))] (by kernel_rfl) ?_
  refine WL.nil ?_
  refine WQ.then_normal (hK64 _ _ _ ?_)
  refine WP.cond (decide (st49.1 < st49.2.1)) rfl rfl (fun hc65 => ?_) (fun hc65 => ?_)
  rotate_left
  · have hm := iteF hm hc65
    refine WP.exit ?_
    refine WQ.then_exit ?_
    refine WQ.then_exit ?_
    refine WQ.block_here ?_
    obtain rfl := Option.some.inj hm
    obtain rfl := afterN_done hl54
    have hm := hmo55
    obtain rfl := Option.some.inj hm
    exact WQ.end0 rfl ⟨rfl, hb51, hS53, hn62⟩
  have hm := iteT hm hc65
  refine WP.skip ?_
  refine WQ.then_normal (hK63 _ _ _ ?_)
  refine WP.seq (fun K66 hK66 => ?_)
  refine WP.block ?_
  refine WP.open (n := 16) (by kernel_rfl) rfl (fun w67 hE68 => ?_)
  have hb69 : Below B w w67 := Below.trans hb51 (Below.mono hE68 hL52)
  have hL70 : B ≤ w67.heap.size := Nat.le_trans hL52 hE68.size
  have hS71 : SH w67 B (aOwn fInt 2 a0' c0' st49.2.2 :: L) := SH.ext hS53 hE68
  refine WA.pre (i := 2) (D' := [2]) [(0, .slice a0' st49.2.2.length c0'), (2, .int .i64 st49.1), (3, .int .i64 st49.2.1), (9, .bool (decide (st49.1 < st49.2.1))), (16, .slice a0' st49.2.2.length c0')] rfl (by kernel_rfl) rfl (fun _ => by kernel_rfl) rfl ?_
  refine WA.pre (i := 3) (D' := [2, 3]) [(0, .slice a0' st49.2.2.length c0'), (2, .int .i64 st49.1), (3, .int .i64 st49.2.1), (9, .bool (decide (st49.1 < st49.2.1))), (16, .slice a0' st49.2.2.length c0'), (17, .int .i64 st49.2.1)] rfl (by kernel_rfl) rfl (fun _ => by kernel_rfl) rfl ?_
  refine WA.quiet (f' := 3) (D' := [2, 3, 0, 1, 4, 5, 6, 7, 8, 9, 10, 11, 12]) [0, 1, 4, 5, 6, 7, 8, 9, 10, 11, 12] rfl rfl (by kernel_rfl) ?_
  refine QL.step1v 14 (.slice a0' st49.2.2.length c0') rfl (fun _ => by kernel_rfl) ?_
  refine QL.step1v 15 (.int .i64 st49.1) rfl (fun _ => by kernel_rfl) ?_
  refine QL.step1v 18 (.slice a0' st49.2.2.length c0') rfl (fun _ => by kernel_rfl) ?_
  refine QL.step1v 19 (.int .i64 st49.2.1) rfl (fun _ => by kernel_rfl) ?_
  refine QL.subk [0, 2, 3, 16, 17, 14, 15, 18, 19] [(0, .slice a0' st49.2.2.length c0'), (2, .int .i64 st49.1), (3, .int .i64 st49.2.1), (16, .slice a0' st49.2.2.length c0'), (17, .int .i64 st49.2.1), (14, .slice a0' st49.2.2.length c0'), (15, .int .i64 st49.1), (18, .slice a0' st49.2.2.length c0'), (19, .int .i64 st49.2.1)] (by kernel_rfl) ?_
  obtain ⟨x72, hx73, hm⟩ := bindE hm
  refine QL.st (.pointer (some (at_ a0' (Int.toNat st49.2.1 * 1)))) (ST.index (T := fInt.ty) (xs := st49.2.2) (SH.rd (SH.front 0 hS71)) hx73 rfl rfl rfl Tryz.underlying25 (info2).1 (info2).2.1) rfl rfl rfl ?_
  refine QL.st (.int .i64 x72) (ST.load (cell_ext (Rd.flat (F := fInt) (SH.rd (SH.front 0 hS71)) hx73 0 rfl)) rfl rfl Tryz.underlying2 rfl) rfl rfl rfl ?_
  refine QL.step1v 22 (.slice a0' st49.2.2.length c0') rfl (fun _ => by kernel_rfl) ?_
  refine QL.step1v 23 (.int .i64 st49.1) rfl (fun _ => by kernel_rfl) ?_
  refine QL.subk [0, 2, 3, 16, 17, 14, 15, 21, 22, 23] [(0, .slice a0' st49.2.2.length c0'), (2, .int .i64 st49.1), (3, .int .i64 st49.2.1), (16, .slice a0' st49.2.2.length c0'), (17, .int .i64 st49.2.1), (14, .slice a0' st49.2.2.length c0'), (15, .int .i64 st49.1), (21, .int .i64 x72), (22, .slice a0' st49.2.2.length c0'), (23, .int .i64 st49.1)] (by kernel_rfl) ?_
  obtain ⟨x74, hx75, hm⟩ := bindE hm
  refine QL.st (.pointer (some (at_ a0' (Int.toNat st49.1 * 1)))) (ST.index (T := fInt.ty) (xs := st49.2.2) (SH.rd (SH.front 0 hS71)) hx75 rfl rfl rfl Tryz.underlying25 (info2).1 (info2).2.1) rfl rfl rfl ?_
  refine QL.st (.int .i64 x74) (ST.load (cell_ext (Rd.flat (F := fInt) (SH.rd (SH.front 0 hS71)) hx75 0 rfl)) rfl rfl Tryz.underlying2 rfl) rfl rfl rfl ?_
  obtain ⟨x76, hx77, hm⟩ := bindE hm
  refine QL.st (.pointer (some (at_ a0' (Int.toNat st49.1 * 1)))) (ST.index (T := fInt.ty) (xs := st49.2.2) (SH.rd (SH.front 0 hS71)) hx77 rfl rfl rfl Tryz.underlying25 (info2).1 (info2).2.1) rfl rfl rfl ?_
  refine QL.subk [0, 2, 3, 16, 17, 21, 25, 26] [(0, .slice a0' st49.2.2.length c0'), (2, .int .i64 st49.1), (3, .int .i64 st49.2.1), (16, .slice a0' st49.2.2.length c0'), (17, .int .i64 st49.2.1), (21, .int .i64 x72), (25, .int .i64 x74), (26, .pointer (some (at_ a0' (Int.toNat st49.1 * 1))))] (by kernel_rfl) ?_
  refine QL.nil ?_
  intro w78 hE79
  have hb80 : Below B w w78 := Below.trans hb69 (Below.mono hE79 hL70)
  have hL81 : B ≤ w78.heap.size := Nat.le_trans hL70 hE79.size
  have hS82 : SH w78 B (aOwn fInt 2 a0' c0' st49.2.2 :: L) := SH.ext hS71 hE79
  refine WA.one (i := 13) (D' := [2, 3, 0, 1, 4, 5, 6, 7, 8, 9, 10, 11, 12, 13]) rfl rfl (by kernel_rfl) ?_
  refine WL.store (F := fInt) x72 0 [.int .i64 x72] (SH.front 0 hS82) hL81 hx77 rfl rfl rfl rfl rfl rfl rfl (info2).1 (info2).2.1 rfl rfl rfl ?_
  intro w83 hB84 hS85
  have hb86 : Below B w w83 := Below.trans hb80 hB84
  have hL87 : B ≤ w83.heap.size := Nat.le_trans hL81 hB84.size
  refine WL.sub [(0, .slice a0' ((st49.2.2.set (Int.toNat st49.1) x72).length) c0'), (2, .int .i64 st49.1), (3, .int .i64 st49.2.1), (16, .slice a0' ((st49.2.2.set (Int.toNat st49.1) x72).length) c0'), (17, .int .i64 st49.2.1), (21, .int .i64 x72), (25, .int .i64 x74)] ⟨by first | (simp only [List.length_set]; done) | (simp only [List.length_set]; rfl), rfl, rfl, by first | (simp only [List.length_set]; done) | (simp only [List.length_set]; rfl), rfl, rfl, rfl, trivial⟩ ?_
  have hn88 : (st49.2.2.set (Int.toNat st49.1) x72).length = s_0.length := List.length_set.trans hn62
  refine WL.sub [(0, .slice a0' ((st49.2.2.set (Int.toNat st49.1) x72).length) c0'), (2, .int .i64 st49.1), (3, .int .i64 st49.2.1), (16, .slice a0' ((st49.2.2.set (Int.toNat st49.1) x72).length) c0'), (17, .int .i64 st49.2.1), (25, .int .i64 x74)] ⟨rfl, rfl, rfl, rfl, rfl, rfl, trivial⟩ ?_
  refine WL.nil ?_
  refine WA.one (i := 14) (D' := [2, 3, 0, 1, 4, 5, 6, 7, 8, 9, 10, 11, 12, 13, 14]) rfl rfl (by kernel_rfl) ?_
  obtain ⟨x89, hx90, hm⟩ := bindE hm
  refine WL.st (.pointer (some (at_ a0' (Int.toNat st49.2.1 * 1)))) (ST.index (T := fInt.ty) (xs := (st49.2.2.set (Int.toNat st49.1) x72)) (SH.rd (SH.front 0 hS85)) hx90 rfl rfl rfl Tryz.underlying25 (info2).1 (info2).2.1) rfl rfl rfl ?_
  refine WL.sub [(0, .slice a0' ((st49.2.2.set (Int.toNat st49.1) x72).length) c0'), (2, .int .i64 st49.1), (3, .int .i64 st49.2.1), (25, .int .i64 x74), (27, .pointer (some (at_ a0' (Int.toNat st49.2.1 * 1))))] ⟨rfl, rfl, rfl, rfl, rfl, trivial⟩ ?_
  refine WL.nil ?_
  refine WA.one (i := 15) (D' := [2, 3, 0, 1, 4, 5, 6, 7, 8, 9, 10, 11, 12, 13, 14, 15]) rfl rfl (by kernel_rfl) ?_
  refine WL.store (F := fInt) x74 0 [.int .i64 x74] (SH.front 0 hS85) hL87 hx90 rfl rfl rfl rfl rfl rfl rfl (info2).1 (info2).2.1 rfl rfl rfl ?_
  intro w91 hB92 hS93
  have hb94 : Below B w w91 := Below.trans hb86 hB92
  have hL95 : B ≤ w91.heap.size := Nat.le_trans hL87 hB92.size
  refine WL.sub [(0, .slice a0' (((st49.2.2.set (Int.toNat st49.1) x72).set (Int.toNat st49.2.1) x74).length) c0'), (2, .int .i64 st49.1), (3, .int .i64 st49.2.1), (25, .int .i64 x74)] ⟨by first | (simp only [List.length_set]; done) | (simp only [List.length_set]; rfl), rfl, rfl, rfl, trivial⟩ ?_
  have hn96 : ((st49.2.2.set (Int.toNat st49.1) x72).set (Int.toNat st49.2.1) x74).length = s_0.length := List.length_set.trans hn88
  refine WL.sub [(0, .slice a0' (((st49.2.2.set (Int.toNat st49.1) x72).set (Int.toNat st49.2.1) x74).length) c0'), (2, .int .i64 st49.1), (3, .int .i64 st49.2.1)] ⟨rfl, rfl, rfl, trivial⟩ ?_
  refine WL.nil ?_
  refine WA.done (by kernel_rfl) ?_
  refine WQ.block_normal ?_
  refine WQ.then_normal (hK66 _ _ _ ?_)
  refine WP.region ?_
  refine WL.runk 6 [0, 2, 3] [(0, .slice a0' (((st49.2.2.set (Int.toNat st49.1) x72).set (Int.toNat st49.2.1) x74).length) c0'), (2, .int .i64 (wI64 (st49.1 + 1))), (3, .int .i64 (wI64 (st49.2.1 - 1)))] (by kernel_rfl) ?_
  refine WL.nil ?_
  obtain rfl := Option.some.inj hm
  exact WQ.round hK56 ⟨((wI64 (st49.1 + 1)), (wI64 (st49.2.1 - 1)), ((st49.2.2.set (Int.toNat st49.1) x72).set (Int.toNat st49.2.1) x74)), rfl, hb94, hL95, hS93, hn96, hl54⟩ (Nat.lt_succ_self _) ⟨rfl, rfl, rfl, trivial⟩

theorem c_6 (n : Nat) (list_0 : List SRepair) (a0' : Option Addr) (c0' : Nat) (some_1 : List Int) (a1' : Option Addr) (c1' : Nat) (w : World) {r : List Int × Int} (hm : m_impl_WithFirst n list_0 some_1 = some r) (h0 : Rd fRepair.ty w a0' list_0) (hle0 : list_0.length ≤ c0') (h1 : Rd fInt.ty w a1' some_1) (hle1 : some_1.length ≤ c1') :
    CallV Tryz.prog 6 #[.slice a0' list_0.length c0', .slice a1' some_1.length c1'] w (fun v w' => ∃ (ra0 : Option Addr) (rc0 : Nat), v = .tuple #[.slice ra0 r.1.length rc0, .int .i64 r.2] ∧ Ext w w' ∧ SH w' w.heap.size [aOwn fInt 2 ra0 rc0 r.1]) := by
  unfold m_impl_WithFirst at hm
  refine CallV.enter Tryz.func6 rfl (by kernel_rfl) Tryz.ntmps6 (env := [(0, .slice a0' list_0.length c0'), (1, .slice a1' some_1.length c1')]) ⟨rfl, rfl, trivial⟩ ?_
  refine WP.seq (fun K1 hK1 => ?_)
  refine WP.region ?_
  refine WL.runk 2 [0, 1] [(0, .slice a0' list_0.length c0'), (1, .slice a1' some_1.length c1')] (by kernel_rfl) ?_
  refine WL.nil ?_
  refine WQ.then_normal (hK1 _ _ _ ?_)
  refine WP.seq (fun K2 hK2 => ?_)
  refine WP.seq (fun K3 hK3 => ?_)
  refine WP.region ?_
  refine WL.runk 2 [0, 1, 14, 15] [(0, .slice a0' list_0.length c0'), (1, .slice a1' some_1.length c1'), (14, .slice a0' list_0.length c0'), (15, .slice a1' some_1.length c1')] (by kernel_rfl) ?_
  obtain ⟨x4, hx5, hm⟩ := bindE hm
  refine WL.call 30 #[.slice a0' list_0.length c0', .slice a1' some_1.length c1', .slice none 0 0] rfl rfl (by kernel_rfl) (c_30 n list_0 a0' c0' some_1 a1' c1' ([] : List Int) none 0 w hx5 (Rd.below h0 (Ext.refl w)) hle0 (Rd.below h1 (Ext.refl w)) hle1 (Rd.nil _ _ _) (Nat.zero_le _)) ?_
  rintro _ w6 ⟨rfl, hE7⟩
  refine ⟨_, rfl, ?_⟩
  have hb9 : Ext w w6 := Ext.trans (Ext.refl w) hE7
  have hL10 : w.heap.size ≤ w6.heap.size := Nat.le_trans (Nat.le_refl _) hE7.size
  have hS11 : SH w6 w.heap.size [] := SH.ext (SH.nil _ _) hE7
  refine WL.runk 1 [0, 1, 6] [(0, .slice a0' list_0.length c0'), (1, .slice a1' some_1.length c1'), (6, .int .i64 x4)] (by kernel_rfl) ?_
  refine WL.nil ?_
  refine WQ.then_normal (hK3 _ _ _ ?_)
  refine WP.seq (fun K12 hK12 => ?_)
  refine WP.region ?_
  refine WL.runk 2 [0, 1, 6, 18] [(0, .slice a0' list_0.length c0'), (1, .slice a1' some_1.length c1'), (6, .int .i64 x4), (18, .bool (x4 != 0))] (by kernel_rfl) ?_
  refine WL.nil ?_
  refine WQ.then_normal (hK12 _ _ _ ?_)
  refine WP.cond (x4 != 0) rfl rfl (fun hc13 => ?_) (fun hc13 => ?_)
  · have hm := iteT hm hc13
    refine WP.seq (fun K14 hK14 => ?_)
    refine WP.region ?_
    refine WL.runk 3 [4, 5] [(4, .slice none 0 0), (5, .int .i64 x4)] (by kernel_rfl) ?_
    refine WL.nil ?_
    refine WQ.then_normal (hK14 _ _ _ ?_)
    refine WP.ret ?_
    refine WQ.then_ret ?_
    obtain rfl := Option.some.inj hm
    have hS16 : SH w6 w.heap.size [aOwn fInt 2 none 0 ([] : List Int)] := SH.nilOwn hS11
    exact WQ.ret2 _ _ rfl rfl rfl ⟨_, _, rfl, hb9, hS16⟩
  have hm := iteF hm hc13
  refine WP.skip ?_
  refine WQ.then_normal (hK2 _ _ _ ?_)
  refine WP.seq (fun K17 hK17 => ?_)
  refine WP.region ?_
  refine WL.runk 1 [0, 1, 7] [(0, .slice a0' list_0.length c0'), (1, .slice a1' some_1.length c1'), (7, .int .i64 0)] (by kernel_rfl) ?_
  refine WL.nil ?_
  refine WQ.then_normal (hK17 _ _ _ ?_)
  refine WP.seq (fun K18 hK18 => ?_)
  refine WP.seq (fun K19 hK19 => ?_)
  refine WP.region ?_
  refine WL.runk 3 [0, 7, 20, 21, 22] [(0, .slice a0' list_0.length c0'), (7, .int .i64 0), (20, .slice a1' some_1.length c1'), (21, .int .i64 (some_1.length : Int)), (22, .int .i64 0)] (by kernel_rfl) ?_
  refine WL.nil ?_
  refine WQ.then_normal (hK19 _ _ _ ?_)
  refine WP.block ?_
  obtain ⟨t31, ht32, hm⟩ := bindE hm
  have hmo26 := hm; clear hm
  refine WP.sub [(0, .slice a0' list_0.length c0'), (7, .int .i64 0), (20, .slice a1' some_1.length c1'), (21, .int .i64 (some_1.length : Int)), (22, .int .i64 0)] ⟨rfl, rfl, rfl, rfl, rfl, trivial⟩ ?_
  refine WP.loop (fun n' env' w' => ∃ (st20 : Int × Int) , env' = [(0, .slice a0' list_0.length c0'), (7, .int .i64 st20.1), (20, .slice a1' some_1.length c1'), (21, .int .i64 (some_1.length : Int)), (22, .int .i64 st20.2)] ∧ Ext w w' ∧ w.heap.size ≤ w'.heap.size ∧ SH w' w.heap.size [] ∧ loopN (m_impl_WithFirst_l1 n some_1) n' st20 = some t31) n ⟨(0, 0), rfl, hb9, hL10, hS11, ht32⟩ ?_
  rintro n28 _ w21 ⟨st20, rfl, hb22, hL23, hS24, hl25⟩ K27 hK27
  obtain ⟨n29, s30, rfl, hm, hl25⟩ := loopN_some hl25
  unfold m_impl_WithFirst_l1 at hm
  refine WP.seq (fun K33 hK33 => ?_)
  refine WP.region ?_
  refine WL.runk 1 [0, 7, 20, 21, 22, 23] [(0, .slice a0' list_0.length c0'), (7, .int .i64 st20.1), (20, .slice a1' some_1.length c1'), (21, .int .i64 (some_1.length : Int)), (22, .int .i64 st20.2), (23, .bool (decide (st20.2 < (some_1.length : Int))))] (by kernel_rfl) ?_
  refine WL.nil ?_
  refine WQ.then_normal (hK33 _ _ _ ?_)
  refine WP.seq (fun K34 hK34 => ?_)
  refine WP.cond (decide (st20.2 < (some_1.length : Int))) rfl rfl (fun hc35 => ?_) (fun hc35 => ?_)
  · have hm := iteT hm hc35
    refine WP.skip ?_
    refine WQ.then_normal (hK34 _ _ _ ?_)
    refine WP.seq (fun K36 hK36 => ?_)
    refine WP.block ?_
    refine WP.seq (fun K37 hK37 => ?_)
    refine WP.region ?_
    obtain ⟨x38, hx39, hm⟩ := bindE hm
    refine WL.st (.pointer (some (at_ a1' (Int.toNat st20.2 * 1)))) (ST.index (T := fInt.ty) (xs := some_1) (Rd.below h1 hb22) hx39 rfl rfl rfl Tryz.underlying25 (info2).1 (info2).2.1) rfl rfl rfl ?_
    refine WL.st (.int .i64 x38) (ST.load (cell_ext (Rd.flat (F := fInt) (Rd.below h1 hb22) hx39 0 rfl)) rfl rfl Tryz.underlying2 rfl) rfl rfl rfl ?_
    refine WL.runk 1 [0, 7, 9, 20, 21, 22] [(0, .slice a0' list_0.length c0'), (7, .int .i64 st20.1), (20, .slice a1' some_1.length c1'), (21, .int .i64 (some_1.length : Int)), (22, .int .i64 st20.2), (9, .int .i64 x38)] (by kernel_rfl) ?_
    refine WL.nil ?_
    refine WQ.then_normal (hK37 _ _ _ ?_)
    refine WP.region ?_
    refine WL.runk 3 [0, 20, 21, 22, 26, 28] [(0, .slice a0' list_0.length c0'), (20, .slice a1' some_1.length c1'), (21, .int .i64 (some_1.length : Int)), (22, .int .i64 st20.2), (26, .int .i64 st20.1), (28, .int .u64 (IntKind.u64.wrap x38))] (by kernel_rfl) ?_
    obtain ⟨x40, hx41, hm⟩ := bindE hm
    refine WL.st (.int .i64 x40) (ST.shl (k := .i64) hx41 rfl rfl rfl) rfl rfl rfl ?_
    refine WL.runk 2 [0, 7, 20, 21, 22] [(0, .slice a0' list_0.length c0'), (20, .slice a1' some_1.length c1'), (21, .int .i64 (some_1.length : Int)), (22, .int .i64 st20.2), (7, .int .i64 (ior .i64 st20.1 x40))] (by kernel_rfl) ?_
    refine WL.nil ?_
    refine WQ.block_normal ?_
    refine WQ.then_normal (hK36 _ _ _ ?_)
    refine WP.region ?_
    refine WL.runk 2 [0, 7, 20, 21, 22] [(0, .slice a0' list_0.length c0'), (20, .slice a1' some_1.length c1'), (21, .int .i64 (some_1.length : Int)), (22, .int .i64 (wI64 (st20.2 + 1))), (7, .int .i64 (ior .i64 st20.1 x40))] (by kernel_rfl) ?_
    refine WL.nil ?_
    obtain rfl := Option.some.inj hm
    exact WQ.round hK27 ⟨((ior .i64 st20.1 x40), (wI64 (st20.2 + 1))), rfl, hb22, hL23, hS24, hl25⟩ (Nat.lt_succ_self _) ⟨rfl, rfl, rfl, rfl, rfl, trivial⟩
  have hm := iteF hm hc35
  refine WP.exit ?_
  refine WQ.then_exit ?_
  refine WQ.then_exit ?_
  refine WQ.block_here ?_
  obtain rfl := Option.some.inj hm
  obtain rfl := afterN_done hl25
  have hm := hmo26
  refine WQ.then_normal (hK18 _ _ _ ?_)
  refine WP.seq (fun K42 hK42 => ?_)
  refine WP.region ?_
  refine WL.row fInt 2 ([] : List Int) 0 #[] 32 (by kernel_rfl) rfl rfl rfl rfl rfl rfl rfl ?_
  intro a43 c44 w45 hE46 hR47
  have hb49 : Ext w w45 := Ext.trans hb22 hE46
  have hL50 : w.heap.size ≤ w45.heap.size := Nat.le_trans hL23 hE46.size
  have hS51 : SH w45 w.heap.size [aOwn fInt 2 a43 c44 ([] : List Int)] := SH.add hS24 hE46 hL23 hR47
  refine WL.runk 1 [0, 7, 10] [(0, .slice a0' list_0.length c0'), (7, .int .i64 st20.1), (10, .slice a43 (([] : List Int).length) c44)] (by kernel_rfl) ?_
  refine WL.nil ?_
  refine WQ.then_normal (hK42 _ _ _ ?_)
  refine WP.seq (fun K52 hK52 => ?_)
  refine WP.seq (fun K53 hK53 => ?_)
  refine WP.region ?_
  refine WL.runk 4 [0, 7, 10, 11] [(0, .slice a0' list_0.length c0'), (7, .int .i64 st20.1), (10, .slice a43 (([] : List Int).length) c44), (11, .int .i64 (wI64 ((list_0.length : Int) - 1)))] (by kernel_rfl) ?_
  refine WL.nil ?_
  refine WQ.then_normal (hK53 _ _ _ ?_)
  refine WP.block ?_
  obtain ⟨t68, ht69, hm⟩ := bindE hm
  have hmo63 := hm; clear hm
  refine WP.sub [(0, .slice a0' list_0.length c0'), (7, .int .i64 st20.1), (10, .slice a43 (([] : List Int).length) c44), (11, .int .i64 (wI64 ((list_0.length : Int) - 1)))] ⟨rfl, rfl, rfl, rfl, trivial⟩ ?_
  refine WP.loop (fun n' env' w' => ∃ (st54 : Int × List Int × Int) (a55 : Option Addr) (c56 : Nat), env' = [(0, .slice a0' list_0.length c0'), (7, .int .i64 st54.1), (10, .slice a55 st54.2.1.length c56), (11, .int .i64 st54.2.2)] ∧ Ext w w' ∧ w.heap.size ≤ w'.heap.size ∧ SH w' w.heap.size [aOwn fInt 2 a55 c56 st54.2.1] ∧ loopN (m_impl_WithFirst_l2 n list_0) n' st54 = some t68) n ⟨(st20.1, ([] : List Int), (wI64 ((list_0.length : Int) - 1))), _, _, rfl, hb49, hL50, hS51, ht69⟩ ?_
  rintro n65 _ w58 ⟨st54, a55, c56, rfl, hb59, hL60, hS61, hl62⟩ K64 hK64
  obtain ⟨n66, s67, rfl, hm, hl62⟩ := loopN_some hl62
  unfold m_impl_WithFirst_l2 at hm
  refine WP.seq (fun K70 hK70 => ?_)
  refine WP.seq (fun K71 hK71 => ?_)
  refine WP.region ?_
  refine WL.runk 2 [0, 7, 10, 11, 37] [(0, .slice a0' list_0.length c0'), (7, .int .i64 st54.1), (10, .slice a55 st54.2.1.length c56), (11, .int .i64 st54.2.2), (37, .bool (decide (st54.2.2 ≥ 0)))] (by kernel_rfl) ?_
  refine WL.nil ?_
  refine WQ.then_normal (hK71 _ _ _ ?_)
  refine WP.cond (decide (st54.2.2 ≥ 0)) rfl rfl (fun hc72 => ?_) (fun hc72 => ?_)
  rotate_left
  · have hm := iteF hm hc72
    refine WP.exit ?_
    refine WQ.then_exit ?_
    refine WQ.then_exit ?_
    refine WQ.block_here ?_
    obtain rfl := Option.some.inj hm
    obtain rfl := afterN_done hl62
    have hm := hmo63
    refine WQ.then_normal (hK52 _ _ _ ?_)
    refine WP.seq (fun K141 hK141 => ?_)
    refine WP.region ?_
    refine WL.runk 1 [10, 64] [(10, .slice a55 st54.2.1.length c56), (64, .slice a55 st54.2.1.length c56)] (by kernel_rfl) ?_
    obtain ⟨x142, hx143, hm⟩ := bindE hm
    refine WL.call 32 #[.slice a55 st54.2.1.length c56] rfl rfl (by kernel_rfl) (c_32 n st54.2.1 a55 c56 w58 w w.heap.size [] hx143 hb59 (Nat.le_refl _) hL60  hS61) ?_
    rintro _ w144 ⟨rfl, hB148, hS147, hlen149⟩
    refine ⟨_, rfl, ?_⟩
    have hb150 : Ext w w144 := Below.trans hb59 hB148
    have hL151 : w.heap.size ≤ w144.heap.size := Nat.le_trans hL60 hB148.size
    refine WL.sub [(10, .slice a55 x142.length c56), (64, .slice a55 x142.length c56), (65, .tuple #[])] ⟨by rw [hlen149]; rfl, by rw [hlen149]; rfl, rfl, trivial⟩ ?_
    refine WL.sub [(10, .slice a55 x142.length c56)] ⟨rfl, trivial⟩ ?_
    refine WL.nil ?_
    refine WQ.then_normal (hK141 _ _ _ ?_)
    refine WP.seq (fun K152 hK152 => ?_)
    refine WP.region ?_
    refine WL.runk 3 [4, 5] [(4, .slice a55 x142.length c56), (5, .int .i64 0)] (by kernel_rfl) ?_
    refine WL.nil ?_
    refine WQ.then_normal (hK152 _ _ _ ?_)
    refine WP.ret ?_
    obtain rfl := Option.some.inj hm
    exact WQ.ret2 _ _ rfl rfl rfl ⟨_, _, rfl, hb150, hS147⟩
  have hm := iteT hm hc72
  refine WP.skip ?_
  refine WQ.then_normal (hK70 _ _ _ ?_)
  refine WP.seq (fun K73 hK73 => ?_)
  refine WP.block ?_
  refine WP.seq (fun K74 hK74 => ?_)
  refine WP.seq (fun K75 hK75 => ?_)
  refine WP.region ?_
  refine WL.runk 2 [0, 7, 10, 11, 40, 41] [(0, .slice a0' list_0.length c0'), (7, .int .i64 st54.1), (10, .slice a55 st54.2.1.length c56), (11, .int .i64 st54.2.2), (40, .int .i64 st54.1), (41, .int .i64 st54.2.2)] (by kernel_rfl) ?_
  obtain ⟨x76, hx77, hm⟩ := bindE hm
  refine WL.call 31 #[.int .i64 st54.1, .int .i64 st54.2.2] rfl rfl (by kernel_rfl) (c_31 n st54.1 st54.2.2 w58 hx77 ) ?_
  rintro _ w78 ⟨rfl, hE79⟩
  refine ⟨_, rfl, ?_⟩
  have hb81 : Ext w w78 := Ext.trans hb59 hE79
  have hL82 : w.heap.size ≤ w78.heap.size := Nat.le_trans hL60 hE79.size
  have hS83 : SH w78 w.heap.size [aOwn fInt 2 a55 c56 st54.2.1] := SH.ext hS61 hE79
  refine WL.runk 1 [0, 7, 10, 11, 43] [(0, .slice a0' list_0.length c0'), (7, .int .i64 st54.1), (10, .slice a55 st54.2.1.length c56), (11, .int .i64 st54.2.2), (43, .bool (!x76))] (by kernel_rfl) ?_
  refine WL.nil ?_
  refine WQ.then_normal (hK75 _ _ _ ?_)
  refine WP.cond (!x76) rfl rfl (fun hc84 => ?_) (fun hc84 => ?_)
  · have hm := iteT hm hc84
    refine WP.exit ?_
    refine WQ.then_exit ?_
    refine WQ.block_here ?_
    refine WQ.then_normal (hK73 _ _ _ ?_)
    refine WP.region ?_
    refine WL.runk 3 [0, 7, 10, 11] [(0, .slice a0' list_0.length c0'), (7, .int .i64 st54.1), (10, .slice a55 st54.2.1.length c56), (11, .int .i64 (wI64 (st54.2.2 - 1)))] (by kernel_rfl) ?_
    refine WL.nil ?_
    obtain rfl := Option.some.inj hm
    exact WQ.round hK64 ⟨(st54.1, st54.2.1, (wI64 (st54.2.2 - 1))), _, _, rfl, hb81, hL82, hS83, hl62⟩ (Nat.lt_succ_self _) ⟨rfl, rfl, rfl, rfl, trivial⟩
  have hm := iteF hm hc84
  refine WP.skip ?_
  refine WQ.then_normal (hK74 _ _ _ ?_)
  refine WP.seq (fun K85 hK85 => ?_)
  refine WP.region ?_
  refine WL.runk 2 [0, 7, 11, 44, 45] [(0, .slice a0' list_0.length c0'), (7, .int .i64 st54.1), (11, .int .i64 st54.2.2), (44, .slice a55 st54.2.1.length c56), (45, .int .i64 st54.2.2)] (by kernel_rfl) ?_
  refine WL.row fInt 2 ([st54.2.2] : List Int) 1 #[.int .i64 st54.2.2] 46 (by kernel_rfl) rfl rfl rfl rfl rfl rfl rfl ?_
  intro a86 c87 w88 hE89 hR90
  have hb92 : Ext w w88 := Ext.trans hb81 hE89
  have hL93 : w.heap.size ≤ w88.heap.size := Nat.le_trans hL82 hE89.size
  have hS94 : SH w88 w.heap.size [aOwn fInt 2 a86 c87 ([st54.2.2] : List Int), aOwn fInt 2 a55 c56 st54.2.1] := SH.add hS83 hE89 hL82 hR90
  obtain ⟨x95, hx96, hm⟩ := bindE hm
  refine WL.append (F := fInt) (xs := st54.2.1) (ys := ([st54.2.2] : List Int)) 47 (SH.front 1 hS94) hL93 (SH.rd (SH.front 0 hS94)) hx96 rfl rfl rfl Tryz.underlying25 (info2).1 (info2).2.2.1 (info2).2.1 (info2).2.2.2 rfl rfl rfl rfl rfl ?_
  intro a97 c98 w99 hB100 hS101
  have hb102 : Ext w w99 := Below.trans hb92 hB100
  have hL103 : w.heap.size ≤ w99.heap.size := Nat.le_trans hL93 hB100.size
  refine WL.runk 1 [0, 7, 10, 11] [(0, .slice a0' list_0.length c0'), (7, .int .i64 st54.1), (11, .int .i64 st54.2.2), (10, .slice a97 x95.length c98)] (by kernel_rfl) ?_
  refine WL.nil ?_
  refine WQ.then_normal (hK85 _ _ _ ?_)
  refine WP.seq (fun K104 hK104 => ?_)
  refine WP.region ?_
  refine WL.runk 2 [0, 7, 10, 11, 48, 49] [(0, .slice a0' list_0.length c0'), (7, .int .i64 st54.1), (11, .int .i64 st54.2.2), (10, .slice a97 x95.length c98), (48, .slice a0' list_0.length c0'), (49, .int .i64 st54.2.2)] (by kernel_rfl) ?_
  obtain ⟨x105, hx106, hm⟩ := bindE hm
  obtain ⟨a107, c108, a112, c113, hc117, hR109, hle110, hR114, hle115⟩ := nest_Repair h0 hx106
  refine WL.st (.pointer (some (at_ a0' (Int.toNat st54.2.2 * 5)))) (ST.index (T := fRepair.ty) (xs := list_0) (Rd.below h0 hb102) hx106 rfl rfl rfl Tryz.underlying24 (info48).1 (info48).2.1) rfl rfl rfl ?_
  refine WL.runk 1 [0, 7, 10, 11, 51] [(0, .slice a0' list_0.length c0'), (7, .int .i64 st54.1), (11, .int .i64 st54.2.2), (10, .slice a97 x95.length c98), (51, .pointer (some (at_ a0' (Int.toNat st54.2.2 * 5 + 2))))] (by kernel_rfl) ?_
  refine WL.st (.slice a112 x105.First.length c113) (ST.load (cell_ext ((cells_ext hc117 hb102) 2 _ rfl)) rfl rfl Tryz.underlying25 rfl) rfl rfl rfl ?_
  refine WL.runk 2 [0, 7, 10, 11, 52, 53, 54] [(0, .slice a0' list_0.length c0'), (7, .int .i64 st54.1), (11, .int .i64 st54.2.2), (10, .slice a97 x95.length c98), (52, .slice a112 x105.First.length c113), (53, .int .i64 (x105.First.length : Int)), (54, .int .i64 0)] (by kernel_rfl) ?_
  refine WL.nil ?_
  refine WQ.then_normal (hK104 _ _ _ ?_)
  refine WP.block ?_
  obtain ⟨t129, ht130, hm⟩ := bindE hm
  have hmo124 := hm; clear hm
  refine WP.sub [(0, .slice a0' list_0.length c0'), (7, .int .i64 st54.1), (11, .int .i64 st54.2.2), (10, .slice a97 x95.length c98), (52, .slice a112 x105.First.length c113), (53, .int .i64 (x105.First.length : Int)), (54, .int .i64 0)] ⟨rfl, rfl, rfl, rfl, rfl, rfl, rfl, trivial⟩ ?_
  refine WP.loop (fun n' env' w' => ∃ (st118 : Int × Int) , env' = [(0, .slice a0' list_0.length c0'), (7, .int .i64 st118.1), (11, .int .i64 st54.2.2), (10, .slice a97 x95.length c98), (52, .slice a112 x105.First.length c113), (53, .int .i64 (x105.First.length : Int)), (54, .int .i64 st118.2)] ∧ Ext w w' ∧ w.heap.size ≤ w'.heap.size ∧ SH w' w.heap.size [aOwn fInt 2 a97 c98 x95] ∧ loopN (m_impl_WithFirst_l3 n x105) n' st118 = some t129) n ⟨(st54.1, 0), rfl, hb102, hL103, (SH.take 1 hS101), ht130⟩ ?_
  rintro n126 _ w119 ⟨st118, rfl, hb120, hL121, hS122, hl123⟩ K125 hK125
  obtain ⟨n127, s128, rfl, hm, hl123⟩ := loopN_some hl123
  unfold m_impl_WithFirst_l3 at hm
  refine WP.seq (fun K131 hK131 => ?_)
  refine WP.region ?_
  refine WL.runk 1 [0, 7, 10, 11, 52, 53, 54, 55] [(0, .slice a0' list_0.length c0'), (7, .int .i64 st118.1), (11, .int .i64 st54.2.2), (10, .slice a97 x95.length c98), (52, .slice a112 x105.First.length c113), (53, .int .i64 (x105.First.length : Int)), (54, .int .i64 st118.2), (55, .bool (decide (st118.2 < (x105.First.length : Int))))] (by kernel_rfl) ?_
  refine WL.nil ?_
  refine WQ.then_normal (hK131 _ _ _ ?_)
  refine WP.seq (fun K132 hK132 => ?_)
  refine WP.cond (decide (st118.2 < (x105.First.length : Int))) rfl rfl (fun hc133 => ?_) (fun hc133 => ?_)
  rotate_left
  · have hm := iteF hm hc133
    refine WP.exit ?_
    refine WQ.then_exit ?_
    refine WQ.then_exit ?_
    refine WQ.block_here ?_
    obtain rfl := Option.some.inj hm
    obtain rfl := afterN_done hl123
    have hm := hmo124
    refine WQ.block_normal ?_
    refine WQ.then_normal (hK73 _ _ _ ?_)
    refine WP.region ?_
    refine WL.runk 3 [0, 7, 10, 11] [(0, .slice a0' list_0.length c0'), (7, .int .i64 st118.1), (11, .int .i64 (wI64 (st54.2.2 - 1))), (10, .slice a97 x95.length c98)] (by kernel_rfl) ?_
    refine WL.nil ?_
    obtain rfl := Option.some.inj hm
    exact WQ.round hK64 ⟨(st118.1, x95, (wI64 (st54.2.2 - 1))), _, _, rfl, hb120, hL121, hS122, hl62⟩ (Nat.lt_succ_self _) ⟨rfl, rfl, rfl, rfl, trivial⟩
  have hm := iteT hm hc133
  refine WP.skip ?_
  refine WQ.then_normal (hK132 _ _ _ ?_)
  refine WP.seq (fun K134 hK134 => ?_)
  refine WP.block ?_
  refine WP.seq (fun K135 hK135 => ?_)
  refine WP.region ?_
  obtain ⟨x136, hx137, hm⟩ := bindE hm
  refine WL.st (.pointer (some (at_ a112 (Int.toNat st118.2 * 1)))) (ST.index (T := fInt.ty) (xs := x105.First) (Rd.below hR114 hb120) hx137 rfl rfl rfl Tryz.underlying25 (info2).1 (info2).2.1) rfl rfl rfl ?_
  refine WL.st (.int .i64 x136) (ST.load (cell_ext (Rd.flat (F := fInt) (Rd.below hR114 hb120) hx137 0 rfl)) rfl rfl Tryz.underlying2 rfl) rfl rfl rfl ?_
  refine WL.runk 1 [0, 7, 10, 11, 13, 52, 53, 54] [(0, .slice a0' list_0.length c0'), (7, .int .i64 st118.1), (11, .int .i64 st54.2.2), (10, .slice a97 x95.length c98), (52, .slice a112 x105.First.length c113), (53, .int .i64 (x105.First.length : Int)), (54, .int .i64 st118.2), (13, .int .i64 x136)] (by kernel_rfl) ?_
  refine WL.nil ?_
  refine WQ.then_normal (hK135 _ _ _ ?_)
  refine WP.region ?_
  refine WL.runk 3 [0, 10, 11, 52, 53, 54, 58, 60] [(0, .slice a0' list_0.length c0'), (11, .int .i64 st54.2.2), (10, .slice a97 x95.length c98), (52, .slice a112 x105.First.length c113), (53, .int .i64 (x105.First.length : Int)), (54, .int .i64 st118.2), (58, .int .i64 st118.1), (60, .int .u64 (IntKind.u64.wrap x136))] (by kernel_rfl) ?_
  obtain ⟨x138, hx139, hm⟩ := bindE hm
  refine WL.st (.int .i64 x138) (ST.shl (k := .i64) hx139 rfl rfl rfl) rfl rfl rfl ?_
  refine WL.runk 2 [0, 7, 10, 11, 52, 53, 54] [(0, .slice a0' list_0.length c0'), (11, .int .i64 st54.2.2), (10, .slice a97 x95.length c98), (52, .slice a112 x105.First.length c113), (53, .int .i64 (x105.First.length : Int)), (54, .int .i64 st118.2), (7, .int .i64 (ior .i64 st118.1 x138))] (by kernel_rfl) ?_
  refine WL.nil ?_
  refine WQ.block_normal ?_
  refine WQ.then_normal (hK134 _ _ _ ?_)
  refine WP.region ?_
  refine WL.runk 2 [0, 7, 10, 11, 52, 53, 54] [(0, .slice a0' list_0.length c0'), (11, .int .i64 st54.2.2), (10, .slice a97 x95.length c98), (52, .slice a112 x105.First.length c113), (53, .int .i64 (x105.First.length : Int)), (54, .int .i64 (wI64 (st118.2 + 1))), (7, .int .i64 (ior .i64 st118.1 x138))] (by kernel_rfl) ?_
  refine WL.nil ?_
  obtain rfl := Option.some.inj hm
  exact WQ.round hK125 ⟨((ior .i64 st118.1 x138), (wI64 (st118.2 + 1))), rfl, hb120, hL121, hS122, hl123⟩ (Nat.lt_succ_self _) ⟨rfl, rfl, rfl, rfl, rfl, rfl, rfl, trivial⟩

theorem c_7 (n : Nat) (list_0 : List SRepair) (a0' : Option Addr) (c0' : Nat) (some_1 : List Int) (a1' : Option Addr) (c1' : Nat) (w : World) {r : List Int × Int} (hm : m_spec_WithFirst n list_0 some_1 = some r) (h0 : Rd fRepair.ty w a0' list_0) (hle0 : list_0.length ≤ c0') (h1 : Rd fInt.ty w a1' some_1) (hle1 : some_1.length ≤ c1') :
    CallV Tryz.prog 7 #[.slice a0' list_0.length c0', .slice a1' some_1.length c1'] w (fun v w' => ∃ (ra0 : Option Addr) (rc0 : Nat), v = .tuple #[.slice ra0 r.1.length rc0, .int .i64 r.2] ∧ Ext w w' ∧ SH w' w.heap.size [aOwn fInt 2 ra0 rc0 r.1]) := by
  unfold m_spec_WithFirst at hm
  refine CallV.enter Tryz.func7 rfl (by kernel_rfl) Tryz.ntmps7 (env := [(0, .slice a0' list_0.length c0'), (1, .slice a1' some_1.length c1')]) ⟨rfl, rfl, trivial⟩ ?_
  refine WP.seq (fun K1 hK1 => ?_)
  refine WP.region ?_
  refine WL.runk 2 [0, 1] [(0, .slice a0' list_0.length c0'), (1, .slice a1' some_1.length c1')] (by kernel_rfl) ?_
  refine WL.nil ?_
  refine WQ.then_normal (hK1 _ _ _ ?_)
  refine WP.seq (fun K2 hK2 => ?_)
  refine WP.region ?_
  refine WL.runk 2 [0, 1, 7, 8] [(0, .slice a0' list_0.length c0'), (1, .slice a1' some_1.length c1'), (7, .slice a0' list_0.length c0'), (8, .slice a1' some_1.length c1')] (by kernel_rfl) ?_
  obtain ⟨x3, hx4, hm⟩ := bindE hm
  refine WL.call 33 #[.slice a0' list_0.length c0', .slice a1' some_1.length c1'] rfl rfl (by kernel_rfl) (c_33 n list_0 a0' c0' some_1 a1' c1' w hx4 (Rd.below h0 (Ext.refl w)) hle0 (Rd.below h1 (Ext.refl w)) hle1) ?_
  rintro _ w5 ⟨rfl, hE6⟩
  refine ⟨_, rfl, ?_⟩
  have hb8 : Ext w w5 := Ext.trans (Ext.refl w) hE6
  have hL9 : w.heap.size ≤ w5.heap.size := Nat.le_trans (Nat.le_refl _) hE6.size
  have hS10 : SH w5 w.heap.size [] := SH.ext (SH.nil _ _) hE6
  refine WL.runk 1 [0, 1, 6] [(0, .slice a0' list_0.length c0'), (1, .slice a1' some_1.length c1'), (6, .int .i64 x3)] (by kernel_rfl) ?_
  refine WL.nil ?_
  refine WQ.then_normal (hK2 _ _ _ ?_)
  refine WP.seq (fun K11 hK11 => ?_)
  refine WP.seq (fun K12 hK12 => ?_)
  refine WP.region ?_
  refine WL.runk 2 [0, 1, 6, 11] [(0, .slice a0' list_0.length c0'), (1, .slice a1' some_1.length c1'), (6, .int .i64 x3), (11, .bool (x3 != 0))] (by kernel_rfl) ?_
  refine WL.nil ?_
  refine WQ.then_normal (hK12 _ _ _ ?_)
  refine WP.cond (x3 != 0) rfl rfl (fun hc13 => ?_) (fun hc13 => ?_)
  · have hm := iteT hm hc13
    refine WP.seq (fun K14 hK14 => ?_)
    refine WP.region ?_
    refine WL.runk 3 [4, 5] [(4, .slice none 0 0), (5, .int .i64 x3)] (by kernel_rfl) ?_
    refine WL.nil ?_
    refine WQ.then_normal (hK14 _ _ _ ?_)
    refine WP.ret ?_
    refine WQ.then_ret ?_
    obtain rfl := Option.some.inj hm
    have hS16 : SH w5 w.heap.size [aOwn fInt 2 none 0 ([] : List Int)] := SH.nilOwn hS10
    exact WQ.ret2 _ _ rfl rfl rfl ⟨_, _, rfl, hb8, hS16⟩
  have hm := iteF hm hc13
  refine WP.skip ?_
  refine WQ.then_normal (hK11 _ _ _ ?_)
  refine WP.seq (fun K17 hK17 => ?_)
  refine WP.region ?_
  refine WL.runk 2 [13, 14] [(13, .slice a0' list_0.length c0'), (14, .slice a1' some_1.length c1')] (by kernel_rfl) ?_
  obtain ⟨x18, hx19, hm⟩ := bindE hm
  refine WL.call 34 #[.slice a0' list_0.length c0', .slice a1' some_1.length c1'] rfl rfl (by kernel_rfl) (c_34 n list_0 a0' c0' some_1 a1' c1' w5 hx19 (Rd.below h0 hb8) hle0 (Rd.below h1 hb8) hle1) ?_
  rintro _ w23 ⟨a20, c21, rfl, hE24, hR25⟩
  refine ⟨_, rfl, ?_⟩
  have hb26 : Ext w w23 := Ext.trans hb8 hE24
  have hL27 : w.heap.size ≤ w23.heap.size := Nat.le_trans hL9 hE24.size
  have hS28 : SH w23 w.heap.size [aOwn fInt 2 a20 c21 x18] := SH.add hS10 hE24 hL9 hR25
  refine WL.runk 2 [4, 5] [(4, .slice a20 x18.length c21), (5, .int .i64 0)] (by kernel_rfl) ?_
  refine WL.nil ?_
  refine WQ.then_normal (hK17 _ _ _ ?_)
  refine WP.ret ?_
  obtain rfl := Option.some.inj hm
  exact WQ.ret2 _ _ rfl rfl rfl ⟨_, _, rfl, hb26, hS28⟩

theorem c_35 (n : Nat) (list_0 : List SRepair) (a0' : Option Addr) (c0' : Nat) (some_1 : List Int) (a1' : Option Addr) (c1' : Nat) (w : World) {r : Int} (hm : m_impl_priceOf n list_0 some_1 = some r) (h0 : Rd fRepair.ty w a0' list_0) (_hle0 : list_0.length ≤ c0') (h1 : Rd fInt.ty w a1' some_1) (_hle1 : some_1.length ≤ c1') :
    CallV Tryz.prog 35 #[.slice a0' list_0.length c0', .slice a1' some_1.length c1'] w (fun v w' => v = .int .i64 r ∧ Ext w w') := by
  unfold m_impl_priceOf at hm
  refine CallV.enter Tryz.func35 rfl (by kernel_rfl) Tryz.ntmps35 (env := [(0, .slice a0' list_0.length c0'), (1, .slice a1' some_1.length c1')]) ⟨rfl, rfl, trivial⟩ ?_
  refine WP.seq (fun K1 hK1 => ?_)
  refine WP.region ?_
  refine WL.runk 1 [0, 1] [(0, .slice a0' list_0.length c0'), (1, .slice a1' some_1.length c1')] (by kernel_rfl) ?_
  refine WL.nil ?_
  refine WQ.then_normal (hK1 _ _ _ ?_)
  refine WP.seq (fun K2 hK2 => ?_)
  refine WP.region ?_
  refine WL.runk 1 [0, 1, 5] [(0, .slice a0' list_0.length c0'), (1, .slice a1' some_1.length c1'), (5, .int .i64 0)] (by kernel_rfl) ?_
  refine WL.nil ?_
  refine WQ.then_normal (hK2 _ _ _ ?_)
  refine WP.seq (fun K3 hK3 => ?_)
  refine WP.seq (fun K4 hK4 => ?_)
  refine WP.region ?_
  refine WL.runk 3 [0, 5, 8, 9, 10] [(0, .slice a0' list_0.length c0'), (5, .int .i64 0), (8, .slice a1' some_1.length c1'), (9, .int .i64 (some_1.length : Int)), (10, .int .i64 0)] (by kernel_rfl) ?_
  refine WL.nil ?_
  refine WQ.then_normal (hK4 _ _ _ ?_)
  refine WP.block ?_
  obtain ⟨t16, ht17, hm⟩ := bindE hm
  have hmo11 := hm; clear hm
  refine WP.sub [(0, .slice a0' list_0.length c0'), (5, .int .i64 0), (8, .slice a1' some_1.length c1'), (9, .int .i64 (some_1.length : Int)), (10, .int .i64 0)] ⟨rfl, rfl, rfl, rfl, rfl, trivial⟩ ?_
  refine WP.loop (fun n' env' w' => ∃ (st5 : Int × Int) , env' = [(0, .slice a0' list_0.length c0'), (5, .int .i64 st5.1), (8, .slice a1' some_1.length c1'), (9, .int .i64 (some_1.length : Int)), (10, .int .i64 st5.2)] ∧ Ext w w' ∧ w.heap.size ≤ w'.heap.size ∧ SH w' w.heap.size [] ∧ loopN (m_impl_priceOf_l1 n list_0 some_1) n' st5 = some t16) n ⟨(0, 0), rfl, (Ext.refl w), (Nat.le_refl _), (SH.nil _ _), ht17⟩ ?_
  rintro n13 _ w6 ⟨st5, rfl, hb7, hL8, hS9, hl10⟩ K12 hK12
  obtain ⟨n14, s15, rfl, hm, hl10⟩ := loopN_some hl10
  unfold m_impl_priceOf_l1 at hm
  refine WP.seq (fun K18 hK18 => ?_)
  refine WP.region ?_
  refine WL.runk 1 [0, 5, 8, 9, 10, 11] [(0, .slice a0' list_0.length c0'), (5, .int .i64 st5.1), (8, .slice a1' some_1.length c1'), (9, .int .i64 (some_1.length : Int)), (10, .int .i64 st5.2), (11, .bool (decide (st5.2 < (some_1.length : Int))))] (by kernel_rfl) ?_
  refine WL.nil ?_
  refine WQ.then_normal (hK18 _ _ _ ?_)
  refine WP.seq (fun K19 hK19 => ?_)
  refine WP.cond (decide (st5.2 < (some_1.length : Int))) rfl rfl (fun hc20 => ?_) (fun hc20 => ?_)
  rotate_left
  · have hm := iteF hm hc20
    refine WP.exit ?_
    refine WQ.then_exit ?_
    refine WQ.then_exit ?_
    refine WQ.block_here ?_
    obtain rfl := Option.some.inj hm
    obtain rfl := afterN_done hl10
    have hm := hmo11
    refine WQ.then_normal (hK3 _ _ _ ?_)
    refine WP.seq (fun K38 hK38 => ?_)
    refine WP.region ?_
    refine WL.runk 2 [4] [(4, .int .i64 st5.1)] (by kernel_rfl) ?_
    refine WL.nil ?_
    refine WQ.then_normal (hK38 _ _ _ ?_)
    refine WP.ret ?_
    obtain rfl := Option.some.inj hm
    exact WQ.ret1 _ rfl rfl ⟨rfl, hb7⟩
  have hm := iteT hm hc20
  refine WP.skip ?_
  refine WQ.then_normal (hK19 _ _ _ ?_)
  refine WP.seq (fun K21 hK21 => ?_)
  refine WP.block ?_
  refine WP.seq (fun K22 hK22 => ?_)
  refine WP.region ?_
  obtain ⟨x23, hx24, hm⟩ := bindE hm
  refine WL.st (.pointer (some (at_ a1' (Int.toNat st5.2 * 1)))) (ST.index (T := fInt.ty) (xs := some_1) (Rd.below h1 hb7) hx24 rfl rfl rfl Tryz.underlying25 (info2).1 (info2).2.1) rfl rfl rfl ?_
  refine WL.st (.int .i64 x23) (ST.load (cell_ext (Rd.flat (F := fInt) (Rd.below h1 hb7) hx24 0 rfl)) rfl rfl Tryz.underlying2 rfl) rfl rfl rfl ?_
  refine WL.runk 1 [0, 5, 7, 8, 9, 10] [(0, .slice a0' list_0.length c0'), (5, .int .i64 st5.1), (8, .slice a1' some_1.length c1'), (9, .int .i64 (some_1.length : Int)), (10, .int .i64 st5.2), (7, .int .i64 x23)] (by kernel_rfl) ?_
  refine WL.nil ?_
  refine WQ.then_normal (hK22 _ _ _ ?_)
  refine WP.region ?_
  refine WL.runk 3 [0, 8, 9, 10, 14, 15, 16] [(0, .slice a0' list_0.length c0'), (8, .slice a1' some_1.length c1'), (9, .int .i64 (some_1.length : Int)), (10, .int .i64 st5.2), (14, .int .i64 st5.1), (15, .slice a0' list_0.length c0'), (16, .int .i64 x23)] (by kernel_rfl) ?_
  obtain ⟨x25, hx26, hm⟩ := bindE hm
  obtain ⟨a27, c28, a32, c33, hc37, hR29, hle30, hR34, hle35⟩ := nest_Repair h0 hx26
  refine WL.st (.pointer (some (at_ a0' (Int.toNat x23 * 5)))) (ST.index (T := fRepair.ty) (xs := list_0) (Rd.below h0 hb7) hx26 rfl rfl rfl Tryz.underlying24 (info48).1 (info48).2.1) rfl rfl rfl ?_
  refine WL.runk 1 [0, 8, 9, 10, 14, 18] [(0, .slice a0' list_0.length c0'), (8, .slice a1' some_1.length c1'), (9, .int .i64 (some_1.length : Int)), (10, .int .i64 st5.2), (14, .int .i64 st5.1), (18, .pointer (some (at_ a0' (Int.toNat x23 * 5 + 3))))] (by kernel_rfl) ?_
  refine WL.st (.int .i64 x25.Price) (ST.load (cell_ext ((cells_ext hc37 hb7) 3 _ rfl)) rfl rfl Tryz.underlying2 rfl) rfl rfl rfl ?_
  refine WL.runk 2 [0, 5, 8, 9, 10] [(0, .slice a0' list_0.length c0'), (8, .slice a1' some_1.length c1'), (9, .int .i64 (some_1.length : Int)), (10, .int .i64 st5.2), (5, .int .i64 (wI64 (st5.1 + x25.Price)))] (by kernel_rfl) ?_
  refine WL.nil ?_
  refine WQ.block_normal ?_
  refine WQ.then_normal (hK21 _ _ _ ?_)
  refine WP.region ?_
  refine WL.runk 2 [0, 5, 8, 9, 10] [(0, .slice a0' list_0.length c0'), (8, .slice a1' some_1.length c1'), (9, .int .i64 (some_1.length : Int)), (10, .int .i64 (wI64 (st5.2 + 1))), (5, .int .i64 (wI64 (st5.1 + x25.Price)))] (by kernel_rfl) ?_
  refine WL.nil ?_
  obtain rfl := Option.some.inj hm
  exact WQ.round hK12 ⟨((wI64 (st5.1 + x25.Price)), (wI64 (st5.2 + 1))), rfl, hb7, hL8, hS9, hl10⟩ (Nat.lt_succ_self _) ⟨rfl, rfl, rfl, rfl, rfl, trivial⟩

theorem c_8 (n : Nat) (list_0 : List SRepair) (a0' : Option Addr) (c0' : Nat) (some_1 : List Int) (a1' : Option Addr) (c1' : Nat) (w : World) {r : Int × Int} (hm : m_impl_PriceOfRepairs n list_0 some_1 = some r) (h0 : Rd fRepair.ty w a0' list_0) (hle0 : list_0.length ≤ c0') (h1 : Rd fInt.ty w a1' some_1) (hle1 : some_1.length ≤ c1') :
    CallV Tryz.prog 8 #[.slice a0' list_0.length c0', .slice a1' some_1.length c1'] w (fun v w' => v = .tuple #[.int .i64 r.1, .int .i64 r.2] ∧ Ext w w') := by
  unfold m_impl_PriceOfRepairs at hm
  refine CallV.enter Tryz.func8 rfl (by kernel_rfl) Tryz.ntmps8 (env := [(0, .slice a0' list_0.length c0'), (1, .slice a1' some_1.length c1')]) ⟨rfl, rfl, trivial⟩ ?_
  refine WP.seq (fun K1 hK1 => ?_)
  refine WP.region ?_
  refine WL.runk 2 [0, 1] [(0, .slice a0' list_0.length c0'), (1, .slice a1' some_1.length c1')] (by kernel_rfl) ?_
  refine WL.nil ?_
  refine WQ.then_normal (hK1 _ _ _ ?_)
  refine WP.seq (fun K2 hK2 => ?_)
  refine WP.seq (fun K3 hK3 => ?_)
  refine WP.region ?_
  refine WL.runk 2 [0, 1, 7, 8] [(0, .slice a0' list_0.length c0'), (1, .slice a1' some_1.length c1'), (7, .slice a0' list_0.length c0'), (8, .slice a1' some_1.length c1')] (by kernel_rfl) ?_
  obtain ⟨x4, hx5, hm⟩ := bindE hm
  refine WL.call 30 #[.slice a0' list_0.length c0', .slice a1' some_1.length c1', .slice none 0 0] rfl rfl (by kernel_rfl) (c_30 n list_0 a0' c0' some_1 a1' c1' ([] : List Int) none 0 w hx5 (Rd.below h0 (Ext.refl w)) hle0 (Rd.below h1 (Ext.refl w)) hle1 (Rd.nil _ _ _) (Nat.zero_le _)) ?_
  rintro _ w6 ⟨rfl, hE7⟩
  refine ⟨_, rfl, ?_⟩
  have hb9 : Ext w w6 := Ext.trans (Ext.refl w) hE7
  have hL10 : w.heap.size ≤ w6.heap.size := Nat.le_trans (Nat.le_refl _) hE7.size
  have hS11 : SH w6 w.heap.size [] := SH.ext (SH.nil _ _) hE7
  refine WL.runk 1 [0, 1, 6] [(0, .slice a0' list_0.length c0'), (1, .slice a1' some_1.length c1'), (6, .int .i64 x4)] (by kernel_rfl) ?_
  refine WL.nil ?_
  refine WQ.then_normal (hK3 _ _ _ ?_)
  refine WP.seq (fun K12 hK12 => ?_)
  refine WP.region ?_
  refine WL.runk 2 [0, 1, 6, 11] [(0, .slice a0' list_0.length c0'), (1, .slice a1' some_1.length c1'), (6, .int .i64 x4), (11, .bool (x4 != 0))] (by kernel_rfl) ?_
  refine WL.nil ?_
  refine WQ.then_normal (hK12 _ _ _ ?_)
  refine WP.cond (x4 != 0) rfl rfl (fun hc13 => ?_) (fun hc13 => ?_)
  · have hm := iteT hm hc13
    refine WP.seq (fun K14 hK14 => ?_)
    refine WP.region ?_
    refine WL.runk 3 [4, 5] [(4, .int .i64 0), (5, .int .i64 x4)] (by kernel_rfl) ?_
    refine WL.nil ?_
    refine WQ.then_normal (hK14 _ _ _ ?_)
    refine WP.ret ?_
    refine WQ.then_ret ?_
    obtain rfl := Option.some.inj hm
    exact WQ.ret2 _ _ rfl rfl rfl ⟨rfl, hb9⟩
  have hm := iteF hm hc13
  refine WP.skip ?_
  refine WQ.then_normal (hK2 _ _ _ ?_)
  refine WP.seq (fun K15 hK15 => ?_)
  refine WP.region ?_
  refine WL.runk 2 [13, 14] [(13, .slice a0' list_0.length c0'), (14, .slice a1' some_1.length c1')] (by kernel_rfl) ?_
  obtain ⟨x16, hx17, hm⟩ := bindE hm
  refine WL.call 35 #[.slice a0' list_0.length c0', .slice a1' some_1.length c1'] rfl rfl (by kernel_rfl) (c_35 n list_0 a0' c0' some_1 a1' c1' w6 hx17 (Rd.below h0 hb9) hle0 (Rd.below h1 hb9) hle1) ?_
  rintro _ w18 ⟨rfl, hE19⟩
  refine ⟨_, rfl, ?_⟩
  have hb21 : Ext w w18 := Ext.trans hb9 hE19
  have hL22 : w.heap.size ≤ w18.heap.size := Nat.le_trans hL10 hE19.size
  have hS23 : SH w18 w.heap.size [] := SH.ext hS11 hE19
  refine WL.runk 2 [4, 5] [(4, .int .i64 x16), (5, .int .i64 0)] (by kernel_rfl) ?_
  refine WL.nil ?_
  refine WQ.then_normal (hK15 _ _ _ ?_)
  refine WP.ret ?_
  obtain rfl := Option.some.inj hm
  exact WQ.ret2 _ _ rfl rfl rfl ⟨rfl, hb21⟩

theorem c_36 (n : Nat) (list_0 : List SRepair) (a0' : Option Addr) (c0' : Nat) (some_1 : List Int) (a1' : Option Addr) (c1' : Nat) (w : World) {r : Int} (hm : m_spec_l21Price n list_0 some_1 = some r) (h0 : Rd fRepair.ty w a0' list_0) (_hle0 : list_0.length ≤ c0') (h1 : Rd fInt.ty w a1' some_1) (_hle1 : some_1.length ≤ c1') :
    CallV Tryz.prog 36 #[.slice a0' list_0.length c0', .slice a1' some_1.length c1'] w (fun v w' => v = .int .i64 r ∧ Ext w w') := by
  unfold m_spec_l21Price at hm
  refine CallV.enter Tryz.func36 rfl (by kernel_rfl) Tryz.ntmps36 (env := [(0, .slice a0' list_0.length c0'), (1, .slice a1' some_1.length c1')]) ⟨rfl, rfl, trivial⟩ ?_
  refine WP.seq (fun K1 hK1 => ?_)
  refine WP.region ?_
  refine WL.runk 1 [0, 1] [(0, .slice a0' list_0.length c0'), (1, .slice a1' some_1.length c1')] (by kernel_rfl) ?_
  refine WL.nil ?_
  refine WQ.then_normal (hK1 _ _ _ ?_)
  refine WP.seq (fun K2 hK2 => ?_)
  refine WP.region ?_
  refine WL.runk 1 [0, 1, 5] [(0, .slice a0' list_0.length c0'), (1, .slice a1' some_1.length c1'), (5, .int .i64 0)] (by kernel_rfl) ?_
  refine WL.nil ?_
  refine WQ.then_normal (hK2 _ _ _ ?_)
  refine WP.seq (fun K3 hK3 => ?_)
  refine WP.seq (fun K4 hK4 => ?_)
  refine WP.region ?_
  refine WL.runk 1 [0, 1, 5, 6] [(0, .slice a0' list_0.length c0'), (1, .slice a1' some_1.length c1'), (5, .int .i64 0), (6, .int .i64 0)] (by kernel_rfl) ?_
  refine WL.nil ?_
  refine WQ.then_normal (hK4 _ _ _ ?_)
  refine WP.block ?_
  obtain ⟨t16, ht17, hm⟩ := bindE hm
  have hmo11 := hm; clear hm
  refine WP.sub [(0, .slice a0' list_0.length c0'), (1, .slice a1' some_1.length c1'), (5, .int .i64 0), (6, .int .i64 0)] ⟨rfl, rfl, rfl, rfl, trivial⟩ ?_
  refine WP.loop (fun n' env' w' => ∃ (st5 : Int × Int) , env' = [(0, .slice a0' list_0.length c0'), (1, .slice a1' some_1.length c1'), (5, .int .i64 st5.1), (6, .int .i64 st5.2)] ∧ Ext w w' ∧ w.heap.size ≤ w'.heap.size ∧ SH w' w.heap.size [] ∧ loopN (m_spec_l21Price_l1 n list_0 some_1) n' st5 = some t16) n ⟨(0, 0), rfl, (Ext.refl w), (Nat.le_refl _), (SH.nil _ _), ht17⟩ ?_
  rintro n13 _ w6 ⟨st5, rfl, hb7, hL8, hS9, hl10⟩ K12 hK12
  obtain ⟨n14, s15, rfl, hm, hl10⟩ := loopN_some hl10
  unfold m_spec_l21Price_l1 at hm
  refine WP.seq (fun K18 hK18 => ?_)
  refine WP.seq (fun K19 hK19 => ?_)
  refine WP.region ?_
  refine WL.runk 4 [0, 1, 5, 6, 10] [(0, .slice a0' list_0.length c0'), (1, .slice a1' some_1.length c1'), (5, .int .i64 st5.1), (6, .int .i64 st5.2), (10, .bool (decide (st5.2 < (some_1.length : Int))))] (by kernel_rfl) ?_
  refine WL.nil ?_
  refine WQ.then_normal (hK19 _ _ _ ?_)
  refine WP.cond (decide (st5.2 < (some_1.length : Int))) rfl rfl (fun hc20 => ?_) (fun hc20 => ?_)
  rotate_left
  · have hm := iteF hm hc20
    refine WP.exit ?_
    refine WQ.then_exit ?_
    refine WQ.then_exit ?_
    refine WQ.block_here ?_
    obtain rfl := Option.some.inj hm
    obtain rfl := afterN_done hl10
    have hm := hmo11
    refine WQ.then_normal (hK3 _ _ _ ?_)
    refine WP.seq (fun K37 hK37 => ?_)
    refine WP.region ?_
    refine WL.runk 2 [4] [(4, .int .i64 st5.1)] (by kernel_rfl) ?_
    refine WL.nil ?_
    refine WQ.then_normal (hK37 _ _ _ ?_)
    refine WP.ret ?_
    obtain rfl := Option.some.inj hm
    exact WQ.ret1 _ rfl rfl ⟨rfl, hb7⟩
  have hm := iteT hm hc20
  refine WP.skip ?_
  refine WQ.then_normal (hK18 _ _ _ ?_)
  refine WP.seq (fun K21 hK21 => ?_)
  refine WP.block ?_
  refine WP.region ?_
  refine WL.runk 4 [0, 1, 6, 13, 14, 15, 16] [(0, .slice a0' list_0.length c0'), (1, .slice a1' some_1.length c1'), (6, .int .i64 st5.2), (13, .int .i64 st5.1), (14, .slice a0' list_0.length c0'), (15, .slice a1' some_1.length c1'), (16, .int .i64 st5.2)] (by kernel_rfl) ?_
  obtain ⟨x22, hx23, hm⟩ := bindE hm
  refine WL.st (.pointer (some (at_ a1' (Int.toNat st5.2 * 1)))) (ST.index (T := fInt.ty) (xs := some_1) (Rd.below h1 hb7) hx23 rfl rfl rfl Tryz.underlying25 (info2).1 (info2).2.1) rfl rfl rfl ?_
  refine WL.st (.int .i64 x22) (ST.load (cell_ext (Rd.flat (F := fInt) (Rd.below h1 hb7) hx23 0 rfl)) rfl rfl Tryz.underlying2 rfl) rfl rfl rfl ?_
  obtain ⟨x24, hx25, hm⟩ := bindE hm
  obtain ⟨a26, c27, a31, c32, hc36, hR28, hle29, hR33, hle34⟩ := nest_Repair h0 hx25
  refine WL.st (.pointer (some (at_ a0' (Int.toNat x22 * 5)))) (ST.index (T := fRepair.ty) (xs := list_0) (Rd.below h0 hb7) hx25 rfl rfl rfl Tryz.underlying24 (info48).1 (info48).2.1) rfl rfl rfl ?_
  refine WL.runk 1 [0, 1, 6, 13, 20] [(0, .slice a0' list_0.length c0'), (1, .slice a1' some_1.length c1'), (6, .int .i64 st5.2), (13, .int .i64 st5.1), (20, .pointer (some (at_ a0' (Int.toNat x22 * 5 + 3))))] (by kernel_rfl) ?_
  refine WL.st (.int .i64 x24.Price) (ST.load (cell_ext ((cells_ext hc36 hb7) 3 _ rfl)) rfl rfl Tryz.underlying2 rfl) rfl rfl rfl ?_
  refine WL.runk 2 [0, 1, 5, 6] [(0, .slice a0' list_0.length c0'), (1, .slice a1' some_1.length c1'), (6, .int .i64 st5.2), (5, .int .i64 (wI64 (st5.1 + x24.Price)))] (by kernel_rfl) ?_
  refine WL.nil ?_
  refine WQ.block_normal ?_
  refine WQ.then_normal (hK21 _ _ _ ?_)
  refine WP.region ?_
  refine WL.runk 3 [0, 1, 5, 6] [(0, .slice a0' list_0.length c0'), (1, .slice a1' some_1.length c1'), (6, .int .i64 (wI64 (st5.2 + 1))), (5, .int .i64 (wI64 (st5.1 + x24.Price)))] (by kernel_rfl) ?_
  refine WL.nil ?_
  obtain rfl := Option.some.inj hm
  exact WQ.round hK12 ⟨((wI64 (st5.1 + x24.Price)), (wI64 (st5.2 + 1))), rfl, hb7, hL8, hS9, hl10⟩ (Nat.lt_succ_self _) ⟨rfl, rfl, rfl, rfl, trivial⟩

theorem c_9 (n : Nat) (list_0 : List SRepair) (a0' : Option Addr) (c0' : Nat) (some_1 : List Int) (a1' : Option Addr) (c1' : Nat) (w : World) {r : Int × Int} (hm : m_spec_PriceOfRepairs n list_0 some_1 = some r) (h0 : Rd fRepair.ty w a0' list_0) (hle0 : list_0.length ≤ c0') (h1 : Rd fInt.ty w a1' some_1) (hle1 : some_1.length ≤ c1') :
    CallV Tryz.prog 9 #[.slice a0' list_0.length c0', .slice a1' some_1.length c1'] w (fun v w' => v = .tuple #[.int .i64 r.1, .int .i64 r.2] ∧ Ext w w') := by
  unfold m_spec_PriceOfRepairs at hm
  refine CallV.enter Tryz.func9 rfl (by kernel_rfl) Tryz.ntmps9 (env := [(0, .slice a0' list_0.length c0'), (1, .slice a1' some_1.length c1')]) ⟨rfl, rfl, trivial⟩ ?_
  refine WP.seq (fun K1 hK1 => ?_)
  refine WP.region ?_
  refine WL.runk 2 [0, 1] [(0, .slice a0' list_0.length c0'), (1, .slice a1' some_1.length c1')] (by kernel_rfl) ?_
  refine WL.nil ?_
  refine WQ.then_normal (hK1 _ _ _ ?_)
  refine WP.seq (fun K2 hK2 => ?_)
  refine WP.region ?_
  refine WL.runk 2 [0, 1, 7, 8] [(0, .slice a0' list_0.length c0'), (1, .slice a1' some_1.length c1'), (7, .slice a0' list_0.length c0'), (8, .slice a1' some_1.length c1')] (by kernel_rfl) ?_
  obtain ⟨x3, hx4, hm⟩ := bindE hm
  refine WL.call 33 #[.slice a0' list_0.length c0', .slice a1' some_1.length c1'] rfl rfl (by kernel_rfl) (c_33 n list_0 a0' c0' some_1 a1' c1' w hx4 (Rd.below h0 (Ext.refl w)) hle0 (Rd.below h1 (Ext.refl w)) hle1) ?_
  rintro _ w5 ⟨rfl, hE6⟩
  refine ⟨_, rfl, ?_⟩
  have hb8 : Ext w w5 := Ext.trans (Ext.refl w) hE6
  have hL9 : w.heap.size ≤ w5.heap.size := Nat.le_trans (Nat.le_refl _) hE6.size
  have hS10 : SH w5 w.heap.size [] := SH.ext (SH.nil _ _) hE6
  refine WL.runk 1 [0, 1, 6] [(0, .slice a0' list_0.length c0'), (1, .slice a1' some_1.length c1'), (6, .int .i64 x3)] (by kernel_rfl) ?_
  refine WL.nil ?_
  refine WQ.then_normal (hK2 _ _ _ ?_)
  refine WP.seq (fun K11 hK11 => ?_)
  refine WP.seq (fun K12 hK12 => ?_)
  refine WP.region ?_
  refine WL.runk 2 [0, 1, 6, 11] [(0, .slice a0' list_0.length c0'), (1, .slice a1' some_1.length c1'), (6, .int .i64 x3), (11, .bool (x3 != 0))] (by kernel_rfl) ?_
  refine WL.nil ?_
  refine WQ.then_normal (hK12 _ _ _ ?_)
  refine WP.cond (x3 != 0) rfl rfl (fun hc13 => ?_) (fun hc13 => ?_)
  · have hm := iteT hm hc13
    refine WP.seq (fun K14 hK14 => ?_)
    refine WP.region ?_
    refine WL.runk 3 [4, 5] [(4, .int .i64 0), (5, .int .i64 x3)] (by kernel_rfl) ?_
    refine WL.nil ?_
    refine WQ.then_normal (hK14 _ _ _ ?_)
    refine WP.ret ?_
    refine WQ.then_ret ?_
    obtain rfl := Option.some.inj hm
    exact WQ.ret2 _ _ rfl rfl rfl ⟨rfl, hb8⟩
  have hm := iteF hm hc13
  refine WP.skip ?_
  refine WQ.then_normal (hK11 _ _ _ ?_)
  refine WP.seq (fun K15 hK15 => ?_)
  refine WP.region ?_
  refine WL.runk 2 [13, 14] [(13, .slice a0' list_0.length c0'), (14, .slice a1' some_1.length c1')] (by kernel_rfl) ?_
  obtain ⟨x16, hx17, hm⟩ := bindE hm
  refine WL.call 36 #[.slice a0' list_0.length c0', .slice a1' some_1.length c1'] rfl rfl (by kernel_rfl) (c_36 n list_0 a0' c0' some_1 a1' c1' w5 hx17 (Rd.below h0 hb8) hle0 (Rd.below h1 hb8) hle1) ?_
  rintro _ w18 ⟨rfl, hE19⟩
  refine ⟨_, rfl, ?_⟩
  have hb21 : Ext w w18 := Ext.trans hb8 hE19
  have hL22 : w.heap.size ≤ w18.heap.size := Nat.le_trans hL9 hE19.size
  have hS23 : SH w18 w.heap.size [] := SH.ext hS10 hE19
  refine WL.runk 2 [4, 5] [(4, .int .i64 x16), (5, .int .i64 0)] (by kernel_rfl) ?_
  refine WL.nil ?_
  refine WQ.then_normal (hK15 _ _ _ ?_)
  refine WP.ret ?_
  obtain rfl := Option.some.inj hm
  exact WQ.ret2 _ _ rfl rfl rfl ⟨rfl, hb21⟩

theorem c_10 (n : Nat) (list_0 : List SRepair) (a0' : Option Addr) (c0' : Nat) (some_1 : List Int) (a1' : Option Addr) (c1' : Nat) (w : World) {r : Int × Int} (hm : m_impl_HoursOfRepairs n list_0 some_1 = some r) (h0 : Rd fRepair.ty w a0' list_0) (hle0 : list_0.length ≤ c0') (h1 : Rd fInt.ty w a1' some_1) (hle1 : some_1.length ≤ c1') :
    CallV Tryz.prog 10 #[.slice a0' list_0.length c0', .slice a1' some_1.length c1'] w (fun v w' => v = .tuple #[.int .i64 r.1, .int .i64 r.2] ∧ Ext w w') := by
  unfold m_impl_HoursOfRepairs at hm
  refine CallV.enter Tryz.func10 rfl (by kernel_rfl) Tryz.ntmps10 (env := [(0, .slice a0' list_0.length c0'), (1, .slice a1' some_1.length c1')]) ⟨rfl, rfl, trivial⟩ ?_
  refine WP.seq (fun K1 hK1 => ?_)
  refine WP.region ?_
  refine WL.runk 2 [0, 1] [(0, .slice a0' list_0.length c0'), (1, .slice a1' some_1.length c1')] (by kernel_rfl) ?_
  refine WL.nil ?_
  refine WQ.then_normal (hK1 _ _ _ ?_)
  refine WP.seq (fun K2 hK2 => ?_)
  refine WP.seq (fun K3 hK3 => ?_)
  refine WP.region ?_
  refine WL.runk 2 [0, 1, 10, 11] [(0, .slice a0' list_0.length c0'), (1, .slice a1' some_1.length c1'), (10, .slice a0' list_0.length c0'), (11, .slice a1' some_1.length c1')] (by kernel_rfl) ?_
  obtain ⟨x4, hx5, hm⟩ := bindE hm
  refine WL.call 30 #[.slice a0' list_0.length c0', .slice a1' some_1.length c1', .slice none 0 0] rfl rfl (by kernel_rfl) (c_30 n list_0 a0' c0' some_1 a1' c1' ([] : List Int) none 0 w hx5 (Rd.below h0 (Ext.refl w)) hle0 (Rd.below h1 (Ext.refl w)) hle1 (Rd.nil _ _ _) (Nat.zero_le _)) ?_
  rintro _ w6 ⟨rfl, hE7⟩
  refine ⟨_, rfl, ?_⟩
  have hb9 : Ext w w6 := Ext.trans (Ext.refl w) hE7
  have hL10 : w.heap.size ≤ w6.heap.size := Nat.le_trans (Nat.le_refl _) hE7.size
  have hS11 : SH w6 w.heap.size [] := SH.ext (SH.nil _ _) hE7
  refine WL.runk 1 [0, 1, 6] [(0, .slice a0' list_0.length c0'), (1, .slice a1' some_1.length c1'), (6, .int .i64 x4)] (by kernel_rfl) ?_
  refine WL.nil ?_
  refine WQ.then_normal (hK3 _ _ _ ?_)
  refine WP.seq (fun K12 hK12 => ?_)
  refine WP.region ?_
  refine WL.runk 2 [0, 1, 6, 14] [(0, .slice a0' list_0.length c0'), (1, .slice a1' some_1.length c1'), (6, .int .i64 x4), (14, .bool (x4 != 0))] (by kernel_rfl) ?_
  refine WL.nil ?_
  refine WQ.then_normal (hK12 _ _ _ ?_)
  refine WP.cond (x4 != 0) rfl rfl (fun hc13 => ?_) (fun hc13 => ?_)
  · have hm := iteT hm hc13
    refine WP.seq (fun K14 hK14 => ?_)
    refine WP.region ?_
    refine WL.runk 3 [4, 5] [(4, .int .i64 0), (5, .int .i64 x4)] (by kernel_rfl) ?_
    refine WL.nil ?_
    refine WQ.then_normal (hK14 _ _ _ ?_)
    refine WP.ret ?_
    refine WQ.then_ret ?_
    obtain rfl := Option.some.inj hm
    exact WQ.ret2 _ _ rfl rfl rfl ⟨rfl, hb9⟩
  have hm := iteF hm hc13
  refine WP.skip ?_
  refine WQ.then_normal (hK2 _ _ _ ?_)
  refine WP.seq (fun K15 hK15 => ?_)
  refine WP.region ?_
  refine WL.runk 1 [0, 1, 7] [(0, .slice a0' list_0.length c0'), (1, .slice a1' some_1.length c1'), (7, .int .i64 0)] (by kernel_rfl) ?_
  refine WL.nil ?_
  refine WQ.then_normal (hK15 _ _ _ ?_)
  refine WP.seq (fun K16 hK16 => ?_)
  refine WP.seq (fun K17 hK17 => ?_)
  refine WP.region ?_
  refine WL.runk 3 [0, 7, 16, 17, 18] [(0, .slice a0' list_0.length c0'), (7, .int .i64 0), (16, .slice a1' some_1.length c1'), (17, .int .i64 (some_1.length : Int)), (18, .int .i64 0)] (by kernel_rfl) ?_
  refine WL.nil ?_
  refine WQ.then_normal (hK17 _ _ _ ?_)
  refine WP.block ?_
  obtain ⟨t29, ht30, hm⟩ := bindE hm
  have hmo24 := hm; clear hm
  refine WP.sub [(0, .slice a0' list_0.length c0'), (7, .int .i64 0), (16, .slice a1' some_1.length c1'), (17, .int .i64 (some_1.length : Int)), (18, .int .i64 0)] ⟨rfl, rfl, rfl, rfl, rfl, trivial⟩ ?_
  refine WP.loop (fun n' env' w' => ∃ (st18 : Int × Int) , env' = [(0, .slice a0' list_0.length c0'), (7, .int .i64 st18.1), (16, .slice a1' some_1.length c1'), (17, .int .i64 (some_1.length : Int)), (18, .int .i64 st18.2)] ∧ Ext w w' ∧ w.heap.size ≤ w'.heap.size ∧ SH w' w.heap.size [] ∧ loopN (m_impl_HoursOfRepairs_l1 n list_0 some_1) n' st18 = some t29) n ⟨(0, 0), rfl, hb9, hL10, hS11, ht30⟩ ?_
  rintro n26 _ w19 ⟨st18, rfl, hb20, hL21, hS22, hl23⟩ K25 hK25
  obtain ⟨n27, s28, rfl, hm, hl23⟩ := loopN_some hl23
  unfold m_impl_HoursOfRepairs_l1 at hm
  refine WP.seq (fun K31 hK31 => ?_)
  refine WP.region ?_
  refine WL.runk 1 [0, 7, 16, 17, 18, 19] [(0, .slice a0' list_0.length c0'), (7, .int .i64 st18.1), (16, .slice a1' some_1.length c1'), (17, .int .i64 (some_1.length : Int)), (18, .int .i64 st18.2), (19, .bool (decide (st18.2 < (some_1.length : Int))))] (by kernel_rfl) ?_
  refine WL.nil ?_
  refine WQ.then_normal (hK31 _ _ _ ?_)
  refine WP.seq (fun K32 hK32 => ?_)
  refine WP.cond (decide (st18.2 < (some_1.length : Int))) rfl rfl (fun hc33 => ?_) (fun hc33 => ?_)
  rotate_left
  · have hm := iteF hm hc33
    refine WP.exit ?_
    refine WQ.then_exit ?_
    refine WQ.then_exit ?_
    refine WQ.block_here ?_
    obtain rfl := Option.some.inj hm
    obtain rfl := afterN_done hl23
    have hm := hmo24
    refine WQ.then_normal (hK16 _ _ _ ?_)
    refine WP.seq (fun K51 hK51 => ?_)
    refine WP.region ?_
    refine WL.runk 3 [4, 5] [(4, .int .i64 st18.1), (5, .int .i64 0)] (by kernel_rfl) ?_
    refine WL.nil ?_
    refine WQ.then_normal (hK51 _ _ _ ?_)
    refine WP.ret ?_
    obtain rfl := Option.some.inj hm
    exact WQ.ret2 _ _ rfl rfl rfl ⟨rfl, hb20⟩
  have hm := iteT hm hc33
  refine WP.skip ?_
  refine WQ.then_normal (hK32 _ _ _ ?_)
  refine WP.seq (fun K34 hK34 => ?_)
  refine WP.block ?_
  refine WP.seq (fun K35 hK35 => ?_)
  refine WP.region ?_
  obtain ⟨x36, hx37, hm⟩ := bindE hm
  refine WL.st (.pointer (some (at_ a1' (Int.toNat st18.2 * 1)))) (ST.index (T := fInt.ty) (xs := some_1) (Rd.below h1 hb20) hx37 rfl rfl rfl Tryz.underlying25 (info2).1 (info2).2.1) rfl rfl rfl ?_
  refine WL.st (.int .i64 x36) (ST.load (cell_ext (Rd.flat (F := fInt) (Rd.below h1 hb20) hx37 0 rfl)) rfl rfl Tryz.underlying2 rfl) rfl rfl rfl ?_
  refine WL.runk 1 [0, 7, 9, 16, 17, 18] [(0, .slice a0' list_0.length c0'), (7, .int .i64 st18.1), (16, .slice a1' some_1.length c1'), (17, .int .i64 (some_1.length : Int)), (18, .int .i64 st18.2), (9, .int .i64 x36)] (by kernel_rfl) ?_
  refine WL.nil ?_
  refine WQ.then_normal (hK35 _ _ _ ?_)
  refine WP.region ?_
  refine WL.runk 3 [0, 16, 17, 18, 22, 23, 24] [(0, .slice a0' list_0.length c0'), (16, .slice a1' some_1.length c1'), (17, .int .i64 (some_1.length : Int)), (18, .int .i64 st18.2), (22, .int .i64 st18.1), (23, .slice a0' list_0.length c0'), (24, .int .i64 x36)] (by kernel_rfl) ?_
  obtain ⟨x38, hx39, hm⟩ := bindE hm
  obtain ⟨a40, c41, a45, c46, hc50, hR42, hle43, hR47, hle48⟩ := nest_Repair h0 hx39
  refine WL.st (.pointer (some (at_ a0' (Int.toNat x36 * 5)))) (ST.index (T := fRepair.ty) (xs := list_0) (Rd.below h0 hb20) hx39 rfl rfl rfl Tryz.underlying24 (info48).1 (info48).2.1) rfl rfl rfl ?_
  refine WL.runk 1 [0, 16, 17, 18, 22, 26] [(0, .slice a0' list_0.length c0'), (16, .slice a1' some_1.length c1'), (17, .int .i64 (some_1.length : Int)), (18, .int .i64 st18.2), (22, .int .i64 st18.1), (26, .pointer (some (at_ a0' (Int.toNat x36 * 5 + 4))))] (by kernel_rfl) ?_
  refine WL.st (.int .i64 x38.Hours) (ST.load (cell_ext ((cells_ext hc50 hb20) 4 _ rfl)) rfl rfl Tryz.underlying2 rfl) rfl rfl rfl ?_
  refine WL.runk 2 [0, 7, 16, 17, 18] [(0, .slice a0' list_0.length c0'), (16, .slice a1' some_1.length c1'), (17, .int .i64 (some_1.length : Int)), (18, .int .i64 st18.2), (7, .int .i64 (wI64 (st18.1 + x38.Hours)))] (by kernel_rfl) ?_
  refine WL.nil ?_
  refine WQ.block_normal ?_
  refine WQ.then_normal (hK34 _ _ _ ?_)
  refine WP.region ?_
  refine WL.runk 2 [0, 7, 16, 17, 18] [(0, .slice a0' list_0.length c0'), (16, .slice a1' some_1.length c1'), (17, .int .i64 (some_1.length : Int)), (18, .int .i64 (wI64 (st18.2 + 1))), (7, .int .i64 (wI64 (st18.1 + x38.Hours)))] (by kernel_rfl) ?_
  refine WL.nil ?_
  obtain rfl := Option.some.inj hm
  exact WQ.round hK25 ⟨((wI64 (st18.1 + x38.Hours)), (wI64 (st18.2 + 1))), rfl, hb20, hL21, hS22, hl23⟩ (Nat.lt_succ_self _) ⟨rfl, rfl, rfl, rfl, rfl, trivial⟩

theorem c_11 (n : Nat) (list_0 : List SRepair) (a0' : Option Addr) (c0' : Nat) (some_1 : List Int) (a1' : Option Addr) (c1' : Nat) (w : World) {r : Int × Int} (hm : m_spec_HoursOfRepairs n list_0 some_1 = some r) (h0 : Rd fRepair.ty w a0' list_0) (hle0 : list_0.length ≤ c0') (h1 : Rd fInt.ty w a1' some_1) (hle1 : some_1.length ≤ c1') :
    CallV Tryz.prog 11 #[.slice a0' list_0.length c0', .slice a1' some_1.length c1'] w (fun v w' => v = .tuple #[.int .i64 r.1, .int .i64 r.2] ∧ Ext w w') := by
  unfold m_spec_HoursOfRepairs at hm
  refine CallV.enter Tryz.func11 rfl (by kernel_rfl) Tryz.ntmps11 (env := [(0, .slice a0' list_0.length c0'), (1, .slice a1' some_1.length c1')]) ⟨rfl, rfl, trivial⟩ ?_
  refine WP.seq (fun K1 hK1 => ?_)
  refine WP.region ?_
  refine WL.runk 2 [0, 1] [(0, .slice a0' list_0.length c0'), (1, .slice a1' some_1.length c1')] (by kernel_rfl) ?_
  refine WL.nil ?_
  refine WQ.then_normal (hK1 _ _ _ ?_)
  refine WP.seq (fun K2 hK2 => ?_)
  refine WP.region ?_
  refine WL.runk 2 [0, 1, 9, 10] [(0, .slice a0' list_0.length c0'), (1, .slice a1' some_1.length c1'), (9, .slice a0' list_0.length c0'), (10, .slice a1' some_1.length c1')] (by kernel_rfl) ?_
  obtain ⟨x3, hx4, hm⟩ := bindE hm
  refine WL.call 33 #[.slice a0' list_0.length c0', .slice a1' some_1.length c1'] rfl rfl (by kernel_rfl) (c_33 n list_0 a0' c0' some_1 a1' c1' w hx4 (Rd.below h0 (Ext.refl w)) hle0 (Rd.below h1 (Ext.refl w)) hle1) ?_
  rintro _ w5 ⟨rfl, hE6⟩
  refine ⟨_, rfl, ?_⟩
  have hb8 : Ext w w5 := Ext.trans (Ext.refl w) hE6
  have hL9 : w.heap.size ≤ w5.heap.size := Nat.le_trans (Nat.le_refl _) hE6.size
  have hS10 : SH w5 w.heap.size [] := SH.ext (SH.nil _ _) hE6
  refine WL.runk 1 [0, 1, 6] [(0, .slice a0' list_0.length c0'), (1, .slice a1' some_1.length c1'), (6, .int .i64 x3)] (by kernel_rfl) ?_
  refine WL.nil ?_
  refine WQ.then_normal (hK2 _ _ _ ?_)
  refine WP.seq (fun K11 hK11 => ?_)
  refine WP.seq (fun K12 hK12 => ?_)
  refine WP.region ?_
  refine WL.runk 2 [0, 1, 6, 13] [(0, .slice a0' list_0.length c0'), (1, .slice a1' some_1.length c1'), (6, .int .i64 x3), (13, .bool (x3 != 0))] (by kernel_rfl) ?_
  refine WL.nil ?_
  refine WQ.then_normal (hK12 _ _ _ ?_)
  refine WP.cond (x3 != 0) rfl rfl (fun hc13 => ?_) (fun hc13 => ?_)
  · have hm := iteT hm hc13
    refine WP.seq (fun K14 hK14 => ?_)
    refine WP.region ?_
    refine WL.runk 3 [4, 5] [(4, .int .i64 0), (5, .int .i64 x3)] (by kernel_rfl) ?_
    refine WL.nil ?_
    refine WQ.then_normal (hK14 _ _ _ ?_)
    refine WP.ret ?_
    refine WQ.then_ret ?_
    obtain rfl := Option.some.inj hm
    exact WQ.ret2 _ _ rfl rfl rfl ⟨rfl, hb8⟩
  have hm := iteF hm hc13
  refine WP.skip ?_
  refine WQ.then_normal (hK11 _ _ _ ?_)
  refine WP.seq (fun K15 hK15 => ?_)
  refine WP.region ?_
  refine WL.runk 1 [0, 1, 7] [(0, .slice a0' list_0.length c0'), (1, .slice a1' some_1.length c1'), (7, .int .i64 0)] (by kernel_rfl) ?_
  refine WL.nil ?_
  refine WQ.then_normal (hK15 _ _ _ ?_)
  refine WP.seq (fun K16 hK16 => ?_)
  refine WP.seq (fun K17 hK17 => ?_)
  refine WP.region ?_
  refine WL.runk 1 [0, 1, 7, 8] [(0, .slice a0' list_0.length c0'), (1, .slice a1' some_1.length c1'), (7, .int .i64 0), (8, .int .i64 0)] (by kernel_rfl) ?_
  refine WL.nil ?_
  refine WQ.then_normal (hK17 _ _ _ ?_)
  refine WP.block ?_
  obtain ⟨t29, ht30, hm⟩ := bindE hm
  have hmo24 := hm; clear hm
  refine WP.sub [(0, .slice a0' list_0.length c0'), (1, .slice a1' some_1.length c1'), (7, .int .i64 0), (8, .int .i64 0)] ⟨rfl, rfl, rfl, rfl, trivial⟩ ?_
  refine WP.loop (fun n' env' w' => ∃ (st18 : Int × Int) , env' = [(0, .slice a0' list_0.length c0'), (1, .slice a1' some_1.length c1'), (7, .int .i64 st18.1), (8, .int .i64 st18.2)] ∧ Ext w w' ∧ w.heap.size ≤ w'.heap.size ∧ SH w' w.heap.size [] ∧ loopN (m_spec_HoursOfRepairs_l1 n list_0 some_1) n' st18 = some t29) n ⟨(0, 0), rfl, hb8, hL9, hS10, ht30⟩ ?_
  rintro n26 _ w19 ⟨st18, rfl, hb20, hL21, hS22, hl23⟩ K25 hK25
  obtain ⟨n27, s28, rfl, hm, hl23⟩ := loopN_some hl23
  unfold m_spec_HoursOfRepairs_l1 at hm
  refine WP.seq (fun K31 hK31 => ?_)
  refine WP.seq (fun K32 hK32 => ?_)
  refine WP.region ?_
  refine WL.runk 4 [0, 1, 7, 8, 18] [(0, .slice a0' list_0.length c0'), (1, .slice a1' some_1.length c1'), (7, .int .i64 st18.1), (8, .int .i64 st18.2), (18, .bool (decide (st18.2 < (some_1.length : Int))))] (by kernel_rfl) ?_
  refine WL.nil ?_
  refine WQ.then_normal (hK32 _ _ _ ?_)
  refine WP.cond (decide (st18.2 < (some_1.length : Int))) rfl rfl (fun hc33 => ?_) (fun hc33 => ?_)
  rotate_left
  · have hm := iteF hm hc33
    refine WP.exit ?_
    refine WQ.then_exit ?_
    refine WQ.then_exit ?_
    refine WQ.block_here ?_
    obtain rfl := Option.some.inj hm
    obtain rfl := afterN_done hl23
    have hm := hmo24
    refine WQ.then_normal (hK16 _ _ _ ?_)
    refine WP.seq (fun K50 hK50 => ?_)
    refine WP.region ?_
    refine WL.runk 3 [4, 5] [(4, .int .i64 st18.1), (5, .int .i64 0)] (by kernel_rfl) ?_
    refine WL.nil ?_
    refine WQ.then_normal (hK50 _ _ _ ?_)
    refine WP.ret ?_
    obtain rfl := Option.some.inj hm
    exact WQ.ret2 _ _ rfl rfl rfl ⟨rfl, hb20⟩
  have hm := iteT hm hc33
  refine WP.skip ?_
  refine WQ.then_normal (hK31 _ _ _ ?_)
  refine WP.seq (fun K34 hK34 => ?_)
  refine WP.block ?_
  refine WP.region ?_
  refine WL.runk 4 [0, 1, 8, 21, 22, 23, 24] [(0, .slice a0' list_0.length c0'), (1, .slice a1' some_1.length c1'), (8, .int .i64 st18.2), (21, .int .i64 st18.1), (22, .slice a0' list_0.length c0'), (23, .slice a1' some_1.length c1'), (24, .int .i64 st18.2)] (by kernel_rfl) ?_
  obtain ⟨x35, hx36, hm⟩ := bindE hm
  refine WL.st (.pointer (some (at_ a1' (Int.toNat st18.2 * 1)))) (ST.index (T := fInt.ty) (xs := some_1) (Rd.below h1 hb20) hx36 rfl rfl rfl Tryz.underlying25 (info2).1 (info2).2.1) rfl rfl rfl ?_
  refine WL.st (.int .i64 x35) (ST.load (cell_ext (Rd.flat (F := fInt) (Rd.below h1 hb20) hx36 0 rfl)) rfl rfl Tryz.underlying2 rfl) rfl rfl rfl ?_
  obtain ⟨x37, hx38, hm⟩ := bindE hm
  obtain ⟨a39, c40, a44, c45, hc49, hR41, hle42, hR46, hle47⟩ := nest_Repair h0 hx38
  refine WL.st (.pointer (some (at_ a0' (Int.toNat x35 * 5)))) (ST.index (T := fRepair.ty) (xs := list_0) (Rd.below h0 hb20) hx38 rfl rfl rfl Tryz.underlying24 (info48).1 (info48).2.1) rfl rfl rfl ?_
  refine WL.runk 1 [0, 1, 8, 21, 28] [(0, .slice a0' list_0.length c0'), (1, .slice a1' some_1.length c1'), (8, .int .i64 st18.2), (21, .int .i64 st18.1), (28, .pointer (some (at_ a0' (Int.toNat x35 * 5 + 4))))] (by kernel_rfl) ?_
  refine WL.st (.int .i64 x37.Hours) (ST.load (cell_ext ((cells_ext hc49 hb20) 4 _ rfl)) rfl rfl Tryz.underlying2 rfl) rfl rfl rfl ?_
  refine WL.runk 2 [0, 1, 7, 8] [(0, .slice a0' list_0.length c0'), (1, .slice a1' some_1.length c1'), (8, .int .i64 st18.2), (7, .int .i64 (wI64 (st18.1 + x37.Hours)))] (by kernel_rfl) ?_
  refine WL.nil ?_
  refine WQ.block_normal ?_
  refine WQ.then_normal (hK34 _ _ _ ?_)
  refine WP.region ?_
  refine WL.runk 3 [0, 1, 7, 8] [(0, .slice a0' list_0.length c0'), (1, .slice a1' some_1.length c1'), (8, .int .i64 (wI64 (st18.2 + 1))), (7, .int .i64 (wI64 (st18.1 + x37.Hours)))] (by kernel_rfl) ?_
  refine WL.nil ?_
  obtain rfl := Option.some.inj hm
  exact WQ.round hK25 ⟨((wI64 (st18.1 + x37.Hours)), (wI64 (st18.2 + 1))), rfl, hb20, hL21, hS22, hl23⟩ (Nat.lt_succ_self _) ⟨rfl, rfl, rfl, rfl, trivial⟩

theorem c_37 (n : Nat) (code_0 : List Int) (a0' : Option Addr) (c0' : Nat) (w : World) {r : List SRepair × List Int} (hm : m_spec_l21Two n code_0 = some r) (h0 : Rd fU8.ty w a0' code_0) (hle0 : code_0.length ≤ c0') :
    CallV Tryz.prog 37 #[.slice a0' code_0.length c0'] w (fun v w' => ∃ (ra0 : Option Addr) (rc0 : Nat) (ra1 : Option Addr) (rc1 : Nat), v = .tuple #[.slice ra0 r.1.length rc0, .slice ra1 r.2.length rc1] ∧ Ext w w' ∧ SH w' w.heap.size [aNest fRepair 48 2 ra0 rc0 r.1, aOwn fInt 2 ra1 rc1 r.2]) := by
  unfold m_spec_l21Two at hm
  refine CallV.enter Tryz.func37 rfl (by kernel_rfl) Tryz.ntmps37 (env := [(0, .slice a0' code_0.length c0')]) ⟨rfl, trivial⟩ ?_
  refine WP.seq (fun K1 hK1 => ?_)
  refine WP.region ?_
  refine WL.runk 2 [0] [(0, .slice a0' code_0.length c0')] (by kernel_rfl) ?_
  refine WL.nil ?_
  refine WQ.then_normal (hK1 _ _ _ ?_)
  refine WP.seq (fun K2 hK2 => ?_)
  refine WP.region ?_
  refine WL.runk 1 [8] [(8, .slice a0' code_0.length c0')] (by kernel_rfl) ?_
  obtain ⟨x3, hx4, hm⟩ := bindE hm
  refine WL.call 69 #[.slice a0' code_0.length c0'] rfl rfl (by kernel_rfl) (c_69 n code_0 a0' c0' w hx4 (Rd.below h0 (Ext.refl w)) hle0) ?_
  rintro _ w14 ⟨a5, c6, a8, c9, a11, c12, rfl, hE15, hR16⟩
  refine ⟨_, rfl, ?_⟩
  have hb17 : Ext w w14 := Ext.trans (Ext.refl w) hE15
  have hL18 : w.heap.size ≤ w14.heap.size := Nat.le_trans (Nat.le_refl _) hE15.size
  have hS19 : SH w14 w.heap.size [aNest fRepair 48 2 a5 c6 x3.1, aOwn fInt 2 a8 c9 x3.2.1, aOwn fInt 2 a11 c12 x3.2.2] := SH.add (SH.nil _ _) hE15 (Nat.le_refl _) hR16
  refine WL.runk 7 [4, 6] [(4, .slice a5 x3.1.length c6), (6, .slice a11 x3.2.2.length c12)] (by kernel_rfl) ?_
  refine WL.nil ?_
  refine WQ.then_normal (hK2 _ _ _ ?_)
  refine WP.seq (fun K20 hK20 => ?_)
  refine WP.region ?_
  refine WL.runk 4 [2, 3] [(2, .slice a5 x3.1.length c6), (3, .slice a11 x3.2.2.length c12)] (by kernel_rfl) ?_
  refine WL.nil ?_
  refine WQ.then_normal (hK20 _ _ _ ?_)
  refine WP.ret ?_
  obtain rfl := Option.some.inj hm
  exact WQ.ret2 _ _ rfl rfl rfl ⟨_, _, _, _, rfl, hb17, (SH.take 2 (SH.front 1 (SH.front 2 hS19)))⟩

theorem c_12 (n : Nat) (code_0 : List Int) (a0' : Option Addr) (c0' : Nat) (w : World) {r : List SRepair × List Int} (hm : m_spec_DrawHopelessFaults n code_0 = some r) (h0 : Rd fU8.ty w a0' code_0) (hle0 : code_0.length ≤ c0') :
    CallV Tryz.prog 12 #[.slice a0' code_0.length c0'] w (fun v w' => ∃ (ra0 : Option Addr) (rc0 : Nat) (ra1 : Option Addr) (rc1 : Nat), v = .tuple #[.slice ra0 r.1.length rc0, .slice ra1 r.2.length rc1] ∧ Ext w w' ∧ SH w' w.heap.size [aNest fRepair 48 2 ra0 rc0 r.1, aOwn fInt 2 ra1 rc1 r.2]) := by
  unfold m_spec_DrawHopelessFaults at hm
  refine CallV.enter Tryz.func12 rfl (by kernel_rfl) Tryz.ntmps12 (env := [(0, .slice a0' code_0.length c0')]) ⟨rfl, trivial⟩ ?_
  refine WP.seq (fun K1 hK1 => ?_)
  refine WP.region ?_
  refine WL.runk 2 [0] [(0, .slice a0' code_0.length c0')] (by kernel_rfl) ?_
  refine WL.nil ?_
  refine WQ.then_normal (hK1 _ _ _ ?_)
  refine WP.seq (fun K2 hK2 => ?_)
  refine WP.region ?_
  refine WL.runk 1 [4] [(4, .slice a0' code_0.length c0')] (by kernel_rfl) ?_
  obtain ⟨x3, hx4, hm⟩ := bindE hm
  refine WL.call 37 #[.slice a0' code_0.length c0'] rfl rfl (by kernel_rfl) (c_37 n code_0 a0' c0' w hx4 (Rd.below h0 (Ext.refl w)) hle0) ?_
  rintro _ w11 ⟨a5, c6, a8, c9, rfl, hE12, hR13⟩
  refine ⟨_, rfl, ?_⟩
  have hb14 : Ext w w11 := Ext.trans (Ext.refl w) hE12
  have hL15 : w.heap.size ≤ w11.heap.size := Nat.le_trans (Nat.le_refl _) hE12.size
  have hS16 : SH w11 w.heap.size [aNest fRepair 48 2 a5 c6 x3.1, aOwn fInt 2 a8 c9 x3.2] := SH.add (SH.nil _ _) hE12 (Nat.le_refl _) hR13
  refine WL.runk 4 [2, 3] [(2, .slice a5 x3.1.length c6), (3, .slice a8 x3.2.length c9)] (by kernel_rfl) ?_
  refine WL.nil ?_
  refine WQ.then_normal (hK2 _ _ _ ?_)
  refine WP.ret ?_
  obtain rfl := Option.some.inj hm
  exact WQ.ret2 _ _ rfl rfl rfl ⟨_, _, _, _, rfl, hb14, hS16⟩

theorem c_39 (n : Nat) (s_0 : List Int) (a0' : Option Addr) (c0' : Nat) (w : World) {r : List Int} (hm : m_slices_Clone_int64_int64 n s_0 = some r) (h0 : Rd fInt.ty w a0' s_0) (_hle0 : s_0.length ≤ c0') :
    CallV Tryz.prog 39 #[.slice a0' s_0.length c0'] w (fun v w' => ∃ (ra0 : Option Addr) (rc0 : Nat), v = .slice ra0 r.length rc0 ∧ Ext w w' ∧ SH w' w.heap.size [aOwn fInt 2 ra0 rc0 r]) := by
  unfold m_slices_Clone_int64_int64 at hm
  rcases a0' with _ | a0'
  · obtain rfl : s_0 = [] := by
      cases s_0 with
      | nil => rfl
      | cons x t => exact absurd (h0 0 x rfl).1 (by simp)
    obtain rfl : ([] : List Int) = r := by simpa [app] using hm
    refine CallV.enter Tryz.func39 rfl (by kernel_rfl) Tryz.ntmps39 (env := [(0, .slice none 0 c0')]) ⟨rfl, trivial⟩ ?_
    refine WP.seq (fun K1 hK1 => ?_)
    refine WP.region ?_
    refine WL.runk 1 [0] [(0, .slice none 0 c0')] (by kernel_rfl) ?_
    refine WL.nil ?_
    refine WQ.then_normal (hK1 _ _ _ ?_)
    refine WP.seq (fun K2 hK2 => ?_)
    refine WP.seq (fun K3 hK3 => ?_)
    refine WP.region ?_
    refine WL.runk 2 [4] [(4, .bool true)] (by kernel_rfl) ?_
    refine WL.nil ?_
    refine WQ.then_normal (hK3 _ _ _ ?_)
    refine WP.cond true rfl rfl (fun _ => ?_) (fun hc4 => ?_)
    rotate_left
    · cases hc4
    refine WP.seq (fun K5 hK5 => ?_)
    refine WP.region ?_
    refine WL.runk 1 [2] [(2, .slice none 0 0)] (by kernel_rfl) ?_
    refine WL.nil ?_
    refine WQ.then_normal (hK5 _ _ _ ?_)
    refine WP.ret ?_
    refine WQ.then_ret ?_
    have hS7 : SH w w.heap.size [aOwn fInt 2 none 0 ([] : List Int)] := SH.nilOwn (SH.nil _ _)
    exact WQ.ret1 _ rfl rfl ⟨_, _, rfl, (Ext.refl w), hS7⟩
  refine CallV.enter Tryz.func39 rfl (by kernel_rfl) Tryz.ntmps39 (env := [(0, .slice (some a0') s_0.length c0')]) ⟨rfl, trivial⟩ ?_
  refine WP.seq (fun K1 hK1 => ?_)
  refine WP.region ?_
  refine WL.runk 1 [0] [(0, .slice (some a0') s_0.length c0')] (by kernel_rfl) ?_
  refine WL.nil ?_
  refine WQ.then_normal (hK1 _ _ _ ?_)
  refine WP.seq (fun K2 hK2 => ?_)
  refine WP.seq (fun K3 hK3 => ?_)
  refine WP.region ?_
  refine WL.runk 2 [0, 4] [(0, .slice (some a0') s_0.length c0'), (4, .bool false)] (by kernel_rfl) ?_
  refine WL.nil ?_
  refine WQ.then_normal (hK3 _ _ _ ?_)
  refine WP.cond false rfl rfl (fun hc4 => ?_) (fun _ => ?_)
  · cases hc4
  refine WP.skip ?_
  refine WQ.then_normal (hK2 _ _ _ ?_)
  refine WP.seq (fun K8 hK8 => ?_)
  refine WP.region ?_
  refine WL.row fInt 2 ([] : List Int) 0 #[] 5 (by kernel_rfl) rfl rfl rfl rfl rfl rfl rfl ?_
  intro a9 c10 w11 hE12 hR13
  have hb15 : Ext w w11 := Ext.trans (Ext.refl w) hE12
  have hL16 : w.heap.size ≤ w11.heap.size := Nat.le_trans (Nat.le_refl _) hE12.size
  have hS17 : SH w11 w.heap.size [aOwn fInt 2 a9 c10 ([] : List Int)] := SH.add (SH.nil _ _) hE12 (Nat.le_refl _) hR13
  refine WL.runk 1 [5, 6] [(5, .slice a9 (([] : List Int).length) c10), (6, .slice (some a0') s_0.length c0')] (by kernel_rfl) ?_
  obtain ⟨x18, hx19, hm⟩ := bindE hm
  refine WL.append (F := fInt) (xs := ([] : List Int)) (ys := s_0) 7 (SH.front 0 hS17) hL16 (Rd.below h0 hb15) hx19 rfl rfl rfl Tryz.underlying25 (info2).1 (info2).2.2.1 (info2).2.1 (info2).2.2.2 rfl rfl rfl rfl rfl ?_
  intro a20 c21 w22 hB23 hS24
  have hb25 : Ext w w22 := Below.trans hb15 hB23
  refine WL.runk 1 [2] [(2, .slice a20 x18.length c21)] (by kernel_rfl) ?_
  refine WL.nil ?_
  refine WQ.then_normal (hK8 _ _ _ ?_)
  refine WP.ret ?_
  obtain rfl := Option.some.inj hm
  exact WQ.ret1 _ rfl rfl ⟨_, _, rfl, hb25, hS24⟩

theorem c_74 (n : Nat) (s_0 : List Int) (a0' : Option Addr) (c0' : Nat) (v_1 : Int) (w : World) {r : Int} (hm : m_slices_Index_int64_int64 n s_0 v_1 = some r) (h0 : Rd fInt.ty w a0' s_0) (_hle0 : s_0.length ≤ c0') :
    CallV Tryz.prog 74 #[.slice a0' s_0.length c0', .int .i64 v_1] w (fun v w' => v = .int .i64 r ∧ Ext w w') := by
  unfold m_slices_Index_int64_int64 at hm
  refine CallV.enter Tryz.func74 rfl (by kernel_rfl) Tryz.ntmps74 (env := [(0, .slice a0' s_0.length c0'), (1, .int .i64 v_1)]) ⟨rfl, rfl, trivial⟩ ?_
  refine WP.seq (fun K1 hK1 => ?_)
  refine WP.region ?_
  refine WL.runk 1 [0, 1] [(0, .slice a0' s_0.length c0'), (1, .int .i64 v_1)] (by kernel_rfl) ?_
  refine WL.nil ?_
  refine WQ.then_normal (hK1 _ _ _ ?_)
  refine WP.seq (fun K2 hK2 => ?_)
  refine WP.seq (fun K3 hK3 => ?_)
  refine WP.region ?_
  refine WL.runk 3 [0, 1, 7, 8] [(0, .slice a0' s_0.length c0'), (1, .int .i64 v_1), (7, .int .i64 (s_0.length : Int)), (8, .int .i64 0)] (by kernel_rfl) ?_
  refine WL.nil ?_
  refine WQ.then_normal (hK3 _ _ _ ?_)
  refine WP.block ?_
  obtain ⟨t15, ht16, hm⟩ := bindE hm
  have hmo10 := hm; clear hm
  refine WP.sub [(0, .slice a0' s_0.length c0'), (1, .int .i64 v_1), (7, .int .i64 (s_0.length : Int)), (8, .int .i64 0)] ⟨rfl, rfl, rfl, rfl, trivial⟩ ?_
  refine WP.loop (fun n' env' w' => ∃ (st4 : Int) , env' = [(0, .slice a0' s_0.length c0'), (1, .int .i64 v_1), (7, .int .i64 (s_0.length : Int)), (8, .int .i64 st4)] ∧ Ext w w' ∧ w.heap.size ≤ w'.heap.size ∧ SH w' w.heap.size [] ∧ loopN (m_slices_Index_int64_int64_l1 n s_0 v_1) n' st4 = some t15) n ⟨0, rfl, (Ext.refl w), (Nat.le_refl _), (SH.nil _ _), ht16⟩ ?_
  rintro n12 _ w5 ⟨st4, rfl, hb6, hL7, hS8, hl9⟩ K11 hK11
  obtain ⟨n13, s14, rfl, hm, hl9⟩ := loopN_some hl9
  unfold m_slices_Index_int64_int64_l1 at hm
  refine WP.seq (fun K17 hK17 => ?_)
  refine WP.region ?_
  refine WL.runk 1 [0, 1, 7, 8, 9] [(0, .slice a0' s_0.length c0'), (1, .int .i64 v_1), (7, .int .i64 (s_0.length : Int)), (8, .int .i64 st4), (9, .bool (decide (st4 < (s_0.length : Int))))] (by kernel_rfl) ?_
  refine WL.nil ?_
  refine WQ.then_normal (hK17 _ _ _ ?_)
  refine WP.seq (fun K18 hK18 => ?_)
  refine WP.cond (decide (st4 < (s_0.length : Int))) rfl rfl (fun hc19 => ?_) (fun hc19 => ?_)
  rotate_left
  · have hm := iteF hm hc19
    refine WP.exit ?_
    refine WQ.then_exit ?_
    refine WQ.then_exit ?_
    refine WQ.block_here ?_
    obtain rfl := Option.some.inj hm
    obtain rfl := afterN_done hl9
    have hm := hmo10
    refine WQ.then_normal (hK2 _ _ _ ?_)
    refine WP.seq (fun K27 hK27 => ?_)
    refine WP.region ?_
    refine WL.runk 1 [4] [(4, .int .i64 (-1))] (by kernel_rfl) ?_
    refine WL.nil ?_
    refine WQ.then_normal (hK27 _ _ _ ?_)
    refine WP.ret ?_
    obtain rfl := Option.some.inj hm
    exact WQ.ret1 _ rfl rfl ⟨rfl, hb6⟩
  have hm := iteT hm hc19
  refine WP.skip ?_
  refine WQ.then_normal (hK18 _ _ _ ?_)
  refine WP.seq (fun K20 hK20 => ?_)
  refine WP.block ?_
  refine WP.seq (fun K21 hK21 => ?_)
  refine WP.region ?_
  refine WL.runk 2 [0, 1, 5, 7, 8] [(0, .slice a0' s_0.length c0'), (1, .int .i64 v_1), (7, .int .i64 (s_0.length : Int)), (8, .int .i64 st4), (5, .int .i64 st4)] (by kernel_rfl) ?_
  refine WL.nil ?_
  refine WQ.then_normal (hK21 _ _ _ ?_)
  refine WP.seq (fun K22 hK22 => ?_)
  refine WP.region ?_
  refine WL.runk 3 [0, 1, 5, 7, 8, 11, 12, 13] [(0, .slice a0' s_0.length c0'), (1, .int .i64 v_1), (7, .int .i64 (s_0.length : Int)), (8, .int .i64 st4), (5, .int .i64 st4), (11, .int .i64 v_1), (12, .slice a0' s_0.length c0'), (13, .int .i64 st4)] (by kernel_rfl) ?_
  obtain ⟨x23, hx24, hm⟩ := bindE hm
  refine WL.st (.pointer (some (at_ a0' (Int.toNat st4 * 1)))) (ST.index (T := fInt.ty) (xs := s_0) (Rd.below h0 hb6) hx24 rfl rfl rfl Tryz.underlying25 (info2).1 (info2).2.1) rfl rfl rfl ?_
  refine WL.st (.int .i64 x23) (ST.load (cell_ext (Rd.flat (F := fInt) (Rd.below h0 hb6) hx24 0 rfl)) rfl rfl Tryz.underlying2 rfl) rfl rfl rfl ?_
  refine WL.runk 1 [0, 1, 5, 7, 8, 16] [(0, .slice a0' s_0.length c0'), (1, .int .i64 v_1), (7, .int .i64 (s_0.length : Int)), (8, .int .i64 st4), (5, .int .i64 st4), (16, .bool (v_1 == x23))] (by kernel_rfl) ?_
  refine WL.nil ?_
  refine WQ.then_normal (hK22 _ _ _ ?_)
  refine WP.cond (v_1 == x23) rfl rfl (fun hc25 => ?_) (fun hc25 => ?_)
  rotate_left
  · have hm := iteF hm hc25
    refine WP.skip ?_
    refine WQ.block_normal ?_
    refine WQ.then_normal (hK20 _ _ _ ?_)
    refine WP.region ?_
    refine WL.runk 2 [0, 1, 7, 8] [(0, .slice a0' s_0.length c0'), (1, .int .i64 v_1), (7, .int .i64 (s_0.length : Int)), (8, .int .i64 (wI64 (st4 + 1)))] (by kernel_rfl) ?_
    refine WL.nil ?_
    obtain rfl := Option.some.inj hm
    exact WQ.round hK11 ⟨(wI64 (st4 + 1)), rfl, hb6, hL7, hS8, hl9⟩ (Nat.lt_succ_self _) ⟨rfl, rfl, rfl, rfl, trivial⟩
  have hm := iteT hm hc25
  refine WP.seq (fun K26 hK26 => ?_)
  refine WP.region ?_
  refine WL.runk 2 [4] [(4, .int .i64 st4)] (by kernel_rfl) ?_
  refine WL.nil ?_
  refine WQ.then_normal (hK26 _ _ _ ?_)
  refine WP.ret ?_
  refine WQ.block_ret ?_
  refine WQ.then_ret ?_
  refine WQ.then_ret ?_
  refine WQ.block_ret ?_
  refine WQ.then_ret ?_
  obtain rfl := Option.some.inj hm
  obtain rfl := afterN_done hl9
  have hm := hmo10
  obtain rfl := Option.some.inj hm
  exact WQ.ret1 _ rfl rfl ⟨rfl, hb6⟩

theorem c_43 (n : Nat) (s_0 : List Int) (a0' : Option Addr) (c0' : Nat) (v_1 : Int) (w : World) {r : Bool} (hm : m_slices_Contains_int64_int64 n s_0 v_1 = some r) (h0 : Rd fInt.ty w a0' s_0) (hle0 : s_0.length ≤ c0') :
    CallV Tryz.prog 43 #[.slice a0' s_0.length c0', .int .i64 v_1] w (fun v w' => v = .bool r ∧ Ext w w') := by
  unfold m_slices_Contains_int64_int64 at hm
  refine CallV.enter Tryz.func43 rfl (by kernel_rfl) Tryz.ntmps43 (env := [(0, .slice a0' s_0.length c0'), (1, .int .i64 v_1)]) ⟨rfl, rfl, trivial⟩ ?_
  refine WP.seq (fun K1 hK1 => ?_)
  refine WP.region ?_
  refine WL.runk 1 [0, 1] [(0, .slice a0' s_0.length c0'), (1, .int .i64 v_1)] (by kernel_rfl) ?_
  refine WL.nil ?_
  refine WQ.then_normal (hK1 _ _ _ ?_)
  refine WP.seq (fun K2 hK2 => ?_)
  refine WP.region ?_
  refine WL.runk 2 [5, 6] [(5, .slice a0' s_0.length c0'), (6, .int .i64 v_1)] (by kernel_rfl) ?_
  obtain ⟨x3, hx4, hm⟩ := bindE hm
  refine WL.call 74 #[.slice a0' s_0.length c0', .int .i64 v_1] rfl rfl (by kernel_rfl) (c_74 n s_0 a0' c0' v_1 w hx4 (Rd.below h0 (Ext.refl w)) hle0) ?_
  rintro _ w5 ⟨rfl, hE6⟩
  refine ⟨_, rfl, ?_⟩
  have hb8 : Ext w w5 := Ext.trans (Ext.refl w) hE6
  have hL9 : w.heap.size ≤ w5.heap.size := Nat.le_trans (Nat.le_refl _) hE6.size
  have hS10 : SH w5 w.heap.size [] := SH.ext (SH.nil _ _) hE6
  refine WL.runk 2 [4] [(4, .bool (decide (x3 ≥ 0)))] (by kernel_rfl) ?_
  refine WL.nil ?_
  refine WQ.then_normal (hK2 _ _ _ ?_)
  refine WP.ret ?_
  obtain rfl := Option.some.inj hm
  exact WQ.ret1 _ rfl rfl ⟨rfl, hb8⟩

theorem c_42 (n : Nat) (r_0 : SRepair) (a0_1' : Option Addr) (c0_1' : Nat) (a0_2' : Option Addr) (c0_2' : Nat) (cap_1 : Int) (b1' o1' : Nat) (w : World) {r : Bool} (hm : m_impl_HopelessFaults_1_1 n r_0 cap_1 = some r) (hr0_1 : Rd fInt.ty w a0_1' r_0.Mends) (hle0_1 : r_0.Mends.length ≤ c0_1') (_hr0_2 : Rd fInt.ty w a0_2' r_0.First) (_hle0_2 : r_0.First.length ≤ c0_2') (h1 : RdB w b1' o1' [.int .i64 cap_1]) :
    CallV Tryz.prog 42 #[.agg #[.string (bs r_0.Name), .slice a0_1' r_0.Mends.length c0_1', .slice a0_2' r_0.First.length c0_2', .int .i64 r_0.Price, .int .i64 r_0.Hours], .pointer (some ⟨b1', o1', none⟩)] w (fun v w' => v = .bool r ∧ Ext w w') := by
  unfold m_impl_HopelessFaults_1_1 at hm
  refine CallV.enter Tryz.func42 rfl (by kernel_rfl) Tryz.ntmps42 (env := [(0, .agg #[.string (bs r_0.Name), .slice a0_1' r_0.Mends.length c0_1', .slice a0_2' r_0.First.length c0_2', .int .i64 r_0.Price, .int .i64 r_0.Hours]), (1, .pointer (some ⟨b1', o1', none⟩))]) ⟨rfl, rfl, trivial⟩ ?_
  refine WP.seq (fun K1 hK1 => ?_)
  refine WP.region ?_
  refine WL.box 48 [.string (bs r_0.Name), .slice a0_1' r_0.Mends.length c0_1', .slice a0_2' r_0.First.length c0_2', .int .i64 r_0.Price, .int .i64 r_0.Hours] 2 (by kernel_rfl) rfl rfl rfl rfl ?_
  intro b2 w3 hE4 hR5
  have hb7 : Ext w w3 := Ext.trans (Ext.refl w) hE4
  have hL8 : w.heap.size ≤ w3.heap.size := Nat.le_trans (Nat.le_refl _) hE4.size
  have hS9 : SH w3 w.heap.size [aBox 48 b2 [.string (bs r_0.Name), .slice a0_1' r_0.Mends.length c0_1', .slice a0_2' r_0.First.length c0_2', .int .i64 r_0.Price, .int .i64 r_0.Hours]] := SH.add (SH.nil _ _) hE4 (Nat.le_refl _) hR5
  refine WL.runk 1 [1, 2] [(1, .pointer (some ⟨b1', o1', none⟩)), (2, .pointer (some ⟨b2, 0, none⟩))] (by kernel_rfl) ?_
  refine WL.nil ?_
  refine WQ.then_normal (hK1 _ _ _ ?_)
  refine WP.seq (fun K10 hK10 => ?_)
  refine WP.region ?_
  refine WL.runk 1 [1, 4] [(1, .pointer (some ⟨b1', o1', none⟩)), (4, .pointer (some ⟨b2, 1, none⟩))] (by kernel_rfl) ?_
  refine WL.st (.slice a0_1' r_0.Mends.length c0_1') (ST.load (cell_ext (SH.boxAt (SH.front 0 hS9) 1 _ rfl)) rfl rfl Tryz.underlying25 rfl) rfl rfl rfl ?_
  refine WL.st (.int .i64 cap_1) (ST.load (cell_ext (RdB.at (RdB.below h1 hb7) 0 _ rfl)) rfl rfl Tryz.underlying2 rfl) rfl rfl rfl ?_
  obtain ⟨x11, hx12, hm⟩ := bindE hm
  refine WL.call 43 #[.slice a0_1' r_0.Mends.length c0_1', .int .i64 cap_1] rfl rfl (by kernel_rfl) (c_43 n r_0.Mends a0_1' c0_1' cap_1 w3 hx12 (Rd.below hr0_1 hb7) hle0_1) ?_
  rintro _ w13 ⟨rfl, hE14⟩
  refine ⟨_, rfl, ?_⟩
  have hb16 : Ext w w13 := Ext.trans hb7 hE14
  have hL17 : w.heap.size ≤ w13.heap.size := Nat.le_trans hL8 hE14.size
  have hS18 : SH w13 w.heap.size [aBox 48 b2 [.string (bs r_0.Name), .slice a0_1' r_0.Mends.length c0_1', .slice a0_2' r_0.First.length c0_2', .int .i64 r_0.Price, .int .i64 r_0.Hours]] := SH.ext hS9 hE14
  refine WL.runk 1 [3] [(3, .bool x11)] (by kernel_rfl) ?_
  refine WL.nil ?_
  refine WQ.then_normal (hK10 _ _ _ ?_)
  refine WP.ret ?_
  obtain rfl := Option.some.inj hm
  exact WQ.ret1 _ rfl rfl ⟨rfl, hb16⟩

theorem c_73_42 (n : Nat) (s_0 : List SRepair) (a0' : Option Addr) (c0' : Nat) (cap_1_0 : Int) (b1_0' o1_0' : Nat) (w : World) {r : Int} (hm : m_slices_IndexFunc_impl_Repair_impl_Repair_f42 n s_0 cap_1_0 = some r) (h0 : Rd fRepair.ty w a0' s_0) (_hle0 : s_0.length ≤ c0') (h1_0 : RdB w b1_0' o1_0' [.int .i64 cap_1_0]) :
    CallV Tryz.prog 73 #[.slice a0' s_0.length c0', .func (.func 42) #[] #[.pointer (some ⟨b1_0', o1_0', none⟩)]] w (fun v w' => v = .int .i64 r ∧ Ext w w') := by
  unfold m_slices_IndexFunc_impl_Repair_impl_Repair_f42 at hm
  refine CallV.enter Tryz.func73 rfl (by kernel_rfl) Tryz.ntmps73 (env := [(0, .slice a0' s_0.length c0'), (1, .func (.func 42) #[] #[.pointer (some ⟨b1_0', o1_0', none⟩)])]) ⟨rfl, rfl, trivial⟩ ?_
  refine WP.seq (fun K1 hK1 => ?_)
  refine WP.region ?_
  refine WL.runk 1 [0, 1] [(0, .slice a0' s_0.length c0'), (1, .func (.func 42) #[] #[.pointer (some ⟨b1_0', o1_0', none⟩)])] (by kernel_rfl) ?_
  refine WL.nil ?_
  refine WQ.then_normal (hK1 _ _ _ ?_)
  refine WP.seq (fun K2 hK2 => ?_)
  refine WP.seq (fun K3 hK3 => ?_)
  refine WP.region ?_
  refine WL.runk 3 [0, 1, 7, 8] [(0, .slice a0' s_0.length c0'), (1, .func (.func 42) #[] #[.pointer (some ⟨b1_0', o1_0', none⟩)]), (7, .int .i64 (s_0.length : Int)), (8, .int .i64 0)] (by kernel_rfl) ?_
  refine WL.nil ?_
  refine WQ.then_normal (hK3 _ _ _ ?_)
  refine WP.block ?_
  obtain ⟨t15, ht16, hm⟩ := bindE hm
  have hmo10 := hm; clear hm
  refine WP.sub [(0, .slice a0' s_0.length c0'), (1, .func (.func 42) #[] #[.pointer (some ⟨b1_0', o1_0', none⟩)]), (7, .int .i64 (s_0.length : Int)), (8, .int .i64 0)] ⟨rfl, rfl, rfl, rfl, trivial⟩ ?_
  refine WP.loop (fun n' env' w' => ∃ (st4 : Int) , env' = [(0, .slice a0' s_0.length c0'), (1, .func (.func 42) #[] #[.pointer (some ⟨b1_0', o1_0', none⟩)]), (7, .int .i64 (s_0.length : Int)), (8, .int .i64 st4)] ∧ Ext w w' ∧ w.heap.size ≤ w'.heap.size ∧ SH w' w.heap.size [] ∧ loopN (m_slices_IndexFunc_impl_Repair_impl_Repair_f42_l1 n s_0 cap_1_0) n' st4 = some t15) n ⟨0, rfl, (Ext.refl w), (Nat.le_refl _), (SH.nil _ _), ht16⟩ ?_
  rintro n12 _ w5 ⟨st4, rfl, hb6, hL7, hS8, hl9⟩ K11 hK11
  obtain ⟨n13, s14, rfl, hm, hl9⟩ := loopN_some hl9
  unfold m_slices_IndexFunc_impl_Repair_impl_Repair_f42_l1 at hm
  refine WP.seq (fun K17 hK17 => ?_)
  refine WP.region ?_
  refine WL.runk 1 [0, 1, 7, 8, 9] [(0, .slice a0' s_0.length c0'), (1, .func (.func 42) #[] #[.pointer (some ⟨b1_0', o1_0', none⟩)]), (7, .int .i64 (s_0.length : Int)), (8, .int .i64 st4), (9, .bool (decide (st4 < (s_0.length : Int))))] (by kernel_rfl) ?_
  refine WL.nil ?_
  refine WQ.then_normal (hK17 _ _ _ ?_)
  refine WP.seq (fun K18 hK18 => ?_)
  refine WP.cond (decide (st4 < (s_0.length : Int))) rfl rfl (fun hc19 => ?_) (fun hc19 => ?_)
  rotate_left
  · have hm := iteF hm hc19
    refine WP.exit ?_
    refine WQ.then_exit ?_
    refine WQ.then_exit ?_
    refine WQ.block_here ?_
    obtain rfl := Option.some.inj hm
    obtain rfl := afterN_done hl9
    have hm := hmo10
    refine WQ.then_normal (hK2 _ _ _ ?_)
    refine WP.seq (fun K46 hK46 => ?_)
    refine WP.region ?_
    refine WL.runk 1 [4] [(4, .int .i64 (-1))] (by kernel_rfl) ?_
    refine WL.nil ?_
    refine WQ.then_normal (hK46 _ _ _ ?_)
    refine WP.ret ?_
    obtain rfl := Option.some.inj hm
    exact WQ.ret1 _ rfl rfl ⟨rfl, hb6⟩
  have hm := iteT hm hc19
  refine WP.skip ?_
  refine WQ.then_normal (hK18 _ _ _ ?_)
  refine WP.seq (fun K20 hK20 => ?_)
  refine WP.block ?_
  refine WP.seq (fun K21 hK21 => ?_)
  refine WP.region ?_
  refine WL.runk 2 [0, 1, 5, 7, 8] [(0, .slice a0' s_0.length c0'), (1, .func (.func 42) #[] #[.pointer (some ⟨b1_0', o1_0', none⟩)]), (7, .int .i64 (s_0.length : Int)), (8, .int .i64 st4), (5, .int .i64 st4)] (by kernel_rfl) ?_
  refine WL.nil ?_
  refine WQ.then_normal (hK21 _ _ _ ?_)
  refine WP.seq (fun K22 hK22 => ?_)
  refine WP.region ?_
  refine WL.runk 3 [0, 1, 5, 7, 8, 11, 12, 13] [(0, .slice a0' s_0.length c0'), (1, .func (.func 42) #[] #[.pointer (some ⟨b1_0', o1_0', none⟩)]), (7, .int .i64 (s_0.length : Int)), (8, .int .i64 st4), (5, .int .i64 st4), (11, .func (.func 42) #[] #[.pointer (some ⟨b1_0', o1_0', none⟩)]), (12, .slice a0' s_0.length c0'), (13, .int .i64 st4)] (by kernel_rfl) ?_
  obtain ⟨x23, hx24, hm⟩ := bindE hm
  obtain ⟨a25, c26, a30, c31, hc35, hR27, hle28, hR32, hle33⟩ := nest_Repair h0 hx24
  refine WL.st (.pointer (some (at_ a0' (Int.toNat st4 * 5)))) (ST.index (T := fRepair.ty) (xs := s_0) (Rd.below h0 hb6) hx24 rfl rfl rfl Tryz.underlying24 (info48).1 (info48).2.1) rfl rfl rfl ?_
  refine WL.st (.agg #[.string (bs x23.Name), .slice a25 x23.Mends.length c26, .slice a30 x23.First.length c31, .int .i64 x23.Price, .int .i64 x23.Hours]) (ST.loadAgg (vs := [.string (bs x23.Name), .slice a25 x23.Mends.length c26, .slice a30 x23.First.length c31, .int .i64 x23.Price, .int .i64 x23.Hours]) (at_agg (cells_ext hc35 hb6)) rfl rfl rfl Tryz.underlying48 rfl (info48).1 (info48).2.1) rfl rfl rfl ?_
  obtain ⟨x36, hx37, hm⟩ := bindE hm
  refine WL.call 42 #[.agg #[.string (bs x23.Name), .slice a25 x23.Mends.length c26, .slice a30 x23.First.length c31, .int .i64 x23.Price, .int .i64 x23.Hours], .pointer (some ⟨b1_0', o1_0', none⟩)] rfl rfl (by kernel_rfl) (c_42 n x23 a25 c26 a30 c31 cap_1_0 b1_0' o1_0' w5 hx37 (Rd.below hR27 hb6) hle28 (Rd.below hR32 hb6) hle33 (RdB.below h1_0 hb6)) ?_
  rintro _ w38 ⟨rfl, hE39⟩
  refine ⟨_, rfl, ?_⟩
  have hb41 : Ext w w38 := Ext.trans hb6 hE39
  have hL42 : w.heap.size ≤ w38.heap.size := Nat.le_trans hL7 hE39.size
  have hS43 : SH w38 w.heap.size [] := SH.ext hS8 hE39
  refine WL.sub [(0, .slice a0' s_0.length c0'), (1, .func (.func 42) #[] #[.pointer (some ⟨b1_0', o1_0', none⟩)]), (7, .int .i64 (s_0.length : Int)), (8, .int .i64 st4), (5, .int .i64 st4), (16, .bool x36)] ⟨rfl, rfl, rfl, rfl, rfl, rfl, trivial⟩ ?_
  refine WL.nil ?_
  refine WQ.then_normal (hK22 _ _ _ ?_)
  refine WP.cond x36 rfl rfl (fun hc44 => ?_) (fun hc44 => ?_)
  rotate_left
  · have hm := iteF hm hc44
    refine WP.skip ?_
    refine WQ.block_normal ?_
    refine WQ.then_normal (hK20 _ _ _ ?_)
    refine WP.region ?_
    refine WL.runk 2 [0, 1, 7, 8] [(0, .slice a0' s_0.length c0'), (1, .func (.func 42) #[] #[.pointer (some ⟨b1_0', o1_0', none⟩)]), (7, .int .i64 (s_0.length : Int)), (8, .int .i64 (wI64 (st4 + 1)))] (by kernel_rfl) ?_
    refine WL.nil ?_
    obtain rfl := Option.some.inj hm
    exact WQ.round hK11 ⟨(wI64 (st4 + 1)), rfl, hb41, hL42, hS43, hl9⟩ (Nat.lt_succ_self _) ⟨rfl, rfl, rfl, rfl, trivial⟩
  have hm := iteT hm hc44
  refine WP.seq (fun K45 hK45 => ?_)
  refine WP.region ?_
  refine WL.runk 2 [4] [(4, .int .i64 st4)] (by kernel_rfl) ?_
  refine WL.nil ?_
  refine WQ.then_normal (hK45 _ _ _ ?_)
  refine WP.ret ?_
  refine WQ.block_ret ?_
  refine WQ.then_ret ?_
  refine WQ.then_ret ?_
  refine WQ.block_ret ?_
  refine WQ.then_ret ?_
  obtain rfl := Option.some.inj hm
  obtain rfl := afterN_done hl9
  have hm := hmo10
  obtain rfl := Option.some.inj hm
  exact WQ.ret1 _ rfl rfl ⟨rfl, hb41⟩

theorem c_41_42 (n : Nat) (s_0 : List SRepair) (a0' : Option Addr) (c0' : Nat) (cap_1_0 : Int) (b1_0' o1_0' : Nat) (w : World) {r : Bool} (hm : m_slices_ContainsFunc_impl_Repair_impl_Repair_f42 n s_0 cap_1_0 = some r) (h0 : Rd fRepair.ty w a0' s_0) (hle0 : s_0.length ≤ c0') (h1_0 : RdB w b1_0' o1_0' [.int .i64 cap_1_0]) :
    CallV Tryz.prog 41 #[.slice a0' s_0.length c0', .func (.func 42) #[] #[.pointer (some ⟨b1_0', o1_0', none⟩)]] w (fun v w' => v = .bool r ∧ Ext w w') := by
  unfold m_slices_ContainsFunc_impl_Repair_impl_Repair_f42 at hm
  refine CallV.enter Tryz.func41 rfl (by kernel_rfl) Tryz.ntmps41 (env := [(0, .slice a0' s_0.length c0'), (1, .func (.func 42) #[] #[.pointer (some ⟨b1_0', o1_0', none⟩)])]) ⟨rfl, rfl, trivial⟩ ?_
  refine WP.seq (fun K1 hK1 => ?_)
  refine WP.region ?_
  refine WL.runk 1 [0, 1] [(0, .slice a0' s_0.length c0'), (1, .func (.func 42) #[] #[.pointer (some ⟨b1_0', o1_0', none⟩)])] (by kernel_rfl) ?_
  refine WL.nil ?_
  refine WQ.then_normal (hK1 _ _ _ ?_)
  refine WP.seq (fun K2 hK2 => ?_)
  refine WP.region ?_
  refine WL.runk 2 [5, 6] [(5, .slice a0' s_0.length c0'), (6, .func (.func 42) #[] #[.pointer (some ⟨b1_0', o1_0', none⟩)])] (by kernel_rfl) ?_
  obtain ⟨x3, hx4, hm⟩ := bindE hm
  refine WL.call 73 #[.slice a0' s_0.length c0', .func (.func 42) #[] #[.pointer (some ⟨b1_0', o1_0', none⟩)]] rfl rfl (by kernel_rfl) (c_73_42 n s_0 a0' c0' cap_1_0 b1_0' o1_0' w hx4 (Rd.below h0 (Ext.refl w)) hle0 (RdB.below h1_0 (Ext.refl w))) ?_
  rintro _ w5 ⟨rfl, hE6⟩
  refine ⟨_, rfl, ?_⟩
  have hb8 : Ext w w5 := Ext.trans (Ext.refl w) hE6
  have hL9 : w.heap.size ≤ w5.heap.size := Nat.le_trans (Nat.le_refl _) hE6.size
  have hS10 : SH w5 w.heap.size [] := SH.ext (SH.nil _ _) hE6
  refine WL.runk 2 [4] [(4, .bool (decide (x3 ≥ 0)))] (by kernel_rfl) ?_
  refine WL.nil ?_
  refine WQ.then_normal (hK2 _ _ _ ?_)
  refine WP.ret ?_
  obtain rfl := Option.some.inj hm
  exact WQ.ret1 _ rfl rfl ⟨rfl, hb8⟩

theorem c_40 (n : Nat) (fault_0 : Int) (cap_1 : List SRepair) (b1' o1' : Nat) (a1' : Option Addr) (c1' : Nat) (w : World) {r : Bool} (hm : m_impl_HopelessFaults_1 n fault_0 cap_1 = some r) (h1 : RdB w b1' o1' [.slice a1' cap_1.length c1']) (hr1 : Rd fRepair.ty w a1' cap_1) (hle1 : cap_1.length ≤ c1') :
    CallV Tryz.prog 40 #[.int .i64 fault_0, .pointer (some ⟨b1', o1', none⟩)] w (fun v w' => v = .bool r ∧ Ext w w') := by
  unfold m_impl_HopelessFaults_1 at hm
  refine CallV.enter Tryz.func40 rfl (by kernel_rfl) Tryz.ntmps40 (env := [(0, .int .i64 fault_0), (1, .pointer (some ⟨b1', o1', none⟩))]) ⟨rfl, rfl, trivial⟩ ?_
  refine WP.seq (fun K1 hK1 => ?_)
  refine WP.region ?_
  refine WL.box 2 [.int .i64 fault_0] 2 (by kernel_rfl) rfl rfl rfl rfl ?_
  intro b2 w3 hE4 hR5
  have hb7 : Ext w w3 := Ext.trans (Ext.refl w) hE4
  have hL8 : w.heap.size ≤ w3.heap.size := Nat.le_trans (Nat.le_refl _) hE4.size
  have hS9 : SH w3 w.heap.size [aBox 2 b2 [.int .i64 fault_0]] := SH.add (SH.nil _ _) hE4 (Nat.le_refl _) hR5
  refine WL.runk 1 [1, 2] [(1, .pointer (some ⟨b1', o1', none⟩)), (2, .pointer (some ⟨b2, 0, none⟩))] (by kernel_rfl) ?_
  refine WL.nil ?_
  refine WQ.then_normal (hK1 _ _ _ ?_)
  refine WP.seq (fun K10 hK10 => ?_)
  refine WP.region ?_
  refine WL.st (.slice a1' cap_1.length c1') (ST.load (cell_ext (RdB.at (RdB.below h1 hb7) 0 _ rfl)) rfl rfl Tryz.underlying24 rfl) rfl rfl rfl ?_
  refine WL.runk 1 [4, 5] [(4, .slice a1' cap_1.length c1'), (5, .func (.func 42) #[] #[.pointer (some ⟨b2, 0, none⟩)])] (by kernel_rfl) ?_
  obtain ⟨x11, hx12, hm⟩ := bindE hm
  refine WL.call 41 #[.slice a1' cap_1.length c1', .func (.func 42) #[] #[.pointer (some ⟨b2, 0, none⟩)]] rfl rfl (by kernel_rfl) (c_41_42 n cap_1 a1' c1' fault_0 b2 0 w3 hx12 (Rd.below hr1 hb7) hle1 (SH.boxRd (SH.front 0 hS9))) ?_
  rintro _ w13 ⟨rfl, hE14⟩
  refine ⟨_, rfl, ?_⟩
  have hb16 : Ext w w13 := Ext.trans hb7 hE14
  have hL17 : w.heap.size ≤ w13.heap.size := Nat.le_trans hL8 hE14.size
  have hS18 : SH w13 w.heap.size [aBox 2 b2 [.int .i64 fault_0]] := SH.ext hS9 hE14
  refine WL.runk 1 [3] [(3, .bool x11)] (by kernel_rfl) ?_
  refine WL.nil ?_
  refine WQ.then_normal (hK10 _ _ _ ?_)
  refine WP.ret ?_
  obtain rfl := Option.some.inj hm
  exact WQ.ret1 _ rfl rfl ⟨rfl, hb16⟩

theorem c_72_40 (n : Nat) (s_0 : List Int) (a0' : Option Addr) (c0' : Nat) (cap_1_0 : List SRepair) (b1_0' o1_0' : Nat) (a1_0' : Option Addr) (c1_0' : Nat) (w : World) {r : Int} (hm : m_slices_IndexFunc_int64_int64_f40 n s_0 cap_1_0 = some r) (h0 : Rd fInt.ty w a0' s_0) (_hle0 : s_0.length ≤ c0') (h1_0 : RdB w b1_0' o1_0' [.slice a1_0' cap_1_0.length c1_0']) (hr1_0 : Rd fRepair.ty w a1_0' cap_1_0) (hle1_0 : cap_1_0.length ≤ c1_0') :
    CallV Tryz.prog 72 #[.slice a0' s_0.length c0', .func (.func 40) #[] #[.pointer (some ⟨b1_0', o1_0', none⟩)]] w (fun v w' => v = .int .i64 r ∧ Ext w w') := by
  unfold m_slices_IndexFunc_int64_int64_f40 at hm
  refine CallV.enter Tryz.func72 rfl (by kernel_rfl) Tryz.ntmps72 (env := [(0, .slice a0' s_0.length c0'), (1, .func (.func 40) #[] #[.pointer (some ⟨b1_0', o1_0', none⟩)])]) ⟨rfl, rfl, trivial⟩ ?_
  refine WP.seq (fun K1 hK1 => ?_)
  refine WP.region ?_
  refine WL.runk 1 [0, 1] [(0, .slice a0' s_0.length c0'), (1, .func (.func 40) #[] #[.pointer (some ⟨b1_0', o1_0', none⟩)])] (by kernel_rfl) ?_
  refine WL.nil ?_
  refine WQ.then_normal (hK1 _ _ _ ?_)
  refine WP.seq (fun K2 hK2 => ?_)
  refine WP.seq (fun K3 hK3 => ?_)
  refine WP.region ?_
  refine WL.runk 3 [0, 1, 7, 8] [(0, .slice a0' s_0.length c0'), (1, .func (.func 40) #[] #[.pointer (some ⟨b1_0', o1_0', none⟩)]), (7, .int .i64 (s_0.length : Int)), (8, .int .i64 0)] (by kernel_rfl) ?_
  refine WL.nil ?_
  refine WQ.then_normal (hK3 _ _ _ ?_)
  refine WP.block ?_
  obtain ⟨t15, ht16, hm⟩ := bindE hm
  have hmo10 := hm; clear hm
  refine WP.sub [(0, .slice a0' s_0.length c0'), (1, .func (.func 40) #[] #[.pointer (some ⟨b1_0', o1_0', none⟩)]), (7, .int .i64 (s_0.length : Int)), (8, .int .i64 0)] ⟨rfl, rfl, rfl, rfl, trivial⟩ ?_
  refine WP.loop (fun n' env' w' => ∃ (st4 : Int) , env' = [(0, .slice a0' s_0.length c0'), (1, .func (.func 40) #[] #[.pointer (some ⟨b1_0', o1_0', none⟩)]), (7, .int .i64 (s_0.length : Int)), (8, .int .i64 st4)] ∧ Ext w w' ∧ w.heap.size ≤ w'.heap.size ∧ SH w' w.heap.size [] ∧ loopN (m_slices_IndexFunc_int64_int64_f40_l1 n s_0 cap_1_0) n' st4 = some t15) n ⟨0, rfl, (Ext.refl w), (Nat.le_refl _), (SH.nil _ _), ht16⟩ ?_
  rintro n12 _ w5 ⟨st4, rfl, hb6, hL7, hS8, hl9⟩ K11 hK11
  obtain ⟨n13, s14, rfl, hm, hl9⟩ := loopN_some hl9
  unfold m_slices_IndexFunc_int64_int64_f40_l1 at hm
  refine WP.seq (fun K17 hK17 => ?_)
  refine WP.region ?_
  refine WL.runk 1 [0, 1, 7, 8, 9] [(0, .slice a0' s_0.length c0'), (1, .func (.func 40) #[] #[.pointer (some ⟨b1_0', o1_0', none⟩)]), (7, .int .i64 (s_0.length : Int)), (8, .int .i64 st4), (9, .bool (decide (st4 < (s_0.length : Int))))] (by kernel_rfl) ?_
  refine WL.nil ?_
  refine WQ.then_normal (hK17 _ _ _ ?_)
  refine WP.seq (fun K18 hK18 => ?_)
  refine WP.cond (decide (st4 < (s_0.length : Int))) rfl rfl (fun hc19 => ?_) (fun hc19 => ?_)
  rotate_left
  · have hm := iteF hm hc19
    refine WP.exit ?_
    refine WQ.then_exit ?_
    refine WQ.then_exit ?_
    refine WQ.block_here ?_
    obtain rfl := Option.some.inj hm
    obtain rfl := afterN_done hl9
    have hm := hmo10
    refine WQ.then_normal (hK2 _ _ _ ?_)
    refine WP.seq (fun K35 hK35 => ?_)
    refine WP.region ?_
    refine WL.runk 1 [4] [(4, .int .i64 (-1))] (by kernel_rfl) ?_
    refine WL.nil ?_
    refine WQ.then_normal (hK35 _ _ _ ?_)
    refine WP.ret ?_
    obtain rfl := Option.some.inj hm
    exact WQ.ret1 _ rfl rfl ⟨rfl, hb6⟩
  have hm := iteT hm hc19
  refine WP.skip ?_
  refine WQ.then_normal (hK18 _ _ _ ?_)
  refine WP.seq (fun K20 hK20 => ?_)
  refine WP.block ?_
  refine WP.seq (fun K21 hK21 => ?_)
  refine WP.region ?_
  refine WL.runk 2 [0, 1, 5, 7, 8] [(0, .slice a0' s_0.length c0'), (1, .func (.func 40) #[] #[.pointer (some ⟨b1_0', o1_0', none⟩)]), (7, .int .i64 (s_0.length : Int)), (8, .int .i64 st4), (5, .int .i64 st4)] (by kernel_rfl) ?_
  refine WL.nil ?_
  refine WQ.then_normal (hK21 _ _ _ ?_)
  refine WP.seq (fun K22 hK22 => ?_)
  refine WP.region ?_
  refine WL.runk 3 [0, 1, 5, 7, 8, 11, 12, 13] [(0, .slice a0' s_0.length c0'), (1, .func (.func 40) #[] #[.pointer (some ⟨b1_0', o1_0', none⟩)]), (7, .int .i64 (s_0.length : Int)), (8, .int .i64 st4), (5, .int .i64 st4), (11, .func (.func 40) #[] #[.pointer (some ⟨b1_0', o1_0', none⟩)]), (12, .slice a0' s_0.length c0'), (13, .int .i64 st4)] (by kernel_rfl) ?_
  obtain ⟨x23, hx24, hm⟩ := bindE hm
  refine WL.st (.pointer (some (at_ a0' (Int.toNat st4 * 1)))) (ST.index (T := fInt.ty) (xs := s_0) (Rd.below h0 hb6) hx24 rfl rfl rfl Tryz.underlying25 (info2).1 (info2).2.1) rfl rfl rfl ?_
  refine WL.st (.int .i64 x23) (ST.load (cell_ext (Rd.flat (F := fInt) (Rd.below h0 hb6) hx24 0 rfl)) rfl rfl Tryz.underlying2 rfl) rfl rfl rfl ?_
  obtain ⟨x25, hx26, hm⟩ := bindE hm
  refine WL.call 40 #[.int .i64 x23, .pointer (some ⟨b1_0', o1_0', none⟩)] rfl rfl (by kernel_rfl) (c_40 n x23 cap_1_0 b1_0' o1_0' a1_0' c1_0' w5 hx26 (RdB.below h1_0 hb6) (Rd.below hr1_0 hb6) hle1_0) ?_
  rintro _ w27 ⟨rfl, hE28⟩
  refine ⟨_, rfl, ?_⟩
  have hb30 : Ext w w27 := Ext.trans hb6 hE28
  have hL31 : w.heap.size ≤ w27.heap.size := Nat.le_trans hL7 hE28.size
  have hS32 : SH w27 w.heap.size [] := SH.ext hS8 hE28
  refine WL.sub [(0, .slice a0' s_0.length c0'), (1, .func (.func 40) #[] #[.pointer (some ⟨b1_0', o1_0', none⟩)]), (7, .int .i64 (s_0.length : Int)), (8, .int .i64 st4), (5, .int .i64 st4), (16, .bool x25)] ⟨rfl, rfl, rfl, rfl, rfl, rfl, trivial⟩ ?_
  refine WL.nil ?_
  refine WQ.then_normal (hK22 _ _ _ ?_)
  refine WP.cond x25 rfl rfl (fun hc33 => ?_) (fun hc33 => ?_)
  rotate_left
  · have hm := iteF hm hc33
    refine WP.skip ?_
    refine WQ.block_normal ?_
    refine WQ.then_normal (hK20 _ _ _ ?_)
    refine WP.region ?_
    refine WL.runk 2 [0, 1, 7, 8] [(0, .slice a0' s_0.length c0'), (1, .func (.func 40) #[] #[.pointer (some ⟨b1_0', o1_0', none⟩)]), (7, .int .i64 (s_0.length : Int)), (8, .int .i64 (wI64 (st4 + 1)))] (by kernel_rfl) ?_
    refine WL.nil ?_
    obtain rfl := Option.some.inj hm
    exact WQ.round hK11 ⟨(wI64 (st4 + 1)), rfl, hb30, hL31, hS32, hl9⟩ (Nat.lt_succ_self _) ⟨rfl, rfl, rfl, rfl, trivial⟩
  have hm := iteT hm hc33
  refine WP.seq (fun K34 hK34 => ?_)
  refine WP.region ?_
  refine WL.runk 2 [4] [(4, .int .i64 st4)] (by kernel_rfl) ?_
  refine WL.nil ?_
  refine WQ.then_normal (hK34 _ _ _ ?_)
  refine WP.ret ?_
  refine WQ.block_ret ?_
  refine WQ.then_ret ?_
  refine WQ.then_ret ?_
  refine WQ.block_ret ?_
  refine WQ.then_ret ?_
  obtain rfl := Option.some.inj hm
  obtain rfl := afterN_done hl9
  have hm := hmo10
  obtain rfl := Option.some.inj hm
  exact WQ.ret1 _ rfl rfl ⟨rfl, hb30⟩

theorem c_38_40_o1 (n : Nat) (s_0 : List Int) (a0' : Option Addr) (c0' : Nat) (cap_1_0 : List SRepair) (b1_0' : Nat) (a1_0' : Option Addr) (c1_0' : Nat) (w : World) (w0 : World) (B : Nat) (L : List Asrt) {r : List Int} (hm : m_slices_DeleteFunc_int64_int64_f40_o1 n s_0 cap_1_0 = some r) (hE0 : Ext w0 w) (hW : w0.heap.size ≤ B) (hL : B ≤ w.heap.size) (h1_0 : Rd fRepair.ty w0 a1_0' cap_1_0) (hle1_0 : cap_1_0.length ≤ c1_0') (hS : SH w B (aOwn fInt 2 a0' c0' s_0 :: aBox 24 b1_0' [.slice a1_0' cap_1_0.length c1_0'] :: L)) :
    CallV Tryz.prog 38 #[.slice a0' s_0.length c0', .func (.func 40) #[] #[.pointer (some ⟨b1_0', 0, none⟩)]] w (fun v w' => ∃ (ra0 : Option Addr) (rc0 : Nat), v = .slice ra0 r.length rc0 ∧ Below B w w' ∧ SH w' B (aOwn fInt 2 ra0 rc0 r :: aBox 24 b1_0' [.slice a1_0' cap_1_0.length c1_0'] :: L)) := by
  unfold m_slices_DeleteFunc_int64_int64_f40_o1 at hm
  refine CallV.enter Tryz.func38 rfl (by kernel_rfl) Tryz.ntmps38 (env := [(0, .slice a0' s_0.length c0'), (1, .func (.func 40) #[] #[.pointer (some ⟨b1_0', 0, none⟩)])]) ⟨rfl, rfl, trivial⟩ ?_
  refine WP.seq (fun K1 hK1 => ?_)
  refine WP.region ?_
  refine WL.runk 1 [0, 1] [(0, .slice a0' s_0.length c0'), (1, .func (.func 40) #[] #[.pointer (some ⟨b1_0', 0, none⟩)])] (by kernel_rfl) ?_
  refine WL.nil ?_
  refine WQ.then_normal (hK1 _ _ _ ?_)
  refine WP.seq (fun K2 hK2 => ?_)
  refine WP.region ?_
  refine WL.runk 2 [0, 1, 8, 9] [(0, .slice a0' s_0.length c0'), (1, .func (.func 40) #[] #[.pointer (some ⟨b1_0', 0, none⟩)]), (8, .slice a0' s_0.length c0'), (9, .func (.func 40) #[] #[.pointer (some ⟨b1_0', 0, none⟩)])] (by kernel_rfl) ?_
  obtain ⟨x3, hx4, hm⟩ := bindE hm
  refine WL.call 72 #[.slice a0' s_0.length c0', .func (.func 40) #[] #[.pointer (some ⟨b1_0', 0, none⟩)]] rfl rfl (by kernel_rfl) (c_72_40 n s_0 a0' c0' cap_1_0 b1_0' 0 a1_0' c1_0' w hx4 (SH.rd (SH.front 0 hS)) (SH.le (SH.front 0 hS)).1 (SH.boxRd (SH.front 1 hS)) (Rd.below h1_0 (Below.trans hE0 (Below.mono (Below.refl _ _) hW))) hle1_0) ?_
  rintro _ w5 ⟨rfl, hE6⟩
  refine ⟨_, rfl, ?_⟩
  have hb8 : Below B w w5 := Below.trans (Below.refl _ _) (Below.mono hE6 hL)
  have hL9 : B ≤ w5.heap.size := Nat.le_trans hL hE6.size
  have hS10 : SH w5 B (aOwn fInt 2 a0' c0' s_0 :: aBox 24 b1_0' [.slice a1_0' cap_1_0.length c1_0'] :: L) := SH.ext hS hE6
  refine WL.runk 1 [0, 1, 5] [(0, .slice a0' s_0.length c0'), (1, .func (.func 40) #[] #[.pointer (some ⟨b1_0', 0, none⟩)]), (5, .int .i64 x3)] (by kernel_rfl) ?_
  refine WL.nil ?_
  refine WQ.then_normal (hK2 _ _ _ ?_)
  refine WP.seq (fun K11 hK11 => ?_)
  refine WP.seq (fun K12 hK12 => ?_)
  refine WP.region ?_
  refine WL.runk 2 [0, 1, 5, 12] [(0, .slice a0' s_0.length c0'), (1, .func (.func 40) #[] #[.pointer (some ⟨b1_0', 0, none⟩)]), (5, .int .i64 x3), (12, .bool (x3 == (-1)))] (by kernel_rfl) ?_
  refine WL.nil ?_
  refine WQ.then_normal (hK12 _ _ _ ?_)
  refine WP.cond (x3 == (-1)) rfl rfl (fun hc13 => ?_) (fun hc13 => ?_)
  · have hm := iteT hm hc13
    refine WP.seq (fun K14 hK14 => ?_)
    refine WP.region ?_
    refine WL.runk 2 [4] [(4, .slice a0' s_0.length c0')] (by kernel_rfl) ?_
    refine WL.nil ?_
    refine WQ.then_normal (hK14 _ _ _ ?_)
    refine WP.ret ?_
    refine WQ.then_ret ?_
    obtain rfl := Option.some.inj hm
    exact WQ.ret1 _ rfl rfl ⟨_, _, rfl, hb8, hS10⟩
  have hm := iteF hm hc13
  refine WP.skip ?_
  refine WQ.then_normal (hK11 _ _ _ ?_)
  refine WP.seq (fun K15 hK15 => ?_)
  refine WP.seq (fun K16 hK16 => ?_)
  refine WP.region ?_
  refine WL.runk 3 [0, 1, 5, 6] [(0, .slice a0' s_0.length c0'), (1, .func (.func 40) #[] #[.pointer (some ⟨b1_0', 0, none⟩)]), (5, .int .i64 x3), (6, .int .i64 (wI64 (x3 + 1)))] (by kernel_rfl) ?_
  refine WL.nil ?_
  refine WQ.then_normal (hK16 _ _ _ ?_)
  refine WP.block ?_
  obtain ⟨t112, ht113, hm⟩ := bindE hm
  have hmo107 := hm; clear hm
  refine WP.sub [(0, .slice a0' s_0.length c0'), (1, .func (.func 40) #[] #[.pointer (some ⟨b1_0', 0, none⟩)]), (5, .int .i64 x3), (6, .int .i64 (wI64 (x3 + 1)))] ⟨rfl, rfl, rfl, rfl, trivial⟩ ?_
  refine WP.loop (fun n' env' w' => ∃ (st101 : Int × Int × List Int) , env' = [(0, .slice a0' st101.2.2.length c0'), (1, .func (.func 40) #[] #[.pointer (some ⟨b1_0', 0, none⟩)]), (5, .int .i64 st101.1), (6, .int .i64 st101.2.1)] ∧ Below B w w' ∧ B ≤ w'.heap.size ∧ SH w' B (aOwn fInt 2 a0' c0' st101.2.2 :: aBox 24 b1_0' [.slice a1_0' cap_1_0.length c1_0'] :: L) ∧ loopN (m_slices_DeleteFunc_int64_int64_f40_o1_l1 n cap_1_0) n' st101 = some t112) n ⟨(x3, (wI64 (x3 + 1)), s_0), rfl, hb8, hL9, hS10, ht113⟩ ?_
  rintro n109 _ w102 ⟨st101, rfl, hb103, hL104, hS105, hl106⟩ K108 hK108
  obtain ⟨n110, s111, rfl, hm, hl106⟩ := loopN_some hl106
  unfold m_slices_DeleteFunc_int64_int64_f40_o1_l1 at hm
  refine WP.seq (fun K114 hK114 => ?_)
  refine WP.seq (fun K115 hK115 => ?_)
  refine WP.region ?_
  refine WL.runk 4 [0, 1, 5, 6, 19] [(0, .slice a0' st101.2.2.length c0'), (1, .func (.func 40) #[] #[.pointer (some ⟨b1_0', 0, none⟩)]), (5, .int .i64 st101.1), (6, .int .i64 st101.2.1), (19, .bool (decide (st101.2.1 < (st101.2.2.length : Int))))] (by kernel_rfl) ?_
  refine WL.nil ?_
  refine WQ.then_normal (hK115 _ _ _ ?_)
  refine WP.cond (decide (st101.2.1 < (st101.2.2.length : Int))) rfl rfl (fun hc116 => ?_) (fun hc116 => ?_)
  rotate_left
  · have hm := iteF hm hc116
    refine WP.exit ?_
    refine WQ.then_exit ?_
    refine WQ.then_exit ?_
    refine WQ.block_here ?_
    obtain rfl := Option.some.inj hm
    obtain rfl := afterN_done hl106
    have hm := hmo107
    refine WQ.then_normal (hK15 _ _ _ ?_)
    refine WP.seq (fun K171 hK171 => ?_)
    refine WP.region ?_
    refine WL.runk 2 [0, 5, 36, 37] [(0, .slice a0' st101.2.2.length c0'), (5, .int .i64 st101.1), (36, .slice a0' st101.2.2.length c0'), (37, .int .i64 st101.1)] (by kernel_rfl) ?_
    obtain ⟨x172, hx173, hm⟩ := bindE hm
    refine WL.clearTail (F := fInt) 0 38 (SH.front 0 hS105) hL104 hx173 rfl rfl Tryz.underlying25 (info2).1 (info2).2.2.1 (info2).2.1 rfl ⟨_, rfl⟩ rfl rfl rfl rfl rfl rfl rfl ?_
    intro w174 v177 hB175 hS176
    have hb178 : Below B w w174 := Below.trans hb103 hB175
    have hL179 : B ≤ w174.heap.size := Nat.le_trans hL104 hB175.size
    have hl180 : (st101.2.2.take (Int.toNat st101.1) ++ List.replicate (st101.2.2.length - Int.toNat st101.1) 0).length = st101.2.2.length := cut_len (sub_le hx173)
    refine WL.sub [(0, .slice a0' ((st101.2.2.take (Int.toNat st101.1) ++ List.replicate (st101.2.2.length - Int.toNat st101.1) 0).length) c0'), (5, .int .i64 st101.1), (36, .slice a0' ((st101.2.2.take (Int.toNat st101.1) ++ List.replicate (st101.2.2.length - Int.toNat st101.1) 0).length) c0'), (37, .int .i64 st101.1)] ⟨by rw [hl180]; rfl, rfl, by rw [hl180]; rfl, rfl, trivial⟩ ?_
    refine WL.sub [(0, .slice a0' ((st101.2.2.take (Int.toNat st101.1) ++ List.replicate (st101.2.2.length - Int.toNat st101.1) 0).length) c0'), (5, .int .i64 st101.1)] ⟨rfl, rfl, trivial⟩ ?_
    refine WL.nil ?_
    refine WQ.then_normal (hK171 _ _ _ ?_)
    refine WP.seq (fun K181 hK181 => ?_)
    refine WP.region ?_
    refine WL.runk 2 [39, 40] [(39, .slice a0' ((st101.2.2.take (Int.toNat st101.1) ++ List.replicate (st101.2.2.length - Int.toNat st101.1) 0).length) c0'), (40, .int .i64 st101.1)] (by kernel_rfl) ?_
    obtain ⟨x182, hx183, hm⟩ := bindE hm
    refine WL.shrink (F := fInt) 41 (SH.front 0 hS176) hx183 rfl rfl Tryz.underlying25 (info2).1 (info2).2.1 ⟨_, rfl⟩ rfl rfl rfl rfl ?_
    intro hS184
    refine WL.runk 1 [4] [(4, .slice a0' x182.length c0')] (by kernel_rfl) ?_
    refine WL.nil ?_
    refine WQ.then_normal (hK181 _ _ _ ?_)
    refine WP.ret ?_
    obtain rfl := Option.some.inj hm
    exact WQ.ret1 _ rfl rfl ⟨_, _, rfl, hb178, hS184⟩
  have hm := iteT hm hc116
  refine WP.skip ?_
  refine WQ.then_normal (hK114 _ _ _ ?_)
  refine WP.seq (fun K117 hK117 => ?_)
  refine WP.block ?_
  refine WP.seq (fun K118 hK118 => ?_)
  refine WP.region ?_
  refine WL.runk 2 [0, 1, 5, 6, 22, 23] [(0, .slice a0' st101.2.2.length c0'), (1, .func (.func 40) #[] #[.pointer (some ⟨b1_0', 0, none⟩)]), (5, .int .i64 st101.1), (6, .int .i64 st101.2.1), (22, .slice a0' st101.2.2.length c0'), (23, .int .i64 st101.2.1)] (by kernel_rfl) ?_
  obtain ⟨x119, hx120, hm⟩ := bindE hm
  refine WL.st (.pointer (some (at_ a0' (Int.toNat st101.2.1 * 1)))) (ST.index (T := fInt.ty) (xs := st101.2.2) (SH.rd (SH.front 0 hS105)) hx120 rfl rfl rfl Tryz.underlying25 (info2).1 (info2).2.1) rfl rfl rfl ?_
  refine WL.st (.int .i64 x119) (ST.load (cell_ext (Rd.flat (F := fInt) (SH.rd (SH.front 0 hS105)) hx120 0 rfl)) rfl rfl Tryz.underlying2 rfl) rfl rfl rfl ?_
  refine WL.runk 1 [0, 1, 5, 6, 7] [(0, .slice a0' st101.2.2.length c0'), (1, .func (.func 40) #[] #[.pointer (some ⟨b1_0', 0, none⟩)]), (5, .int .i64 st101.1), (6, .int .i64 st101.2.1), (7, .int .i64 x119)] (by kernel_rfl) ?_
  refine WL.nil ?_
  refine WQ.then_normal (hK118 _ _ _ ?_)
  refine WP.seq (fun K121 hK121 => ?_)
  refine WP.region ?_
  refine WL.runk 2 [0, 1, 5, 6, 7, 26, 27] [(0, .slice a0' st101.2.2.length c0'), (1, .func (.func 40) #[] #[.pointer (some ⟨b1_0', 0, none⟩)]), (5, .int .i64 st101.1), (6, .int .i64 st101.2.1), (7, .int .i64 x119), (26, .func (.func 40) #[] #[.pointer (some ⟨b1_0', 0, none⟩)]), (27, .int .i64 x119)] (by kernel_rfl) ?_
  obtain ⟨x122, hx123, hm⟩ := bindE hm
  refine WL.call 40 #[.int .i64 x119, .pointer (some ⟨b1_0', 0, none⟩)] rfl rfl (by kernel_rfl) (c_40 n x119 cap_1_0 b1_0' 0 a1_0' c1_0' w102 hx123 (SH.boxRd (SH.front 1 hS105)) (Rd.below h1_0 (Below.trans hE0 (Below.mono hb103 hW))) hle1_0) ?_
  rintro _ w124 ⟨rfl, hE125⟩
  refine ⟨_, rfl, ?_⟩
  have hb127 : Below B w w124 := Below.trans hb103 (Below.mono hE125 hL104)
  have hL128 : B ≤ w124.heap.size := Nat.le_trans hL104 hE125.size
  have hS129 : SH w124 B (aOwn fInt 2 a0' c0' st101.2.2 :: aBox 24 b1_0' [.slice a1_0' cap_1_0.length c1_0'] :: L) := SH.ext hS105 hE125
  refine WL.runk 1 [0, 1, 5, 6, 7, 29] [(0, .slice a0' st101.2.2.length c0'), (1, .func (.func 40) #[] #[.pointer (some ⟨b1_0', 0, none⟩)]), (5, .int .i64 st101.1), (6, .int .i64 st101.2.1), (7, .int .i64 x119), (29, .bool (!x122))] (by kernel_rfl) ?_
  refine WL.nil ?_
  refine WQ.then_normal (hK121 _ _ _ ?_)
  obtain ⟨x157, hx158, hm⟩ := bindE hm
  refine WP.cut (fun env' w' => env' = [(0, .slice a0' x157.2.length c0'), (1, .func (.func 40) #[] #[.pointer (some ⟨b1_0', 0, none⟩)]), (5, .int .i64 x157.1), (6, .int .i64 st101.2.1)] ∧ Below B w w' ∧ B ≤ w'.heap.size ∧ SH w' B (aOwn fInt 2 a0' c0' x157.2 :: aBox 24 b1_0' [.slice a1_0' cap_1_0.length c1_0'] :: L)) ?_ ?_
  rotate_left
  · clear hx158
    rintro _ w167 ⟨rfl, hb168, hL169, hS170⟩
    refine WQ.block_normal ?_
    refine WQ.then_normal (hK117 _ _ _ ?_)
    refine WP.region ?_
    refine WL.runk 3 [0, 1, 5, 6] [(0, .slice a0' x157.2.length c0'), (1, .func (.func 40) #[] #[.pointer (some ⟨b1_0', 0, none⟩)]), (5, .int .i64 x157.1), (6, .int .i64 (wI64 (st101.2.1 + 1)))] (by kernel_rfl) ?_
    refine WL.nil ?_
    obtain rfl := Option.some.inj hm
    exact WQ.round hK108 ⟨(x157.1, (wI64 (st101.2.1 + 1)), x157.2), rfl, hb168, hL169, hS170, hl106⟩ (Nat.lt_succ_self _) ⟨rfl, rfl, rfl, rfl, trivial⟩
  have hm := hx158; clear hx158
  refine WP.cond (!x122) rfl rfl (fun hc130 => ?_) (fun hc130 => ?_)
  rotate_left
  · have hm := iteF hm hc130
    refine WP.skip ?_
    obtain rfl := Option.some.inj hm
    exact WQ.post' ⟨rfl, hb127, hL128, hS129⟩ ⟨rfl, rfl, rfl, rfl, trivial⟩
  have hm := iteT hm hc130
  refine WP.seq (fun K159 hK159 => ?_)
  refine WP.region ?_
  refine WL.runk 3 [0, 1, 5, 6, 30, 31, 32] [(0, .slice a0' st101.2.2.length c0'), (1, .func (.func 40) #[] #[.pointer (some ⟨b1_0', 0, none⟩)]), (5, .int .i64 st101.1), (6, .int .i64 st101.2.1), (30, .slice a0' st101.2.2.length c0'), (31, .int .i64 st101.1), (32, .int .i64 x119)] (by kernel_rfl) ?_
  obtain ⟨x160, hx161, hm⟩ := bindE hm
  refine WL.st (.pointer (some (at_ a0' (Int.toNat st101.1 * 1)))) (ST.index (T := fInt.ty) (xs := st101.2.2) (SH.rd (SH.front 0 hS129)) hx161 rfl rfl rfl Tryz.underlying25 (info2).1 (info2).2.1) rfl rfl rfl ?_
  refine WL.store (F := fInt) x119 0 [.int .i64 x119] (SH.front 0 hS129) hL128 hx161 rfl rfl rfl rfl rfl rfl rfl (info2).1 (info2).2.1 rfl rfl rfl ?_
  intro w162 hB163 hS164
  have hb165 : Below B w w162 := Below.trans hb127 hB163
  have hL166 : B ≤ w162.heap.size := Nat.le_trans hL128 hB163.size
  refine WL.sub [(0, .slice a0' ((st101.2.2.set (Int.toNat st101.1) x119).length) c0'), (1, .func (.func 40) #[] #[.pointer (some ⟨b1_0', 0, none⟩)]), (5, .int .i64 st101.1), (6, .int .i64 st101.2.1), (30, .slice a0' ((st101.2.2.set (Int.toNat st101.1) x119).length) c0'), (31, .int .i64 st101.1), (32, .int .i64 x119)] ⟨by first | (simp only [List.length_set]; done) | (simp only [List.length_set]; rfl), rfl, rfl, rfl, by first | (simp only [List.length_set]; done) | (simp only [List.length_set]; rfl), rfl, rfl, trivial⟩ ?_
  refine WL.sub [(0, .slice a0' ((st101.2.2.set (Int.toNat st101.1) x119).length) c0'), (1, .func (.func 40) #[] #[.pointer (some ⟨b1_0', 0, none⟩)]), (5, .int .i64 st101.1), (6, .int .i64 st101.2.1)] ⟨rfl, rfl, rfl, rfl, trivial⟩ ?_
  refine WL.nil ?_
  refine WQ.then_normal (hK159 _ _ _ ?_)
  refine WP.region ?_
  refine WL.runk 3 [0, 1, 5, 6] [(0, .slice a0' ((st101.2.2.set (Int.toNat st101.1) x119).length) c0'), (1, .func (.func 40) #[] #[.pointer (some ⟨b1_0', 0, none⟩)]), (5, .int .i64 (wI64 (st101.1 + 1))), (6, .int .i64 st101.2.1)] (by kernel_rfl) ?_
  refine WL.nil ?_
  obtain rfl := Option.some.inj hm
  exact WQ.post' ⟨rfl, hb165, hL166, hS164⟩ ⟨rfl, rfl, rfl, rfl, trivial⟩

theorem c_13 (n : Nat) (list_0 : List SRepair) (a0' : Option Addr) (c0' : Nat) (faults_1 : List Int) (a1' : Option Addr) (c1' : Nat) (w : World) {r : List Int × Int} (hm : m_impl_HopelessFaults n list_0 faults_1 = some r) (h0 : Rd fRepair.ty w a0' list_0) (hle0 : list_0.length ≤ c0') (h1 : Rd fInt.ty w a1' faults_1) (hle1 : faults_1.length ≤ c1') :
    CallV Tryz.prog 13 #[.slice a0' list_0.length c0', .slice a1' faults_1.length c1'] w (fun v w' => ∃ (ra0 : Option Addr) (rc0 : Nat), v = .tuple #[.slice ra0 r.1.length rc0, .int .i64 r.2] ∧ Ext w w' ∧ SH w' w.heap.size [aOwn fInt 2 ra0 rc0 r.1]) := by
  unfold m_impl_HopelessFaults at hm
  refine CallV.enter Tryz.func13 rfl (by kernel_rfl) Tryz.ntmps13 (env := [(0, .slice a0' list_0.length c0'), (1, .slice a1' faults_1.length c1')]) ⟨rfl, rfl, trivial⟩ ?_
  refine WP.seq (fun K1 hK1 => ?_)
  refine WP.region ?_
  refine WL.box 24 [.slice a0' list_0.length c0'] 2 (by kernel_rfl) rfl rfl rfl rfl ?_
  intro b2 w3 hE4 hR5
  have hb7 : Ext w w3 := Ext.trans (Ext.refl w) hE4
  have hL8 : w.heap.size ≤ w3.heap.size := Nat.le_trans (Nat.le_refl _) hE4.size
  have hS9 : SH w3 w.heap.size [aBox 24 b2 [.slice a0' list_0.length c0']] := SH.add (SH.nil _ _) hE4 (Nat.le_refl _) hR5
  refine WL.runk 2 [1, 2] [(1, .slice a1' faults_1.length c1'), (2, .pointer (some ⟨b2, 0, none⟩))] (by kernel_rfl) ?_
  refine WL.nil ?_
  refine WQ.then_normal (hK1 _ _ _ ?_)
  refine WP.seq (fun K10 hK10 => ?_)
  refine WP.seq (fun K11 hK11 => ?_)
  refine WP.region ?_
  refine WL.st (.slice a0' list_0.length c0') (ST.load (cell_ext (SH.boxAt (SH.front 0 hS9) 0 _ rfl)) rfl rfl Tryz.underlying24 rfl) rfl rfl rfl ?_
  refine WL.runk 1 [1, 2, 7, 8] [(1, .slice a1' faults_1.length c1'), (2, .pointer (some ⟨b2, 0, none⟩)), (7, .slice a0' list_0.length c0'), (8, .slice a1' faults_1.length c1')] (by kernel_rfl) ?_
  obtain ⟨x12, hx13, hm⟩ := bindE hm
  refine WL.call 30 #[.slice a0' list_0.length c0', .slice none 0 0, .slice a1' faults_1.length c1'] rfl rfl (by kernel_rfl) (c_30 n list_0 a0' c0' ([] : List Int) none 0 faults_1 a1' c1' w3 hx13 (Rd.below h0 hb7) hle0 (Rd.nil _ _ _) (Nat.zero_le _) (Rd.below h1 hb7) hle1) ?_
  rintro _ w14 ⟨rfl, hE15⟩
  refine ⟨_, rfl, ?_⟩
  have hb17 : Ext w w14 := Ext.trans hb7 hE15
  have hL18 : w.heap.size ≤ w14.heap.size := Nat.le_trans hL8 hE15.size
  have hS19 : SH w14 w.heap.size [aBox 24 b2 [.slice a0' list_0.length c0']] := SH.ext hS9 hE15
  refine WL.runk 1 [1, 2, 6] [(1, .slice a1' faults_1.length c1'), (2, .pointer (some ⟨b2, 0, none⟩)), (6, .int .i64 x12)] (by kernel_rfl) ?_
  refine WL.nil ?_
  refine WQ.then_normal (hK11 _ _ _ ?_)
  refine WP.seq (fun K20 hK20 => ?_)
  refine WP.region ?_
  refine WL.runk 2 [1, 2, 6, 11] [(1, .slice a1' faults_1.length c1'), (2, .pointer (some ⟨b2, 0, none⟩)), (6, .int .i64 x12), (11, .bool (x12 != 0))] (by kernel_rfl) ?_
  refine WL.nil ?_
  refine WQ.then_normal (hK20 _ _ _ ?_)
  refine WP.cond (x12 != 0) rfl rfl (fun hc21 => ?_) (fun hc21 => ?_)
  · have hm := iteT hm hc21
    refine WP.seq (fun K22 hK22 => ?_)
    refine WP.region ?_
    refine WL.runk 3 [4, 5] [(4, .slice none 0 0), (5, .int .i64 x12)] (by kernel_rfl) ?_
    refine WL.nil ?_
    refine WQ.then_normal (hK22 _ _ _ ?_)
    refine WP.ret ?_
    refine WQ.then_ret ?_
    obtain rfl := Option.some.inj hm
    have hS24 : SH w14 w.heap.size [aOwn fInt 2 none 0 ([] : List Int), aBox 24 b2 [.slice a0' list_0.length c0']] := SH.nilOwn hS19
    exact WQ.ret2 _ _ rfl rfl rfl ⟨_, _, rfl, hb17, (SH.take 1 hS24)⟩
  have hm := iteF hm hc21
  refine WP.skip ?_
  refine WQ.then_normal (hK10 _ _ _ ?_)
  refine WP.seq (fun K25 hK25 => ?_)
  refine WP.region ?_
  refine WL.runk 1 [2, 13] [(2, .pointer (some ⟨b2, 0, none⟩)), (13, .slice a1' faults_1.length c1')] (by kernel_rfl) ?_
  obtain ⟨x26, hx27, hm⟩ := bindE hm
  refine WL.call 39 #[.slice a1' faults_1.length c1'] rfl rfl (by kernel_rfl) (c_39 n faults_1 a1' c1' w14 hx27 (Rd.below h1 hb17) hle1) ?_
  rintro _ w31 ⟨a28, c29, rfl, hE32, hR33⟩
  refine ⟨_, rfl, ?_⟩
  have hb34 : Ext w w31 := Ext.trans hb17 hE32
  have hL35 : w.heap.size ≤ w31.heap.size := Nat.le_trans hL18 hE32.size
  have hS36 : SH w31 w.heap.size [aOwn fInt 2 a28 c29 x26, aBox 24 b2 [.slice a0' list_0.length c0']] := SH.add hS19 hE32 hL18 hR33
  refine WL.runk 1 [14, 15] [(14, .slice a28 x26.length c29), (15, .func (.func 40) #[] #[.pointer (some ⟨b2, 0, none⟩)])] (by kernel_rfl) ?_
  obtain ⟨x37, hx38, hm⟩ := bindE hm
  refine WL.call 38 #[.slice a28 x26.length c29, .func (.func 40) #[] #[.pointer (some ⟨b2, 0, none⟩)]] rfl rfl (by kernel_rfl) (c_38_40_o1 n x26 a28 c29 list_0 b2 a0' c0' w31 w w.heap.size [] hx38 hb34 (Nat.le_refl _) hL35 h0 hle0 hS36) ?_
  rintro _ w42 ⟨a39, c40, rfl, hB46, hS45⟩
  refine ⟨_, rfl, ?_⟩
  have hb47 : Ext w w42 := Below.trans hb34 hB46
  have hL48 : w.heap.size ≤ w42.heap.size := Nat.le_trans hL35 hB46.size
  refine WL.runk 2 [4, 5] [(4, .slice a39 x37.length c40), (5, .int .i64 0)] (by kernel_rfl) ?_
  refine WL.nil ?_
  refine WQ.then_normal (hK25 _ _ _ ?_)
  refine WP.ret ?_
  obtain rfl := Option.some.inj hm
  exact WQ.ret2 _ _ rfl rfl rfl ⟨_, _, rfl, hb47, (SH.take 1 hS45)⟩

theorem c_44 (n : Nat) (list_0 : List SRepair) (a0' : Option Addr) (c0' : Nat) (some_1 : List Int) (a1' : Option Addr) (c1' : Nat) (faults_2 : List Int) (a2' : Option Addr) (c2' : Nat) (w : World) {r : Int} (hm : m_spec_l21Faults n list_0 some_1 faults_2 = some r) (h0 : Rd fRepair.ty w a0' list_0) (hle0 : list_0.length ≤ c0') (h1 : Rd fInt.ty w a1' some_1) (hle1 : some_1.length ≤ c1') (h2 : Rd fInt.ty w a2' faults_2) (hle2 : faults_2.length ≤ c2') :
    CallV Tryz.prog 44 #[.slice a0' list_0.length c0', .slice a1' some_1.length c1', .slice a2' faults_2.length c2'] w (fun v w' => v = .int .i64 r ∧ Ext w w') := by
  unfold m_spec_l21Faults at hm
  refine CallV.enter Tryz.func44 rfl (by kernel_rfl) Tryz.ntmps44 (env := [(0, .slice a0' list_0.length c0'), (1, .slice a1' some_1.length c1'), (2, .slice a2' faults_2.length c2')]) ⟨rfl, rfl, rfl, trivial⟩ ?_
  refine WP.seq (fun K1 hK1 => ?_)
  refine WP.region ?_
  refine WL.runk 1 [0, 1, 2] [(0, .slice a0' list_0.length c0'), (1, .slice a1' some_1.length c1'), (2, .slice a2' faults_2.length c2')] (by kernel_rfl) ?_
  refine WL.nil ?_
  refine WQ.then_normal (hK1 _ _ _ ?_)
  refine WP.seq (fun K2 hK2 => ?_)
  refine WP.region ?_
  refine WL.runk 2 [2, 8, 9] [(2, .slice a2' faults_2.length c2'), (8, .slice a0' list_0.length c0'), (9, .slice a1' some_1.length c1')] (by kernel_rfl) ?_
  obtain ⟨x3, hx4, hm⟩ := bindE hm
  refine WL.call 33 #[.slice a0' list_0.length c0', .slice a1' some_1.length c1'] rfl rfl (by kernel_rfl) (c_33 n list_0 a0' c0' some_1 a1' c1' w hx4 (Rd.below h0 (Ext.refl w)) hle0 (Rd.below h1 (Ext.refl w)) hle1) ?_
  rintro _ w5 ⟨rfl, hE6⟩
  refine ⟨_, rfl, ?_⟩
  have hb8 : Ext w w5 := Ext.trans (Ext.refl w) hE6
  have hL9 : w.heap.size ≤ w5.heap.size := Nat.le_trans (Nat.le_refl _) hE6.size
  have hS10 : SH w5 w.heap.size [] := SH.ext (SH.nil _ _) hE6
  refine WL.runk 1 [2, 7] [(2, .slice a2' faults_2.length c2'), (7, .int .i64 x3)] (by kernel_rfl) ?_
  refine WL.nil ?_
  refine WQ.then_normal (hK2 _ _ _ ?_)
  refine WP.seq (fun K11 hK11 => ?_)
  refine WP.seq (fun K12 hK12 => ?_)
  obtain ⟨x22, hx23, hm⟩ := bindE hm
  refine WP.cut (fun env' w' => env' = [(7, .int .i64 x3), (17, .bool x22)] ∧ Ext w w' ∧ w.heap.size ≤ w'.heap.size ∧ SH w' w.heap.size []) ?_ ?_
  · have hm := hx23; clear hx23
    refine WP.region ?_
    refine WL.runk 3 [2, 7, 13] [(2, .slice a2' faults_2.length c2'), (7, .int .i64 x3), (13, .bool (x3 == 0))] (by kernel_rfl) ?_
    refine WL.case (x3 == 0) [13] ⟨rfl, trivial⟩ (fun hc24 => ?_) (fun hc24 => ?_)
    rotate_left
    · have hm := iteF hm hc24
      refine WL.runk 4 [7, 17] [(7, .int .i64 x3), (17, .bool false)] (by kernel_rfl) ?_
      refine WL.nil ?_
      obtain rfl := Option.some.inj hm
      exact WQ.post' ⟨rfl, hb8, hL9, hS10⟩ ⟨rfl, rfl, trivial⟩
    have hm := iteT hm hc24
    refine WL.runk 1 [7, 13, 14] [(7, .int .i64 x3), (13, .bool true), (14, .slice a2' faults_2.length c2')] (by kernel_rfl) ?_
    obtain ⟨x25, hx26, hm⟩ := bindE hm
    refine WL.call 70 #[.slice a2' faults_2.length c2', .int .i64 0, .int .i64 9] rfl rfl (by kernel_rfl) (c_70 n faults_2 a2' c2' 0 9 w5 hx26 (Rd.below h2 hb8) hle2) ?_
    rintro _ w27 ⟨rfl, hE28⟩
    refine ⟨_, rfl, ?_⟩
    have hb30 : Ext w w27 := Ext.trans hb8 hE28
    have hL31 : w.heap.size ≤ w27.heap.size := Nat.le_trans hL9 hE28.size
    have hS32 : SH w27 w.heap.size [] := SH.ext hS10 hE28
    refine WL.runk 2 [7, 17] [(7, .int .i64 x3), (17, .bool (!x25))] (by kernel_rfl) ?_
    refine WL.nil ?_
    obtain rfl := Option.some.inj hm
    exact WQ.post' ⟨rfl, hb30, hL31, hS32⟩ ⟨rfl, rfl, trivial⟩
  clear hx23
  rintro _ w33 ⟨rfl, hb34, hL35, hS36⟩
  refine WQ.then_normal (hK12 _ _ _ ?_)
  obtain ⟨x38, hx39, hm⟩ := bindE hm
  refine WP.cut (fun env' w' => env' = [(7, .int .i64 x38)] ∧ Ext w w' ∧ w.heap.size ≤ w'.heap.size ∧ SH w' w.heap.size []) ?_ ?_
  rotate_left
  · clear hx39
    rintro _ w40 ⟨rfl, hb41, hL42, hS43⟩
    refine WQ.then_normal (hK11 _ _ _ ?_)
    refine WP.seq (fun K44 hK44 => ?_)
    refine WP.region ?_
    refine WL.runk 2 [6] [(6, .int .i64 x38)] (by kernel_rfl) ?_
    refine WL.nil ?_
    refine WQ.then_normal (hK44 _ _ _ ?_)
    refine WP.ret ?_
    obtain rfl := Option.some.inj hm
    exact WQ.ret1 _ rfl rfl ⟨rfl, hb41⟩
  have hm := hx39; clear hx39
  refine WP.cond x22 rfl rfl (fun hc37 => ?_) (fun hc37 => ?_)
  rotate_left
  · have hm := iteF hm hc37
    refine WP.skip ?_
    obtain rfl := Option.some.inj hm
    exact WQ.post' ⟨rfl, hb34, hL35, hS36⟩ ⟨rfl, trivial⟩
  have hm := iteT hm hc37
  refine WP.region ?_
  refine WL.runk 1 [7] [(7, .int .i64 2)] (by kernel_rfl) ?_
  refine WL.nil ?_
  obtain rfl := Option.some.inj hm
  exact WQ.post' ⟨rfl, hb34, hL35, hS36⟩ ⟨rfl, trivial⟩

theorem c_45 (n : Nat) (list_0 : List SRepair) (a0' : Option Addr) (c0' : Nat) (some_1 : List Int) (a1' : Option Addr) (c1' : Nat) (fault_2 : Int) (w : World) {r : Bool} (hm : m_spec_l21Mended n list_0 some_1 fault_2 = some r) (h0 : Rd fRepair.ty w a0' list_0) (_hle0 : list_0.length ≤ c0') (h1 : Rd fInt.ty w a1' some_1) (_hle1 : some_1.length ≤ c1') :
    CallV Tryz.prog 45 #[.slice a0' list_0.length c0', .slice a1' some_1.length c1', .int .i64 fault_2] w (fun v w' => v = .bool r ∧ Ext w w') := by
  unfold m_spec_l21Mended at hm
  refine CallV.enter Tryz.func45 rfl (by kernel_rfl) Tryz.ntmps45 (env := [(0, .slice a0' list_0.length c0'), (1, .slice a1' some_1.length c1'), (2, .int .i64 fault_2)]) ⟨rfl, rfl, rfl, trivial⟩ ?_
  refine WP.seq (fun K1 hK1 => ?_)
  refine WP.region ?_
  refine WL.runk 1 [0, 1, 2] [(0, .slice a0' list_0.length c0'), (1, .slice a1' some_1.length c1'), (2, .int .i64 fault_2)] (by kernel_rfl) ?_
  refine WL.nil ?_
  refine WQ.then_normal (hK1 _ _ _ ?_)
  refine WP.seq (fun K2 hK2 => ?_)
  refine WP.seq (fun K3 hK3 => ?_)
  refine WP.region ?_
  refine WL.runk 1 [0, 1, 2, 7] [(0, .slice a0' list_0.length c0'), (1, .slice a1' some_1.length c1'), (2, .int .i64 fault_2), (7, .int .i64 0)] (by kernel_rfl) ?_
  refine WL.nil ?_
  refine WQ.then_normal (hK3 _ _ _ ?_)
  refine WP.block ?_
  obtain ⟨t15, ht16, hm⟩ := bindE hm
  have hmo10 := hm; clear hm
  refine WP.sub [(0, .slice a0' list_0.length c0'), (1, .slice a1' some_1.length c1'), (2, .int .i64 fault_2), (7, .int .i64 0)] ⟨rfl, rfl, rfl, rfl, trivial⟩ ?_
  refine WP.loop (fun n' env' w' => ∃ (st4 : Int) , env' = [(0, .slice a0' list_0.length c0'), (1, .slice a1' some_1.length c1'), (2, .int .i64 fault_2), (7, .int .i64 st4)] ∧ Ext w w' ∧ w.heap.size ≤ w'.heap.size ∧ SH w' w.heap.size [] ∧ loopN (m_spec_l21Mended_l1 n list_0 some_1 fault_2) n' st4 = some t15) n ⟨0, rfl, (Ext.refl w), (Nat.le_refl _), (SH.nil _ _), ht16⟩ ?_
  rintro n12 _ w5 ⟨st4, rfl, hb6, hL7, hS8, hl9⟩ K11 hK11
  obtain ⟨n13, s14, rfl, hm, hl9⟩ := loopN_some hl9
  unfold m_spec_l21Mended_l1 at hm
  refine WP.seq (fun K17 hK17 => ?_)
  refine WP.seq (fun K18 hK18 => ?_)
  refine WP.region ?_
  refine WL.runk 4 [0, 1, 2, 7, 11] [(0, .slice a0' list_0.length c0'), (1, .slice a1' some_1.length c1'), (2, .int .i64 fault_2), (7, .int .i64 st4), (11, .bool (decide (st4 < (some_1.length : Int))))] (by kernel_rfl) ?_
  refine WL.nil ?_
  refine WQ.then_normal (hK18 _ _ _ ?_)
  refine WP.cond (decide (st4 < (some_1.length : Int))) rfl rfl (fun hc19 => ?_) (fun hc19 => ?_)
  rotate_left
  · have hm := iteF hm hc19
    refine WP.exit ?_
    refine WQ.then_exit ?_
    refine WQ.then_exit ?_
    refine WQ.block_here ?_
    obtain rfl := Option.some.inj hm
    obtain rfl := afterN_done hl9
    have hm := hmo10
    refine WQ.then_normal (hK2 _ _ _ ?_)
    refine WP.seq (fun K47 hK47 => ?_)
    refine WP.region ?_
    refine WL.runk 1 [6] [(6, .bool false)] (by kernel_rfl) ?_
    refine WL.nil ?_
    refine WQ.then_normal (hK47 _ _ _ ?_)
    refine WP.ret ?_
    obtain rfl := Option.some.inj hm
    exact WQ.ret1 _ rfl rfl ⟨rfl, hb6⟩
  have hm := iteT hm hc19
  refine WP.skip ?_
  refine WQ.then_normal (hK17 _ _ _ ?_)
  refine WP.seq (fun K20 hK20 => ?_)
  refine WP.block ?_
  refine WP.seq (fun K21 hK21 => ?_)
  refine WP.region ?_
  refine WL.runk 3 [0, 1, 2, 7, 14, 15, 16] [(0, .slice a0' list_0.length c0'), (1, .slice a1' some_1.length c1'), (2, .int .i64 fault_2), (7, .int .i64 st4), (14, .slice a0' list_0.length c0'), (15, .slice a1' some_1.length c1'), (16, .int .i64 st4)] (by kernel_rfl) ?_
  obtain ⟨x22, hx23, hm⟩ := bindE hm
  refine WL.st (.pointer (some (at_ a1' (Int.toNat st4 * 1)))) (ST.index (T := fInt.ty) (xs := some_1) (Rd.below h1 hb6) hx23 rfl rfl rfl Tryz.underlying25 (info2).1 (info2).2.1) rfl rfl rfl ?_
  refine WL.st (.int .i64 x22) (ST.load (cell_ext (Rd.flat (F := fInt) (Rd.below h1 hb6) hx23 0 rfl)) rfl rfl Tryz.underlying2 rfl) rfl rfl rfl ?_
  obtain ⟨x24, hx25, hm⟩ := bindE hm
  obtain ⟨a26, c27, a31, c32, hc36, hR28, hle29, hR33, hle34⟩ := nest_Repair h0 hx25
  refine WL.st (.pointer (some (at_ a0' (Int.toNat x22 * 5)))) (ST.index (T := fRepair.ty) (xs := list_0) (Rd.below h0 hb6) hx25 rfl rfl rfl Tryz.underlying24 (info48).1 (info48).2.1) rfl rfl rfl ?_
  refine WL.runk 1 [0, 1, 2, 7, 20] [(0, .slice a0' list_0.length c0'), (1, .slice a1' some_1.length c1'), (2, .int .i64 fault_2), (7, .int .i64 st4), (20, .pointer (some (at_ a0' (Int.toNat x22 * 5 + 1))))] (by kernel_rfl) ?_
  refine WL.st (.slice a26 x24.Mends.length c27) (ST.load (cell_ext ((cells_ext hc36 hb6) 1 _ rfl)) rfl rfl Tryz.underlying25 rfl) rfl rfl rfl ?_
  refine WL.runk 1 [0, 1, 2, 7, 21, 22] [(0, .slice a0' list_0.length c0'), (1, .slice a1' some_1.length c1'), (2, .int .i64 fault_2), (7, .int .i64 st4), (21, .slice a26 x24.Mends.length c27), (22, .int .i64 fault_2)] (by kernel_rfl) ?_
  obtain ⟨x37, hx38, hm⟩ := bindE hm
  refine WL.call 54 #[.slice a26 x24.Mends.length c27, .int .i64 fault_2] rfl rfl (by kernel_rfl) (c_54 n x24.Mends a26 c27 fault_2 w5 hx38 (Rd.below hR28 hb6) hle29) ?_
  rintro _ w39 ⟨rfl, hE40⟩
  refine ⟨_, rfl, ?_⟩
  have hb42 : Ext w w39 := Ext.trans hb6 hE40
  have hL43 : w.heap.size ≤ w39.heap.size := Nat.le_trans hL7 hE40.size
  have hS44 : SH w39 w.heap.size [] := SH.ext hS8 hE40
  refine WL.sub [(0, .slice a0' list_0.length c0'), (1, .slice a1' some_1.length c1'), (2, .int .i64 fault_2), (7, .int .i64 st4), (23, .bool x37)] ⟨rfl, rfl, rfl, rfl, rfl, trivial⟩ ?_
  refine WL.nil ?_
  refine WQ.then_normal (hK21 _ _ _ ?_)
  refine WP.cond x37 rfl rfl (fun hc45 => ?_) (fun hc45 => ?_)
  rotate_left
  · have hm := iteF hm hc45
    refine WP.skip ?_
    refine WQ.block_normal ?_
    refine WQ.then_normal (hK20 _ _ _ ?_)
    refine WP.region ?_
    refine WL.runk 3 [0, 1, 2, 7] [(0, .slice a0' list_0.length c0'), (1, .slice a1' some_1.length c1'), (2, .int .i64 fault_2), (7, .int .i64 (wI64 (st4 + 1)))] (by kernel_rfl) ?_
    refine WL.nil ?_
    obtain rfl := Option.some.inj hm
    exact WQ.round hK11 ⟨(wI64 (st4 + 1)), rfl, hb42, hL43, hS44, hl9⟩ (Nat.lt_succ_self _) ⟨rfl, rfl, rfl, rfl, trivial⟩
  have hm := iteT hm hc45
  refine WP.seq (fun K46 hK46 => ?_)
  refine WP.region ?_
  refine WL.runk 1 [6] [(6, .bool true)] (by kernel_rfl) ?_
  refine WL.nil ?_
  refine WQ.then_normal (hK46 _ _ _ ?_)
  refine WP.ret ?_
  refine WQ.block_ret ?_
  refine WQ.then_ret ?_
  refine WQ.then_ret ?_
  refine WQ.block_ret ?_
  refine WQ.then_ret ?_
  obtain rfl := Option.some.inj hm
  obtain rfl := afterN_done hl9
  have hm := hmo10
  obtain rfl := Option.some.inj hm
  exact WQ.ret1 _ rfl rfl ⟨rfl, hb42⟩

end Go.Proofs.YtkglfbcelaphhaaGreatDoor
