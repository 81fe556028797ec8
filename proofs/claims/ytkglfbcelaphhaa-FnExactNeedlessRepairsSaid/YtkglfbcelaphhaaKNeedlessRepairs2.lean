/- Each call does what its Lean function says. -/
import Derived.Test.YtkglfbcelaphhaaKNeedlessRepairs1
set_option maxRecDepth 20000
set_option maxHeartbeats 40000000
namespace Go.Proofs.Ytkglfbcelaphhaa
open Go Go.Gv Go.RowKit

theorem c_21 (n : Nat) (list_0 : List SRepair) (a0' : Option Addr) (c0' : Nat) (some_1 : List Int) (a1' : Option Addr) (c1' : Nat) (faults_2 : List Int) (a2' : Option Addr) (c2' : Nat) (w : World) {r : List Int × Int} (hm : m_impl_NeedlessRepairs n list_0 some_1 faults_2 = some r) (h0 : Rd fRepair.ty w a0' list_0) (hle0 : list_0.length ≤ c0') (h1 : Rd fInt.ty w a1' some_1) (hle1 : some_1.length ≤ c1') (h2 : Rd fInt.ty w a2' faults_2) (hle2 : faults_2.length ≤ c2') :
    CallV Try.prog 21 #[.slice a0' list_0.length c0', .slice a1' some_1.length c1', .slice a2' faults_2.length c2'] w (fun v w' => ∃ (ra0 : Option Addr) (rc0 : Nat), v = .tuple #[.slice ra0 r.1.length rc0, .int .i64 r.2] ∧ Ext w w' ∧ SH w' w.heap.size [aOwn fInt 2 ra0 rc0 r.1]) := by
  unfold m_impl_NeedlessRepairs at hm
  refine CallV.enter Try.func21 rfl (by kernel_rfl) Try.ntmps21 (env := [(0, .slice a0' list_0.length c0'), (1, .slice a1' some_1.length c1'), (2, .slice a2' faults_2.length c2')]) ⟨rfl, rfl, rfl, trivial⟩ ?_
  refine WP.seq (fun K1 hK1 => ?_)
  refine WP.region ?_
  refine WL.runk 2 [0, 1, 2] [(0, .slice a0' list_0.length c0'), (1, .slice a1' some_1.length c1'), (2, .slice a2' faults_2.length c2')] (by kernel_rfl) ?_
  refine WL.nil ?_
  refine WQ.then_normal (hK1 _ _ _ ?_)
  refine WP.seq (fun K2 hK2 => ?_)
  refine WP.region ?_
  refine WL.runk 3 [0, 1, 2, 12, 13, 14] [(0, .slice a0' list_0.length c0'), (1, .slice a1' some_1.length c1'), (2, .slice a2' faults_2.length c2'), (12, .slice a0' list_0.length c0'), (13, .slice a1' some_1.length c1'), (14, .slice a2' faults_2.length c2')] (by kernel_rfl) ?_
  obtain ⟨x3, hx4, hm⟩ := bindE hm
  refine WL.call 50 #[.slice a0' list_0.length c0', .slice a1' some_1.length c1', .slice a2' faults_2.length c2'] rfl rfl (by kernel_rfl) (c_50 n list_0 a0' c0' some_1 a1' c1' faults_2 a2' c2' w hx4 (Rd.below h0 (Ext.refl w)) hle0 (Rd.below h1 (Ext.refl w)) hle1 (Rd.below h2 (Ext.refl w)) hle2) ?_
  rintro _ w5 ⟨rfl, hE6⟩
  refine ⟨_, rfl, ?_⟩
  have hb8 : Ext w w5 := Ext.trans (Ext.refl w) hE6
  have hL9 : w.heap.size ≤ w5.heap.size := Nat.le_trans (Nat.le_refl _) hE6.size
  have hS10 : SH w5 w.heap.size [] := SH.ext (SH.nil _ _) hE6
  refine WL.runk 1 [0, 1, 2, 8] [(0, .slice a0' list_0.length c0'), (1, .slice a1' some_1.length c1'), (2, .slice a2' faults_2.length c2'), (8, .int .i64 x3)] (by kernel_rfl) ?_
  refine WL.nil ?_
  refine WQ.then_normal (hK2 _ _ _ ?_)
  refine WP.seq (fun K11 hK11 => ?_)
  refine WP.block ?_
  refine WP.seq (fun K12 hK12 => ?_)
  refine WP.region ?_
  refine WL.runk 3 [0, 1, 2, 8, 16] [(0, .slice a0' list_0.length c0'), (1, .slice a1' some_1.length c1'), (2, .slice a2' faults_2.length c2'), (8, .int .i64 x3), (16, .bool (x3 != 0))] (by kernel_rfl) ?_
  refine WL.nil ?_
  refine WQ.then_normal (hK12 _ _ _ ?_)
  refine WP.cond (x3 != 0) rfl rfl (fun hc13 => ?_) (fun hc13 => ?_)
  · have hm := iteT hm hc13
    refine WP.seq (fun K14 hK14 => ?_)
    refine WP.region ?_
    refine WL.runk 3 [6, 7] [(6, .slice none 0 0), (7, .int .i64 x3)] (by kernel_rfl) ?_
    refine WL.nil ?_
    refine WQ.then_normal (hK14 _ _ _ ?_)
    refine WP.ret ?_
    refine WQ.block_ret ?_
    refine WQ.then_ret ?_
    obtain rfl := Option.some.inj hm
    have hS16 : SH w5 w.heap.size [aOwn fInt 2 none 0 ([] : List Int)] := SH.nilOwn hS10
    exact WQ.ret2 _ _ rfl rfl rfl ⟨_, _, rfl, hb8, hS16⟩
  have hm := iteF hm hc13
  refine WP.seq (fun K17 hK17 => ?_)
  refine WP.region ?_
  refine WL.runk 3 [0, 1, 2, 21, 22, 23] [(0, .slice a0' list_0.length c0'), (1, .slice a1' some_1.length c1'), (2, .slice a2' faults_2.length c2'), (21, .slice a0' list_0.length c0'), (22, .slice a1' some_1.length c1'), (23, .slice a2' faults_2.length c2')] (by kernel_rfl) ?_
  obtain ⟨x18, hx19, hm⟩ := bindE hm
  refine WL.call 51 #[.slice a0' list_0.length c0', .slice a1' some_1.length c1', .slice a2' faults_2.length c2'] rfl rfl (by kernel_rfl) (c_51 n list_0 a0' c0' some_1 a1' c1' faults_2 a2' c2' w5 hx19 (Rd.below h0 hb8) hle0 (Rd.below h1 hb8) hle1 (Rd.below h2 hb8) hle2) ?_
  rintro _ w20 ⟨rfl, hE21⟩
  refine ⟨_, rfl, ?_⟩
  have hb23 : Ext w w20 := Ext.trans hb8 hE21
  have hL24 : w.heap.size ≤ w20.heap.size := Nat.le_trans hL9 hE21.size
  have hS25 : SH w20 w.heap.size [] := SH.ext hS10 hE21
  refine WL.runk 2 [0, 1, 2, 20] [(0, .slice a0' list_0.length c0'), (1, .slice a1' some_1.length c1'), (2, .slice a2' faults_2.length c2'), (20, .bool (!x18))] (by kernel_rfl) ?_
  refine WL.nil ?_
  refine WQ.then_normal (hK17 _ _ _ ?_)
  refine WP.cond (!x18) rfl rfl (fun hc26 => ?_) (fun hc26 => ?_)
  · have hm := iteT hm hc26
    refine WP.seq (fun K27 hK27 => ?_)
    refine WP.region ?_
    refine WL.runk 2 [6, 7] [(6, .slice none 0 0), (7, .int .i64 6)] (by kernel_rfl) ?_
    refine WL.nil ?_
    refine WQ.then_normal (hK27 _ _ _ ?_)
    refine WP.ret ?_
    refine WQ.block_ret ?_
    refine WQ.then_ret ?_
    obtain rfl := Option.some.inj hm
    have hS29 : SH w20 w.heap.size [aOwn fInt 2 none 0 ([] : List Int)] := SH.nilOwn hS25
    exact WQ.ret2 _ _ rfl rfl rfl ⟨_, _, rfl, hb23, hS29⟩
  have hm := iteF hm hc26
  refine WP.skip ?_
  refine WQ.block_normal ?_
  refine WQ.then_normal (hK11 _ _ _ ?_)
  refine WP.seq (fun K30 hK30 => ?_)
  refine WP.region ?_
  refine WL.row fInt 2 ([] : List Int) 0 #[] 26 (by kernel_rfl) rfl rfl rfl rfl rfl rfl rfl ?_
  intro a31 c32 w33 hE34 hR35
  have hb37 : Ext w w33 := Ext.trans hb23 hE34
  have hL38 : w.heap.size ≤ w33.heap.size := Nat.le_trans hL24 hE34.size
  have hS39 : SH w33 w.heap.size [aOwn fInt 2 a31 c32 ([] : List Int)] := SH.add hS25 hE34 hL24 hR35
  refine WL.runk 1 [0, 1, 2, 9] [(0, .slice a0' list_0.length c0'), (1, .slice a1' some_1.length c1'), (2, .slice a2' faults_2.length c2'), (9, .slice a31 (([] : List Int).length) c32)] (by kernel_rfl) ?_
  refine WL.nil ?_
  refine WQ.then_normal (hK30 _ _ _ ?_)
  refine WP.seq (fun K40 hK40 => ?_)
  refine WP.seq (fun K41 hK41 => ?_)
  refine WP.region ?_
  refine WL.runk 3 [0, 1, 2, 9, 27, 28, 29] [(0, .slice a0' list_0.length c0'), (1, .slice a1' some_1.length c1'), (2, .slice a2' faults_2.length c2'), (9, .slice a31 (([] : List Int).length) c32), (27, .slice a1' some_1.length c1'), (28, .int .i64 (some_1.length : Int)), (29, .int .i64 0)] (by kernel_rfl) ?_
  refine WL.nil ?_
  refine WQ.then_normal (hK41 _ _ _ ?_)
  refine WP.block ?_
  obtain ⟨t56, ht57, hm⟩ := bindE hm
  have hmo51 := hm; clear hm
  refine WP.sub [(0, .slice a0' list_0.length c0'), (1, .slice a1' some_1.length c1'), (2, .slice a2' faults_2.length c2'), (9, .slice a31 (([] : List Int).length) c32), (27, .slice a1' some_1.length c1'), (28, .int .i64 (some_1.length : Int)), (29, .int .i64 0)] ⟨rfl, rfl, rfl, rfl, rfl, rfl, rfl, trivial⟩ ?_
  refine WP.loop (fun n' env' w' => ∃ (st42 : List Int × Int) (a43 : Option Addr) (c44 : Nat), env' = [(0, .slice a0' list_0.length c0'), (1, .slice a1' some_1.length c1'), (2, .slice a2' faults_2.length c2'), (9, .slice a43 st42.1.length c44), (27, .slice a1' some_1.length c1'), (28, .int .i64 (some_1.length : Int)), (29, .int .i64 st42.2)] ∧ Ext w w' ∧ w.heap.size ≤ w'.heap.size ∧ SH w' w.heap.size [aOwn fInt 2 a43 c44 st42.1] ∧ loopN (m_impl_NeedlessRepairs_l1 n list_0 some_1 faults_2) n' st42 = some t56) n ⟨(([] : List Int), 0), _, _, rfl, hb37, hL38, hS39, ht57⟩ ?_
  rintro n53 _ w46 ⟨st42, a43, c44, rfl, hb47, hL48, hS49, hl50⟩ K52 hK52
  obtain ⟨n54, s55, rfl, hm, hl50⟩ := loopN_some hl50
  unfold m_impl_NeedlessRepairs_l1 at hm
  refine WP.seq (fun K58 hK58 => ?_)
  refine WP.region ?_
  refine WL.runk 1 [0, 1, 2, 9, 27, 28, 29, 30] [(0, .slice a0' list_0.length c0'), (1, .slice a1' some_1.length c1'), (2, .slice a2' faults_2.length c2'), (9, .slice a43 st42.1.length c44), (27, .slice a1' some_1.length c1'), (28, .int .i64 (some_1.length : Int)), (29, .int .i64 st42.2), (30, .bool (decide (st42.2 < (some_1.length : Int))))] (by kernel_rfl) ?_
  refine WL.nil ?_
  refine WQ.then_normal (hK58 _ _ _ ?_)
  refine WP.seq (fun K59 hK59 => ?_)
  refine WP.cond (decide (st42.2 < (some_1.length : Int))) rfl rfl (fun hc60 => ?_) (fun hc60 => ?_)
  rotate_left
  · have hm := iteF hm hc60
    refine WP.exit ?_
    refine WQ.then_exit ?_
    refine WQ.then_exit ?_
    refine WQ.block_here ?_
    obtain rfl := Option.some.inj hm
    obtain rfl := afterN_done hl50
    have hm := hmo51
    refine WQ.then_normal (hK40 _ _ _ ?_)
    refine WP.seq (fun K171 hK171 => ?_)
    refine WP.region ?_
    refine WL.runk 3 [6, 7] [(6, .slice a43 st42.1.length c44), (7, .int .i64 0)] (by kernel_rfl) ?_
    refine WL.nil ?_
    refine WQ.then_normal (hK171 _ _ _ ?_)
    refine WP.ret ?_
    obtain rfl := Option.some.inj hm
    exact WQ.ret2 _ _ rfl rfl rfl ⟨_, _, rfl, hb47, hS49⟩
  have hm := iteT hm hc60
  refine WP.skip ?_
  refine WQ.then_normal (hK59 _ _ _ ?_)
  refine WP.seq (fun K61 hK61 => ?_)
  refine WP.block ?_
  refine WP.seq (fun K62 hK62 => ?_)
  refine WP.region ?_
  refine WL.runk 1 [0, 1, 2, 9, 27, 28, 29, 31] [(0, .slice a0' list_0.length c0'), (1, .slice a1' some_1.length c1'), (2, .slice a2' faults_2.length c2'), (9, .slice a43 st42.1.length c44), (27, .slice a1' some_1.length c1'), (28, .int .i64 (some_1.length : Int)), (29, .int .i64 st42.2), (31, .int .i64 st42.2)] (by kernel_rfl) ?_
  obtain ⟨x63, hx64, hm⟩ := bindE hm
  refine WL.st (.pointer (some (at_ a1' (Int.toNat st42.2 * 1)))) (ST.index (T := fInt.ty) (xs := some_1) (Rd.below h1 hb47) hx64 rfl rfl rfl Try.underlying25 (info2).1 (info2).2.1) rfl rfl rfl ?_
  refine WL.st (.int .i64 x63) (ST.load (cell_ext (Rd.flat (F := fInt) (Rd.below h1 hb47) hx64 0 rfl)) rfl rfl Try.underlying2 rfl) rfl rfl rfl ?_
  refine WL.runk 2 [0, 1, 2, 9, 10, 11, 27, 28, 29] [(0, .slice a0' list_0.length c0'), (1, .slice a1' some_1.length c1'), (2, .slice a2' faults_2.length c2'), (9, .slice a43 st42.1.length c44), (27, .slice a1' some_1.length c1'), (28, .int .i64 (some_1.length : Int)), (29, .int .i64 st42.2), (10, .int .i64 st42.2), (11, .int .i64 x63)] (by kernel_rfl) ?_
  refine WL.nil ?_
  refine WQ.then_normal (hK62 _ _ _ ?_)
  refine WP.seq (fun K65 hK65 => ?_)
  refine WP.open (n := 12) (by kernel_rfl) rfl (fun w66 hE67 => ?_)
  have hb68 : Ext w w66 := Ext.trans hb47 hE67
  have hL69 : w.heap.size ≤ w66.heap.size := Nat.le_trans hL48 hE67.size
  have hS70 : SH w66 w.heap.size [aOwn fInt 2 a43 c44 st42.1] := SH.ext hS49 hE67
  refine WA.pre (i := 0) (D' := [0]) [(0, .slice a0' list_0.length c0'), (1, .slice a1' some_1.length c1'), (2, .slice a2' faults_2.length c2'), (9, .slice a43 st42.1.length c44), (27, .slice a1' some_1.length c1'), (28, .int .i64 (some_1.length : Int)), (29, .int .i64 st42.2), (10, .int .i64 st42.2), (11, .int .i64 x63), (34, .slice a0' list_0.length c0')] rfl (by kernel_rfl) rfl (fun _ => by kernel_rfl) rfl ?_
  refine WA.pre (i := 10) (D' := [0, 10]) [(0, .slice a0' list_0.length c0'), (1, .slice a1' some_1.length c1'), (2, .slice a2' faults_2.length c2'), (9, .slice a43 st42.1.length c44), (27, .slice a1' some_1.length c1'), (28, .int .i64 (some_1.length : Int)), (29, .int .i64 st42.2), (10, .int .i64 st42.2), (11, .int .i64 x63), (34, .slice a0' list_0.length c0'), (44, .slice a2' faults_2.length c2')] rfl (by kernel_rfl) rfl (fun _ => by kernel_rfl) rfl ?_
  refine WA.quiet (f' := 3) (D' := [0, 10, 1, 2, 3, 4, 5, 6, 7]) [1, 2, 3, 4, 5, 6, 7] rfl rfl (by kernel_rfl) ?_
  refine QL.step1v 35 (.slice a1' some_1.length c1') rfl (fun _ => by kernel_rfl) ?_
  refine QL.step1v 36 (.int .i64 st42.2) rfl (fun _ => by kernel_rfl) ?_
  refine QL.subk [0, 1, 2, 9, 27, 28, 29, 10, 11, 34, 44, 35, 36] [(0, .slice a0' list_0.length c0'), (1, .slice a1' some_1.length c1'), (2, .slice a2' faults_2.length c2'), (9, .slice a43 st42.1.length c44), (27, .slice a1' some_1.length c1'), (28, .int .i64 (some_1.length : Int)), (29, .int .i64 st42.2), (10, .int .i64 st42.2), (11, .int .i64 x63), (34, .slice a0' list_0.length c0'), (44, .slice a2' faults_2.length c2'), (35, .slice a1' some_1.length c1'), (36, .int .i64 st42.2)] (by kernel_rfl) ?_
  obtain ⟨x71, hx72, hm⟩ := bindE hm
  refine QL.rsub (T := fInt.ty) 37 h1 hb68 hle1 hx72 rfl rfl Try.underlying25 (info2).1 (info2).2.1 rfl ⟨_, rfl⟩ rfl rfl rfl rfl ?_
  intro a73 c74 hR76 hle77
  refine QL.step1v 38 (.slice a1' some_1.length c1') rfl (fun _ => by kernel_rfl) ?_
  refine QL.step1v 39 (.int .i64 st42.2) rfl (fun _ => by kernel_rfl) ?_
  refine QL.step1v 40 (.int .i64 (wI64 (st42.2 + 1))) rfl (fun _ => by kernel_rfl) ?_
  refine QL.subk [0, 1, 2, 9, 27, 28, 29, 11, 34, 44, 37, 38, 40] [(0, .slice a0' list_0.length c0'), (1, .slice a1' some_1.length c1'), (2, .slice a2' faults_2.length c2'), (9, .slice a43 st42.1.length c44), (27, .slice a1' some_1.length c1'), (28, .int .i64 (some_1.length : Int)), (29, .int .i64 st42.2), (11, .int .i64 x63), (34, .slice a0' list_0.length c0'), (44, .slice a2' faults_2.length c2'), (37, .slice a73 x71.length c74), (38, .slice a1' some_1.length c1'), (40, .int .i64 (wI64 (st42.2 + 1)))] (by kernel_rfl) ?_
  obtain ⟨x79, hx80, hm⟩ := bindE hm
  refine QL.rsub (T := fInt.ty) 41 h1 hb68 hle1 hx80 rfl rfl Try.underlying25 (info2).1 (info2).2.1 ⟨_, rfl⟩ rfl rfl rfl rfl rfl ?_
  intro a81 c82 hR84 hle85
  refine QL.subk [0, 1, 2, 9, 27, 28, 29, 11, 34, 44, 37, 41] [(0, .slice a0' list_0.length c0'), (1, .slice a1' some_1.length c1'), (2, .slice a2' faults_2.length c2'), (9, .slice a43 st42.1.length c44), (27, .slice a1' some_1.length c1'), (28, .int .i64 (some_1.length : Int)), (29, .int .i64 st42.2), (11, .int .i64 x63), (34, .slice a0' list_0.length c0'), (44, .slice a2' faults_2.length c2'), (37, .slice a73 x71.length c74), (41, .slice a81 x79.length c82)] (by kernel_rfl) ?_
  refine QL.nil ?_
  intro w87 hE88
  have hb89 : Ext w w87 := Ext.trans hb68 hE88
  have hL90 : w.heap.size ≤ w87.heap.size := Nat.le_trans hL69 hE88.size
  have hS91 : SH w87 w.heap.size [aOwn fInt 2 a43 c44 st42.1] := SH.ext hS70 hE88
  refine WA.one (i := 8) (D' := [0, 10, 1, 2, 3, 4, 5, 6, 7, 8]) rfl rfl (by kernel_rfl) ?_
  refine WL.rowsRow 25 ([(x71 : List Int), (x79 : List Int)] : List (List Int)) [.slice a73 x71.length c74, .slice a81 x79.length c82] 2 #[.slice a73 x71.length c74, .slice a81 x79.length c82] 42 ⟨_, _, _, rfl, (Rd.below hR76 hb89), hle77, ⟨_, _, _, rfl, (Rd.below hR84 hb89), hle85, rfl⟩⟩ rfl rfl (by kernel_rfl) rfl rfl rfl rfl ?_
  intro a92 c93 w94 hE95 hR96 hle97
  have hb99 : Ext w w94 := Ext.trans hb89 hE95
  have hL100 : w.heap.size ≤ w94.heap.size := Nat.le_trans hL90 hE95.size
  have hS101 : SH w94 w.heap.size [aOwn fInt 2 a43 c44 st42.1] := SH.ext hS91 hE95
  refine WL.sub [(0, .slice a0' list_0.length c0'), (1, .slice a1' some_1.length c1'), (2, .slice a2' faults_2.length c2'), (9, .slice a43 st42.1.length c44), (27, .slice a1' some_1.length c1'), (28, .int .i64 (some_1.length : Int)), (29, .int .i64 st42.2), (11, .int .i64 x63), (34, .slice a0' list_0.length c0'), (44, .slice a2' faults_2.length c2'), (42, .slice a92 (([(x71 : List Int), (x79 : List Int)] : List (List Int)).length) c93)] ⟨rfl, rfl, rfl, rfl, rfl, rfl, rfl, rfl, rfl, rfl, rfl, trivial⟩ ?_
  refine WL.nil ?_
  refine WA.one (i := 9) (D' := [0, 10, 1, 2, 3, 4, 5, 6, 7, 8, 9]) rfl rfl (by kernel_rfl) ?_
  obtain ⟨x102, hx103, hm⟩ := bindE hm
  refine WL.call 58 #[.slice a92 (([(x71 : List Int), (x79 : List Int)] : List (List Int)).length) c93] rfl rfl (by kernel_rfl) (c_58 n ([(x71 : List Int), (x79 : List Int)] : List (List Int)) a92 c93 w94 hx103 hR96 hle97) ?_
  rintro _ w107 ⟨a104, c105, rfl, hE108, hR109⟩
  refine ⟨_, rfl, ?_⟩
  have hb110 : Ext w w107 := Ext.trans hb99 hE108
  have hL111 : w.heap.size ≤ w107.heap.size := Nat.le_trans hL100 hE108.size
  have hS112 : SH w107 w.heap.size [aOwn fInt 2 a104 c105 x102, aOwn fInt 2 a43 c44 st42.1] := SH.add hS101 hE108 hL100 hR109
  have hx113 := hE108
  refine WL.sub [(0, .slice a0' list_0.length c0'), (1, .slice a1' some_1.length c1'), (2, .slice a2' faults_2.length c2'), (9, .slice a43 st42.1.length c44), (27, .slice a1' some_1.length c1'), (28, .int .i64 (some_1.length : Int)), (29, .int .i64 st42.2), (11, .int .i64 x63), (34, .slice a0' list_0.length c0'), (44, .slice a2' faults_2.length c2'), (43, .slice a104 x102.length c105)] ⟨rfl, rfl, rfl, rfl, rfl, rfl, rfl, rfl, rfl, rfl, rfl, trivial⟩ ?_
  refine WL.nil ?_
  refine WA.one (i := 11) (D' := [0, 10, 1, 2, 3, 4, 5, 6, 7, 8, 9, 11]) rfl rfl (by kernel_rfl) ?_
  obtain ⟨x114, hx115, hm⟩ := bindE hm
  refine WL.call 51 #[.slice a0' list_0.length c0', .slice a104 x102.length c105, .slice a2' faults_2.length c2'] rfl rfl (by kernel_rfl) (c_51 n list_0 a0' c0' x102 a104 c105 faults_2 a2' c2' w107 hx115 (Rd.below h0 hb110) hle0 (SH.rd (SH.front 0 hS112)) (SH.le (SH.front 0 hS112)).1 (Rd.below h2 hb110) hle2) ?_
  rintro _ w116 ⟨rfl, hE117⟩
  refine ⟨_, rfl, ?_⟩
  have hb119 : Ext w w116 := Ext.trans hb110 hE117
  have hL120 : w.heap.size ≤ w116.heap.size := Nat.le_trans hL111 hE117.size
  have hS121 : SH w116 w.heap.size [aOwn fInt 2 a104 c105 x102, aOwn fInt 2 a43 c44 st42.1] := SH.ext hS112 hE117
  have hx122 := Ext.trans hx113 hE117
  refine WL.sub [(0, .slice a0' list_0.length c0'), (1, .slice a1' some_1.length c1'), (2, .slice a2' faults_2.length c2'), (9, .slice a43 st42.1.length c44), (27, .slice a1' some_1.length c1'), (28, .int .i64 (some_1.length : Int)), (29, .int .i64 st42.2), (11, .int .i64 x63), (45, .bool x114)] ⟨rfl, rfl, rfl, rfl, rfl, rfl, rfl, rfl, rfl, trivial⟩ ?_
  refine WL.nil ?_
  refine WA.done (by kernel_rfl) ?_
  refine WQ.then_normal (hK65 _ _ _ ?_)
  obtain ⟨x143, hx144, hm⟩ := bindE hm
  refine WP.cut (fun env' w' => ∃ (a145 : Option Addr) (c146 : Nat), env' = [(0, .slice a0' list_0.length c0'), (1, .slice a1' some_1.length c1'), (2, .slice a2' faults_2.length c2'), (9, .slice a145 x143.length c146), (27, .slice a1' some_1.length c1'), (28, .int .i64 (some_1.length : Int)), (29, .int .i64 st42.2)] ∧ Ext w w' ∧ w.heap.size ≤ w'.heap.size ∧ SH w' w.heap.size [aOwn fInt 2 a145 c146 x143]) ?_ ?_
  rotate_left
  · clear hx144
    rintro _ w167 ⟨a145, c146, rfl, hb168, hL169, hS170⟩
    refine WQ.block_normal ?_
    refine WQ.then_normal (hK61 _ _ _ ?_)
    refine WP.region ?_
    refine WL.runk 2 [0, 1, 2, 9, 27, 28, 29] [(0, .slice a0' list_0.length c0'), (1, .slice a1' some_1.length c1'), (2, .slice a2' faults_2.length c2'), (9, .slice a145 x143.length c146), (27, .slice a1' some_1.length c1'), (28, .int .i64 (some_1.length : Int)), (29, .int .i64 (wI64 (st42.2 + 1)))] (by kernel_rfl) ?_
    refine WL.nil ?_
    obtain rfl := Option.some.inj hm
    exact WQ.round hK52 ⟨(x143, (wI64 (st42.2 + 1))), _, _, rfl, hb168, hL169, hS170, hl50⟩ (Nat.lt_succ_self _) ⟨rfl, rfl, rfl, rfl, rfl, rfl, rfl, trivial⟩
  have hm := hx144; clear hx144
  refine WP.cond x114 rfl rfl (fun hc123 => ?_) (fun hc123 => ?_)
  rotate_left
  · have hm := iteF hm hc123
    refine WP.skip ?_
    obtain rfl := Option.some.inj hm
    exact WQ.post' ⟨_, _, rfl, hb119, hL120, (SH.take 1 (SH.front 1 hS121))⟩ ⟨rfl, rfl, rfl, rfl, rfl, rfl, rfl, trivial⟩
  have hm := iteT hm hc123
  refine WP.region ?_
  refine WL.runk 2 [0, 1, 2, 27, 28, 29, 46, 47] [(0, .slice a0' list_0.length c0'), (1, .slice a1' some_1.length c1'), (2, .slice a2' faults_2.length c2'), (27, .slice a1' some_1.length c1'), (28, .int .i64 (some_1.length : Int)), (29, .int .i64 st42.2), (46, .slice a43 st42.1.length c44), (47, .int .i64 x63)] (by kernel_rfl) ?_
  refine WL.row fInt 2 ([x63] : List Int) 1 #[.int .i64 x63] 48 (by kernel_rfl) rfl rfl rfl rfl rfl rfl rfl ?_
  intro a148 c149 w150 hE151 hR152
  have hb154 : Ext w w150 := Ext.trans hb119 hE151
  have hL155 : w.heap.size ≤ w150.heap.size := Nat.le_trans hL120 hE151.size
  have hS156 : SH w150 w.heap.size [aOwn fInt 2 a148 c149 ([x63] : List Int), aOwn fInt 2 a104 c105 x102, aOwn fInt 2 a43 c44 st42.1] := SH.add hS121 hE151 hL120 hR152
  have hx157 := Ext.trans hx122 hE151
  obtain ⟨x158, hx159, hm⟩ := bindE hm
  refine WL.append (F := fInt) (xs := st42.1) (ys := ([x63] : List Int)) 49 (SH.front 2 hS156) hL155 (SH.rd (SH.front 0 hS156)) hx159 rfl rfl rfl Try.underlying25 (info2).1 (info2).2.2.1 (info2).2.1 (info2).2.2.2 rfl rfl rfl rfl rfl ?_
  intro a160 c161 w162 hB163 hS164
  have hb165 : Ext w w162 := Below.trans hb154 hB163
  have hL166 : w.heap.size ≤ w162.heap.size := Nat.le_trans hL155 hB163.size
  refine WL.runk 1 [0, 1, 2, 9, 27, 28, 29] [(0, .slice a0' list_0.length c0'), (1, .slice a1' some_1.length c1'), (2, .slice a2' faults_2.length c2'), (27, .slice a1' some_1.length c1'), (28, .int .i64 (some_1.length : Int)), (29, .int .i64 st42.2), (9, .slice a160 x158.length c161)] (by kernel_rfl) ?_
  refine WL.nil ?_
  obtain rfl := Option.some.inj hm
  exact WQ.post' ⟨_, _, rfl, hb165, hL166, (SH.take 1 hS164)⟩ ⟨rfl, rfl, rfl, rfl, rfl, rfl, rfl, trivial⟩

theorem c_22 (n : Nat) (list_0 : List SRepair) (a0' : Option Addr) (c0' : Nat) (some_1 : List Int) (a1' : Option Addr) (c1' : Nat) (faults_2 : List Int) (a2' : Option Addr) (c2' : Nat) (w : World) {r : List Int × Int} (hm : m_spec_NeedlessRepairs n list_0 some_1 faults_2 = some r) (h0 : Rd fRepair.ty w a0' list_0) (hle0 : list_0.length ≤ c0') (h1 : Rd fInt.ty w a1' some_1) (hle1 : some_1.length ≤ c1') (h2 : Rd fInt.ty w a2' faults_2) (hle2 : faults_2.length ≤ c2') :
    CallV Try.prog 22 #[.slice a0' list_0.length c0', .slice a1' some_1.length c1', .slice a2' faults_2.length c2'] w (fun v w' => ∃ (ra0 : Option Addr) (rc0 : Nat), v = .tuple #[.slice ra0 r.1.length rc0, .int .i64 r.2] ∧ Ext w w' ∧ SH w' w.heap.size [aOwn fInt 2 ra0 rc0 r.1]) := by
  unfold m_spec_NeedlessRepairs at hm
  refine CallV.enter Try.func22 rfl (by kernel_rfl) Try.ntmps22 (env := [(0, .slice a0' list_0.length c0'), (1, .slice a1' some_1.length c1'), (2, .slice a2' faults_2.length c2')]) ⟨rfl, rfl, rfl, trivial⟩ ?_
  refine WP.seq (fun K1 hK1 => ?_)
  refine WP.region ?_
  refine WL.runk 2 [0, 1, 2] [(0, .slice a0' list_0.length c0'), (1, .slice a1' some_1.length c1'), (2, .slice a2' faults_2.length c2')] (by kernel_rfl) ?_
  refine WL.nil ?_
  refine WQ.then_normal (hK1 _ _ _ ?_)
  refine WP.seq (fun K2 hK2 => ?_)
  refine WP.region ?_
  refine WL.runk 3 [0, 1, 2, 12, 13, 14] [(0, .slice a0' list_0.length c0'), (1, .slice a1' some_1.length c1'), (2, .slice a2' faults_2.length c2'), (12, .slice a0' list_0.length c0'), (13, .slice a1' some_1.length c1'), (14, .slice a2' faults_2.length c2')] (by kernel_rfl) ?_
  obtain ⟨x3, hx4, hm⟩ := bindE hm
  refine WL.call 52 #[.slice a0' list_0.length c0', .slice a1' some_1.length c1', .slice a2' faults_2.length c2'] rfl rfl (by kernel_rfl) (c_52 n list_0 a0' c0' some_1 a1' c1' faults_2 a2' c2' w hx4 (Rd.below h0 (Ext.refl w)) hle0 (Rd.below h1 (Ext.refl w)) hle1 (Rd.below h2 (Ext.refl w)) hle2) ?_
  rintro _ w5 ⟨rfl, hE6⟩
  refine ⟨_, rfl, ?_⟩
  have hb8 : Ext w w5 := Ext.trans (Ext.refl w) hE6
  have hL9 : w.heap.size ≤ w5.heap.size := Nat.le_trans (Nat.le_refl _) hE6.size
  have hS10 : SH w5 w.heap.size [] := SH.ext (SH.nil _ _) hE6
  refine WL.runk 1 [0, 1, 2, 8] [(0, .slice a0' list_0.length c0'), (1, .slice a1' some_1.length c1'), (2, .slice a2' faults_2.length c2'), (8, .int .i64 x3)] (by kernel_rfl) ?_
  refine WL.nil ?_
  refine WQ.then_normal (hK2 _ _ _ ?_)
  refine WP.seq (fun K11 hK11 => ?_)
  refine WP.seq (fun K12 hK12 => ?_)
  obtain ⟨x22, hx23, hm⟩ := bindE hm
  refine WP.cut (fun env' w' => env' = [(0, .slice a0' list_0.length c0'), (1, .slice a1' some_1.length c1'), (2, .slice a2' faults_2.length c2'), (8, .int .i64 x3), (24, .bool x22)] ∧ Ext w w' ∧ w.heap.size ≤ w'.heap.size ∧ SH w' w.heap.size []) ?_ ?_
  · have hm := hx23; clear hx23
    refine WP.region ?_
    refine WL.runk 3 [0, 1, 2, 8, 18] [(0, .slice a0' list_0.length c0'), (1, .slice a1' some_1.length c1'), (2, .slice a2' faults_2.length c2'), (8, .int .i64 x3), (18, .bool (x3 == 0))] (by kernel_rfl) ?_
    refine WL.case (x3 == 0) [18] ⟨rfl, trivial⟩ (fun hc24 => ?_) (fun hc24 => ?_)
    rotate_left
    · have hm := iteF hm hc24
      refine WL.runk 6 [0, 1, 2, 8, 24] [(0, .slice a0' list_0.length c0'), (1, .slice a1' some_1.length c1'), (2, .slice a2' faults_2.length c2'), (8, .int .i64 x3), (24, .bool false)] (by kernel_rfl) ?_
      refine WL.nil ?_
      obtain rfl := Option.some.inj hm
      exact WQ.post' ⟨rfl, hb8, hL9, hS10⟩ ⟨rfl, rfl, rfl, rfl, rfl, trivial⟩
    have hm := iteT hm hc24
    refine WL.runk 3 [0, 1, 2, 8, 18, 19, 20, 21] [(0, .slice a0' list_0.length c0'), (1, .slice a1' some_1.length c1'), (2, .slice a2' faults_2.length c2'), (8, .int .i64 x3), (18, .bool true), (19, .slice a0' list_0.length c0'), (20, .slice a1' some_1.length c1'), (21, .slice a2' faults_2.length c2')] (by kernel_rfl) ?_
    obtain ⟨x25, hx26, hm⟩ := bindE hm
    refine WL.call 53 #[.slice a0' list_0.length c0', .slice a1' some_1.length c1', .slice a2' faults_2.length c2'] rfl rfl (by kernel_rfl) (c_53 n list_0 a0' c0' some_1 a1' c1' faults_2 a2' c2' w5 hx26 (Rd.below h0 hb8) hle0 (Rd.below h1 hb8) hle1 (Rd.below h2 hb8) hle2) ?_
    rintro _ w27 ⟨rfl, hE28⟩
    refine ⟨_, rfl, ?_⟩
    have hb30 : Ext w w27 := Ext.trans hb8 hE28
    have hL31 : w.heap.size ≤ w27.heap.size := Nat.le_trans hL9 hE28.size
    have hS32 : SH w27 w.heap.size [] := SH.ext hS10 hE28
    refine WL.runk 2 [0, 1, 2, 8, 24] [(0, .slice a0' list_0.length c0'), (1, .slice a1' some_1.length c1'), (2, .slice a2' faults_2.length c2'), (8, .int .i64 x3), (24, .bool (!x25))] (by kernel_rfl) ?_
    refine WL.nil ?_
    obtain rfl := Option.some.inj hm
    exact WQ.post' ⟨rfl, hb30, hL31, hS32⟩ ⟨rfl, rfl, rfl, rfl, rfl, trivial⟩
  clear hx23
  rintro _ w33 ⟨rfl, hb34, hL35, hS36⟩
  refine WQ.then_normal (hK12 _ _ _ ?_)
  obtain ⟨x38, hx39, hm⟩ := bindE hm
  refine WP.cut (fun env' w' => env' = [(0, .slice a0' list_0.length c0'), (1, .slice a1' some_1.length c1'), (2, .slice a2' faults_2.length c2'), (8, .int .i64 x38)] ∧ Ext w w' ∧ w.heap.size ≤ w'.heap.size ∧ SH w' w.heap.size []) ?_ ?_
  · have hm := hx39; clear hx39
    refine WP.cond x22 rfl rfl (fun hc37 => ?_) (fun hc37 => ?_)
    rotate_left
    · have hm := iteF hm hc37
      refine WP.skip ?_
      obtain rfl := Option.some.inj hm
      exact WQ.post' ⟨rfl, hb34, hL35, hS36⟩ ⟨rfl, rfl, rfl, rfl, trivial⟩
    have hm := iteT hm hc37
    refine WP.region ?_
    refine WL.runk 1 [0, 1, 2, 8] [(0, .slice a0' list_0.length c0'), (1, .slice a1' some_1.length c1'), (2, .slice a2' faults_2.length c2'), (8, .int .i64 6)] (by kernel_rfl) ?_
    refine WL.nil ?_
    obtain rfl := Option.some.inj hm
    exact WQ.post' ⟨rfl, hb34, hL35, hS36⟩ ⟨rfl, rfl, rfl, rfl, trivial⟩
  clear hx39
  rintro _ w40 ⟨rfl, hb41, hL42, hS43⟩
  refine WQ.then_normal (hK11 _ _ _ ?_)
  refine WP.seq (fun K44 hK44 => ?_)
  refine WP.seq (fun K45 hK45 => ?_)
  refine WP.region ?_
  refine WL.runk 2 [0, 1, 2, 8, 26] [(0, .slice a0' list_0.length c0'), (1, .slice a1' some_1.length c1'), (2, .slice a2' faults_2.length c2'), (8, .int .i64 x38), (26, .bool (x38 != 0))] (by kernel_rfl) ?_
  refine WL.nil ?_
  refine WQ.then_normal (hK45 _ _ _ ?_)
  refine WP.cond (x38 != 0) rfl rfl (fun hc46 => ?_) (fun hc46 => ?_)
  · have hm := iteT hm hc46
    refine WP.seq (fun K47 hK47 => ?_)
    refine WP.region ?_
    refine WL.runk 3 [6, 7] [(6, .slice none 0 0), (7, .int .i64 x38)] (by kernel_rfl) ?_
    refine WL.nil ?_
    refine WQ.then_normal (hK47 _ _ _ ?_)
    refine WP.ret ?_
    refine WQ.then_ret ?_
    obtain rfl := Option.some.inj hm
    have hS49 : SH w40 w.heap.size [aOwn fInt 2 none 0 ([] : List Int)] := SH.nilOwn hS43
    exact WQ.ret2 _ _ rfl rfl rfl ⟨_, _, rfl, hb41, hS49⟩
  have hm := iteF hm hc46
  refine WP.skip ?_
  refine WQ.then_normal (hK44 _ _ _ ?_)
  refine WP.seq (fun K50 hK50 => ?_)
  refine WP.region ?_
  refine WL.row fInt 2 ([] : List Int) 0 #[] 28 (by kernel_rfl) rfl rfl rfl rfl rfl rfl rfl ?_
  intro a51 c52 w53 hE54 hR55
  have hb57 : Ext w w53 := Ext.trans hb41 hE54
  have hL58 : w.heap.size ≤ w53.heap.size := Nat.le_trans hL42 hE54.size
  have hS59 : SH w53 w.heap.size [aOwn fInt 2 a51 c52 ([] : List Int)] := SH.add hS43 hE54 hL42 hR55
  refine WL.runk 1 [0, 1, 2, 9] [(0, .slice a0' list_0.length c0'), (1, .slice a1' some_1.length c1'), (2, .slice a2' faults_2.length c2'), (9, .slice a51 (([] : List Int).length) c52)] (by kernel_rfl) ?_
  refine WL.nil ?_
  refine WQ.then_normal (hK50 _ _ _ ?_)
  refine WP.seq (fun K60 hK60 => ?_)
  refine WP.seq (fun K61 hK61 => ?_)
  refine WP.region ?_
  refine WL.runk 1 [0, 1, 2, 9, 10] [(0, .slice a0' list_0.length c0'), (1, .slice a1' some_1.length c1'), (2, .slice a2' faults_2.length c2'), (9, .slice a51 (([] : List Int).length) c52), (10, .int .i64 0)] (by kernel_rfl) ?_
  refine WL.nil ?_
  refine WQ.then_normal (hK61 _ _ _ ?_)
  refine WP.block ?_
  obtain ⟨t76, ht77, hm⟩ := bindE hm
  have hmo71 := hm; clear hm
  refine WP.sub [(0, .slice a0' list_0.length c0'), (1, .slice a1' some_1.length c1'), (2, .slice a2' faults_2.length c2'), (9, .slice a51 (([] : List Int).length) c52), (10, .int .i64 0)] ⟨rfl, rfl, rfl, rfl, rfl, trivial⟩ ?_
  refine WP.loop (fun n' env' w' => ∃ (st62 : List Int × Int) (a63 : Option Addr) (c64 : Nat), env' = [(0, .slice a0' list_0.length c0'), (1, .slice a1' some_1.length c1'), (2, .slice a2' faults_2.length c2'), (9, .slice a63 st62.1.length c64), (10, .int .i64 st62.2)] ∧ Ext w w' ∧ w.heap.size ≤ w'.heap.size ∧ SH w' w.heap.size [aOwn fInt 2 a63 c64 st62.1] ∧ loopN (m_spec_NeedlessRepairs_l1 n list_0 some_1 faults_2) n' st62 = some t76) n ⟨(([] : List Int), 0), _, _, rfl, hb57, hL58, hS59, ht77⟩ ?_
  rintro n73 _ w66 ⟨st62, a63, c64, rfl, hb67, hL68, hS69, hl70⟩ K72 hK72
  obtain ⟨n74, s75, rfl, hm, hl70⟩ := loopN_some hl70
  unfold m_spec_NeedlessRepairs_l1 at hm
  refine WP.seq (fun K78 hK78 => ?_)
  refine WP.seq (fun K79 hK79 => ?_)
  refine WP.region ?_
  refine WL.runk 4 [0, 1, 2, 9, 10, 32] [(0, .slice a0' list_0.length c0'), (1, .slice a1' some_1.length c1'), (2, .slice a2' faults_2.length c2'), (9, .slice a63 st62.1.length c64), (10, .int .i64 st62.2), (32, .bool (decide (st62.2 < (some_1.length : Int))))] (by kernel_rfl) ?_
  refine WL.nil ?_
  refine WQ.then_normal (hK79 _ _ _ ?_)
  refine WP.cond (decide (st62.2 < (some_1.length : Int))) rfl rfl (fun hc80 => ?_) (fun hc80 => ?_)
  rotate_left
  · have hm := iteF hm hc80
    refine WP.exit ?_
    refine WQ.then_exit ?_
    refine WQ.then_exit ?_
    refine WQ.block_here ?_
    obtain rfl := Option.some.inj hm
    obtain rfl := afterN_done hl70
    have hm := hmo71
    refine WQ.then_normal (hK60 _ _ _ ?_)
    refine WP.seq (fun K179 hK179 => ?_)
    refine WP.region ?_
    refine WL.runk 3 [6, 7] [(6, .slice a63 st62.1.length c64), (7, .int .i64 0)] (by kernel_rfl) ?_
    refine WL.nil ?_
    refine WQ.then_normal (hK179 _ _ _ ?_)
    refine WP.ret ?_
    obtain rfl := Option.some.inj hm
    exact WQ.ret2 _ _ rfl rfl rfl ⟨_, _, rfl, hb67, hS69⟩
  have hm := iteT hm hc80
  refine WP.skip ?_
  refine WQ.then_normal (hK78 _ _ _ ?_)
  refine WP.seq (fun K81 hK81 => ?_)
  refine WP.block ?_
  refine WP.seq (fun K82 hK82 => ?_)
  refine WP.region ?_
  refine WL.runk 2 [0, 1, 2, 9, 10, 35, 36] [(0, .slice a0' list_0.length c0'), (1, .slice a1' some_1.length c1'), (2, .slice a2' faults_2.length c2'), (9, .slice a63 st62.1.length c64), (10, .int .i64 st62.2), (35, .slice a1' some_1.length c1'), (36, .int .i64 st62.2)] (by kernel_rfl) ?_
  obtain ⟨x83, hx84, hm⟩ := bindE hm
  refine WL.rsub (T := fInt.ty) 37 h1 hb67 hle1 hx84 rfl rfl Try.underlying25 (info2).1 (info2).2.1 rfl ⟨_, rfl⟩ rfl rfl rfl rfl ?_
  intro a85 c86 hR88 hle89
  obtain ⟨x91, hx92, hm⟩ := bindE hm
  refine WL.call 59 #[.slice a85 x83.length c86] rfl rfl (by kernel_rfl) (c_59 n x83 a85 c86 w66 hx92 (Rd.below hR88 hb67) hle89) ?_
  rintro _ w96 ⟨a93, c94, rfl, hE97, hR98⟩
  refine ⟨_, rfl, ?_⟩
  have hb99 : Ext w w96 := Ext.trans hb67 hE97
  have hL100 : w.heap.size ≤ w96.heap.size := Nat.le_trans hL68 hE97.size
  have hS101 : SH w96 w.heap.size [aOwn fInt 2 a93 c94 x91, aOwn fInt 2 a63 c64 st62.1] := SH.add hS69 hE97 hL68 hR98
  refine WL.runk 1 [0, 1, 2, 9, 10, 11] [(0, .slice a0' list_0.length c0'), (1, .slice a1' some_1.length c1'), (2, .slice a2' faults_2.length c2'), (9, .slice a63 st62.1.length c64), (10, .int .i64 st62.2), (11, .slice a93 x91.length c94)] (by kernel_rfl) ?_
  refine WL.nil ?_
  refine WQ.then_normal (hK82 _ _ _ ?_)
  refine WP.seq (fun K102 hK102 => ?_)
  refine WP.region ?_
  refine WL.runk 4 [0, 1, 2, 9, 10, 39, 40, 42] [(0, .slice a0' list_0.length c0'), (1, .slice a1' some_1.length c1'), (2, .slice a2' faults_2.length c2'), (9, .slice a63 st62.1.length c64), (10, .int .i64 st62.2), (39, .slice a93 x91.length c94), (40, .slice a1' some_1.length c1'), (42, .int .i64 (wI64 (st62.2 + 1)))] (by kernel_rfl) ?_
  obtain ⟨x103, hx104, hm⟩ := bindE hm
  refine WL.rsub (T := fInt.ty) 43 h1 hb99 hle1 hx104 rfl rfl Try.underlying25 (info2).1 (info2).2.1 ⟨_, rfl⟩ rfl rfl rfl rfl rfl ?_
  intro a105 c106 hR108 hle109
  obtain ⟨x111, hx112, hm⟩ := bindE hm
  refine WL.append (F := fInt) (xs := x91) (ys := x103) 44 (SH.front 0 hS101) hL100 (Rd.below hR108 hb99) hx112 rfl rfl rfl Try.underlying25 (info2).1 (info2).2.2.1 (info2).2.1 (info2).2.2.2 rfl rfl rfl rfl rfl ?_
  intro a113 c114 w115 hB116 hS117
  have hb118 : Ext w w115 := Below.trans hb99 hB116
  have hL119 : w.heap.size ≤ w115.heap.size := Nat.le_trans hL100 hB116.size
  refine WL.runk 1 [0, 1, 2, 9, 10, 11] [(0, .slice a0' list_0.length c0'), (1, .slice a1' some_1.length c1'), (2, .slice a2' faults_2.length c2'), (9, .slice a63 st62.1.length c64), (10, .int .i64 st62.2), (11, .slice a113 x111.length c114)] (by kernel_rfl) ?_
  refine WL.nil ?_
  refine WQ.then_normal (hK102 _ _ _ ?_)
  refine WP.seq (fun K120 hK120 => ?_)
  refine WP.region ?_
  refine WL.runk 3 [0, 1, 2, 9, 10, 45, 46, 47] [(0, .slice a0' list_0.length c0'), (1, .slice a1' some_1.length c1'), (2, .slice a2' faults_2.length c2'), (9, .slice a63 st62.1.length c64), (10, .int .i64 st62.2), (45, .slice a0' list_0.length c0'), (46, .slice a113 x111.length c114), (47, .slice a2' faults_2.length c2')] (by kernel_rfl) ?_
  obtain ⟨x121, hx122, hm⟩ := bindE hm
  refine WL.call 53 #[.slice a0' list_0.length c0', .slice a113 x111.length c114, .slice a2' faults_2.length c2'] rfl rfl (by kernel_rfl) (c_53 n list_0 a0' c0' x111 a113 c114 faults_2 a2' c2' w115 hx122 (Rd.below h0 hb118) hle0 (SH.rd (SH.front 0 hS117)) (SH.le (SH.front 0 hS117)).1 (Rd.below h2 hb118) hle2) ?_
  rintro _ w123 ⟨rfl, hE124⟩
  refine ⟨_, rfl, ?_⟩
  have hb126 : Ext w w123 := Ext.trans hb118 hE124
  have hL127 : w.heap.size ≤ w123.heap.size := Nat.le_trans hL119 hE124.size
  have hS128 : SH w123 w.heap.size [aOwn fInt 2 a113 c114 x111, aOwn fInt 2 a63 c64 st62.1] := SH.ext hS117 hE124
  refine WL.sub [(0, .slice a0' list_0.length c0'), (1, .slice a1' some_1.length c1'), (2, .slice a2' faults_2.length c2'), (9, .slice a63 st62.1.length c64), (10, .int .i64 st62.2), (48, .bool x121)] ⟨rfl, rfl, rfl, rfl, rfl, rfl, trivial⟩ ?_
  refine WL.nil ?_
  refine WQ.then_normal (hK120 _ _ _ ?_)
  obtain ⟨x150, hx151, hm⟩ := bindE hm
  refine WP.cut (fun env' w' => ∃ (a152 : Option Addr) (c153 : Nat), env' = [(0, .slice a0' list_0.length c0'), (1, .slice a1' some_1.length c1'), (2, .slice a2' faults_2.length c2'), (9, .slice a152 x150.length c153), (10, .int .i64 st62.2)] ∧ Ext w w' ∧ w.heap.size ≤ w'.heap.size ∧ SH w' w.heap.size [aOwn fInt 2 a152 c153 x150]) ?_ ?_
  rotate_left
  · clear hx151
    rintro _ w175 ⟨a152, c153, rfl, hb176, hL177, hS178⟩
    refine WQ.block_normal ?_
    refine WQ.then_normal (hK81 _ _ _ ?_)
    refine WP.region ?_
    refine WL.runk 3 [0, 1, 2, 9, 10] [(0, .slice a0' list_0.length c0'), (1, .slice a1' some_1.length c1'), (2, .slice a2' faults_2.length c2'), (9, .slice a152 x150.length c153), (10, .int .i64 (wI64 (st62.2 + 1)))] (by kernel_rfl) ?_
    refine WL.nil ?_
    obtain rfl := Option.some.inj hm
    exact WQ.round hK72 ⟨(x150, (wI64 (st62.2 + 1))), _, _, rfl, hb176, hL177, hS178, hl70⟩ (Nat.lt_succ_self _) ⟨rfl, rfl, rfl, rfl, rfl, trivial⟩
  have hm := hx151; clear hx151
  refine WP.cond x121 rfl rfl (fun hc129 => ?_) (fun hc129 => ?_)
  rotate_left
  · have hm := iteF hm hc129
    refine WP.skip ?_
    obtain rfl := Option.some.inj hm
    exact WQ.post' ⟨_, _, rfl, hb126, hL127, (SH.take 1 (SH.front 1 hS128))⟩ ⟨rfl, rfl, rfl, rfl, rfl, trivial⟩
  have hm := iteT hm hc129
  refine WP.region ?_
  refine WL.runk 3 [0, 1, 2, 10, 49, 50, 51] [(0, .slice a0' list_0.length c0'), (1, .slice a1' some_1.length c1'), (2, .slice a2' faults_2.length c2'), (10, .int .i64 st62.2), (49, .slice a63 st62.1.length c64), (50, .slice a1' some_1.length c1'), (51, .int .i64 st62.2)] (by kernel_rfl) ?_
  obtain ⟨x155, hx156, hm⟩ := bindE hm
  refine WL.st (.pointer (some (at_ a1' (Int.toNat st62.2 * 1)))) (ST.index (T := fInt.ty) (xs := some_1) (Rd.below h1 hb126) hx156 rfl rfl rfl Try.underlying25 (info2).1 (info2).2.1) rfl rfl rfl ?_
  refine WL.st (.int .i64 x155) (ST.load (cell_ext (Rd.flat (F := fInt) (Rd.below h1 hb126) hx156 0 rfl)) rfl rfl Try.underlying2 rfl) rfl rfl rfl ?_
  refine WL.row fInt 2 ([x155] : List Int) 1 #[.int .i64 x155] 54 (by kernel_rfl) rfl rfl rfl rfl rfl rfl rfl ?_
  intro a157 c158 w159 hE160 hR161
  have hb163 : Ext w w159 := Ext.trans hb126 hE160
  have hL164 : w.heap.size ≤ w159.heap.size := Nat.le_trans hL127 hE160.size
  have hS165 : SH w159 w.heap.size [aOwn fInt 2 a157 c158 ([x155] : List Int), aOwn fInt 2 a113 c114 x111, aOwn fInt 2 a63 c64 st62.1] := SH.add hS128 hE160 hL127 hR161
  obtain ⟨x166, hx167, hm⟩ := bindE hm
  refine WL.append (F := fInt) (xs := st62.1) (ys := ([x155] : List Int)) 55 (SH.front 2 hS165) hL164 (SH.rd (SH.front 0 hS165)) hx167 rfl rfl rfl Try.underlying25 (info2).1 (info2).2.2.1 (info2).2.1 (info2).2.2.2 rfl rfl rfl rfl rfl ?_
  intro a168 c169 w170 hB171 hS172
  have hb173 : Ext w w170 := Below.trans hb163 hB171
  have hL174 : w.heap.size ≤ w170.heap.size := Nat.le_trans hL164 hB171.size
  refine WL.runk 1 [0, 1, 2, 9, 10] [(0, .slice a0' list_0.length c0'), (1, .slice a1' some_1.length c1'), (2, .slice a2' faults_2.length c2'), (10, .int .i64 st62.2), (9, .slice a168 x166.length c169)] (by kernel_rfl) ?_
  refine WL.nil ?_
  obtain rfl := Option.some.inj hm
  exact WQ.post' ⟨_, _, rfl, hb173, hL174, (SH.take 1 hS172)⟩ ⟨rfl, rfl, rfl, rfl, rfl, trivial⟩

theorem c_103 (n : Nat) (a_0 : List Int) (a0' : Option Addr) (c0' : Nat) (left_1 : Int) (w : World) {r : Int} (hm : m_laws_szInt64S n a_0 left_1 = some r) (_h0 : Rd fInt.ty w a0' a_0) (_hle0 : a_0.length ≤ c0') :
    CallV Try.prog 103 #[.slice a0' a_0.length c0', .int .i64 left_1] w (fun v w' => v = .int .i64 r ∧ Ext w w') := by
  unfold m_laws_szInt64S at hm
  refine CallV.enter Try.func103 rfl (by kernel_rfl) Try.ntmps103 (env := [(0, .slice a0' a_0.length c0'), (1, .int .i64 left_1)]) ⟨rfl, rfl, trivial⟩ ?_
  refine WP.seq (fun K1 hK1 => ?_)
  refine WP.region ?_
  refine WL.runk 1 [0, 1] [(0, .slice a0' a_0.length c0'), (1, .int .i64 left_1)] (by kernel_rfl) ?_
  refine WL.nil ?_
  refine WQ.then_normal (hK1 _ _ _ ?_)
  refine WP.seq (fun K2 hK2 => ?_)
  refine WP.region ?_
  refine WL.runk 5 [1] [(1, .int .i64 (wI64 (left_1 - (a_0.length : Int))))] (by kernel_rfl) ?_
  refine WL.nil ?_
  refine WQ.then_normal (hK2 _ _ _ ?_)
  refine WP.seq (fun K3 hK3 => ?_)
  refine WP.seq (fun K4 hK4 => ?_)
  refine WP.region ?_
  refine WL.runk 2 [1, 10] [(1, .int .i64 (wI64 (left_1 - (a_0.length : Int)))), (10, .bool (decide ((wI64 (left_1 - (a_0.length : Int))) < 0)))] (by kernel_rfl) ?_
  refine WL.nil ?_
  refine WQ.then_normal (hK4 _ _ _ ?_)
  refine WP.cond (decide ((wI64 (left_1 - (a_0.length : Int))) < 0)) rfl rfl (fun hc5 => ?_) (fun hc5 => ?_)
  · have hm := iteT hm hc5
    refine WP.seq (fun K6 hK6 => ?_)
    refine WP.region ?_
    refine WL.runk 1 [4] [(4, .int .i64 (-1))] (by kernel_rfl) ?_
    refine WL.nil ?_
    refine WQ.then_normal (hK6 _ _ _ ?_)
    refine WP.ret ?_
    refine WQ.then_ret ?_
    obtain rfl := Option.some.inj hm
    exact WQ.ret1 _ rfl rfl ⟨rfl, (Ext.refl w)⟩
  have hm := iteF hm hc5
  refine WP.skip ?_
  refine WQ.then_normal (hK3 _ _ _ ?_)
  refine WP.seq (fun K7 hK7 => ?_)
  refine WP.region ?_
  refine WL.runk 2 [4] [(4, .int .i64 (wI64 (left_1 - (a_0.length : Int))))] (by kernel_rfl) ?_
  refine WL.nil ?_
  refine WQ.then_normal (hK7 _ _ _ ?_)
  refine WP.ret ?_
  obtain rfl := Option.some.inj hm
  exact WQ.ret1 _ rfl rfl ⟨rfl, (Ext.refl w)⟩

theorem c_67 (n : Nat) (a_0 : SRepair) (a0_1' : Option Addr) (c0_1' : Nat) (a0_2' : Option Addr) (c0_2' : Nat) (left_1 : Int) (w : World) {r : Int} (hm : m_laws_szRepair n a_0 left_1 = some r) (hr0_1 : Rd fInt.ty w a0_1' a_0.Mends) (hle0_1 : a_0.Mends.length ≤ c0_1') (hr0_2 : Rd fInt.ty w a0_2' a_0.First) (hle0_2 : a_0.First.length ≤ c0_2') :
    CallV Try.prog 67 #[.agg #[.string (bs a_0.Name), .slice a0_1' a_0.Mends.length c0_1', .slice a0_2' a_0.First.length c0_2', .int .i64 a_0.Price, .int .i64 a_0.Hours], .int .i64 left_1] w (fun v w' => v = .int .i64 r ∧ Ext w w') := by
  unfold m_laws_szRepair at hm
  refine CallV.enter Try.func67 rfl (by kernel_rfl) Try.ntmps67 (env := [(0, .agg #[.string (bs a_0.Name), .slice a0_1' a_0.Mends.length c0_1', .slice a0_2' a_0.First.length c0_2', .int .i64 a_0.Price, .int .i64 a_0.Hours]), (1, .int .i64 left_1)]) ⟨rfl, rfl, trivial⟩ ?_
  refine WP.seq (fun K1 hK1 => ?_)
  refine WP.region ?_
  refine WL.box 72 [.string (bs a_0.Name), .slice a0_1' a_0.Mends.length c0_1', .slice a0_2' a_0.First.length c0_2', .int .i64 a_0.Price, .int .i64 a_0.Hours] 2 (by kernel_rfl) rfl rfl rfl rfl ?_
  intro b2 w3 hE4 hR5
  have hb7 : Ext w w3 := Ext.trans (Ext.refl w) hE4
  have hL8 : w.heap.size ≤ w3.heap.size := Nat.le_trans (Nat.le_refl _) hE4.size
  have hS9 : SH w3 w.heap.size [aBox 72 b2 [.string (bs a_0.Name), .slice a0_1' a_0.Mends.length c0_1', .slice a0_2' a_0.First.length c0_2', .int .i64 a_0.Price, .int .i64 a_0.Hours]] := SH.add (SH.nil _ _) hE4 (Nat.le_refl _) hR5
  refine WL.runk 1 [1, 2] [(1, .int .i64 left_1), (2, .pointer (some ⟨b2, 0, none⟩))] (by kernel_rfl) ?_
  refine WL.nil ?_
  refine WQ.then_normal (hK1 _ _ _ ?_)
  refine WP.seq (fun K10 hK10 => ?_)
  refine WP.region ?_
  refine WL.runk 2 [2, 5, 6] [(2, .pointer (some ⟨b2, 0, none⟩)), (5, .int .i64 left_1), (6, .pointer (some ⟨b2, 0, none⟩))] (by kernel_rfl) ?_
  refine WL.st (.string (bs a_0.Name)) (ST.load (cell_ext (SH.boxAt (SH.front 0 hS9) 0 _ rfl)) rfl rfl Try.underlying9 rfl) rfl rfl rfl ?_
  refine WL.runk 3 [1, 2] [(2, .pointer (some ⟨b2, 0, none⟩)), (1, .int .i64 (wI64 (left_1 - (a_0.Name.length : Int))))] (by kernel_rfl) ?_
  refine WL.nil ?_
  refine WQ.then_normal (hK10 _ _ _ ?_)
  refine WP.seq (fun K11 hK11 => ?_)
  refine WP.seq (fun K12 hK12 => ?_)
  refine WP.region ?_
  refine WL.runk 2 [1, 2, 11] [(2, .pointer (some ⟨b2, 0, none⟩)), (1, .int .i64 (wI64 (left_1 - (a_0.Name.length : Int)))), (11, .bool (decide ((wI64 (left_1 - (a_0.Name.length : Int))) < 0)))] (by kernel_rfl) ?_
  refine WL.nil ?_
  refine WQ.then_normal (hK12 _ _ _ ?_)
  refine WP.cond (decide ((wI64 (left_1 - (a_0.Name.length : Int))) < 0)) rfl rfl (fun hc13 => ?_) (fun hc13 => ?_)
  · have hm := iteT hm hc13
    refine WP.seq (fun K14 hK14 => ?_)
    refine WP.region ?_
    refine WL.runk 1 [4] [(4, .int .i64 (-1))] (by kernel_rfl) ?_
    refine WL.nil ?_
    refine WQ.then_normal (hK14 _ _ _ ?_)
    refine WP.ret ?_
    refine WQ.then_ret ?_
    obtain rfl := Option.some.inj hm
    exact WQ.ret1 _ rfl rfl ⟨rfl, hb7⟩
  have hm := iteF hm hc13
  refine WP.skip ?_
  refine WQ.then_normal (hK11 _ _ _ ?_)
  refine WP.seq (fun K15 hK15 => ?_)
  refine WP.region ?_
  refine WL.runk 1 [1, 2, 12] [(2, .pointer (some ⟨b2, 0, none⟩)), (1, .int .i64 (wI64 (left_1 - (a_0.Name.length : Int)))), (12, .pointer (some ⟨b2, 1, none⟩))] (by kernel_rfl) ?_
  refine WL.st (.slice a0_1' a_0.Mends.length c0_1') (ST.load (cell_ext (SH.boxAt (SH.front 0 hS9) 1 _ rfl)) rfl rfl Try.underlying25 rfl) rfl rfl rfl ?_
  refine WL.runk 1 [2, 13, 14] [(2, .pointer (some ⟨b2, 0, none⟩)), (13, .slice a0_1' a_0.Mends.length c0_1'), (14, .int .i64 (wI64 (left_1 - (a_0.Name.length : Int))))] (by kernel_rfl) ?_
  obtain ⟨x16, hx17, hm⟩ := bindE hm
  refine WL.call 103 #[.slice a0_1' a_0.Mends.length c0_1', .int .i64 (wI64 (left_1 - (a_0.Name.length : Int)))] rfl rfl (by kernel_rfl) (c_103 n a_0.Mends a0_1' c0_1' (wI64 (left_1 - (a_0.Name.length : Int))) w3 hx17 (Rd.below hr0_1 hb7) hle0_1) ?_
  rintro _ w18 ⟨rfl, hE19⟩
  refine ⟨_, rfl, ?_⟩
  have hb21 : Ext w w18 := Ext.trans hb7 hE19
  have hL22 : w.heap.size ≤ w18.heap.size := Nat.le_trans hL8 hE19.size
  have hS23 : SH w18 w.heap.size [aBox 72 b2 [.string (bs a_0.Name), .slice a0_1' a_0.Mends.length c0_1', .slice a0_2' a_0.First.length c0_2', .int .i64 a_0.Price, .int .i64 a_0.Hours]] := SH.ext hS9 hE19
  refine WL.runk 1 [1, 2] [(2, .pointer (some ⟨b2, 0, none⟩)), (1, .int .i64 x16)] (by kernel_rfl) ?_
  refine WL.nil ?_
  refine WQ.then_normal (hK15 _ _ _ ?_)
  refine WP.seq (fun K24 hK24 => ?_)
  refine WP.seq (fun K25 hK25 => ?_)
  refine WP.region ?_
  refine WL.runk 2 [1, 2, 17] [(2, .pointer (some ⟨b2, 0, none⟩)), (1, .int .i64 x16), (17, .bool (decide (x16 < 0)))] (by kernel_rfl) ?_
  refine WL.nil ?_
  refine WQ.then_normal (hK25 _ _ _ ?_)
  refine WP.cond (decide (x16 < 0)) rfl rfl (fun hc26 => ?_) (fun hc26 => ?_)
  · have hm := iteT hm hc26
    refine WP.seq (fun K27 hK27 => ?_)
    refine WP.region ?_
    refine WL.runk 1 [4] [(4, .int .i64 (-1))] (by kernel_rfl) ?_
    refine WL.nil ?_
    refine WQ.then_normal (hK27 _ _ _ ?_)
    refine WP.ret ?_
    refine WQ.then_ret ?_
    obtain rfl := Option.some.inj hm
    exact WQ.ret1 _ rfl rfl ⟨rfl, hb21⟩
  have hm := iteF hm hc26
  refine WP.skip ?_
  refine WQ.then_normal (hK24 _ _ _ ?_)
  refine WP.seq (fun K28 hK28 => ?_)
  refine WP.region ?_
  refine WL.runk 1 [1, 18] [(1, .int .i64 x16), (18, .pointer (some ⟨b2, 2, none⟩))] (by kernel_rfl) ?_
  refine WL.st (.slice a0_2' a_0.First.length c0_2') (ST.load (cell_ext (SH.boxAt (SH.front 0 hS23) 2 _ rfl)) rfl rfl Try.underlying25 rfl) rfl rfl rfl ?_
  refine WL.runk 1 [19, 20] [(19, .slice a0_2' a_0.First.length c0_2'), (20, .int .i64 x16)] (by kernel_rfl) ?_
  obtain ⟨x29, hx30, hm⟩ := bindE hm
  refine WL.call 103 #[.slice a0_2' a_0.First.length c0_2', .int .i64 x16] rfl rfl (by kernel_rfl) (c_103 n a_0.First a0_2' c0_2' x16 w18 hx30 (Rd.below hr0_2 hb21) hle0_2) ?_
  rintro _ w31 ⟨rfl, hE32⟩
  refine ⟨_, rfl, ?_⟩
  have hb34 : Ext w w31 := Ext.trans hb21 hE32
  have hL35 : w.heap.size ≤ w31.heap.size := Nat.le_trans hL22 hE32.size
  have hS36 : SH w31 w.heap.size [aBox 72 b2 [.string (bs a_0.Name), .slice a0_1' a_0.Mends.length c0_1', .slice a0_2' a_0.First.length c0_2', .int .i64 a_0.Price, .int .i64 a_0.Hours]] := SH.ext hS23 hE32
  refine WL.runk 1 [1] [(1, .int .i64 x29)] (by kernel_rfl) ?_
  refine WL.nil ?_
  refine WQ.then_normal (hK28 _ _ _ ?_)
  refine WP.seq (fun K37 hK37 => ?_)
  refine WP.seq (fun K38 hK38 => ?_)
  refine WP.region ?_
  refine WL.runk 2 [1, 23] [(1, .int .i64 x29), (23, .bool (decide (x29 < 0)))] (by kernel_rfl) ?_
  refine WL.nil ?_
  refine WQ.then_normal (hK38 _ _ _ ?_)
  refine WP.cond (decide (x29 < 0)) rfl rfl (fun hc39 => ?_) (fun hc39 => ?_)
  · have hm := iteT hm hc39
    refine WP.seq (fun K40 hK40 => ?_)
    refine WP.region ?_
    refine WL.runk 1 [4] [(4, .int .i64 (-1))] (by kernel_rfl) ?_
    refine WL.nil ?_
    refine WQ.then_normal (hK40 _ _ _ ?_)
    refine WP.ret ?_
    refine WQ.then_ret ?_
    obtain rfl := Option.some.inj hm
    exact WQ.ret1 _ rfl rfl ⟨rfl, hb34⟩
  have hm := iteF hm hc39
  refine WP.skip ?_
  refine WQ.then_normal (hK37 _ _ _ ?_)
  refine WP.seq (fun K41 hK41 => ?_)
  refine WP.region ?_
  refine WL.runk 2 [4] [(4, .int .i64 x29)] (by kernel_rfl) ?_
  refine WL.nil ?_
  refine WQ.then_normal (hK41 _ _ _ ?_)
  refine WP.ret ?_
  obtain rfl := Option.some.inj hm
  exact WQ.ret1 _ rfl rfl ⟨rfl, hb34⟩

theorem c_28 (n : Nat) (a_0 : List SRepair) (a0' : Option Addr) (c0' : Nat) (left_1 : Int) (w : World) {r : Int} (hm : m_laws_szRepairS n a_0 left_1 = some r) (h0 : Rd fRepair.ty w a0' a_0) (_hle0 : a_0.length ≤ c0') :
    CallV Try.prog 28 #[.slice a0' a_0.length c0', .int .i64 left_1] w (fun v w' => v = .int .i64 r ∧ Ext w w') := by
  unfold m_laws_szRepairS at hm
  refine CallV.enter Try.func28 rfl (by kernel_rfl) Try.ntmps28 (env := [(0, .slice a0' a_0.length c0'), (1, .int .i64 left_1)]) ⟨rfl, rfl, trivial⟩ ?_
  refine WP.seq (fun K1 hK1 => ?_)
  refine WP.region ?_
  refine WL.runk 1 [0, 1] [(0, .slice a0' a_0.length c0'), (1, .int .i64 left_1)] (by kernel_rfl) ?_
  refine WL.nil ?_
  refine WQ.then_normal (hK1 _ _ _ ?_)
  refine WP.seq (fun K2 hK2 => ?_)
  refine WP.region ?_
  refine WL.runk 5 [0, 1] [(0, .slice a0' a_0.length c0'), (1, .int .i64 (wI64 (left_1 - (a_0.length : Int))))] (by kernel_rfl) ?_
  refine WL.nil ?_
  refine WQ.then_normal (hK2 _ _ _ ?_)
  refine WP.seq (fun K3 hK3 => ?_)
  refine WP.seq (fun K4 hK4 => ?_)
  refine WP.region ?_
  refine WL.runk 2 [0, 1, 11] [(0, .slice a0' a_0.length c0'), (1, .int .i64 (wI64 (left_1 - (a_0.length : Int)))), (11, .bool (decide ((wI64 (left_1 - (a_0.length : Int))) < 0)))] (by kernel_rfl) ?_
  refine WL.nil ?_
  refine WQ.then_normal (hK4 _ _ _ ?_)
  refine WP.cond (decide ((wI64 (left_1 - (a_0.length : Int))) < 0)) rfl rfl (fun hc5 => ?_) (fun hc5 => ?_)
  · have hm := iteT hm hc5
    refine WP.seq (fun K6 hK6 => ?_)
    refine WP.region ?_
    refine WL.runk 1 [4] [(4, .int .i64 (-1))] (by kernel_rfl) ?_
    refine WL.nil ?_
    refine WQ.then_normal (hK6 _ _ _ ?_)
    refine WP.ret ?_
    refine WQ.then_ret ?_
    obtain rfl := Option.some.inj hm
    exact WQ.ret1 _ rfl rfl ⟨rfl, (Ext.refl w)⟩
  have hm := iteF hm hc5
  refine WP.skip ?_
  refine WQ.then_normal (hK3 _ _ _ ?_)
  refine WP.seq (fun K7 hK7 => ?_)
  refine WP.seq (fun K8 hK8 => ?_)
  refine WP.region ?_
  refine WL.runk 1 [0, 1, 5] [(0, .slice a0' a_0.length c0'), (1, .int .i64 (wI64 (left_1 - (a_0.length : Int)))), (5, .int .i64 0)] (by kernel_rfl) ?_
  refine WL.nil ?_
  refine WQ.then_normal (hK8 _ _ _ ?_)
  refine WP.block ?_
  obtain ⟨t20, ht21, hm⟩ := bindE hm
  have hmo15 := hm; clear hm
  refine WP.sub [(0, .slice a0' a_0.length c0'), (1, .int .i64 (wI64 (left_1 - (a_0.length : Int)))), (5, .int .i64 0)] ⟨rfl, rfl, rfl, trivial⟩ ?_
  refine WP.loop (fun n' env' w' => ∃ (st9 : Int × Int) , env' = [(0, .slice a0' a_0.length c0'), (1, .int .i64 st9.1), (5, .int .i64 st9.2)] ∧ Ext w w' ∧ w.heap.size ≤ w'.heap.size ∧ SH w' w.heap.size [] ∧ loopN (m_laws_szRepairS_l1 n a_0) n' st9 = some t20) n ⟨((wI64 (left_1 - (a_0.length : Int))), 0), rfl, (Ext.refl w), (Nat.le_refl _), (SH.nil _ _), ht21⟩ ?_
  rintro n17 _ w10 ⟨st9, rfl, hb11, hL12, hS13, hl14⟩ K16 hK16
  obtain ⟨n18, s19, rfl, hm, hl14⟩ := loopN_some hl14
  unfold m_laws_szRepairS_l1 at hm
  refine WP.seq (fun K22 hK22 => ?_)
  refine WP.seq (fun K23 hK23 => ?_)
  refine WP.region ?_
  refine WL.runk 4 [0, 1, 5, 15] [(0, .slice a0' a_0.length c0'), (1, .int .i64 st9.1), (5, .int .i64 st9.2), (15, .bool (decide (st9.2 < (a_0.length : Int))))] (by kernel_rfl) ?_
  refine WL.nil ?_
  refine WQ.then_normal (hK23 _ _ _ ?_)
  refine WP.cond (decide (st9.2 < (a_0.length : Int))) rfl rfl (fun hc24 => ?_) (fun hc24 => ?_)
  rotate_left
  · have hm := iteF hm hc24
    refine WP.exit ?_
    refine WQ.then_exit ?_
    refine WQ.then_exit ?_
    refine WQ.block_here ?_
    obtain rfl := Option.some.inj hm
    obtain rfl := afterN_done hl14
    have hm := hmo15
    refine WQ.then_normal (hK7 _ _ _ ?_)
    refine WP.seq (fun K51 hK51 => ?_)
    refine WP.region ?_
    refine WL.runk 2 [4] [(4, .int .i64 st9.1)] (by kernel_rfl) ?_
    refine WL.nil ?_
    refine WQ.then_normal (hK51 _ _ _ ?_)
    refine WP.ret ?_
    obtain rfl := Option.some.inj hm
    exact WQ.ret1 _ rfl rfl ⟨rfl, hb11⟩
  have hm := iteT hm hc24
  refine WP.skip ?_
  refine WQ.then_normal (hK22 _ _ _ ?_)
  refine WP.seq (fun K25 hK25 => ?_)
  refine WP.block ?_
  refine WP.seq (fun K26 hK26 => ?_)
  refine WP.region ?_
  refine WL.runk 2 [0, 1, 5, 18, 19] [(0, .slice a0' a_0.length c0'), (1, .int .i64 st9.1), (5, .int .i64 st9.2), (18, .slice a0' a_0.length c0'), (19, .int .i64 st9.2)] (by kernel_rfl) ?_
  obtain ⟨x27, hx28, hm⟩ := bindE hm
  obtain ⟨a29, c30, a34, c35, hc39, hR31, hle32, hR36, hle37⟩ := nest_Repair h0 hx28
  refine WL.st (.pointer (some (at_ a0' (Int.toNat st9.2 * 5)))) (ST.index (T := fRepair.ty) (xs := a_0) (Rd.below h0 hb11) hx28 rfl rfl rfl Try.underlying39 (info72).1 (info72).2.1) rfl rfl rfl ?_
  refine WL.st (.agg #[.string (bs x27.Name), .slice a29 x27.Mends.length c30, .slice a34 x27.First.length c35, .int .i64 x27.Price, .int .i64 x27.Hours]) (ST.loadAgg (vs := [.string (bs x27.Name), .slice a29 x27.Mends.length c30, .slice a34 x27.First.length c35, .int .i64 x27.Price, .int .i64 x27.Hours]) (at_agg (cells_ext hc39 hb11)) rfl rfl rfl Try.underlying72 rfl (info72).1 (info72).2.1) rfl rfl rfl ?_
  refine WL.runk 1 [0, 5, 21, 22] [(0, .slice a0' a_0.length c0'), (5, .int .i64 st9.2), (21, .agg #[.string (bs x27.Name), .slice a29 x27.Mends.length c30, .slice a34 x27.First.length c35, .int .i64 x27.Price, .int .i64 x27.Hours]), (22, .int .i64 st9.1)] (by kernel_rfl) ?_
  obtain ⟨x40, hx41, hm⟩ := bindE hm
  refine WL.call 67 #[.agg #[.string (bs x27.Name), .slice a29 x27.Mends.length c30, .slice a34 x27.First.length c35, .int .i64 x27.Price, .int .i64 x27.Hours], .int .i64 st9.1] rfl rfl (by kernel_rfl) (c_67 n x27 a29 c30 a34 c35 st9.1 w10 hx41 (Rd.below hR31 hb11) hle32 (Rd.below hR36 hb11) hle37) ?_
  rintro _ w42 ⟨rfl, hE43⟩
  refine ⟨_, rfl, ?_⟩
  have hb45 : Ext w w42 := Ext.trans hb11 hE43
  have hL46 : w.heap.size ≤ w42.heap.size := Nat.le_trans hL12 hE43.size
  have hS47 : SH w42 w.heap.size [] := SH.ext hS13 hE43
  refine WL.runk 1 [0, 1, 5] [(0, .slice a0' a_0.length c0'), (5, .int .i64 st9.2), (1, .int .i64 x40)] (by kernel_rfl) ?_
  refine WL.nil ?_
  refine WQ.then_normal (hK26 _ _ _ ?_)
  refine WP.seq (fun K48 hK48 => ?_)
  refine WP.region ?_
  refine WL.runk 2 [0, 1, 5, 25] [(0, .slice a0' a_0.length c0'), (5, .int .i64 st9.2), (1, .int .i64 x40), (25, .bool (decide (x40 < 0)))] (by kernel_rfl) ?_
  refine WL.nil ?_
  refine WQ.then_normal (hK48 _ _ _ ?_)
  refine WP.cond (decide (x40 < 0)) rfl rfl (fun hc49 => ?_) (fun hc49 => ?_)
  rotate_left
  · have hm := iteF hm hc49
    refine WP.skip ?_
    refine WQ.block_normal ?_
    refine WQ.then_normal (hK25 _ _ _ ?_)
    refine WP.region ?_
    refine WL.runk 3 [0, 1, 5] [(0, .slice a0' a_0.length c0'), (5, .int .i64 (wI64 (st9.2 + 1))), (1, .int .i64 x40)] (by kernel_rfl) ?_
    refine WL.nil ?_
    obtain rfl := Option.some.inj hm
    exact WQ.round hK16 ⟨(x40, (wI64 (st9.2 + 1))), rfl, hb45, hL46, hS47, hl14⟩ (Nat.lt_succ_self _) ⟨rfl, rfl, rfl, trivial⟩
  have hm := iteT hm hc49
  refine WP.seq (fun K50 hK50 => ?_)
  refine WP.region ?_
  refine WL.runk 1 [4] [(4, .int .i64 (-1))] (by kernel_rfl) ?_
  refine WL.nil ?_
  refine WQ.then_normal (hK50 _ _ _ ?_)
  refine WP.ret ?_
  refine WQ.block_ret ?_
  refine WQ.then_ret ?_
  refine WQ.then_ret ?_
  refine WQ.block_ret ?_
  refine WQ.then_ret ?_
  obtain rfl := Option.some.inj hm
  obtain rfl := afterN_done hl14
  have hm := hmo15
  obtain rfl := Option.some.inj hm
  exact WQ.ret1 _ rfl rfl ⟨rfl, hb45⟩

theorem c_36 (n : Nat) (a_0 : List Int) (a0' : Option Addr) (c0' : Nat) (w : World) {r : List Int} (hm : m_laws_toInt64S n a_0 = some r) (h0 : Rd fInt.ty w a0' a_0) (_hle0 : a_0.length ≤ c0') :
    CallV Try.prog 36 #[.slice a0' a_0.length c0'] w (fun v w' => ∃ (ra0 : Option Addr) (rc0 : Nat), v = .slice ra0 r.length rc0 ∧ Ext w w' ∧ SH w' w.heap.size [aOwn fInt 2 ra0 rc0 r]) := by
  unfold m_laws_toInt64S at hm
  refine CallV.enter Try.func36 rfl (by kernel_rfl) Try.ntmps36 (env := [(0, .slice a0' a_0.length c0')]) ⟨rfl, trivial⟩ ?_
  refine WP.seq (fun K1 hK1 => ?_)
  refine WP.region ?_
  refine WL.runk 1 [0] [(0, .slice a0' a_0.length c0')] (by kernel_rfl) ?_
  refine WL.nil ?_
  refine WQ.then_normal (hK1 _ _ _ ?_)
  refine WP.seq (fun K2 hK2 => ?_)
  refine WP.region ?_
  refine WL.runk 2 [0, 6] [(0, .slice a0' a_0.length c0'), (6, .int .i64 (a_0.length : Int))] (by kernel_rfl) ?_
  obtain ⟨x3, hx4, hm⟩ := bindE hm
  refine WL.make fInt 7 hx4 rfl rfl rfl Try.underlying25 (info2).1 (info2).2.2.1 (info2).2.1 (info2).2.2.2 rfl rfl rfl rfl rfl ?_
  intro a5 c6 w7 hE8 hR9
  have hb11 : Ext w w7 := Ext.trans (Ext.refl w) hE8
  have hL12 : w.heap.size ≤ w7.heap.size := Nat.le_trans (Nat.le_refl _) hE8.size
  have hS13 : SH w7 w.heap.size [aOwn fInt 2 a5 c6 x3] := SH.add (SH.nil _ _) hE8 (Nat.le_refl _) hR9
  refine WL.runk 1 [0, 3] [(0, .slice a0' a_0.length c0'), (3, .slice a5 x3.length c6)] (by kernel_rfl) ?_
  refine WL.nil ?_
  refine WQ.then_normal (hK2 _ _ _ ?_)
  refine WP.seq (fun K14 hK14 => ?_)
  refine WP.seq (fun K15 hK15 => ?_)
  refine WP.region ?_
  refine WL.runk 1 [0, 3, 4] [(0, .slice a0' a_0.length c0'), (3, .slice a5 x3.length c6), (4, .int .i64 0)] (by kernel_rfl) ?_
  refine WL.nil ?_
  refine WQ.then_normal (hK15 _ _ _ ?_)
  refine WP.block ?_
  obtain ⟨t54, ht55, hm⟩ := bindE hm
  have hmo49 := hm; clear hm
  refine WP.sub [(0, .slice a0' a_0.length c0'), (3, .slice a5 x3.length c6), (4, .int .i64 0)] ⟨rfl, rfl, rfl, trivial⟩ ?_
  refine WP.loop (fun n' env' w' => ∃ (st43 : Int × List Int) , env' = [(0, .slice a0' a_0.length c0'), (3, .slice a5 st43.2.length c6), (4, .int .i64 st43.1)] ∧ Ext w w' ∧ w.heap.size ≤ w'.heap.size ∧ SH w' w.heap.size [aOwn fInt 2 a5 c6 st43.2] ∧ loopN (m_laws_toInt64S_l1 n a_0) n' st43 = some t54) n ⟨(0, x3), rfl, hb11, hL12, hS13, ht55⟩ ?_
  rintro n51 _ w44 ⟨st43, rfl, hb45, hL46, hS47, hl48⟩ K50 hK50
  obtain ⟨n52, s53, rfl, hm, hl48⟩ := loopN_some hl48
  unfold m_laws_toInt64S_l1 at hm
  refine WP.seq (fun K56 hK56 => ?_)
  refine WP.seq (fun K57 hK57 => ?_)
  refine WP.region ?_
  refine WL.runk 4 [0, 3, 4, 11] [(0, .slice a0' a_0.length c0'), (3, .slice a5 st43.2.length c6), (4, .int .i64 st43.1), (11, .bool (decide (st43.1 < (a_0.length : Int))))] (by kernel_rfl) ?_
  refine WL.nil ?_
  refine WQ.then_normal (hK57 _ _ _ ?_)
  refine WP.cond (decide (st43.1 < (a_0.length : Int))) rfl rfl (fun hc58 => ?_) (fun hc58 => ?_)
  rotate_left
  · have hm := iteF hm hc58
    refine WP.exit ?_
    refine WQ.then_exit ?_
    refine WQ.then_exit ?_
    refine WQ.block_here ?_
    obtain rfl := Option.some.inj hm
    obtain rfl := afterN_done hl48
    have hm := hmo49
    refine WQ.then_normal (hK14 _ _ _ ?_)
    refine WP.seq (fun K69 hK69 => ?_)
    refine WP.region ?_
    refine WL.runk 2 [2] [(2, .slice a5 st43.2.length c6)] (by kernel_rfl) ?_
    refine WL.nil ?_
    refine WQ.then_normal (hK69 _ _ _ ?_)
    refine WP.ret ?_
    obtain rfl := Option.some.inj hm
    exact WQ.ret1 _ rfl rfl ⟨_, _, rfl, hb45, hS47⟩
  have hm := iteT hm hc58
  refine WP.skip ?_
  refine WQ.then_normal (hK56 _ _ _ ?_)
  refine WP.seq (fun K59 hK59 => ?_)
  refine WP.block ?_
  refine WP.region ?_
  refine WL.runk 4 [0, 3, 4, 14, 15, 16, 17] [(0, .slice a0' a_0.length c0'), (3, .slice a5 st43.2.length c6), (4, .int .i64 st43.1), (14, .slice a5 st43.2.length c6), (15, .int .i64 st43.1), (16, .slice a0' a_0.length c0'), (17, .int .i64 st43.1)] (by kernel_rfl) ?_
  obtain ⟨x60, hx61, hm⟩ := bindE hm
  refine WL.st (.pointer (some (at_ a0' (Int.toNat st43.1 * 1)))) (ST.index (T := fInt.ty) (xs := a_0) (Rd.below h0 hb45) hx61 rfl rfl rfl Try.underlying25 (info2).1 (info2).2.1) rfl rfl rfl ?_
  refine WL.st (.int .i64 x60) (ST.load (cell_ext (Rd.flat (F := fInt) (Rd.below h0 hb45) hx61 0 rfl)) rfl rfl Try.underlying2 rfl) rfl rfl rfl ?_
  obtain ⟨x62, hx63, hm⟩ := bindE hm
  refine WL.st (.pointer (some (at_ a5 (Int.toNat st43.1 * 1)))) (ST.index (T := fInt.ty) (xs := st43.2) (SH.rd (SH.front 0 hS47)) hx63 rfl rfl rfl Try.underlying25 (info2).1 (info2).2.1) rfl rfl rfl ?_
  refine WL.store (F := fInt) x60 0 [.int .i64 x60] (SH.front 0 hS47) hL46 hx63 rfl rfl rfl rfl rfl rfl rfl (info2).1 (info2).2.1 rfl rfl rfl ?_
  intro w64 hB65 hS66
  have hb67 : Ext w w64 := Below.trans hb45 hB65
  have hL68 : w.heap.size ≤ w64.heap.size := Nat.le_trans hL46 hB65.size
  refine WL.sub [(0, .slice a0' a_0.length c0'), (3, .slice a5 ((st43.2.set (Int.toNat st43.1) x60).length) c6), (4, .int .i64 st43.1), (14, .slice a5 ((st43.2.set (Int.toNat st43.1) x60).length) c6), (15, .int .i64 st43.1), (16, .slice a0' a_0.length c0'), (17, .int .i64 st43.1), (18, .pointer (some (at_ a0' (Int.toNat st43.1 * 1)))), (19, .int .i64 x60)] ⟨rfl, by first | (simp only [List.length_set]; done) | (simp only [List.length_set]; rfl), rfl, by first | (simp only [List.length_set]; done) | (simp only [List.length_set]; rfl), rfl, rfl, rfl, rfl, rfl, trivial⟩ ?_
  refine WL.sub [(0, .slice a0' a_0.length c0'), (3, .slice a5 ((st43.2.set (Int.toNat st43.1) x60).length) c6), (4, .int .i64 st43.1)] ⟨rfl, rfl, rfl, trivial⟩ ?_
  refine WL.nil ?_
  refine WQ.block_normal ?_
  refine WQ.then_normal (hK59 _ _ _ ?_)
  refine WP.region ?_
  refine WL.runk 3 [0, 3, 4] [(0, .slice a0' a_0.length c0'), (3, .slice a5 ((st43.2.set (Int.toNat st43.1) x60).length) c6), (4, .int .i64 (wI64 (st43.1 + 1)))] (by kernel_rfl) ?_
  refine WL.nil ?_
  obtain rfl := Option.some.inj hm
  exact WQ.round hK50 ⟨((wI64 (st43.1 + 1)), (st43.2.set (Int.toNat st43.1) x60)), rfl, hb67, hL68, hS66, hl48⟩ (Nat.lt_succ_self _) ⟨rfl, rfl, rfl, trivial⟩

theorem c_69 (n : Nat) (a_0 : SRepair) (a0_1' : Option Addr) (c0_1' : Nat) (a0_2' : Option Addr) (c0_2' : Nat) (w : World) {r : SRepair} (hm : m_laws_toRepair n a_0 = some r) (hr0_1 : Rd fInt.ty w a0_1' a_0.Mends) (hle0_1 : a_0.Mends.length ≤ c0_1') (hr0_2 : Rd fInt.ty w a0_2' a_0.First) (hle0_2 : a_0.First.length ≤ c0_2') :
    CallV Try.prog 69 #[.agg #[.string (bs a_0.Name), .slice a0_1' a_0.Mends.length c0_1', .slice a0_2' a_0.First.length c0_2', .int .i64 a_0.Price, .int .i64 a_0.Hours]] w (fun v w' => ∃ (ra0_1 : Option Addr) (rc0_1 : Nat) (ra0_2 : Option Addr) (rc0_2 : Nat), v = .agg #[.string (bs r.Name), .slice ra0_1 r.Mends.length rc0_1, .slice ra0_2 r.First.length rc0_2, .int .i64 r.Price, .int .i64 r.Hours] ∧ Ext w w' ∧ SH w' w.heap.size [aOwn fInt 2 ra0_1 rc0_1 r.Mends, aOwn fInt 2 ra0_2 rc0_2 r.First]) := by
  unfold m_laws_toRepair at hm
  refine CallV.enter Try.func69 rfl (by kernel_rfl) Try.ntmps69 (env := [(0, .agg #[.string (bs a_0.Name), .slice a0_1' a_0.Mends.length c0_1', .slice a0_2' a_0.First.length c0_2', .int .i64 a_0.Price, .int .i64 a_0.Hours])]) ⟨rfl, trivial⟩ ?_
  refine WP.seq (fun K1 hK1 => ?_)
  refine WP.region ?_
  refine WL.box 72 [.string (bs a_0.Name), .slice a0_1' a_0.Mends.length c0_1', .slice a0_2' a_0.First.length c0_2', .int .i64 a_0.Price, .int .i64 a_0.Hours] 1 (by kernel_rfl) rfl rfl rfl rfl ?_
  intro b2 w3 hE4 hR5
  have hb7 : Ext w w3 := Ext.trans (Ext.refl w) hE4
  have hL8 : w.heap.size ≤ w3.heap.size := Nat.le_trans (Nat.le_refl _) hE4.size
  have hS9 : SH w3 w.heap.size [aBox 72 b2 [.string (bs a_0.Name), .slice a0_1' a_0.Mends.length c0_1', .slice a0_2' a_0.First.length c0_2', .int .i64 a_0.Price, .int .i64 a_0.Hours]] := SH.add (SH.nil _ _) hE4 (Nat.le_refl _) hR5
  refine WL.box 73 [.string (bs []), .slice none 0 0, .slice none 0 0, .int .i64 0, .int .i64 0] 2 (by kernel_rfl) rfl rfl rfl rfl ?_
  intro b10 w11 hE12 hR13
  have hb15 : Ext w w11 := Ext.trans hb7 hE12
  have hL16 : w.heap.size ≤ w11.heap.size := Nat.le_trans hL8 hE12.size
  have hS17 : SH w11 w.heap.size [aBox 73 b10 [.string (bs []), .slice none 0 0, .slice none 0 0, .int .i64 0, .int .i64 0], aBox 72 b2 [.string (bs a_0.Name), .slice a0_1' a_0.Mends.length c0_1', .slice a0_2' a_0.First.length c0_2', .int .i64 a_0.Price, .int .i64 a_0.Hours]] := SH.add hS9 hE12 hL8 hR13
  refine WL.sub [(1, .pointer (some ⟨b2, 0, none⟩)), (2, .pointer (some ⟨b10, 0, none⟩))] ⟨rfl, rfl, trivial⟩ ?_
  refine WL.nil ?_
  refine WQ.then_normal (hK1 _ _ _ ?_)
  refine WP.seq (fun K18 hK18 => ?_)
  refine WP.region ?_
  refine WL.box 73 [.string (bs []), .slice none 0 0, .slice none 0 0, .int .i64 0, .int .i64 0] 3 (by kernel_rfl) rfl rfl rfl rfl ?_
  intro b19 w20 hE21 hR22
  have hb24 : Ext w w20 := Ext.trans hb15 hE21
  have hL25 : w.heap.size ≤ w20.heap.size := Nat.le_trans hL16 hE21.size
  have hS26 : SH w20 w.heap.size [aBox 73 b19 [.string (bs []), .slice none 0 0, .slice none 0 0, .int .i64 0, .int .i64 0], aBox 73 b10 [.string (bs []), .slice none 0 0, .slice none 0 0, .int .i64 0, .int .i64 0], aBox 72 b2 [.string (bs a_0.Name), .slice a0_1' a_0.Mends.length c0_1', .slice a0_2' a_0.First.length c0_2', .int .i64 a_0.Price, .int .i64 a_0.Hours]] := SH.add hS17 hE21 hL16 hR22
  refine WL.sub [(1, .pointer (some ⟨b2, 0, none⟩)), (2, .pointer (some ⟨b10, 0, none⟩)), (3, .pointer (some ⟨b19, 0, none⟩))] ⟨rfl, rfl, rfl, trivial⟩ ?_
  refine WL.nil ?_
  refine WQ.then_normal (hK18 _ _ _ ?_)
  refine WP.seq (fun K27 hK27 => ?_)
  refine WP.region ?_
  refine WL.runk 1 [1, 2, 3, 4] [(1, .pointer (some ⟨b2, 0, none⟩)), (2, .pointer (some ⟨b10, 0, none⟩)), (3, .pointer (some ⟨b19, 0, none⟩)), (4, .pointer (some ⟨b2, 0, none⟩))] (by kernel_rfl) ?_
  refine WL.st (.string (bs a_0.Name)) (ST.load (cell_ext (SH.boxAt (SH.front 2 hS26) 0 _ rfl)) rfl rfl Try.underlying9 rfl) rfl rfl rfl ?_
  refine WL.runk 1 [1, 2, 3, 5, 6] [(1, .pointer (some ⟨b2, 0, none⟩)), (2, .pointer (some ⟨b10, 0, none⟩)), (3, .pointer (some ⟨b19, 0, none⟩)), (5, .string (bs a_0.Name)), (6, .pointer (some ⟨b19, 0, none⟩))] (by kernel_rfl) ?_
  refine WL.boxStore 0 [.string (bs a_0.Name)] [.string (bs a_0.Name), .slice none 0 0, .slice none 0 0, .int .i64 0, .int .i64 0] (SH.front 0 hS26) hL25 rfl rfl rfl rfl rfl rfl rfl (info9).1 (info9).2.1 rfl rfl rfl ?_
  intro w28 hB29 hS30
  have hb31 : Ext w w28 := Below.trans hb24 hB29
  have hL32 : w.heap.size ≤ w28.heap.size := Nat.le_trans hL25 hB29.size
  refine WL.sub [(1, .pointer (some ⟨b2, 0, none⟩)), (2, .pointer (some ⟨b10, 0, none⟩)), (3, .pointer (some ⟨b19, 0, none⟩))] ⟨rfl, rfl, rfl, trivial⟩ ?_
  refine WL.nil ?_
  refine WQ.then_normal (hK27 _ _ _ ?_)
  refine WP.seq (fun K33 hK33 => ?_)
  refine WP.region ?_
  refine WL.runk 1 [1, 2, 3, 7] [(1, .pointer (some ⟨b2, 0, none⟩)), (2, .pointer (some ⟨b10, 0, none⟩)), (3, .pointer (some ⟨b19, 0, none⟩)), (7, .pointer (some ⟨b2, 1, none⟩))] (by kernel_rfl) ?_
  refine WL.st (.slice a0_1' a_0.Mends.length c0_1') (ST.load (cell_ext (SH.boxAt (SH.front 2 hS30) 1 _ rfl)) rfl rfl Try.underlying25 rfl) rfl rfl rfl ?_
  obtain ⟨x34, hx35, hm⟩ := bindE hm
  refine WL.call 36 #[.slice a0_1' a_0.Mends.length c0_1'] rfl rfl (by kernel_rfl) (c_36 n a_0.Mends a0_1' c0_1' w28 hx35 (Rd.below hr0_1 hb31) hle0_1) ?_
  rintro _ w39 ⟨a36, c37, rfl, hE40, hR41⟩
  refine ⟨_, rfl, ?_⟩
  have hb42 : Ext w w39 := Ext.trans hb31 hE40
  have hL43 : w.heap.size ≤ w39.heap.size := Nat.le_trans hL32 hE40.size
  have hS44 : SH w39 w.heap.size [aOwn fInt 2 a36 c37 x34, aBox 73 b19 [.string (bs a_0.Name), .slice none 0 0, .slice none 0 0, .int .i64 0, .int .i64 0], aBox 73 b10 [.string (bs []), .slice none 0 0, .slice none 0 0, .int .i64 0, .int .i64 0], aBox 72 b2 [.string (bs a_0.Name), .slice a0_1' a_0.Mends.length c0_1', .slice a0_2' a_0.First.length c0_2', .int .i64 a_0.Price, .int .i64 a_0.Hours]] := SH.add hS30 hE40 hL32 hR41
  refine WL.runk 1 [1, 2, 3, 9, 10] [(1, .pointer (some ⟨b2, 0, none⟩)), (2, .pointer (some ⟨b10, 0, none⟩)), (3, .pointer (some ⟨b19, 0, none⟩)), (9, .slice a36 x34.length c37), (10, .pointer (some ⟨b19, 1, none⟩))] (by kernel_rfl) ?_
  refine WL.boxStore 1 [.slice a36 x34.length c37] [.string (bs a_0.Name), .slice a36 x34.length c37, .slice none 0 0, .int .i64 0, .int .i64 0] (SH.front 1 hS44) hL43 rfl rfl rfl rfl rfl rfl rfl (info25).1 (info25).2.1 rfl rfl rfl ?_
  intro w45 hB46 hS47
  have hb48 : Ext w w45 := Below.trans hb42 hB46
  have hL49 : w.heap.size ≤ w45.heap.size := Nat.le_trans hL43 hB46.size
  refine WL.sub [(1, .pointer (some ⟨b2, 0, none⟩)), (2, .pointer (some ⟨b10, 0, none⟩)), (3, .pointer (some ⟨b19, 0, none⟩))] ⟨rfl, rfl, rfl, trivial⟩ ?_
  refine WL.nil ?_
  refine WQ.then_normal (hK33 _ _ _ ?_)
  refine WP.seq (fun K50 hK50 => ?_)
  refine WP.region ?_
  refine WL.runk 1 [1, 2, 3, 11] [(1, .pointer (some ⟨b2, 0, none⟩)), (2, .pointer (some ⟨b10, 0, none⟩)), (3, .pointer (some ⟨b19, 0, none⟩)), (11, .pointer (some ⟨b2, 2, none⟩))] (by kernel_rfl) ?_
  refine WL.st (.slice a0_2' a_0.First.length c0_2') (ST.load (cell_ext (SH.boxAt (SH.front 3 hS47) 2 _ rfl)) rfl rfl Try.underlying25 rfl) rfl rfl rfl ?_
  obtain ⟨x51, hx52, hm⟩ := bindE hm
  refine WL.call 36 #[.slice a0_2' a_0.First.length c0_2'] rfl rfl (by kernel_rfl) (c_36 n a_0.First a0_2' c0_2' w45 hx52 (Rd.below hr0_2 hb48) hle0_2) ?_
  rintro _ w56 ⟨a53, c54, rfl, hE57, hR58⟩
  refine ⟨_, rfl, ?_⟩
  have hb59 : Ext w w56 := Ext.trans hb48 hE57
  have hL60 : w.heap.size ≤ w56.heap.size := Nat.le_trans hL49 hE57.size
  have hS61 : SH w56 w.heap.size [aOwn fInt 2 a53 c54 x51, aBox 73 b19 [.string (bs a_0.Name), .slice a36 x34.length c37, .slice none 0 0, .int .i64 0, .int .i64 0], aOwn fInt 2 a36 c37 x34, aBox 73 b10 [.string (bs []), .slice none 0 0, .slice none 0 0, .int .i64 0, .int .i64 0], aBox 72 b2 [.string (bs a_0.Name), .slice a0_1' a_0.Mends.length c0_1', .slice a0_2' a_0.First.length c0_2', .int .i64 a_0.Price, .int .i64 a_0.Hours]] := SH.add hS47 hE57 hL49 hR58
  refine WL.runk 1 [1, 2, 3, 13, 14] [(1, .pointer (some ⟨b2, 0, none⟩)), (2, .pointer (some ⟨b10, 0, none⟩)), (3, .pointer (some ⟨b19, 0, none⟩)), (13, .slice a53 x51.length c54), (14, .pointer (some ⟨b19, 2, none⟩))] (by kernel_rfl) ?_
  refine WL.boxStore 2 [.slice a53 x51.length c54] [.string (bs a_0.Name), .slice a36 x34.length c37, .slice a53 x51.length c54, .int .i64 0, .int .i64 0] (SH.front 1 hS61) hL60 rfl rfl rfl rfl rfl rfl rfl (info25).1 (info25).2.1 rfl rfl rfl ?_
  intro w62 hB63 hS64
  have hb65 : Ext w w62 := Below.trans hb59 hB63
  have hL66 : w.heap.size ≤ w62.heap.size := Nat.le_trans hL60 hB63.size
  refine WL.sub [(1, .pointer (some ⟨b2, 0, none⟩)), (2, .pointer (some ⟨b10, 0, none⟩)), (3, .pointer (some ⟨b19, 0, none⟩))] ⟨rfl, rfl, rfl, trivial⟩ ?_
  refine WL.nil ?_
  refine WQ.then_normal (hK50 _ _ _ ?_)
  refine WP.seq (fun K67 hK67 => ?_)
  refine WP.region ?_
  refine WL.runk 1 [1, 2, 3, 15] [(1, .pointer (some ⟨b2, 0, none⟩)), (2, .pointer (some ⟨b10, 0, none⟩)), (3, .pointer (some ⟨b19, 0, none⟩)), (15, .pointer (some ⟨b2, 3, none⟩))] (by kernel_rfl) ?_
  refine WL.st (.int .i64 a_0.Price) (ST.load (cell_ext (SH.boxAt (SH.front 4 hS64) 3 _ rfl)) rfl rfl Try.underlying2 rfl) rfl rfl rfl ?_
  refine WL.runk 1 [1, 2, 3, 16, 17] [(1, .pointer (some ⟨b2, 0, none⟩)), (2, .pointer (some ⟨b10, 0, none⟩)), (3, .pointer (some ⟨b19, 0, none⟩)), (16, .int .i64 a_0.Price), (17, .pointer (some ⟨b19, 3, none⟩))] (by kernel_rfl) ?_
  refine WL.boxStore 3 [.int .i64 a_0.Price] [.string (bs a_0.Name), .slice a36 x34.length c37, .slice a53 x51.length c54, .int .i64 a_0.Price, .int .i64 0] (SH.front 0 hS64) hL66 rfl rfl rfl rfl rfl rfl rfl (info2).1 (info2).2.1 rfl rfl rfl ?_
  intro w68 hB69 hS70
  have hb71 : Ext w w68 := Below.trans hb65 hB69
  have hL72 : w.heap.size ≤ w68.heap.size := Nat.le_trans hL66 hB69.size
  refine WL.sub [(1, .pointer (some ⟨b2, 0, none⟩)), (2, .pointer (some ⟨b10, 0, none⟩)), (3, .pointer (some ⟨b19, 0, none⟩))] ⟨rfl, rfl, rfl, trivial⟩ ?_
  refine WL.nil ?_
  refine WQ.then_normal (hK67 _ _ _ ?_)
  refine WP.seq (fun K73 hK73 => ?_)
  refine WP.region ?_
  refine WL.runk 1 [2, 3, 18] [(2, .pointer (some ⟨b10, 0, none⟩)), (3, .pointer (some ⟨b19, 0, none⟩)), (18, .pointer (some ⟨b2, 4, none⟩))] (by kernel_rfl) ?_
  refine WL.st (.int .i64 a_0.Hours) (ST.load (cell_ext (SH.boxAt (SH.front 4 hS70) 4 _ rfl)) rfl rfl Try.underlying2 rfl) rfl rfl rfl ?_
  refine WL.runk 1 [2, 3, 19, 20] [(2, .pointer (some ⟨b10, 0, none⟩)), (3, .pointer (some ⟨b19, 0, none⟩)), (19, .int .i64 a_0.Hours), (20, .pointer (some ⟨b19, 4, none⟩))] (by kernel_rfl) ?_
  refine WL.boxStore 4 [.int .i64 a_0.Hours] [.string (bs a_0.Name), .slice a36 x34.length c37, .slice a53 x51.length c54, .int .i64 a_0.Price, .int .i64 a_0.Hours] (SH.front 0 hS70) hL72 rfl rfl rfl rfl rfl rfl rfl (info2).1 (info2).2.1 rfl rfl rfl ?_
  intro w74 hB75 hS76
  have hb77 : Ext w w74 := Below.trans hb71 hB75
  have hL78 : w.heap.size ≤ w74.heap.size := Nat.le_trans hL72 hB75.size
  refine WL.sub [(2, .pointer (some ⟨b10, 0, none⟩)), (3, .pointer (some ⟨b19, 0, none⟩))] ⟨rfl, rfl, trivial⟩ ?_
  refine WL.nil ?_
  refine WQ.then_normal (hK73 _ _ _ ?_)
  refine WP.seq (fun K79 hK79 => ?_)
  refine WP.region ?_
  refine WL.st (.agg #[.string (bs a_0.Name), .slice a36 x34.length c37, .slice a53 x51.length c54, .int .i64 a_0.Price, .int .i64 a_0.Hours]) (ST.loadAgg (vs := [.string (bs a_0.Name), .slice a36 x34.length c37, .slice a53 x51.length c54, .int .i64 a_0.Price, .int .i64 a_0.Hours]) (fun j v hv => SH.boxPart (us := [.string (bs a_0.Name), .slice a36 x34.length c37, .slice a53 x51.length c54, .int .i64 a_0.Price, .int .i64 a_0.Hours]) (SH.front 0 hS76) 0 rfl j v hv) rfl rfl rfl Try.underlying73 rfl (info73).1 (info73).2.1) rfl rfl rfl ?_
  refine WL.boxStore 0 [.string (bs a_0.Name), .slice a36 x34.length c37, .slice a53 x51.length c54, .int .i64 a_0.Price, .int .i64 a_0.Hours] [.string (bs a_0.Name), .slice a36 x34.length c37, .slice a53 x51.length c54, .int .i64 a_0.Price, .int .i64 a_0.Hours] (SH.front 3 hS76) hL78 rfl rfl rfl rfl rfl rfl rfl (info73).1 (info73).2.1 rfl rfl rfl ?_
  intro w80 hB81 hS82
  have hb83 : Ext w w80 := Below.trans hb77 hB81
  have hL84 : w.heap.size ≤ w80.heap.size := Nat.le_trans hL78 hB81.size
  refine WL.sub [(2, .pointer (some ⟨b10, 0, none⟩))] ⟨rfl, trivial⟩ ?_
  refine WL.nil ?_
  refine WQ.then_normal (hK79 _ _ _ ?_)
  refine WP.ret ?_
  obtain rfl := Option.some.inj hm
  exact WQ.retv1 _ rfl (RVal.box (SH.front 0 hS82) rfl Try.underlying73 rfl (info73).1 (info73).2.1) ⟨_, _, _, _, rfl, hb83, (SH.take 2 (SH.front 3 (SH.front 2 hS82)))⟩

theorem c_30 (n : Nat) (a_0 : List SRepair) (a0' : Option Addr) (c0' : Nat) (w : World) {r : List SRepair} (hm : m_laws_toRepairS n a_0 = some r) (h0 : Rd fRepair.ty w a0' a_0) (_hle0 : a_0.length ≤ c0') :
    CallV Try.prog 30 #[.slice a0' a_0.length c0'] w (fun v w' => ∃ (ra0 : Option Addr) (rc0 : Nat), v = .slice ra0 r.length rc0 ∧ Ext w w' ∧ SH w' w.heap.size [aNest fRepair 73 2 ra0 rc0 r]) := by
  unfold m_laws_toRepairS at hm
  refine CallV.enter Try.func30 rfl (by kernel_rfl) Try.ntmps30 (env := [(0, .slice a0' a_0.length c0')]) ⟨rfl, trivial⟩ ?_
  refine WP.seq (fun K1 hK1 => ?_)
  refine WP.region ?_
  refine WL.runk 1 [0] [(0, .slice a0' a_0.length c0')] (by kernel_rfl) ?_
  refine WL.nil ?_
  refine WQ.then_normal (hK1 _ _ _ ?_)
  refine WP.seq (fun K2 hK2 => ?_)
  refine WP.region ?_
  refine WL.runk 2 [0, 6] [(0, .slice a0' a_0.length c0'), (6, .int .i64 (a_0.length : Int))] (by kernel_rfl) ?_
  obtain ⟨x3, hx4, hm⟩ := bindE hm
  refine WL.makeN (ei := 2) fRepair 7 hx4 (.val (Fit.row' rfl (Fit.row' rfl (.val (.val .nil))))) (Emp.row (Emp.row Emp.nil)) rfl rfl rfl Try.underlying24 (info73).1 (info73).2.2.1 (info73).2.1 (info73).2.2.2 rfl rfl rfl rfl ?_
  intro a5 c6 w7 hE8 hR9
  have hb11 : Ext w w7 := Ext.trans (Ext.refl w) hE8
  have hL12 : w.heap.size ≤ w7.heap.size := Nat.le_trans (Nat.le_refl _) hE8.size
  have hS13 : SH w7 w.heap.size [aNest fRepair 73 2 a5 c6 x3] := SH.add (SH.nil _ _) hE8 (Nat.le_refl _) hR9
  refine WL.runk 1 [0, 3] [(0, .slice a0' a_0.length c0'), (3, .slice a5 x3.length c6)] (by kernel_rfl) ?_
  refine WL.nil ?_
  refine WQ.then_normal (hK2 _ _ _ ?_)
  refine WP.seq (fun K14 hK14 => ?_)
  refine WP.seq (fun K15 hK15 => ?_)
  refine WP.region ?_
  refine WL.runk 1 [0, 3, 4] [(0, .slice a0' a_0.length c0'), (3, .slice a5 x3.length c6), (4, .int .i64 0)] (by kernel_rfl) ?_
  refine WL.nil ?_
  refine WQ.then_normal (hK15 _ _ _ ?_)
  refine WP.block ?_
  obtain ⟨t87, ht88, hm⟩ := bindE hm
  have hmo82 := hm; clear hm
  refine WP.sub [(0, .slice a0' a_0.length c0'), (3, .slice a5 x3.length c6), (4, .int .i64 0)] ⟨rfl, rfl, rfl, trivial⟩ ?_
  refine WP.loop (fun n' env' w' => ∃ (st76 : Int × List SRepair) , env' = [(0, .slice a0' a_0.length c0'), (3, .slice a5 st76.2.length c6), (4, .int .i64 st76.1)] ∧ Ext w w' ∧ w.heap.size ≤ w'.heap.size ∧ SH w' w.heap.size [aNest fRepair 73 2 a5 c6 st76.2] ∧ loopN (m_laws_toRepairS_l1 n a_0) n' st76 = some t87) n ⟨(0, x3), rfl, hb11, hL12, hS13, ht88⟩ ?_
  rintro n84 _ w77 ⟨st76, rfl, hb78, hL79, hS80, hl81⟩ K83 hK83
  obtain ⟨n85, s86, rfl, hm, hl81⟩ := loopN_some hl81
  unfold m_laws_toRepairS_l1 at hm
  refine WP.seq (fun K89 hK89 => ?_)
  refine WP.seq (fun K90 hK90 => ?_)
  refine WP.region ?_
  refine WL.runk 4 [0, 3, 4, 11] [(0, .slice a0' a_0.length c0'), (3, .slice a5 st76.2.length c6), (4, .int .i64 st76.1), (11, .bool (decide (st76.1 < (a_0.length : Int))))] (by kernel_rfl) ?_
  refine WL.nil ?_
  refine WQ.then_normal (hK90 _ _ _ ?_)
  refine WP.cond (decide (st76.1 < (a_0.length : Int))) rfl rfl (fun hc91 => ?_) (fun hc91 => ?_)
  rotate_left
  · have hm := iteF hm hc91
    refine WP.exit ?_
    refine WQ.then_exit ?_
    refine WQ.then_exit ?_
    refine WQ.block_here ?_
    obtain rfl := Option.some.inj hm
    obtain rfl := afterN_done hl81
    have hm := hmo82
    refine WQ.then_normal (hK14 _ _ _ ?_)
    refine WP.seq (fun K135 hK135 => ?_)
    refine WP.region ?_
    refine WL.runk 2 [2] [(2, .slice a5 st76.2.length c6)] (by kernel_rfl) ?_
    refine WL.nil ?_
    refine WQ.then_normal (hK135 _ _ _ ?_)
    refine WP.ret ?_
    obtain rfl := Option.some.inj hm
    exact WQ.ret1 _ rfl rfl ⟨_, _, rfl, hb78, hS80⟩
  have hm := iteT hm hc91
  refine WP.skip ?_
  refine WQ.then_normal (hK89 _ _ _ ?_)
  refine WP.seq (fun K92 hK92 => ?_)
  refine WP.block ?_
  refine WP.region ?_
  refine WL.runk 4 [0, 3, 4, 14, 15, 16, 17] [(0, .slice a0' a_0.length c0'), (3, .slice a5 st76.2.length c6), (4, .int .i64 st76.1), (14, .slice a5 st76.2.length c6), (15, .int .i64 st76.1), (16, .slice a0' a_0.length c0'), (17, .int .i64 st76.1)] (by kernel_rfl) ?_
  obtain ⟨x93, hx94, hm⟩ := bindE hm
  obtain ⟨a95, c96, a100, c101, hc105, hR97, hle98, hR102, hle103⟩ := nest_Repair h0 hx94
  refine WL.st (.pointer (some (at_ a0' (Int.toNat st76.1 * 5)))) (ST.index (T := fRepair.ty) (xs := a_0) (Rd.below h0 hb78) hx94 rfl rfl rfl Try.underlying39 (info72).1 (info72).2.1) rfl rfl rfl ?_
  refine WL.st (.agg #[.string (bs x93.Name), .slice a95 x93.Mends.length c96, .slice a100 x93.First.length c101, .int .i64 x93.Price, .int .i64 x93.Hours]) (ST.loadAgg (vs := [.string (bs x93.Name), .slice a95 x93.Mends.length c96, .slice a100 x93.First.length c101, .int .i64 x93.Price, .int .i64 x93.Hours]) (at_agg (cells_ext hc105 hb78)) rfl rfl rfl Try.underlying72 rfl (info72).1 (info72).2.1) rfl rfl rfl ?_
  obtain ⟨x106, hx107, hm⟩ := bindE hm
  refine WL.call 69 #[.agg #[.string (bs x93.Name), .slice a95 x93.Mends.length c96, .slice a100 x93.First.length c101, .int .i64 x93.Price, .int .i64 x93.Hours]] rfl rfl (by kernel_rfl) (c_69 n x93 a95 c96 a100 c101 w77 hx107 (Rd.below hR97 hb78) hle98 (Rd.below hR102 hb78) hle103) ?_
  rintro _ w114 ⟨a108, c109, a111, c112, rfl, hE115, hR116⟩
  refine ⟨_, rfl, ?_⟩
  have hb117 : Ext w w114 := Ext.trans hb78 hE115
  have hL118 : w.heap.size ≤ w114.heap.size := Nat.le_trans hL79 hE115.size
  have hS119 : SH w114 w.heap.size [aOwn fInt 2 a108 c109 x106.Mends, aOwn fInt 2 a111 c112 x106.First, aNest fRepair 73 2 a5 c6 st76.2] := SH.add hS80 hE115 hL79 hR116
  obtain ⟨x120, hx121, hm⟩ := bindE hm
  obtain ⟨a122, c123, a125, c126, hS128⟩ := elem_Repair (SH.front 2 hS119) hx121
  refine WL.st (.pointer (some (at_ a5 (Int.toNat st76.1 * 5)))) (ST.index (T := fRepair.ty) (xs := st76.2) (SH.rdN (SH.front 2 hS119)) hx121 rfl rfl rfl Try.underlying24 (info73).1 (info73).2.1) rfl rfl rfl ?_
  refine WL.holeStore 0 [.string (bs x106.Name), .slice a108 x106.Mends.length c109, .slice a111 x106.First.length c112, .int .i64 x106.Price, .int .i64 x106.Hours] [.string (bs x106.Name), .slice a108 x106.Mends.length c109, .slice a111 x106.First.length c112, .int .i64 x106.Price, .int .i64 x106.Hours] (SH.front 2 hS128) hL118 rfl rfl rfl rfl rfl rfl rfl (info73).1 (info73).2.1 rfl rfl rfl ?_
  intro w129 hB130 hS131
  have hb132 : Ext w w129 := Below.trans hb117 hB130
  have hL133 : w.heap.size ≤ w129.heap.size := Nat.le_trans hL118 hB130.size
  refine WL.sub [(0, .slice a0' a_0.length c0'), (3, .slice a5 st76.2.length c6), (4, .int .i64 st76.1)] ⟨rfl, rfl, rfl, trivial⟩ ?_
  have hS134 : SH w129 w.heap.size [aNest fRepair 73 2 a5 c6 (st76.2.set (Int.toNat st76.1) x106), aOwn fInt 2 a122 c123 x120.Mends, aOwn fInt 2 a125 c126 x120.First] := SH.elemBack (Ix := [aOwn fInt 2 a108 c109 x106.Mends, aOwn fInt 2 a111 c112 x106.First]) (x' := x106) (SH.front 4 (SH.front 4 (SH.front 2 (SH.front 2 (SH.front 2 hS131))))) (.val (Fit.row' rfl (Fit.row' rfl (.val (.val .nil)))))
  refine WL.sub [(0, .slice a0' a_0.length c0'), (3, .slice a5 ((st76.2.set (Int.toNat st76.1) x106).length) c6), (4, .int .i64 st76.1)] ⟨rfl, by first | (simp only [List.length_set]; done) | (simp only [List.length_set]; rfl), rfl, trivial⟩ ?_
  refine WL.nil ?_
  refine WQ.block_normal ?_
  refine WQ.then_normal (hK92 _ _ _ ?_)
  refine WP.region ?_
  refine WL.runk 3 [0, 3, 4] [(0, .slice a0' a_0.length c0'), (3, .slice a5 ((st76.2.set (Int.toNat st76.1) x106).length) c6), (4, .int .i64 (wI64 (st76.1 + 1)))] (by kernel_rfl) ?_
  refine WL.nil ?_
  obtain rfl := Option.some.inj hm
  exact WQ.round hK83 ⟨((wI64 (st76.1 + 1)), (st76.2.set (Int.toNat st76.1) x106)), rfl, hb132, hL133, (SH.take 1 hS134), hl81⟩ (Nat.lt_succ_self _) ⟨rfl, rfl, rfl, trivial⟩

theorem c_38 (n : Nat) (a_0 : List Int) (a0' : Option Addr) (c0' : Nat) (b_1 : List Int) (a1' : Option Addr) (c1' : Nat) (w : World) {r : Bool} (hm : m_laws_eqInt64S n a_0 b_1 = some r) (h0 : Rd fInt.ty w a0' a_0) (_hle0 : a_0.length ≤ c0') (h1 : Rd fInt.ty w a1' b_1) (_hle1 : b_1.length ≤ c1') :
    CallV Try.prog 38 #[.slice a0' a_0.length c0', .slice a1' b_1.length c1'] w (fun v w' => v = .bool r ∧ Ext w w') := by
  unfold m_laws_eqInt64S at hm
  refine CallV.enter Try.func38 rfl (by kernel_rfl) Try.ntmps38 (env := [(0, .slice a0' a_0.length c0'), (1, .slice a1' b_1.length c1')]) ⟨rfl, rfl, trivial⟩ ?_
  refine WP.seq (fun K1 hK1 => ?_)
  refine WP.region ?_
  refine WL.runk 1 [0, 1] [(0, .slice a0' a_0.length c0'), (1, .slice a1' b_1.length c1')] (by kernel_rfl) ?_
  refine WL.nil ?_
  refine WQ.then_normal (hK1 _ _ _ ?_)
  refine WP.seq (fun K2 hK2 => ?_)
  refine WP.seq (fun K3 hK3 => ?_)
  refine WP.region ?_
  refine WL.runk 5 [0, 1, 10] [(0, .slice a0' a_0.length c0'), (1, .slice a1' b_1.length c1'), (10, .bool ((a_0.length : Int) != (b_1.length : Int)))] (by kernel_rfl) ?_
  refine WL.nil ?_
  refine WQ.then_normal (hK3 _ _ _ ?_)
  refine WP.cond ((a_0.length : Int) != (b_1.length : Int)) rfl rfl (fun hc4 => ?_) (fun hc4 => ?_)
  · have hm := iteT hm hc4
    refine WP.seq (fun K5 hK5 => ?_)
    refine WP.region ?_
    refine WL.runk 1 [4] [(4, .bool false)] (by kernel_rfl) ?_
    refine WL.nil ?_
    refine WQ.then_normal (hK5 _ _ _ ?_)
    refine WP.ret ?_
    refine WQ.then_ret ?_
    obtain rfl := Option.some.inj hm
    exact WQ.ret1 _ rfl rfl ⟨rfl, (Ext.refl w)⟩
  have hm := iteF hm hc4
  refine WP.skip ?_
  refine WQ.then_normal (hK2 _ _ _ ?_)
  refine WP.seq (fun K6 hK6 => ?_)
  refine WP.seq (fun K7 hK7 => ?_)
  refine WP.region ?_
  refine WL.runk 1 [0, 1, 5] [(0, .slice a0' a_0.length c0'), (1, .slice a1' b_1.length c1'), (5, .int .i64 0)] (by kernel_rfl) ?_
  refine WL.nil ?_
  refine WQ.then_normal (hK7 _ _ _ ?_)
  refine WP.block ?_
  obtain ⟨t19, ht20, hm⟩ := bindE hm
  have hmo14 := hm; clear hm
  refine WP.sub [(0, .slice a0' a_0.length c0'), (1, .slice a1' b_1.length c1'), (5, .int .i64 0)] ⟨rfl, rfl, rfl, trivial⟩ ?_
  refine WP.loop (fun n' env' w' => ∃ (st8 : Int) , env' = [(0, .slice a0' a_0.length c0'), (1, .slice a1' b_1.length c1'), (5, .int .i64 st8)] ∧ Ext w w' ∧ w.heap.size ≤ w'.heap.size ∧ SH w' w.heap.size [] ∧ loopN (m_laws_eqInt64S_l1 n a_0 b_1) n' st8 = some t19) n ⟨0, rfl, (Ext.refl w), (Nat.le_refl _), (SH.nil _ _), ht20⟩ ?_
  rintro n16 _ w9 ⟨st8, rfl, hb10, hL11, hS12, hl13⟩ K15 hK15
  obtain ⟨n17, s18, rfl, hm, hl13⟩ := loopN_some hl13
  unfold m_laws_eqInt64S_l1 at hm
  refine WP.seq (fun K21 hK21 => ?_)
  refine WP.seq (fun K22 hK22 => ?_)
  refine WP.region ?_
  refine WL.runk 4 [0, 1, 5, 14] [(0, .slice a0' a_0.length c0'), (1, .slice a1' b_1.length c1'), (5, .int .i64 st8), (14, .bool (decide (st8 < (a_0.length : Int))))] (by kernel_rfl) ?_
  refine WL.nil ?_
  refine WQ.then_normal (hK22 _ _ _ ?_)
  refine WP.cond (decide (st8 < (a_0.length : Int))) rfl rfl (fun hc23 => ?_) (fun hc23 => ?_)
  rotate_left
  · have hm := iteF hm hc23
    refine WP.exit ?_
    refine WQ.then_exit ?_
    refine WQ.then_exit ?_
    refine WQ.block_here ?_
    obtain rfl := Option.some.inj hm
    obtain rfl := afterN_done hl13
    have hm := hmo14
    refine WQ.then_normal (hK6 _ _ _ ?_)
    refine WP.seq (fun K37 hK37 => ?_)
    refine WP.region ?_
    refine WL.runk 1 [4] [(4, .bool true)] (by kernel_rfl) ?_
    refine WL.nil ?_
    refine WQ.then_normal (hK37 _ _ _ ?_)
    refine WP.ret ?_
    obtain rfl := Option.some.inj hm
    exact WQ.ret1 _ rfl rfl ⟨rfl, hb10⟩
  have hm := iteT hm hc23
  refine WP.skip ?_
  refine WQ.then_normal (hK21 _ _ _ ?_)
  refine WP.seq (fun K24 hK24 => ?_)
  refine WP.block ?_
  refine WP.seq (fun K25 hK25 => ?_)
  refine WP.quiet (by kernel_rfl) (by kernel_rfl) ?_
  refine QL.step1v 17 (.slice a0' a_0.length c0') rfl (fun _ => by kernel_rfl) ?_
  refine QL.step1v 18 (.int .i64 st8) rfl (fun _ => by kernel_rfl) ?_
  refine QL.subk [0, 1, 5, 17, 18] [(0, .slice a0' a_0.length c0'), (1, .slice a1' b_1.length c1'), (5, .int .i64 st8), (17, .slice a0' a_0.length c0'), (18, .int .i64 st8)] (by kernel_rfl) ?_
  obtain ⟨x26, hx27, hm⟩ := bindE hm
  refine QL.st (.pointer (some (at_ a0' (Int.toNat st8 * 1)))) (ST.index (T := fInt.ty) (xs := a_0) (Rd.below h0 hb10) hx27 rfl rfl rfl Try.underlying25 (info2).1 (info2).2.1) rfl rfl rfl ?_
  refine QL.st (.int .i64 x26) (ST.load (cell_ext (Rd.flat (F := fInt) (Rd.below h0 hb10) hx27 0 rfl)) rfl rfl Try.underlying2 rfl) rfl rfl rfl ?_
  refine QL.step1v 21 (.slice a1' b_1.length c1') rfl (fun _ => by kernel_rfl) ?_
  refine QL.step1v 22 (.int .i64 st8) rfl (fun _ => by kernel_rfl) ?_
  refine QL.subk [0, 1, 5, 20, 21, 22] [(0, .slice a0' a_0.length c0'), (1, .slice a1' b_1.length c1'), (5, .int .i64 st8), (20, .int .i64 x26), (21, .slice a1' b_1.length c1'), (22, .int .i64 st8)] (by kernel_rfl) ?_
  obtain ⟨x28, hx29, hm⟩ := bindE hm
  refine QL.st (.pointer (some (at_ a1' (Int.toNat st8 * 1)))) (ST.index (T := fInt.ty) (xs := b_1) (Rd.below h1 hb10) hx29 rfl rfl rfl Try.underlying25 (info2).1 (info2).2.1) rfl rfl rfl ?_
  refine QL.st (.int .i64 x28) (ST.load (cell_ext (Rd.flat (F := fInt) (Rd.below h1 hb10) hx29 0 rfl)) rfl rfl Try.underlying2 rfl) rfl rfl rfl ?_
  refine QL.step1v 25 (.bool (x26 != x28)) rfl (fun _ => by kernel_rfl) ?_
  refine QL.subk [0, 1, 5, 25] [(0, .slice a0' a_0.length c0'), (1, .slice a1' b_1.length c1'), (5, .int .i64 st8), (25, .bool (x26 != x28))] (by kernel_rfl) ?_
  refine QL.nil ?_
  intro w30 hE31
  have hb32 : Ext w w30 := Ext.trans hb10 hE31
  have hL33 : w.heap.size ≤ w30.heap.size := Nat.le_trans hL11 hE31.size
  have hS34 : SH w30 w.heap.size [] := SH.ext hS12 hE31
  refine WQ.then_normal (hK25 _ _ _ ?_)
  refine WP.cond (x26 != x28) rfl rfl (fun hc35 => ?_) (fun hc35 => ?_)
  rotate_left
  · have hm := iteF hm hc35
    refine WP.skip ?_
    refine WQ.block_normal ?_
    refine WQ.then_normal (hK24 _ _ _ ?_)
    refine WP.region ?_
    refine WL.runk 3 [0, 1, 5] [(0, .slice a0' a_0.length c0'), (1, .slice a1' b_1.length c1'), (5, .int .i64 (wI64 (st8 + 1)))] (by kernel_rfl) ?_
    refine WL.nil ?_
    obtain rfl := Option.some.inj hm
    exact WQ.round hK15 ⟨(wI64 (st8 + 1)), rfl, hb32, hL33, hS34, hl13⟩ (Nat.lt_succ_self _) ⟨rfl, rfl, rfl, trivial⟩
  have hm := iteT hm hc35
  refine WP.seq (fun K36 hK36 => ?_)
  refine WP.region ?_
  refine WL.runk 1 [4] [(4, .bool false)] (by kernel_rfl) ?_
  refine WL.nil ?_
  refine WQ.then_normal (hK36 _ _ _ ?_)
  refine WP.ret ?_
  refine WQ.block_ret ?_
  refine WQ.then_ret ?_
  refine WQ.then_ret ?_
  refine WQ.block_ret ?_
  refine WQ.then_ret ?_
  obtain rfl := Option.some.inj hm
  obtain rfl := afterN_done hl13
  have hm := hmo14
  obtain rfl := Option.some.inj hm
  exact WQ.ret1 _ rfl rfl ⟨rfl, hb32⟩

theorem c_73 (n : Nat) (a_0 : SRepair) (a0_1' : Option Addr) (c0_1' : Nat) (a0_2' : Option Addr) (c0_2' : Nat) (b_1 : SRepair) (a1_1' : Option Addr) (c1_1' : Nat) (a1_2' : Option Addr) (c1_2' : Nat) (w : World) {r : Bool} (hm : m_laws_eqRepair n a_0 b_1 = some r) (hr0_1 : Rd fInt.ty w a0_1' a_0.Mends) (hle0_1 : a_0.Mends.length ≤ c0_1') (hr0_2 : Rd fInt.ty w a0_2' a_0.First) (hle0_2 : a_0.First.length ≤ c0_2') (hr1_1 : Rd fInt.ty w a1_1' b_1.Mends) (hle1_1 : b_1.Mends.length ≤ c1_1') (hr1_2 : Rd fInt.ty w a1_2' b_1.First) (hle1_2 : b_1.First.length ≤ c1_2') :
    CallV Try.prog 73 #[.agg #[.string (bs a_0.Name), .slice a0_1' a_0.Mends.length c0_1', .slice a0_2' a_0.First.length c0_2', .int .i64 a_0.Price, .int .i64 a_0.Hours], .agg #[.string (bs b_1.Name), .slice a1_1' b_1.Mends.length c1_1', .slice a1_2' b_1.First.length c1_2', .int .i64 b_1.Price, .int .i64 b_1.Hours]] w (fun v w' => v = .bool r ∧ Ext w w') := by
  unfold m_laws_eqRepair at hm
  refine CallV.enter Try.func73 rfl (by kernel_rfl) Try.ntmps73 (env := [(0, .agg #[.string (bs a_0.Name), .slice a0_1' a_0.Mends.length c0_1', .slice a0_2' a_0.First.length c0_2', .int .i64 a_0.Price, .int .i64 a_0.Hours]), (1, .agg #[.string (bs b_1.Name), .slice a1_1' b_1.Mends.length c1_1', .slice a1_2' b_1.First.length c1_2', .int .i64 b_1.Price, .int .i64 b_1.Hours])]) ⟨rfl, rfl, trivial⟩ ?_
  refine WP.seq (fun K1 hK1 => ?_)
  refine WP.region ?_
  refine WL.box 73 [.string (bs a_0.Name), .slice a0_1' a_0.Mends.length c0_1', .slice a0_2' a_0.First.length c0_2', .int .i64 a_0.Price, .int .i64 a_0.Hours] 2 (by kernel_rfl) rfl rfl rfl rfl ?_
  intro b2 w3 hE4 hR5
  have hb7 : Ext w w3 := Ext.trans (Ext.refl w) hE4
  have hL8 : w.heap.size ≤ w3.heap.size := Nat.le_trans (Nat.le_refl _) hE4.size
  have hS9 : SH w3 w.heap.size [aBox 73 b2 [.string (bs a_0.Name), .slice a0_1' a_0.Mends.length c0_1', .slice a0_2' a_0.First.length c0_2', .int .i64 a_0.Price, .int .i64 a_0.Hours]] := SH.add (SH.nil _ _) hE4 (Nat.le_refl _) hR5
  refine WL.box 73 [.string (bs b_1.Name), .slice a1_1' b_1.Mends.length c1_1', .slice a1_2' b_1.First.length c1_2', .int .i64 b_1.Price, .int .i64 b_1.Hours] 3 (by kernel_rfl) rfl rfl rfl rfl ?_
  intro b10 w11 hE12 hR13
  have hb15 : Ext w w11 := Ext.trans hb7 hE12
  have hL16 : w.heap.size ≤ w11.heap.size := Nat.le_trans hL8 hE12.size
  have hS17 : SH w11 w.heap.size [aBox 73 b10 [.string (bs b_1.Name), .slice a1_1' b_1.Mends.length c1_1', .slice a1_2' b_1.First.length c1_2', .int .i64 b_1.Price, .int .i64 b_1.Hours], aBox 73 b2 [.string (bs a_0.Name), .slice a0_1' a_0.Mends.length c0_1', .slice a0_2' a_0.First.length c0_2', .int .i64 a_0.Price, .int .i64 a_0.Hours]] := SH.add hS9 hE12 hL8 hR13
  refine WL.runk 1 [2, 3] [(2, .pointer (some ⟨b2, 0, none⟩)), (3, .pointer (some ⟨b10, 0, none⟩))] (by kernel_rfl) ?_
  refine WL.nil ?_
  refine WQ.then_normal (hK1 _ _ _ ?_)
  refine WP.seq (fun K18 hK18 => ?_)
  refine WP.seq (fun K19 hK19 => ?_)
  refine WP.region ?_
  refine WL.runk 1 [2, 3, 5] [(2, .pointer (some ⟨b2, 0, none⟩)), (3, .pointer (some ⟨b10, 0, none⟩)), (5, .pointer (some ⟨b2, 0, none⟩))] (by kernel_rfl) ?_
  refine WL.st (.string (bs a_0.Name)) (ST.load (cell_ext (SH.boxAt (SH.front 1 hS17) 0 _ rfl)) rfl rfl Try.underlying9 rfl) rfl rfl rfl ?_
  refine WL.runk 1 [2, 3, 6, 7] [(2, .pointer (some ⟨b2, 0, none⟩)), (3, .pointer (some ⟨b10, 0, none⟩)), (6, .string (bs a_0.Name)), (7, .pointer (some ⟨b10, 0, none⟩))] (by kernel_rfl) ?_
  refine WL.st (.string (bs b_1.Name)) (ST.load (cell_ext (SH.boxAt (SH.front 0 hS17) 0 _ rfl)) rfl rfl Try.underlying9 rfl) rfl rfl rfl ?_
  refine WL.st (.bool (!(a_0.Name == b_1.Name))) (ST.strne (x := a_0.Name) (y := b_1.Name) rfl rfl rfl) rfl rfl rfl ?_
  refine WL.sub [(2, .pointer (some ⟨b2, 0, none⟩)), (3, .pointer (some ⟨b10, 0, none⟩)), (9, .bool (!(a_0.Name == b_1.Name)))] ⟨rfl, rfl, rfl, trivial⟩ ?_
  refine WL.nil ?_
  refine WQ.then_normal (hK19 _ _ _ ?_)
  refine WP.cond (!(a_0.Name == b_1.Name)) rfl rfl (fun hc20 => ?_) (fun hc20 => ?_)
  · have hm := iteT hm hc20
    refine WP.seq (fun K21 hK21 => ?_)
    refine WP.region ?_
    refine WL.runk 1 [4] [(4, .bool false)] (by kernel_rfl) ?_
    refine WL.nil ?_
    refine WQ.then_normal (hK21 _ _ _ ?_)
    refine WP.ret ?_
    refine WQ.then_ret ?_
    obtain rfl := Option.some.inj hm
    exact WQ.ret1 _ rfl rfl ⟨rfl, hb15⟩
  have hm := iteF hm hc20
  refine WP.skip ?_
  refine WQ.then_normal (hK18 _ _ _ ?_)
  refine WP.seq (fun K22 hK22 => ?_)
  refine WP.seq (fun K23 hK23 => ?_)
  refine WP.region ?_
  refine WL.runk 1 [2, 3, 10] [(2, .pointer (some ⟨b2, 0, none⟩)), (3, .pointer (some ⟨b10, 0, none⟩)), (10, .pointer (some ⟨b2, 1, none⟩))] (by kernel_rfl) ?_
  refine WL.st (.slice a0_1' a_0.Mends.length c0_1') (ST.load (cell_ext (SH.boxAt (SH.front 1 hS17) 1 _ rfl)) rfl rfl Try.underlying25 rfl) rfl rfl rfl ?_
  refine WL.runk 1 [2, 3, 11, 12] [(2, .pointer (some ⟨b2, 0, none⟩)), (3, .pointer (some ⟨b10, 0, none⟩)), (11, .slice a0_1' a_0.Mends.length c0_1'), (12, .pointer (some ⟨b10, 1, none⟩))] (by kernel_rfl) ?_
  refine WL.st (.slice a1_1' b_1.Mends.length c1_1') (ST.load (cell_ext (SH.boxAt (SH.front 0 hS17) 1 _ rfl)) rfl rfl Try.underlying25 rfl) rfl rfl rfl ?_
  obtain ⟨x24, hx25, hm⟩ := bindE hm
  refine WL.call 38 #[.slice a0_1' a_0.Mends.length c0_1', .slice a1_1' b_1.Mends.length c1_1'] rfl rfl (by kernel_rfl) (c_38 n a_0.Mends a0_1' c0_1' b_1.Mends a1_1' c1_1' w11 hx25 (Rd.below hr0_1 hb15) hle0_1 (Rd.below hr1_1 hb15) hle1_1) ?_
  rintro _ w26 ⟨rfl, hE27⟩
  refine ⟨_, rfl, ?_⟩
  have hb29 : Ext w w26 := Ext.trans hb15 hE27
  have hL30 : w.heap.size ≤ w26.heap.size := Nat.le_trans hL16 hE27.size
  have hS31 : SH w26 w.heap.size [aBox 73 b10 [.string (bs b_1.Name), .slice a1_1' b_1.Mends.length c1_1', .slice a1_2' b_1.First.length c1_2', .int .i64 b_1.Price, .int .i64 b_1.Hours], aBox 73 b2 [.string (bs a_0.Name), .slice a0_1' a_0.Mends.length c0_1', .slice a0_2' a_0.First.length c0_2', .int .i64 a_0.Price, .int .i64 a_0.Hours]] := SH.ext hS17 hE27
  refine WL.runk 1 [2, 3, 15] [(2, .pointer (some ⟨b2, 0, none⟩)), (3, .pointer (some ⟨b10, 0, none⟩)), (15, .bool (!x24))] (by kernel_rfl) ?_
  refine WL.nil ?_
  refine WQ.then_normal (hK23 _ _ _ ?_)
  refine WP.cond (!x24) rfl rfl (fun hc32 => ?_) (fun hc32 => ?_)
  · have hm := iteT hm hc32
    refine WP.seq (fun K33 hK33 => ?_)
    refine WP.region ?_
    refine WL.runk 1 [4] [(4, .bool false)] (by kernel_rfl) ?_
    refine WL.nil ?_
    refine WQ.then_normal (hK33 _ _ _ ?_)
    refine WP.ret ?_
    refine WQ.then_ret ?_
    obtain rfl := Option.some.inj hm
    exact WQ.ret1 _ rfl rfl ⟨rfl, hb29⟩
  have hm := iteF hm hc32
  refine WP.skip ?_
  refine WQ.then_normal (hK22 _ _ _ ?_)
  refine WP.seq (fun K34 hK34 => ?_)
  refine WP.seq (fun K35 hK35 => ?_)
  refine WP.region ?_
  refine WL.runk 1 [2, 3, 16] [(2, .pointer (some ⟨b2, 0, none⟩)), (3, .pointer (some ⟨b10, 0, none⟩)), (16, .pointer (some ⟨b2, 2, none⟩))] (by kernel_rfl) ?_
  refine WL.st (.slice a0_2' a_0.First.length c0_2') (ST.load (cell_ext (SH.boxAt (SH.front 1 hS31) 2 _ rfl)) rfl rfl Try.underlying25 rfl) rfl rfl rfl ?_
  refine WL.runk 1 [2, 3, 17, 18] [(2, .pointer (some ⟨b2, 0, none⟩)), (3, .pointer (some ⟨b10, 0, none⟩)), (17, .slice a0_2' a_0.First.length c0_2'), (18, .pointer (some ⟨b10, 2, none⟩))] (by kernel_rfl) ?_
  refine WL.st (.slice a1_2' b_1.First.length c1_2') (ST.load (cell_ext (SH.boxAt (SH.front 0 hS31) 2 _ rfl)) rfl rfl Try.underlying25 rfl) rfl rfl rfl ?_
  obtain ⟨x36, hx37, hm⟩ := bindE hm
  refine WL.call 38 #[.slice a0_2' a_0.First.length c0_2', .slice a1_2' b_1.First.length c1_2'] rfl rfl (by kernel_rfl) (c_38 n a_0.First a0_2' c0_2' b_1.First a1_2' c1_2' w26 hx37 (Rd.below hr0_2 hb29) hle0_2 (Rd.below hr1_2 hb29) hle1_2) ?_
  rintro _ w38 ⟨rfl, hE39⟩
  refine ⟨_, rfl, ?_⟩
  have hb41 : Ext w w38 := Ext.trans hb29 hE39
  have hL42 : w.heap.size ≤ w38.heap.size := Nat.le_trans hL30 hE39.size
  have hS43 : SH w38 w.heap.size [aBox 73 b10 [.string (bs b_1.Name), .slice a1_1' b_1.Mends.length c1_1', .slice a1_2' b_1.First.length c1_2', .int .i64 b_1.Price, .int .i64 b_1.Hours], aBox 73 b2 [.string (bs a_0.Name), .slice a0_1' a_0.Mends.length c0_1', .slice a0_2' a_0.First.length c0_2', .int .i64 a_0.Price, .int .i64 a_0.Hours]] := SH.ext hS31 hE39
  refine WL.runk 1 [2, 3, 21] [(2, .pointer (some ⟨b2, 0, none⟩)), (3, .pointer (some ⟨b10, 0, none⟩)), (21, .bool (!x36))] (by kernel_rfl) ?_
  refine WL.nil ?_
  refine WQ.then_normal (hK35 _ _ _ ?_)
  refine WP.cond (!x36) rfl rfl (fun hc44 => ?_) (fun hc44 => ?_)
  · have hm := iteT hm hc44
    refine WP.seq (fun K45 hK45 => ?_)
    refine WP.region ?_
    refine WL.runk 1 [4] [(4, .bool false)] (by kernel_rfl) ?_
    refine WL.nil ?_
    refine WQ.then_normal (hK45 _ _ _ ?_)
    refine WP.ret ?_
    refine WQ.then_ret ?_
    obtain rfl := Option.some.inj hm
    exact WQ.ret1 _ rfl rfl ⟨rfl, hb41⟩
  have hm := iteF hm hc44
  refine WP.skip ?_
  refine WQ.then_normal (hK34 _ _ _ ?_)
  refine WP.seq (fun K46 hK46 => ?_)
  refine WP.seq (fun K47 hK47 => ?_)
  refine WP.region ?_
  refine WL.runk 1 [2, 3, 22] [(2, .pointer (some ⟨b2, 0, none⟩)), (3, .pointer (some ⟨b10, 0, none⟩)), (22, .pointer (some ⟨b2, 3, none⟩))] (by kernel_rfl) ?_
  refine WL.st (.int .i64 a_0.Price) (ST.load (cell_ext (SH.boxAt (SH.front 1 hS43) 3 _ rfl)) rfl rfl Try.underlying2 rfl) rfl rfl rfl ?_
  refine WL.runk 1 [2, 3, 23, 24] [(2, .pointer (some ⟨b2, 0, none⟩)), (3, .pointer (some ⟨b10, 0, none⟩)), (23, .int .i64 a_0.Price), (24, .pointer (some ⟨b10, 3, none⟩))] (by kernel_rfl) ?_
  refine WL.st (.int .i64 b_1.Price) (ST.load (cell_ext (SH.boxAt (SH.front 0 hS43) 3 _ rfl)) rfl rfl Try.underlying2 rfl) rfl rfl rfl ?_
  refine WL.runk 1 [2, 3, 26] [(2, .pointer (some ⟨b2, 0, none⟩)), (3, .pointer (some ⟨b10, 0, none⟩)), (26, .bool (a_0.Price != b_1.Price))] (by kernel_rfl) ?_
  refine WL.nil ?_
  refine WQ.then_normal (hK47 _ _ _ ?_)
  refine WP.cond (a_0.Price != b_1.Price) rfl rfl (fun hc48 => ?_) (fun hc48 => ?_)
  · have hm := iteT hm hc48
    refine WP.seq (fun K49 hK49 => ?_)
    refine WP.region ?_
    refine WL.runk 1 [4] [(4, .bool false)] (by kernel_rfl) ?_
    refine WL.nil ?_
    refine WQ.then_normal (hK49 _ _ _ ?_)
    refine WP.ret ?_
    refine WQ.then_ret ?_
    obtain rfl := Option.some.inj hm
    exact WQ.ret1 _ rfl rfl ⟨rfl, hb41⟩
  have hm := iteF hm hc48
  refine WP.skip ?_
  refine WQ.then_normal (hK46 _ _ _ ?_)
  refine WP.seq (fun K50 hK50 => ?_)
  refine WP.seq (fun K51 hK51 => ?_)
  refine WP.region ?_
  refine WL.runk 1 [3, 27] [(3, .pointer (some ⟨b10, 0, none⟩)), (27, .pointer (some ⟨b2, 4, none⟩))] (by kernel_rfl) ?_
  refine WL.st (.int .i64 a_0.Hours) (ST.load (cell_ext (SH.boxAt (SH.front 1 hS43) 4 _ rfl)) rfl rfl Try.underlying2 rfl) rfl rfl rfl ?_
  refine WL.runk 1 [28, 29] [(28, .int .i64 a_0.Hours), (29, .pointer (some ⟨b10, 4, none⟩))] (by kernel_rfl) ?_
  refine WL.st (.int .i64 b_1.Hours) (ST.load (cell_ext (SH.boxAt (SH.front 0 hS43) 4 _ rfl)) rfl rfl Try.underlying2 rfl) rfl rfl rfl ?_
  refine WL.runk 1 [31] [(31, .bool (a_0.Hours != b_1.Hours))] (by kernel_rfl) ?_
  refine WL.nil ?_
  refine WQ.then_normal (hK51 _ _ _ ?_)
  refine WP.cond (a_0.Hours != b_1.Hours) rfl rfl (fun hc52 => ?_) (fun hc52 => ?_)
  · have hm := iteT hm hc52
    refine WP.seq (fun K53 hK53 => ?_)
    refine WP.region ?_
    refine WL.runk 1 [4] [(4, .bool false)] (by kernel_rfl) ?_
    refine WL.nil ?_
    refine WQ.then_normal (hK53 _ _ _ ?_)
    refine WP.ret ?_
    refine WQ.then_ret ?_
    obtain rfl := Option.some.inj hm
    exact WQ.ret1 _ rfl rfl ⟨rfl, hb41⟩
  have hm := iteF hm hc52
  refine WP.skip ?_
  refine WQ.then_normal (hK50 _ _ _ ?_)
  refine WP.seq (fun K54 hK54 => ?_)
  refine WP.region ?_
  refine WL.runk 1 [4] [(4, .bool true)] (by kernel_rfl) ?_
  refine WL.nil ?_
  refine WQ.then_normal (hK54 _ _ _ ?_)
  refine WP.ret ?_
  obtain rfl := Option.some.inj hm
  exact WQ.ret1 _ rfl rfl ⟨rfl, hb41⟩

theorem c_32 (n : Nat) (a_0 : List SRepair) (a0' : Option Addr) (c0' : Nat) (b_1 : List SRepair) (a1' : Option Addr) (c1' : Nat) (w : World) {r : Bool} (hm : m_laws_eqRepairS n a_0 b_1 = some r) (h0 : Rd fRepair.ty w a0' a_0) (_hle0 : a_0.length ≤ c0') (h1 : Rd fRepair.ty w a1' b_1) (_hle1 : b_1.length ≤ c1') :
    CallV Try.prog 32 #[.slice a0' a_0.length c0', .slice a1' b_1.length c1'] w (fun v w' => v = .bool r ∧ Ext w w') := by
  unfold m_laws_eqRepairS at hm
  refine CallV.enter Try.func32 rfl (by kernel_rfl) Try.ntmps32 (env := [(0, .slice a0' a_0.length c0'), (1, .slice a1' b_1.length c1')]) ⟨rfl, rfl, trivial⟩ ?_
  refine WP.seq (fun K1 hK1 => ?_)
  refine WP.region ?_
  refine WL.runk 1 [0, 1] [(0, .slice a0' a_0.length c0'), (1, .slice a1' b_1.length c1')] (by kernel_rfl) ?_
  refine WL.nil ?_
  refine WQ.then_normal (hK1 _ _ _ ?_)
  refine WP.seq (fun K2 hK2 => ?_)
  refine WP.seq (fun K3 hK3 => ?_)
  refine WP.region ?_
  refine WL.runk 5 [0, 1, 10] [(0, .slice a0' a_0.length c0'), (1, .slice a1' b_1.length c1'), (10, .bool ((a_0.length : Int) != (b_1.length : Int)))] (by kernel_rfl) ?_
  refine WL.nil ?_
  refine WQ.then_normal (hK3 _ _ _ ?_)
  refine WP.cond ((a_0.length : Int) != (b_1.length : Int)) rfl rfl (fun hc4 => ?_) (fun hc4 => ?_)
  · have hm := iteT hm hc4
    refine WP.seq (fun K5 hK5 => ?_)
    refine WP.region ?_
    refine WL.runk 1 [4] [(4, .bool false)] (by kernel_rfl) ?_
    refine WL.nil ?_
    refine WQ.then_normal (hK5 _ _ _ ?_)
    refine WP.ret ?_
    refine WQ.then_ret ?_
    obtain rfl := Option.some.inj hm
    exact WQ.ret1 _ rfl rfl ⟨rfl, (Ext.refl w)⟩
  have hm := iteF hm hc4
  refine WP.skip ?_
  refine WQ.then_normal (hK2 _ _ _ ?_)
  refine WP.seq (fun K6 hK6 => ?_)
  refine WP.seq (fun K7 hK7 => ?_)
  refine WP.region ?_
  refine WL.runk 1 [0, 1, 5] [(0, .slice a0' a_0.length c0'), (1, .slice a1' b_1.length c1'), (5, .int .i64 0)] (by kernel_rfl) ?_
  refine WL.nil ?_
  refine WQ.then_normal (hK7 _ _ _ ?_)
  refine WP.block ?_
  obtain ⟨t19, ht20, hm⟩ := bindE hm
  have hmo14 := hm; clear hm
  refine WP.sub [(0, .slice a0' a_0.length c0'), (1, .slice a1' b_1.length c1'), (5, .int .i64 0)] ⟨rfl, rfl, rfl, trivial⟩ ?_
  refine WP.loop (fun n' env' w' => ∃ (st8 : Int) , env' = [(0, .slice a0' a_0.length c0'), (1, .slice a1' b_1.length c1'), (5, .int .i64 st8)] ∧ Ext w w' ∧ w.heap.size ≤ w'.heap.size ∧ SH w' w.heap.size [] ∧ loopN (m_laws_eqRepairS_l1 n a_0 b_1) n' st8 = some t19) n ⟨0, rfl, (Ext.refl w), (Nat.le_refl _), (SH.nil _ _), ht20⟩ ?_
  rintro n16 _ w9 ⟨st8, rfl, hb10, hL11, hS12, hl13⟩ K15 hK15
  obtain ⟨n17, s18, rfl, hm, hl13⟩ := loopN_some hl13
  unfold m_laws_eqRepairS_l1 at hm
  refine WP.seq (fun K21 hK21 => ?_)
  refine WP.seq (fun K22 hK22 => ?_)
  refine WP.region ?_
  refine WL.runk 4 [0, 1, 5, 14] [(0, .slice a0' a_0.length c0'), (1, .slice a1' b_1.length c1'), (5, .int .i64 st8), (14, .bool (decide (st8 < (a_0.length : Int))))] (by kernel_rfl) ?_
  refine WL.nil ?_
  refine WQ.then_normal (hK22 _ _ _ ?_)
  refine WP.cond (decide (st8 < (a_0.length : Int))) rfl rfl (fun hc23 => ?_) (fun hc23 => ?_)
  rotate_left
  · have hm := iteF hm hc23
    refine WP.exit ?_
    refine WQ.then_exit ?_
    refine WQ.then_exit ?_
    refine WQ.block_here ?_
    obtain rfl := Option.some.inj hm
    obtain rfl := afterN_done hl13
    have hm := hmo14
    refine WQ.then_normal (hK6 _ _ _ ?_)
    refine WP.seq (fun K63 hK63 => ?_)
    refine WP.region ?_
    refine WL.runk 1 [4] [(4, .bool true)] (by kernel_rfl) ?_
    refine WL.nil ?_
    refine WQ.then_normal (hK63 _ _ _ ?_)
    refine WP.ret ?_
    obtain rfl := Option.some.inj hm
    exact WQ.ret1 _ rfl rfl ⟨rfl, hb10⟩
  have hm := iteT hm hc23
  refine WP.skip ?_
  refine WQ.then_normal (hK21 _ _ _ ?_)
  refine WP.seq (fun K24 hK24 => ?_)
  refine WP.block ?_
  refine WP.seq (fun K25 hK25 => ?_)
  refine WP.quiet (by kernel_rfl) (by kernel_rfl) ?_
  refine QL.step1v 17 (.slice a0' a_0.length c0') rfl (fun _ => by kernel_rfl) ?_
  refine QL.step1v 18 (.int .i64 st8) rfl (fun _ => by kernel_rfl) ?_
  refine QL.subk [0, 1, 5, 17, 18] [(0, .slice a0' a_0.length c0'), (1, .slice a1' b_1.length c1'), (5, .int .i64 st8), (17, .slice a0' a_0.length c0'), (18, .int .i64 st8)] (by kernel_rfl) ?_
  obtain ⟨x26, hx27, hm⟩ := bindE hm
  obtain ⟨a28, c29, a33, c34, hc38, hR30, hle31, hR35, hle36⟩ := nest_Repair h0 hx27
  refine QL.st (.pointer (some (at_ a0' (Int.toNat st8 * 5)))) (ST.index (T := fRepair.ty) (xs := a_0) (Rd.below h0 hb10) hx27 rfl rfl rfl Try.underlying24 (info73).1 (info73).2.1) rfl rfl rfl ?_
  refine QL.st (.agg #[.string (bs x26.Name), .slice a28 x26.Mends.length c29, .slice a33 x26.First.length c34, .int .i64 x26.Price, .int .i64 x26.Hours]) (ST.loadAgg (vs := [.string (bs x26.Name), .slice a28 x26.Mends.length c29, .slice a33 x26.First.length c34, .int .i64 x26.Price, .int .i64 x26.Hours]) (at_agg (cells_ext hc38 hb10)) rfl rfl rfl Try.underlying73 rfl (info73).1 (info73).2.1) rfl rfl rfl ?_
  refine QL.step1v 21 (.slice a1' b_1.length c1') rfl (fun _ => by kernel_rfl) ?_
  refine QL.step1v 22 (.int .i64 st8) rfl (fun _ => by kernel_rfl) ?_
  refine QL.subk [0, 1, 5, 20, 21, 22] [(0, .slice a0' a_0.length c0'), (1, .slice a1' b_1.length c1'), (5, .int .i64 st8), (20, .agg #[.string (bs x26.Name), .slice a28 x26.Mends.length c29, .slice a33 x26.First.length c34, .int .i64 x26.Price, .int .i64 x26.Hours]), (21, .slice a1' b_1.length c1'), (22, .int .i64 st8)] (by kernel_rfl) ?_
  obtain ⟨x39, hx40, hm⟩ := bindE hm
  obtain ⟨a41, c42, a46, c47, hc51, hR43, hle44, hR48, hle49⟩ := nest_Repair h1 hx40
  refine QL.st (.pointer (some (at_ a1' (Int.toNat st8 * 5)))) (ST.index (T := fRepair.ty) (xs := b_1) (Rd.below h1 hb10) hx40 rfl rfl rfl Try.underlying24 (info73).1 (info73).2.1) rfl rfl rfl ?_
  refine QL.st (.agg #[.string (bs x39.Name), .slice a41 x39.Mends.length c42, .slice a46 x39.First.length c47, .int .i64 x39.Price, .int .i64 x39.Hours]) (ST.loadAgg (vs := [.string (bs x39.Name), .slice a41 x39.Mends.length c42, .slice a46 x39.First.length c47, .int .i64 x39.Price, .int .i64 x39.Hours]) (at_agg (cells_ext hc51 hb10)) rfl rfl rfl Try.underlying73 rfl (info73).1 (info73).2.1) rfl rfl rfl ?_
  obtain ⟨x52, hx53, hm⟩ := bindE hm
  refine QL.call 73 #[.agg #[.string (bs x26.Name), .slice a28 x26.Mends.length c29, .slice a33 x26.First.length c34, .int .i64 x26.Price, .int .i64 x26.Hours], .agg #[.string (bs x39.Name), .slice a41 x39.Mends.length c42, .slice a46 x39.First.length c47, .int .i64 x39.Price, .int .i64 x39.Hours]] (.bool x52) (fun _ => by kernel_rfl) (fun w54 hE55 => c_73 n x26 a28 c29 a33 c34 x39 a41 c42 a46 c47 w54 hx53 (Rd.below (Rd.below hR30 hb10) hE55) hle31 (Rd.below (Rd.below hR35 hb10) hE55) hle36 (Rd.below (Rd.below hR43 hb10) hE55) hle44 (Rd.below (Rd.below hR48 hb10) hE55) hle49) rfl rfl rfl ?_
  refine QL.step1v 26 (.bool (!x52)) rfl (fun _ => by kernel_rfl) ?_
  refine QL.subk [0, 1, 5, 26] [(0, .slice a0' a_0.length c0'), (1, .slice a1' b_1.length c1'), (5, .int .i64 st8), (26, .bool (!x52))] (by kernel_rfl) ?_
  refine QL.nil ?_
  intro w56 hE57
  have hb58 : Ext w w56 := Ext.trans hb10 hE57
  have hL59 : w.heap.size ≤ w56.heap.size := Nat.le_trans hL11 hE57.size
  have hS60 : SH w56 w.heap.size [] := SH.ext hS12 hE57
  refine WQ.then_normal (hK25 _ _ _ ?_)
  refine WP.cond (!x52) rfl rfl (fun hc61 => ?_) (fun hc61 => ?_)
  rotate_left
  · have hm := iteF hm hc61
    refine WP.skip ?_
    refine WQ.block_normal ?_
    refine WQ.then_normal (hK24 _ _ _ ?_)
    refine WP.region ?_
    refine WL.runk 3 [0, 1, 5] [(0, .slice a0' a_0.length c0'), (1, .slice a1' b_1.length c1'), (5, .int .i64 (wI64 (st8 + 1)))] (by kernel_rfl) ?_
    refine WL.nil ?_
    obtain rfl := Option.some.inj hm
    exact WQ.round hK15 ⟨(wI64 (st8 + 1)), rfl, hb58, hL59, hS60, hl13⟩ (Nat.lt_succ_self _) ⟨rfl, rfl, rfl, trivial⟩
  have hm := iteT hm hc61
  refine WP.seq (fun K62 hK62 => ?_)
  refine WP.region ?_
  refine WL.runk 1 [4] [(4, .bool false)] (by kernel_rfl) ?_
  refine WL.nil ?_
  refine WQ.then_normal (hK62 _ _ _ ?_)
  refine WP.ret ?_
  refine WQ.block_ret ?_
  refine WQ.then_ret ?_
  refine WQ.then_ret ?_
  refine WQ.block_ret ?_
  refine WQ.then_ret ?_
  obtain rfl := Option.some.inj hm
  obtain rfl := afterN_done hl13
  have hm := hmo14
  obtain rfl := Option.some.inj hm
  exact WQ.ret1 _ rfl rfl ⟨rfl, hb58⟩

theorem c_43 (n : Nat) (a_0 : List Int) (a0' : Option Addr) (c0' : Nat) (k_1 : Int) (w : World) (w0 : World) (B : Nat) (L : List Asrt) {r : Int × List Int} (hm : m_laws_markInt64S n a_0 k_1 = some r) (_hE0 : Ext w0 w) (_hW : w0.heap.size ≤ B) (hL : B ≤ w.heap.size) (hS : SH w B (aOwn fInt 2 a0' c0' a_0 :: L)) :
    CallV Try.prog 43 #[.slice a0' a_0.length c0', .int .i64 k_1] w (fun v w' => v = .int .i64 r.1 ∧ Below B w w' ∧ SH w' B (aOwn fInt 2 a0' c0' r.2 :: L) ∧ r.2.length = a_0.length) := by
  unfold m_laws_markInt64S at hm
  refine CallV.enter Try.func43 rfl (by kernel_rfl) Try.ntmps43 (env := [(0, .slice a0' a_0.length c0'), (1, .int .i64 k_1)]) ⟨rfl, rfl, trivial⟩ ?_
  refine WP.seq (fun K1 hK1 => ?_)
  refine WP.region ?_
  refine WL.runk 1 [0, 1] [(0, .slice a0' a_0.length c0'), (1, .int .i64 k_1)] (by kernel_rfl) ?_
  refine WL.nil ?_
  refine WQ.then_normal (hK1 _ _ _ ?_)
  refine WP.seq (fun K2 hK2 => ?_)
  refine WP.seq (fun K3 hK3 => ?_)
  refine WP.region ?_
  refine WL.runk 1 [0, 1, 5] [(0, .slice a0' a_0.length c0'), (1, .int .i64 k_1), (5, .int .i64 0)] (by kernel_rfl) ?_
  refine WL.nil ?_
  refine WQ.then_normal (hK3 _ _ _ ?_)
  refine WP.block ?_
  obtain ⟨t42, ht43, hm⟩ := bindE hm
  have hmo37 := hm; clear hm
  refine WP.sub [(0, .slice a0' a_0.length c0'), (1, .int .i64 k_1), (5, .int .i64 0)] ⟨rfl, rfl, rfl, trivial⟩ ?_
  refine WP.loop (fun n' env' w' => ∃ (st31 : Int × Int × List Int) , env' = [(0, .slice a0' st31.2.2.length c0'), (1, .int .i64 st31.1), (5, .int .i64 st31.2.1)] ∧ Below B w w' ∧ B ≤ w'.heap.size ∧ SH w' B (aOwn fInt 2 a0' c0' st31.2.2 :: L) ∧ st31.2.2.length = a_0.length ∧ loopN (m_laws_markInt64S_l1 n) n' st31 = some t42) n ⟨(k_1, 0, a_0), rfl, (Below.refl _ _), hL, hS, rfl, ht43⟩ ?_
  rintro n39 _ w32 ⟨st31, rfl, hb33, hL34, hS35, hn44, hl36⟩ K38 hK38
  obtain ⟨n40, s41, rfl, hm, hl36⟩ := loopN_some hl36
  unfold m_laws_markInt64S_l1 at hm
  refine WP.seq (fun K45 hK45 => ?_)
  refine WP.seq (fun K46 hK46 => ?_)
  refine WP.region ?_
  refine WL.runk 4 [0, 1, 5, 9] [(0, .slice a0' st31.2.2.length c0'), (1, .int .i64 st31.1), (5, .int .i64 st31.2.1), (9, .bool (decide (st31.2.1 < (st31.2.2.length : Int))))] (by kernel_rfl) ?_
  refine WL.nil ?_
  refine WQ.then_normal (hK46 _ _ _ ?_)
  refine WP.cond (decide (st31.2.1 < (st31.2.2.length : Int))) rfl rfl (fun hc47 => ?_) (fun hc47 => ?_)
  rotate_left
  · have hm := iteF hm hc47
    refine WP.exit ?_
    refine WQ.then_exit ?_
    refine WQ.then_exit ?_
    refine WQ.block_here ?_
    obtain rfl := Option.some.inj hm
    obtain rfl := afterN_done hl36
    have hm := hmo37
    refine WQ.then_normal (hK2 _ _ _ ?_)
    refine WP.seq (fun K58 hK58 => ?_)
    refine WP.region ?_
    refine WL.runk 2 [4] [(4, .int .i64 st31.1)] (by kernel_rfl) ?_
    refine WL.nil ?_
    refine WQ.then_normal (hK58 _ _ _ ?_)
    refine WP.ret ?_
    obtain rfl := Option.some.inj hm
    exact WQ.ret1 _ rfl rfl ⟨rfl, hb33, hS35, hn44⟩
  have hm := iteT hm hc47
  refine WP.skip ?_
  refine WQ.then_normal (hK45 _ _ _ ?_)
  refine WP.seq (fun K48 hK48 => ?_)
  refine WP.block ?_
  refine WP.seq (fun K49 hK49 => ?_)
  refine WP.region ?_
  refine WL.runk 3 [0, 1, 5, 12, 13, 14] [(0, .slice a0' st31.2.2.length c0'), (1, .int .i64 st31.1), (5, .int .i64 st31.2.1), (12, .slice a0' st31.2.2.length c0'), (13, .int .i64 st31.2.1), (14, .int .i64 st31.1)] (by kernel_rfl) ?_
  obtain ⟨x50, hx51, hm⟩ := bindE hm
  refine WL.st (.pointer (some (at_ a0' (Int.toNat st31.2.1 * 1)))) (ST.index (T := fInt.ty) (xs := st31.2.2) (SH.rd (SH.front 0 hS35)) hx51 rfl rfl rfl Try.underlying25 (info2).1 (info2).2.1) rfl rfl rfl ?_
  refine WL.store (F := fInt) st31.1 0 [.int .i64 st31.1] (SH.front 0 hS35) hL34 hx51 rfl rfl rfl rfl rfl rfl rfl (info2).1 (info2).2.1 rfl rfl rfl ?_
  intro w52 hB53 hS54
  have hb55 : Below B w w52 := Below.trans hb33 hB53
  have hL56 : B ≤ w52.heap.size := Nat.le_trans hL34 hB53.size
  refine WL.sub [(0, .slice a0' ((st31.2.2.set (Int.toNat st31.2.1) st31.1).length) c0'), (1, .int .i64 st31.1), (5, .int .i64 st31.2.1), (12, .slice a0' ((st31.2.2.set (Int.toNat st31.2.1) st31.1).length) c0'), (13, .int .i64 st31.2.1), (14, .int .i64 st31.1)] ⟨by first | (simp only [List.length_set]; done) | (simp only [List.length_set]; rfl), rfl, rfl, by first | (simp only [List.length_set]; done) | (simp only [List.length_set]; rfl), rfl, rfl, trivial⟩ ?_
  have hn57 : (st31.2.2.set (Int.toNat st31.2.1) st31.1).length = a_0.length := List.length_set.trans hn44
  refine WL.sub [(0, .slice a0' ((st31.2.2.set (Int.toNat st31.2.1) st31.1).length) c0'), (1, .int .i64 st31.1), (5, .int .i64 st31.2.1)] ⟨rfl, rfl, rfl, trivial⟩ ?_
  refine WL.nil ?_
  refine WQ.then_normal (hK49 _ _ _ ?_)
  refine WP.region ?_
  refine WL.runk 3 [0, 1, 5] [(0, .slice a0' ((st31.2.2.set (Int.toNat st31.2.1) st31.1).length) c0'), (1, .int .i64 (wI64 (st31.1 + 1))), (5, .int .i64 st31.2.1)] (by kernel_rfl) ?_
  refine WL.nil ?_
  refine WQ.block_normal ?_
  refine WQ.then_normal (hK48 _ _ _ ?_)
  refine WP.region ?_
  refine WL.runk 3 [0, 1, 5] [(0, .slice a0' ((st31.2.2.set (Int.toNat st31.2.1) st31.1).length) c0'), (1, .int .i64 (wI64 (st31.1 + 1))), (5, .int .i64 (wI64 (st31.2.1 + 1)))] (by kernel_rfl) ?_
  refine WL.nil ?_
  obtain rfl := Option.some.inj hm
  exact WQ.round hK38 ⟨((wI64 (st31.1 + 1)), (wI64 (st31.2.1 + 1)), (st31.2.2.set (Int.toNat st31.2.1) st31.1)), rfl, hb55, hL56, hS54, hn57, hl36⟩ (Nat.lt_succ_self _) ⟨rfl, rfl, rfl, trivial⟩

theorem c_83 (n : Nat) (k_0 : Int) (w : World) {r : List UInt8} (hm : m_laws_markText n k_0 = some r)  :
    CallV Try.prog 83 #[.int .i64 k_0] w (fun v w' => v = .string (bs r) ∧ Ext w w') := by
  unfold m_laws_markText at hm
  refine CallV.enter Try.func83 rfl (by kernel_rfl) Try.ntmps83 (env := [(0, .int .i64 k_0)]) ⟨rfl, trivial⟩ ?_
  refine WP.seq (fun K1 hK1 => ?_)
  refine WP.region ?_
  refine WL.runk 1 [0] [(0, .int .i64 k_0)] (by kernel_rfl) ?_
  refine WL.nil ?_
  refine WQ.then_normal (hK1 _ _ _ ?_)
  refine WP.seq (fun K2 hK2 => ?_)
  refine WP.seq (fun K3 hK3 => ?_)
  refine WP.region ?_
  refine WL.runk 2 [0, 5] [(0, .int .i64 k_0), (5, .bool (decide (k_0 ≤ 0)))] (by kernel_rfl) ?_
  refine WL.nil ?_
  refine WQ.then_normal (hK3 _ _ _ ?_)
  refine WP.cond (decide (k_0 ≤ 0)) rfl rfl (fun hc4 => ?_) (fun hc4 => ?_)
  · have hm := iteT hm hc4
    refine WP.seq (fun K5 hK5 => ?_)
    refine WP.region ?_
    refine WL.runk 1 [2] [(2, .string (bs [109, 48]))] (by kernel_rfl) ?_
    refine WL.nil ?_
    refine WQ.then_normal (hK5 _ _ _ ?_)
    refine WP.ret ?_
    refine WQ.then_ret ?_
    obtain rfl := Option.some.inj hm
    exact WQ.ret1 _ rfl rfl ⟨rfl, (Ext.refl w)⟩
  have hm := iteF hm hc4
  refine WP.skip ?_
  refine WQ.then_normal (hK2 _ _ _ ?_)
  refine WP.seq (fun K6 hK6 => ?_)
  refine WP.region ?_
  refine WL.runk 1 [0, 3] [(0, .int .i64 k_0), (3, .string (bs []))] (by kernel_rfl) ?_
  refine WL.nil ?_
  refine WQ.then_normal (hK6 _ _ _ ?_)
  refine WP.seq (fun K7 hK7 => ?_)
  refine WP.block ?_
  obtain ⟨t19, ht20, hm⟩ := bindE hm
  have hmo14 := hm; clear hm
  refine WP.sub [(0, .int .i64 k_0), (3, .string (bs []))] ⟨rfl, rfl, trivial⟩ ?_
  refine WP.loop (fun n' env' w' => ∃ (st8 : Int × List UInt8) , env' = [(0, .int .i64 st8.1), (3, .string (bs st8.2))] ∧ Ext w w' ∧ w.heap.size ≤ w'.heap.size ∧ SH w' w.heap.size [] ∧ loopN (m_laws_markText_l1 n) n' st8 = some t19) n ⟨(k_0, []), rfl, (Ext.refl w), (Nat.le_refl _), (SH.nil _ _), ht20⟩ ?_
  rintro n16 _ w9 ⟨st8, rfl, hb10, hL11, hS12, hl13⟩ K15 hK15
  obtain ⟨n17, s18, rfl, hm, hl13⟩ := loopN_some hl13
  unfold m_laws_markText_l1 at hm
  refine WP.seq (fun K21 hK21 => ?_)
  refine WP.seq (fun K22 hK22 => ?_)
  refine WP.region ?_
  refine WL.runk 2 [0, 3, 7] [(0, .int .i64 st8.1), (3, .string (bs st8.2)), (7, .bool (decide (st8.1 > 0)))] (by kernel_rfl) ?_
  refine WL.nil ?_
  refine WQ.then_normal (hK22 _ _ _ ?_)
  refine WP.cond (decide (st8.1 > 0)) rfl rfl (fun hc23 => ?_) (fun hc23 => ?_)
  rotate_left
  · have hm := iteF hm hc23
    refine WP.exit ?_
    refine WQ.then_exit ?_
    refine WQ.then_exit ?_
    refine WQ.block_here ?_
    obtain rfl := Option.some.inj hm
    obtain rfl := afterN_done hl13
    have hm := hmo14
    refine WQ.then_normal (hK7 _ _ _ ?_)
    refine WP.seq (fun K36 hK36 => ?_)
    refine WP.region ?_
    refine WL.runk 1 [18] [(18, .string (bs st8.2))] (by kernel_rfl) ?_
    obtain ⟨x37, hx38, hm⟩ := bindE hm
    refine WL.st (.string (bs x37)) (ST.cat hx38 rfl rfl rfl) rfl rfl rfl ?_
    refine WL.runk 1 [2] [(2, .string (bs x37))] (by kernel_rfl) ?_
    refine WL.nil ?_
    refine WQ.then_normal (hK36 _ _ _ ?_)
    refine WP.ret ?_
    obtain rfl := Option.some.inj hm
    exact WQ.ret1 _ rfl rfl ⟨rfl, hb10⟩
  have hm := iteT hm hc23
  refine WP.skip ?_
  refine WQ.then_normal (hK21 _ _ _ ?_)
  refine WP.block ?_
  refine WP.seq (fun K24 hK24 => ?_)
  refine WP.region ?_
  refine WL.runk 4 [0, 3, 11] [(0, .int .i64 st8.1), (3, .string (bs st8.2)), (11, .int .u8 (IntKind.u8.wrap (wI64 (48 + (Int.tmod st8.1 10)))))] (by kernel_rfl) ?_
  refine WL.row fU8 5 ([(IntKind.u8.wrap (wI64 (48 + (Int.tmod st8.1 10))))] : List Int) 1 #[.int .u8 (IntKind.u8.wrap (wI64 (48 + (Int.tmod st8.1 10))))] 12 (by kernel_rfl) rfl rfl rfl rfl rfl rfl rfl ?_
  intro a25 c26 w27 hE28 hR29
  have hb31 : Ext w w27 := Ext.trans hb10 hE28
  have hL32 : w.heap.size ≤ w27.heap.size := Nat.le_trans hL11 hE28.size
  have hS33 : SH w27 w.heap.size [aOwn fU8 5 a25 c26 ([(IntKind.u8.wrap (wI64 (48 + (Int.tmod st8.1 10))))] : List Int)] := SH.add hS12 hE28 hL11 hR29
  refine WL.st (.string (bs (ofBytes ([(IntKind.u8.wrap (wI64 (48 + (Int.tmod st8.1 10))))] : List Int)))) (ST.b2s (SH.rd (SH.front 0 hS33)) (SH.le (SH.front 0 hS33)).2 rfl rfl Try.underlying22 Try.underlying9 Try.underlying5) rfl rfl rfl ?_
  refine WL.runk 1 [0, 13, 14] [(0, .int .i64 st8.1), (13, .string (bs (ofBytes ([(IntKind.u8.wrap (wI64 (48 + (Int.tmod st8.1 10))))] : List Int)))), (14, .string (bs st8.2))] (by kernel_rfl) ?_
  obtain ⟨x34, hx35, hm⟩ := bindE hm
  refine WL.st (.string (bs x34)) (ST.cat hx35 rfl rfl rfl) rfl rfl rfl ?_
  refine WL.runk 1 [0, 3] [(0, .int .i64 st8.1), (3, .string (bs x34))] (by kernel_rfl) ?_
  refine WL.nil ?_
  refine WQ.then_normal (hK24 _ _ _ ?_)
  refine WP.region ?_
  refine WL.runk 3 [0, 3] [(0, .int .i64 (wI64 (Int.tdiv st8.1 10))), (3, .string (bs x34))] (by kernel_rfl) ?_
  refine WL.nil ?_
  refine WQ.block_normal ?_
  obtain rfl := Option.some.inj hm
  exact WQ.round hK15 ⟨((wI64 (Int.tdiv st8.1 10)), x34), rfl, hb31, hL32, (SH.take 0 hS33), hl13⟩ (Nat.lt_succ_self _) ⟨rfl, rfl, trivial⟩

theorem c_42 (n : Nat) (a_0 : List SRepair) (a0' : Option Addr) (c0' : Nat) (k_1 : Int) (w : World) (w0 : World) (B : Nat) (L : List Asrt) {r : Int × List SRepair} (hm : m_laws_markRepairS n a_0 k_1 = some r) (hE0 : Ext w0 w) (hW : w0.heap.size ≤ B) (hL : B ≤ w.heap.size) (hS : SH w B (aNest fRepair 73 2 a0' c0' a_0 :: L)) :
    CallV Try.prog 42 #[.slice a0' a_0.length c0', .int .i64 k_1] w (fun v w' => v = .int .i64 r.1 ∧ Below B w w' ∧ SH w' B (aNest fRepair 73 2 a0' c0' r.2 :: L) ∧ r.2.length = a_0.length) := by
  unfold m_laws_markRepairS at hm
  refine CallV.enter Try.func42 rfl (by kernel_rfl) Try.ntmps42 (env := [(0, .slice a0' a_0.length c0'), (1, .int .i64 k_1)]) ⟨rfl, rfl, trivial⟩ ?_
  refine WP.seq (fun K1 hK1 => ?_)
  refine WP.region ?_
  refine WL.runk 1 [0, 1] [(0, .slice a0' a_0.length c0'), (1, .int .i64 k_1)] (by kernel_rfl) ?_
  refine WL.nil ?_
  refine WQ.then_normal (hK1 _ _ _ ?_)
  refine WP.seq (fun K2 hK2 => ?_)
  refine WP.seq (fun K3 hK3 => ?_)
  refine WP.region ?_
  refine WL.runk 1 [0, 1, 5] [(0, .slice a0' a_0.length c0'), (1, .int .i64 k_1), (5, .int .i64 0)] (by kernel_rfl) ?_
  refine WL.nil ?_
  refine WQ.then_normal (hK3 _ _ _ ?_)
  refine WP.block ?_
  obtain ⟨t138, ht139, hm⟩ := bindE hm
  have hmo133 := hm; clear hm
  refine WP.sub [(0, .slice a0' a_0.length c0'), (1, .int .i64 k_1), (5, .int .i64 0)] ⟨rfl, rfl, rfl, trivial⟩ ?_
  refine WP.loop (fun n' env' w' => ∃ (st127 : Int × Int × List SRepair) , env' = [(0, .slice a0' st127.2.2.length c0'), (1, .int .i64 st127.1), (5, .int .i64 st127.2.1)] ∧ Below B w w' ∧ B ≤ w'.heap.size ∧ SH w' B (aNest fRepair 73 2 a0' c0' st127.2.2 :: L) ∧ st127.2.2.length = a_0.length ∧ loopN (m_laws_markRepairS_l1 n) n' st127 = some t138) n ⟨(k_1, 0, a_0), rfl, (Below.refl _ _), hL, hS, rfl, ht139⟩ ?_
  rintro n135 _ w128 ⟨st127, rfl, hb129, hL130, hS131, hn140, hl132⟩ K134 hK134
  obtain ⟨n136, s137, rfl, hm, hl132⟩ := loopN_some hl132
  unfold m_laws_markRepairS_l1 at hm
  refine WP.seq (fun K141 hK141 => ?_)
  refine WP.seq (fun K142 hK142 => ?_)
  refine WP.region ?_
  refine WL.runk 4 [0, 1, 5, 9] [(0, .slice a0' st127.2.2.length c0'), (1, .int .i64 st127.1), (5, .int .i64 st127.2.1), (9, .bool (decide (st127.2.1 < (st127.2.2.length : Int))))] (by kernel_rfl) ?_
  refine WL.nil ?_
  refine WQ.then_normal (hK142 _ _ _ ?_)
  refine WP.cond (decide (st127.2.1 < (st127.2.2.length : Int))) rfl rfl (fun hc143 => ?_) (fun hc143 => ?_)
  rotate_left
  · have hm := iteF hm hc143
    refine WP.exit ?_
    refine WQ.then_exit ?_
    refine WQ.then_exit ?_
    refine WQ.block_here ?_
    obtain rfl := Option.some.inj hm
    obtain rfl := afterN_done hl132
    have hm := hmo133
    refine WQ.then_normal (hK2 _ _ _ ?_)
    refine WP.seq (fun K250 hK250 => ?_)
    refine WP.region ?_
    refine WL.runk 2 [4] [(4, .int .i64 st127.1)] (by kernel_rfl) ?_
    refine WL.nil ?_
    refine WQ.then_normal (hK250 _ _ _ ?_)
    refine WP.ret ?_
    obtain rfl := Option.some.inj hm
    exact WQ.ret1 _ rfl rfl ⟨rfl, hb129, hS131, hn140⟩
  have hm := iteT hm hc143
  refine WP.skip ?_
  refine WQ.then_normal (hK141 _ _ _ ?_)
  refine WP.seq (fun K144 hK144 => ?_)
  refine WP.block ?_
  refine WP.seq (fun K145 hK145 => ?_)
  refine WP.region ?_
  refine WL.runk 3 [0, 1, 5, 12, 13, 14] [(0, .slice a0' st127.2.2.length c0'), (1, .int .i64 st127.1), (5, .int .i64 st127.2.1), (12, .slice a0' st127.2.2.length c0'), (13, .int .i64 st127.2.1), (14, .int .i64 st127.1)] (by kernel_rfl) ?_
  obtain ⟨x146, hx147, hm⟩ := bindE hm
  refine WL.call 83 #[.int .i64 st127.1] rfl rfl (by kernel_rfl) (c_83 n st127.1 w128 hx147 ) ?_
  rintro _ w148 ⟨rfl, hE149⟩
  refine ⟨_, rfl, ?_⟩
  have hb151 : Below B w w148 := Below.trans hb129 (Below.mono hE149 hL130)
  have hL152 : B ≤ w148.heap.size := Nat.le_trans hL130 hE149.size
  have hS153 : SH w148 B (aNest fRepair 73 2 a0' c0' st127.2.2 :: L) := SH.ext hS131 hE149
  obtain ⟨x154, hx155, hm⟩ := bindE hm
  obtain ⟨a156, c157, a159, c160, hS162⟩ := elem_Repair (SH.front 0 hS153) hx155
  refine WL.st (.pointer (some (at_ a0' (Int.toNat st127.2.1 * 5)))) (ST.index (T := fRepair.ty) (xs := st127.2.2) (SH.rdN (SH.front 0 hS153)) hx155 rfl rfl rfl Try.underlying24 (info73).1 (info73).2.1) rfl rfl rfl ?_
  refine WL.runk 1 [0, 1, 5, 15, 17] [(0, .slice a0' st127.2.2.length c0'), (1, .int .i64 st127.1), (5, .int .i64 st127.2.1), (15, .string (bs x146)), (17, .pointer (some (at_ a0' (Int.toNat st127.2.1 * 5))))] (by kernel_rfl) ?_
  refine WL.holeStore 0 [.string (bs x146)] [.string (bs x146), .slice a156 x154.Mends.length c157, .slice a159 x154.First.length c160, .int .i64 x154.Price, .int .i64 x154.Hours] (SH.front 2 hS162) hL152 rfl rfl rfl rfl rfl rfl rfl (info9).1 (info9).2.1 rfl rfl rfl ?_
  intro w163 hB164 hS165
  have hb166 : Below B w w163 := Below.trans hb151 hB164
  have hL167 : B ≤ w163.heap.size := Nat.le_trans hL152 hB164.size
  refine WL.sub [(0, .slice a0' st127.2.2.length c0'), (1, .int .i64 st127.1), (5, .int .i64 st127.2.1)] ⟨rfl, rfl, rfl, trivial⟩ ?_
  have hS168 : SH w163 B (aNest fRepair 73 2 a0' c0' (st127.2.2.set (Int.toNat st127.2.1) (SRepair.mk x146 x154.Mends x154.First x154.Price x154.Hours)) :: L) := SH.elemBack (Ix := [aOwn fInt 2 a156 c157 x154.Mends, aOwn fInt 2 a159 c160 x154.First]) (x' := (SRepair.mk x146 x154.Mends x154.First x154.Price x154.Hours)) (SH.front 2 (SH.front 2 hS165)) (.val (Fit.row' rfl (Fit.row' rfl (.val (.val .nil)))))
  refine WL.sub [(0, .slice a0' ((st127.2.2.set (Int.toNat st127.2.1) (SRepair.mk x146 x154.Mends x154.First x154.Price x154.Hours)).length) c0'), (1, .int .i64 st127.1), (5, .int .i64 st127.2.1)] ⟨by first | (simp only [List.length_set]; done) | (simp only [List.length_set]; rfl), rfl, rfl, trivial⟩ ?_
  have hn169 : (st127.2.2.set (Int.toNat st127.2.1) (SRepair.mk x146 x154.Mends x154.First x154.Price x154.Hours)).length = a_0.length := List.length_set.trans hn140
  refine WL.nil ?_
  refine WQ.then_normal (hK145 _ _ _ ?_)
  refine WP.seq (fun K170 hK170 => ?_)
  refine WP.region ?_
  refine WL.runk 3 [0, 1, 5] [(0, .slice a0' ((st127.2.2.set (Int.toNat st127.2.1) (SRepair.mk x146 x154.Mends x154.First x154.Price x154.Hours)).length) c0'), (1, .int .i64 (wI64 (st127.1 + 1))), (5, .int .i64 st127.2.1)] (by kernel_rfl) ?_
  refine WL.nil ?_
  refine WQ.then_normal (hK170 _ _ _ ?_)
  refine WP.seq (fun K171 hK171 => ?_)
  refine WP.region ?_
  refine WL.runk 2 [0, 1, 5, 20, 21] [(0, .slice a0' ((st127.2.2.set (Int.toNat st127.2.1) (SRepair.mk x146 x154.Mends x154.First x154.Price x154.Hours)).length) c0'), (1, .int .i64 (wI64 (st127.1 + 1))), (5, .int .i64 st127.2.1), (20, .slice a0' ((st127.2.2.set (Int.toNat st127.2.1) (SRepair.mk x146 x154.Mends x154.First x154.Price x154.Hours)).length) c0'), (21, .int .i64 st127.2.1)] (by kernel_rfl) ?_
  obtain ⟨x172, hx173, hm⟩ := bindE hm
  obtain ⟨a174, c175, a177, c178, hS180⟩ := elem_Repair (SH.front 0 hS168) hx173
  refine WL.st (.pointer (some (at_ a0' (Int.toNat st127.2.1 * 5)))) (ST.index (T := fRepair.ty) (xs := (st127.2.2.set (Int.toNat st127.2.1) (SRepair.mk x146 x154.Mends x154.First x154.Price x154.Hours))) (SH.rdN (SH.front 0 hS168)) hx173 rfl rfl rfl Try.underlying24 (info73).1 (info73).2.1) rfl rfl rfl ?_
  refine WL.runk 1 [0, 1, 5, 23] [(0, .slice a0' ((st127.2.2.set (Int.toNat st127.2.1) (SRepair.mk x146 x154.Mends x154.First x154.Price x154.Hours)).length) c0'), (1, .int .i64 (wI64 (st127.1 + 1))), (5, .int .i64 st127.2.1), (23, .pointer (some (at_ a0' (Int.toNat st127.2.1 * 5 + 1))))] (by kernel_rfl) ?_
  refine WL.st (.slice a174 x172.Mends.length c175) (ST.load (cell_ext ((SH.holeAt (SH.front 2 hS180)) 1 _ rfl)) rfl rfl Try.underlying25 rfl) rfl rfl rfl ?_
  refine WL.runk 1 [0, 5, 24, 25] [(0, .slice a0' ((st127.2.2.set (Int.toNat st127.2.1) (SRepair.mk x146 x154.Mends x154.First x154.Price x154.Hours)).length) c0'), (5, .int .i64 st127.2.1), (24, .slice a174 x172.Mends.length c175), (25, .int .i64 (wI64 (st127.1 + 1)))] (by kernel_rfl) ?_
  obtain ⟨x181, hx182, hm⟩ := bindE hm
  refine WL.call 43 #[.slice a174 x172.Mends.length c175, .int .i64 (wI64 (st127.1 + 1))] rfl rfl (by kernel_rfl) (c_43 n x172.Mends a174 c175 (wI64 (st127.1 + 1)) w163 w0 B (aOwn fInt 2 a177 c178 x172.First :: aHole fRepair 73 2 a0' c0' (st127.2.2.set (Int.toNat st127.2.1) (SRepair.mk x146 x154.Mends x154.First x154.Price x154.Hours)) (Int.toNat st127.2.1) [.string (bs x172.Name), .slice a174 x172.Mends.length c175, .slice a177 x172.First.length c178, .int .i64 x172.Price, .int .i64 x172.Hours] :: L) hx182 (Below.trans hE0 (Below.mono hb166 hW)) hW hL167  hS180) ?_
  rintro _ w183 ⟨rfl, hB187, hS186, hlen188⟩
  refine ⟨_, rfl, ?_⟩
  have hb189 : Below B w w183 := Below.trans hb166 hB187
  have hL190 : B ≤ w183.heap.size := Nat.le_trans hL167 hB187.size
  refine WL.sub [(0, .slice a0' ((st127.2.2.set (Int.toNat st127.2.1) (SRepair.mk x146 x154.Mends x154.First x154.Price x154.Hours)).length) c0'), (5, .int .i64 st127.2.1), (24, .slice a174 x181.2.length c175), (25, .int .i64 (wI64 (st127.1 + 1))), (26, .int .i64 x181.1)] ⟨rfl, rfl, by rw [hlen188]; rfl, rfl, rfl, trivial⟩ ?_
  refine WL.runk 1 [0, 1, 5] [(0, .slice a0' ((st127.2.2.set (Int.toNat st127.2.1) (SRepair.mk x146 x154.Mends x154.First x154.Price x154.Hours)).length) c0'), (5, .int .i64 st127.2.1), (1, .int .i64 x181.1)] (by kernel_rfl) ?_
  have hS191 : SH w183 B (aNest fRepair 73 2 a0' c0' ((st127.2.2.set (Int.toNat st127.2.1) (SRepair.mk x146 x154.Mends x154.First x154.Price x154.Hours)).set (Int.toNat st127.2.1) (SRepair.mk x172.Name x181.2 x172.First x172.Price x172.Hours)) :: L) := SH.elemBack (Ix := [aOwn fInt 2 a174 c175 x181.2, aOwn fInt 2 a177 c178 x172.First]) (x' := (SRepair.mk x172.Name x181.2 x172.First x172.Price x172.Hours)) hS186 (.val (Fit.row' hlen188.symm (Fit.row' rfl (.val (.val .nil)))))
  refine WL.sub [(0, .slice a0' (((st127.2.2.set (Int.toNat st127.2.1) (SRepair.mk x146 x154.Mends x154.First x154.Price x154.Hours)).set (Int.toNat st127.2.1) (SRepair.mk x172.Name x181.2 x172.First x172.Price x172.Hours)).length) c0'), (5, .int .i64 st127.2.1), (1, .int .i64 x181.1)] ⟨by first | (simp only [List.length_set]; done) | (simp only [List.length_set]; rfl), rfl, rfl, trivial⟩ ?_
  have hn192 : ((st127.2.2.set (Int.toNat st127.2.1) (SRepair.mk x146 x154.Mends x154.First x154.Price x154.Hours)).set (Int.toNat st127.2.1) (SRepair.mk x172.Name x181.2 x172.First x172.Price x172.Hours)).length = a_0.length := List.length_set.trans hn169
  refine WL.nil ?_
  refine WQ.then_normal (hK171 _ _ _ ?_)
  refine WP.seq (fun K193 hK193 => ?_)
  refine WP.region ?_
  refine WL.runk 2 [0, 1, 5, 27, 28] [(0, .slice a0' (((st127.2.2.set (Int.toNat st127.2.1) (SRepair.mk x146 x154.Mends x154.First x154.Price x154.Hours)).set (Int.toNat st127.2.1) (SRepair.mk x172.Name x181.2 x172.First x172.Price x172.Hours)).length) c0'), (5, .int .i64 st127.2.1), (1, .int .i64 x181.1), (27, .slice a0' (((st127.2.2.set (Int.toNat st127.2.1) (SRepair.mk x146 x154.Mends x154.First x154.Price x154.Hours)).set (Int.toNat st127.2.1) (SRepair.mk x172.Name x181.2 x172.First x172.Price x172.Hours)).length) c0'), (28, .int .i64 st127.2.1)] (by kernel_rfl) ?_
  obtain ⟨x194, hx195, hm⟩ := bindE hm
  obtain ⟨a196, c197, a199, c200, hS202⟩ := elem_Repair (SH.front 0 hS191) hx195
  refine WL.st (.pointer (some (at_ a0' (Int.toNat st127.2.1 * 5)))) (ST.index (T := fRepair.ty) (xs := ((st127.2.2.set (Int.toNat st127.2.1) (SRepair.mk x146 x154.Mends x154.First x154.Price x154.Hours)).set (Int.toNat st127.2.1) (SRepair.mk x172.Name x181.2 x172.First x172.Price x172.Hours))) (SH.rdN (SH.front 0 hS191)) hx195 rfl rfl rfl Try.underlying24 (info73).1 (info73).2.1) rfl rfl rfl ?_
  refine WL.runk 1 [0, 1, 5, 30] [(0, .slice a0' (((st127.2.2.set (Int.toNat st127.2.1) (SRepair.mk x146 x154.Mends x154.First x154.Price x154.Hours)).set (Int.toNat st127.2.1) (SRepair.mk x172.Name x181.2 x172.First x172.Price x172.Hours)).length) c0'), (5, .int .i64 st127.2.1), (1, .int .i64 x181.1), (30, .pointer (some (at_ a0' (Int.toNat st127.2.1 * 5 + 2))))] (by kernel_rfl) ?_
  refine WL.st (.slice a199 x194.First.length c200) (ST.load (cell_ext ((SH.holeAt (SH.front 2 hS202)) 2 _ rfl)) rfl rfl Try.underlying25 rfl) rfl rfl rfl ?_
  refine WL.runk 1 [0, 5, 31, 32] [(0, .slice a0' (((st127.2.2.set (Int.toNat st127.2.1) (SRepair.mk x146 x154.Mends x154.First x154.Price x154.Hours)).set (Int.toNat st127.2.1) (SRepair.mk x172.Name x181.2 x172.First x172.Price x172.Hours)).length) c0'), (5, .int .i64 st127.2.1), (31, .slice a199 x194.First.length c200), (32, .int .i64 x181.1)] (by kernel_rfl) ?_
  obtain ⟨x203, hx204, hm⟩ := bindE hm
  refine WL.call 43 #[.slice a199 x194.First.length c200, .int .i64 x181.1] rfl rfl (by kernel_rfl) (c_43 n x194.First a199 c200 x181.1 w183 w0 B (aOwn fInt 2 a196 c197 x194.Mends :: aHole fRepair 73 2 a0' c0' ((st127.2.2.set (Int.toNat st127.2.1) (SRepair.mk x146 x154.Mends x154.First x154.Price x154.Hours)).set (Int.toNat st127.2.1) (SRepair.mk x172.Name x181.2 x172.First x172.Price x172.Hours)) (Int.toNat st127.2.1) [.string (bs x194.Name), .slice a196 x194.Mends.length c197, .slice a199 x194.First.length c200, .int .i64 x194.Price, .int .i64 x194.Hours] :: L) hx204 (Below.trans hE0 (Below.mono hb189 hW)) hW hL190  (SH.front 2 (SH.front 1 (SH.front 2 hS202)))) ?_
  rintro _ w205 ⟨rfl, hB209, hS208, hlen210⟩
  refine ⟨_, rfl, ?_⟩
  have hb211 : Below B w w205 := Below.trans hb189 hB209
  have hL212 : B ≤ w205.heap.size := Nat.le_trans hL190 hB209.size
  refine WL.sub [(0, .slice a0' (((st127.2.2.set (Int.toNat st127.2.1) (SRepair.mk x146 x154.Mends x154.First x154.Price x154.Hours)).set (Int.toNat st127.2.1) (SRepair.mk x172.Name x181.2 x172.First x172.Price x172.Hours)).length) c0'), (5, .int .i64 st127.2.1), (31, .slice a199 x203.2.length c200), (32, .int .i64 x181.1), (33, .int .i64 x203.1)] ⟨rfl, rfl, by rw [hlen210]; rfl, rfl, rfl, trivial⟩ ?_
  refine WL.runk 1 [0, 1, 5] [(0, .slice a0' (((st127.2.2.set (Int.toNat st127.2.1) (SRepair.mk x146 x154.Mends x154.First x154.Price x154.Hours)).set (Int.toNat st127.2.1) (SRepair.mk x172.Name x181.2 x172.First x172.Price x172.Hours)).length) c0'), (5, .int .i64 st127.2.1), (1, .int .i64 x203.1)] (by kernel_rfl) ?_
  have hS213 : SH w205 B (aNest fRepair 73 2 a0' c0' (((st127.2.2.set (Int.toNat st127.2.1) (SRepair.mk x146 x154.Mends x154.First x154.Price x154.Hours)).set (Int.toNat st127.2.1) (SRepair.mk x172.Name x181.2 x172.First x172.Price x172.Hours)).set (Int.toNat st127.2.1) (SRepair.mk x194.Name x194.Mends x203.2 x194.Price x194.Hours)) :: L) := SH.elemBack (Ix := [aOwn fInt 2 a196 c197 x194.Mends, aOwn fInt 2 a199 c200 x203.2]) (x' := (SRepair.mk x194.Name x194.Mends x203.2 x194.Price x194.Hours)) (SH.front 2 (SH.front 1 (SH.front 2 hS208))) (.val (Fit.row' rfl (Fit.row' hlen210.symm (.val (.val .nil)))))
  refine WL.sub [(0, .slice a0' ((((st127.2.2.set (Int.toNat st127.2.1) (SRepair.mk x146 x154.Mends x154.First x154.Price x154.Hours)).set (Int.toNat st127.2.1) (SRepair.mk x172.Name x181.2 x172.First x172.Price x172.Hours)).set (Int.toNat st127.2.1) (SRepair.mk x194.Name x194.Mends x203.2 x194.Price x194.Hours)).length) c0'), (5, .int .i64 st127.2.1), (1, .int .i64 x203.1)] ⟨by first | (simp only [List.length_set]; done) | (simp only [List.length_set]; rfl), rfl, rfl, trivial⟩ ?_
  have hn214 : (((st127.2.2.set (Int.toNat st127.2.1) (SRepair.mk x146 x154.Mends x154.First x154.Price x154.Hours)).set (Int.toNat st127.2.1) (SRepair.mk x172.Name x181.2 x172.First x172.Price x172.Hours)).set (Int.toNat st127.2.1) (SRepair.mk x194.Name x194.Mends x203.2 x194.Price x194.Hours)).length = a_0.length := List.length_set.trans hn192
  refine WL.nil ?_
  refine WQ.then_normal (hK193 _ _ _ ?_)
  refine WP.seq (fun K215 hK215 => ?_)
  refine WP.region ?_
  refine WL.runk 3 [0, 1, 5, 34, 35, 36] [(0, .slice a0' ((((st127.2.2.set (Int.toNat st127.2.1) (SRepair.mk x146 x154.Mends x154.First x154.Price x154.Hours)).set (Int.toNat st127.2.1) (SRepair.mk x172.Name x181.2 x172.First x172.Price x172.Hours)).set (Int.toNat st127.2.1) (SRepair.mk x194.Name x194.Mends x203.2 x194.Price x194.Hours)).length) c0'), (5, .int .i64 st127.2.1), (1, .int .i64 x203.1), (34, .slice a0' ((((st127.2.2.set (Int.toNat st127.2.1) (SRepair.mk x146 x154.Mends x154.First x154.Price x154.Hours)).set (Int.toNat st127.2.1) (SRepair.mk x172.Name x181.2 x172.First x172.Price x172.Hours)).set (Int.toNat st127.2.1) (SRepair.mk x194.Name x194.Mends x203.2 x194.Price x194.Hours)).length) c0'), (35, .int .i64 st127.2.1), (36, .int .i64 x203.1)] (by kernel_rfl) ?_
  obtain ⟨x216, hx217, hm⟩ := bindE hm
  obtain ⟨a218, c219, a221, c222, hS224⟩ := elem_Repair (SH.front 0 hS213) hx217
  refine WL.st (.pointer (some (at_ a0' (Int.toNat st127.2.1 * 5)))) (ST.index (T := fRepair.ty) (xs := (((st127.2.2.set (Int.toNat st127.2.1) (SRepair.mk x146 x154.Mends x154.First x154.Price x154.Hours)).set (Int.toNat st127.2.1) (SRepair.mk x172.Name x181.2 x172.First x172.Price x172.Hours)).set (Int.toNat st127.2.1) (SRepair.mk x194.Name x194.Mends x203.2 x194.Price x194.Hours))) (SH.rdN (SH.front 0 hS213)) hx217 rfl rfl rfl Try.underlying24 (info73).1 (info73).2.1) rfl rfl rfl ?_
  refine WL.runk 1 [0, 1, 5, 36, 38] [(0, .slice a0' ((((st127.2.2.set (Int.toNat st127.2.1) (SRepair.mk x146 x154.Mends x154.First x154.Price x154.Hours)).set (Int.toNat st127.2.1) (SRepair.mk x172.Name x181.2 x172.First x172.Price x172.Hours)).set (Int.toNat st127.2.1) (SRepair.mk x194.Name x194.Mends x203.2 x194.Price x194.Hours)).length) c0'), (5, .int .i64 st127.2.1), (1, .int .i64 x203.1), (36, .int .i64 x203.1), (38, .pointer (some (at_ a0' (Int.toNat st127.2.1 * 5 + 3))))] (by kernel_rfl) ?_
  refine WL.holeStore 3 [.int .i64 x203.1] [.string (bs x216.Name), .slice a218 x216.Mends.length c219, .slice a221 x216.First.length c222, .int .i64 x203.1, .int .i64 x216.Hours] (SH.front 2 hS224) hL212 rfl rfl rfl rfl rfl rfl rfl (info2).1 (info2).2.1 rfl rfl rfl ?_
  intro w225 hB226 hS227
  have hb228 : Below B w w225 := Below.trans hb211 hB226
  have hL229 : B ≤ w225.heap.size := Nat.le_trans hL212 hB226.size
  refine WL.sub [(0, .slice a0' ((((st127.2.2.set (Int.toNat st127.2.1) (SRepair.mk x146 x154.Mends x154.First x154.Price x154.Hours)).set (Int.toNat st127.2.1) (SRepair.mk x172.Name x181.2 x172.First x172.Price x172.Hours)).set (Int.toNat st127.2.1) (SRepair.mk x194.Name x194.Mends x203.2 x194.Price x194.Hours)).length) c0'), (5, .int .i64 st127.2.1), (1, .int .i64 x203.1)] ⟨rfl, rfl, rfl, trivial⟩ ?_
  have hS230 : SH w225 B (aNest fRepair 73 2 a0' c0' ((((st127.2.2.set (Int.toNat st127.2.1) (SRepair.mk x146 x154.Mends x154.First x154.Price x154.Hours)).set (Int.toNat st127.2.1) (SRepair.mk x172.Name x181.2 x172.First x172.Price x172.Hours)).set (Int.toNat st127.2.1) (SRepair.mk x194.Name x194.Mends x203.2 x194.Price x194.Hours)).set (Int.toNat st127.2.1) (SRepair.mk x216.Name x216.Mends x216.First x203.1 x216.Hours)) :: L) := SH.elemBack (Ix := [aOwn fInt 2 a218 c219 x216.Mends, aOwn fInt 2 a221 c222 x216.First]) (x' := (SRepair.mk x216.Name x216.Mends x216.First x203.1 x216.Hours)) (SH.front 2 (SH.front 2 hS227)) (.val (Fit.row' rfl (Fit.row' rfl (.val (.val .nil)))))
  refine WL.sub [(0, .slice a0' (((((st127.2.2.set (Int.toNat st127.2.1) (SRepair.mk x146 x154.Mends x154.First x154.Price x154.Hours)).set (Int.toNat st127.2.1) (SRepair.mk x172.Name x181.2 x172.First x172.Price x172.Hours)).set (Int.toNat st127.2.1) (SRepair.mk x194.Name x194.Mends x203.2 x194.Price x194.Hours)).set (Int.toNat st127.2.1) (SRepair.mk x216.Name x216.Mends x216.First x203.1 x216.Hours)).length) c0'), (5, .int .i64 st127.2.1), (1, .int .i64 x203.1)] ⟨by first | (simp only [List.length_set]; done) | (simp only [List.length_set]; rfl), rfl, rfl, trivial⟩ ?_
  have hn231 : ((((st127.2.2.set (Int.toNat st127.2.1) (SRepair.mk x146 x154.Mends x154.First x154.Price x154.Hours)).set (Int.toNat st127.2.1) (SRepair.mk x172.Name x181.2 x172.First x172.Price x172.Hours)).set (Int.toNat st127.2.1) (SRepair.mk x194.Name x194.Mends x203.2 x194.Price x194.Hours)).set (Int.toNat st127.2.1) (SRepair.mk x216.Name x216.Mends x216.First x203.1 x216.Hours)).length = a_0.length := List.length_set.trans hn214
  refine WL.nil ?_
  refine WQ.then_normal (hK215 _ _ _ ?_)
  refine WP.seq (fun K232 hK232 => ?_)
  refine WP.region ?_
  refine WL.runk 3 [0, 1, 5] [(0, .slice a0' (((((st127.2.2.set (Int.toNat st127.2.1) (SRepair.mk x146 x154.Mends x154.First x154.Price x154.Hours)).set (Int.toNat st127.2.1) (SRepair.mk x172.Name x181.2 x172.First x172.Price x172.Hours)).set (Int.toNat st127.2.1) (SRepair.mk x194.Name x194.Mends x203.2 x194.Price x194.Hours)).set (Int.toNat st127.2.1) (SRepair.mk x216.Name x216.Mends x216.First x203.1 x216.Hours)).length) c0'), (5, .int .i64 st127.2.1), (1, .int .i64 (wI64 (x203.1 + 1)))] (by kernel_rfl) ?_
  refine WL.nil ?_
  refine WQ.then_normal (hK232 _ _ _ ?_)
  refine WP.seq (fun K233 hK233 => ?_)
  refine WP.region ?_
  refine WL.runk 3 [0, 1, 5, 41, 42, 43] [(0, .slice a0' (((((st127.2.2.set (Int.toNat st127.2.1) (SRepair.mk x146 x154.Mends x154.First x154.Price x154.Hours)).set (Int.toNat st127.2.1) (SRepair.mk x172.Name x181.2 x172.First x172.Price x172.Hours)).set (Int.toNat st127.2.1) (SRepair.mk x194.Name x194.Mends x203.2 x194.Price x194.Hours)).set (Int.toNat st127.2.1) (SRepair.mk x216.Name x216.Mends x216.First x203.1 x216.Hours)).length) c0'), (5, .int .i64 st127.2.1), (1, .int .i64 (wI64 (x203.1 + 1))), (41, .slice a0' (((((st127.2.2.set (Int.toNat st127.2.1) (SRepair.mk x146 x154.Mends x154.First x154.Price x154.Hours)).set (Int.toNat st127.2.1) (SRepair.mk x172.Name x181.2 x172.First x172.Price x172.Hours)).set (Int.toNat st127.2.1) (SRepair.mk x194.Name x194.Mends x203.2 x194.Price x194.Hours)).set (Int.toNat st127.2.1) (SRepair.mk x216.Name x216.Mends x216.First x203.1 x216.Hours)).length) c0'), (42, .int .i64 st127.2.1), (43, .int .i64 (wI64 (x203.1 + 1)))] (by kernel_rfl) ?_
  obtain ⟨x234, hx235, hm⟩ := bindE hm
  obtain ⟨a236, c237, a239, c240, hS242⟩ := elem_Repair (SH.front 0 hS230) hx235
  refine WL.st (.pointer (some (at_ a0' (Int.toNat st127.2.1 * 5)))) (ST.index (T := fRepair.ty) (xs := ((((st127.2.2.set (Int.toNat st127.2.1) (SRepair.mk x146 x154.Mends x154.First x154.Price x154.Hours)).set (Int.toNat st127.2.1) (SRepair.mk x172.Name x181.2 x172.First x172.Price x172.Hours)).set (Int.toNat st127.2.1) (SRepair.mk x194.Name x194.Mends x203.2 x194.Price x194.Hours)).set (Int.toNat st127.2.1) (SRepair.mk x216.Name x216.Mends x216.First x203.1 x216.Hours))) (SH.rdN (SH.front 0 hS230)) hx235 rfl rfl rfl Try.underlying24 (info73).1 (info73).2.1) rfl rfl rfl ?_
  refine WL.runk 1 [0, 1, 5, 43, 45] [(0, .slice a0' (((((st127.2.2.set (Int.toNat st127.2.1) (SRepair.mk x146 x154.Mends x154.First x154.Price x154.Hours)).set (Int.toNat st127.2.1) (SRepair.mk x172.Name x181.2 x172.First x172.Price x172.Hours)).set (Int.toNat st127.2.1) (SRepair.mk x194.Name x194.Mends x203.2 x194.Price x194.Hours)).set (Int.toNat st127.2.1) (SRepair.mk x216.Name x216.Mends x216.First x203.1 x216.Hours)).length) c0'), (5, .int .i64 st127.2.1), (1, .int .i64 (wI64 (x203.1 + 1))), (43, .int .i64 (wI64 (x203.1 + 1))), (45, .pointer (some (at_ a0' (Int.toNat st127.2.1 * 5 + 4))))] (by kernel_rfl) ?_
  refine WL.holeStore 4 [.int .i64 (wI64 (x203.1 + 1))] [.string (bs x234.Name), .slice a236 x234.Mends.length c237, .slice a239 x234.First.length c240, .int .i64 x234.Price, .int .i64 (wI64 (x203.1 + 1))] (SH.front 2 hS242) hL229 rfl rfl rfl rfl rfl rfl rfl (info2).1 (info2).2.1 rfl rfl rfl ?_
  intro w243 hB244 hS245
  have hb246 : Below B w w243 := Below.trans hb228 hB244
  have hL247 : B ≤ w243.heap.size := Nat.le_trans hL229 hB244.size
  refine WL.sub [(0, .slice a0' (((((st127.2.2.set (Int.toNat st127.2.1) (SRepair.mk x146 x154.Mends x154.First x154.Price x154.Hours)).set (Int.toNat st127.2.1) (SRepair.mk x172.Name x181.2 x172.First x172.Price x172.Hours)).set (Int.toNat st127.2.1) (SRepair.mk x194.Name x194.Mends x203.2 x194.Price x194.Hours)).set (Int.toNat st127.2.1) (SRepair.mk x216.Name x216.Mends x216.First x203.1 x216.Hours)).length) c0'), (5, .int .i64 st127.2.1), (1, .int .i64 (wI64 (x203.1 + 1)))] ⟨rfl, rfl, rfl, trivial⟩ ?_
  have hS248 : SH w243 B (aNest fRepair 73 2 a0' c0' (((((st127.2.2.set (Int.toNat st127.2.1) (SRepair.mk x146 x154.Mends x154.First x154.Price x154.Hours)).set (Int.toNat st127.2.1) (SRepair.mk x172.Name x181.2 x172.First x172.Price x172.Hours)).set (Int.toNat st127.2.1) (SRepair.mk x194.Name x194.Mends x203.2 x194.Price x194.Hours)).set (Int.toNat st127.2.1) (SRepair.mk x216.Name x216.Mends x216.First x203.1 x216.Hours)).set (Int.toNat st127.2.1) (SRepair.mk x234.Name x234.Mends x234.First x234.Price (wI64 (x203.1 + 1)))) :: L) := SH.elemBack (Ix := [aOwn fInt 2 a236 c237 x234.Mends, aOwn fInt 2 a239 c240 x234.First]) (x' := (SRepair.mk x234.Name x234.Mends x234.First x234.Price (wI64 (x203.1 + 1)))) (SH.front 2 (SH.front 2 hS245)) (.val (Fit.row' rfl (Fit.row' rfl (.val (.val .nil)))))
  refine WL.sub [(0, .slice a0' ((((((st127.2.2.set (Int.toNat st127.2.1) (SRepair.mk x146 x154.Mends x154.First x154.Price x154.Hours)).set (Int.toNat st127.2.1) (SRepair.mk x172.Name x181.2 x172.First x172.Price x172.Hours)).set (Int.toNat st127.2.1) (SRepair.mk x194.Name x194.Mends x203.2 x194.Price x194.Hours)).set (Int.toNat st127.2.1) (SRepair.mk x216.Name x216.Mends x216.First x203.1 x216.Hours)).set (Int.toNat st127.2.1) (SRepair.mk x234.Name x234.Mends x234.First x234.Price (wI64 (x203.1 + 1)))).length) c0'), (5, .int .i64 st127.2.1), (1, .int .i64 (wI64 (x203.1 + 1)))] ⟨by first | (simp only [List.length_set]; done) | (simp only [List.length_set]; rfl), rfl, rfl, trivial⟩ ?_
  have hn249 : (((((st127.2.2.set (Int.toNat st127.2.1) (SRepair.mk x146 x154.Mends x154.First x154.Price x154.Hours)).set (Int.toNat st127.2.1) (SRepair.mk x172.Name x181.2 x172.First x172.Price x172.Hours)).set (Int.toNat st127.2.1) (SRepair.mk x194.Name x194.Mends x203.2 x194.Price x194.Hours)).set (Int.toNat st127.2.1) (SRepair.mk x216.Name x216.Mends x216.First x203.1 x216.Hours)).set (Int.toNat st127.2.1) (SRepair.mk x234.Name x234.Mends x234.First x234.Price (wI64 (x203.1 + 1)))).length = a_0.length := List.length_set.trans hn231
  refine WL.nil ?_
  refine WQ.then_normal (hK233 _ _ _ ?_)
  refine WP.region ?_
  refine WL.runk 3 [0, 1, 5] [(0, .slice a0' ((((((st127.2.2.set (Int.toNat st127.2.1) (SRepair.mk x146 x154.Mends x154.First x154.Price x154.Hours)).set (Int.toNat st127.2.1) (SRepair.mk x172.Name x181.2 x172.First x172.Price x172.Hours)).set (Int.toNat st127.2.1) (SRepair.mk x194.Name x194.Mends x203.2 x194.Price x194.Hours)).set (Int.toNat st127.2.1) (SRepair.mk x216.Name x216.Mends x216.First x203.1 x216.Hours)).set (Int.toNat st127.2.1) (SRepair.mk x234.Name x234.Mends x234.First x234.Price (wI64 (x203.1 + 1)))).length) c0'), (5, .int .i64 st127.2.1), (1, .int .i64 (wI64 ((wI64 (x203.1 + 1)) + 1)))] (by kernel_rfl) ?_
  refine WL.nil ?_
  refine WQ.block_normal ?_
  refine WQ.then_normal (hK144 _ _ _ ?_)
  refine WP.region ?_
  refine WL.runk 3 [0, 1, 5] [(0, .slice a0' ((((((st127.2.2.set (Int.toNat st127.2.1) (SRepair.mk x146 x154.Mends x154.First x154.Price x154.Hours)).set (Int.toNat st127.2.1) (SRepair.mk x172.Name x181.2 x172.First x172.Price x172.Hours)).set (Int.toNat st127.2.1) (SRepair.mk x194.Name x194.Mends x203.2 x194.Price x194.Hours)).set (Int.toNat st127.2.1) (SRepair.mk x216.Name x216.Mends x216.First x203.1 x216.Hours)).set (Int.toNat st127.2.1) (SRepair.mk x234.Name x234.Mends x234.First x234.Price (wI64 (x203.1 + 1)))).length) c0'), (5, .int .i64 (wI64 (st127.2.1 + 1))), (1, .int .i64 (wI64 ((wI64 (x203.1 + 1)) + 1)))] (by kernel_rfl) ?_
  refine WL.nil ?_
  obtain rfl := Option.some.inj hm
  exact WQ.round hK134 ⟨((wI64 ((wI64 (x203.1 + 1)) + 1)), (wI64 (st127.2.1 + 1)), (((((st127.2.2.set (Int.toNat st127.2.1) (SRepair.mk x146 x154.Mends x154.First x154.Price x154.Hours)).set (Int.toNat st127.2.1) (SRepair.mk x172.Name x181.2 x172.First x172.Price x172.Hours)).set (Int.toNat st127.2.1) (SRepair.mk x194.Name x194.Mends x203.2 x194.Price x194.Hours)).set (Int.toNat st127.2.1) (SRepair.mk x216.Name x216.Mends x216.First x203.1 x216.Hours)).set (Int.toNat st127.2.1) (SRepair.mk x234.Name x234.Mends x234.First x234.Price (wI64 (x203.1 + 1))))), rfl, hb246, hL247, hS248, hn249, hl132⟩ (Nat.lt_succ_self _) ⟨rfl, rfl, rfl, trivial⟩

theorem c_44 (n : Nat) (a_0 : List Int) (a0' : Option Addr) (c0' : Nat) (k_1 : Int) (w : World) {r : Int} (hm : m_laws_heldInt64S n a_0 k_1 = some r) (h0 : Rd fInt.ty w a0' a_0) (_hle0 : a_0.length ≤ c0') :
    CallV Try.prog 44 #[.slice a0' a_0.length c0', .int .i64 k_1] w (fun v w' => v = .int .i64 r ∧ Ext w w') := by
  unfold m_laws_heldInt64S at hm
  refine CallV.enter Try.func44 rfl (by kernel_rfl) Try.ntmps44 (env := [(0, .slice a0' a_0.length c0'), (1, .int .i64 k_1)]) ⟨rfl, rfl, trivial⟩ ?_
  refine WP.seq (fun K1 hK1 => ?_)
  refine WP.region ?_
  refine WL.runk 1 [0, 1] [(0, .slice a0' a_0.length c0'), (1, .int .i64 k_1)] (by kernel_rfl) ?_
  refine WL.nil ?_
  refine WQ.then_normal (hK1 _ _ _ ?_)
  refine WP.seq (fun K2 hK2 => ?_)
  refine WP.seq (fun K3 hK3 => ?_)
  refine WP.region ?_
  refine WL.runk 1 [0, 1, 5] [(0, .slice a0' a_0.length c0'), (1, .int .i64 k_1), (5, .int .i64 0)] (by kernel_rfl) ?_
  refine WL.nil ?_
  refine WQ.then_normal (hK3 _ _ _ ?_)
  refine WP.block ?_
  obtain ⟨t15, ht16, hm⟩ := bindE hm
  have hmo10 := hm; clear hm
  refine WP.sub [(0, .slice a0' a_0.length c0'), (1, .int .i64 k_1), (5, .int .i64 0)] ⟨rfl, rfl, rfl, trivial⟩ ?_
  refine WP.loop (fun n' env' w' => ∃ (st4 : Int × Int) , env' = [(0, .slice a0' a_0.length c0'), (1, .int .i64 st4.1), (5, .int .i64 st4.2)] ∧ Ext w w' ∧ w.heap.size ≤ w'.heap.size ∧ SH w' w.heap.size [] ∧ loopN (m_laws_heldInt64S_l1 n a_0) n' st4 = some t15) n ⟨(k_1, 0), rfl, (Ext.refl w), (Nat.le_refl _), (SH.nil _ _), ht16⟩ ?_
  rintro n12 _ w5 ⟨st4, rfl, hb6, hL7, hS8, hl9⟩ K11 hK11
  obtain ⟨n13, s14, rfl, hm, hl9⟩ := loopN_some hl9
  unfold m_laws_heldInt64S_l1 at hm
  refine WP.seq (fun K17 hK17 => ?_)
  refine WP.seq (fun K18 hK18 => ?_)
  refine WP.region ?_
  refine WL.runk 4 [0, 1, 5, 9] [(0, .slice a0' a_0.length c0'), (1, .int .i64 st4.1), (5, .int .i64 st4.2), (9, .bool (decide (st4.2 < (a_0.length : Int))))] (by kernel_rfl) ?_
  refine WL.nil ?_
  refine WQ.then_normal (hK18 _ _ _ ?_)
  refine WP.cond (decide (st4.2 < (a_0.length : Int))) rfl rfl (fun hc19 => ?_) (fun hc19 => ?_)
  rotate_left
  · have hm := iteF hm hc19
    refine WP.exit ?_
    refine WQ.then_exit ?_
    refine WQ.then_exit ?_
    refine WQ.block_here ?_
    obtain rfl := Option.some.inj hm
    obtain rfl := afterN_done hl9
    have hm := hmo10
    refine WQ.then_normal (hK2 _ _ _ ?_)
    refine WP.seq (fun K27 hK27 => ?_)
    refine WP.region ?_
    refine WL.runk 2 [4] [(4, .int .i64 st4.1)] (by kernel_rfl) ?_
    refine WL.nil ?_
    refine WQ.then_normal (hK27 _ _ _ ?_)
    refine WP.ret ?_
    obtain rfl := Option.some.inj hm
    exact WQ.ret1 _ rfl rfl ⟨rfl, hb6⟩
  have hm := iteT hm hc19
  refine WP.skip ?_
  refine WQ.then_normal (hK17 _ _ _ ?_)
  refine WP.seq (fun K20 hK20 => ?_)
  refine WP.block ?_
  refine WP.seq (fun K21 hK21 => ?_)
  refine WP.seq (fun K22 hK22 => ?_)
  refine WP.region ?_
  refine WL.runk 2 [0, 1, 5, 12, 13] [(0, .slice a0' a_0.length c0'), (1, .int .i64 st4.1), (5, .int .i64 st4.2), (12, .slice a0' a_0.length c0'), (13, .int .i64 st4.2)] (by kernel_rfl) ?_
  obtain ⟨x23, hx24, hm⟩ := bindE hm
  refine WL.st (.pointer (some (at_ a0' (Int.toNat st4.2 * 1)))) (ST.index (T := fInt.ty) (xs := a_0) (Rd.below h0 hb6) hx24 rfl rfl rfl Try.underlying25 (info2).1 (info2).2.1) rfl rfl rfl ?_
  refine WL.st (.int .i64 x23) (ST.load (cell_ext (Rd.flat (F := fInt) (Rd.below h0 hb6) hx24 0 rfl)) rfl rfl Try.underlying2 rfl) rfl rfl rfl ?_
  refine WL.runk 2 [0, 1, 5, 17] [(0, .slice a0' a_0.length c0'), (1, .int .i64 st4.1), (5, .int .i64 st4.2), (17, .bool (x23 != st4.1))] (by kernel_rfl) ?_
  refine WL.nil ?_
  refine WQ.then_normal (hK22 _ _ _ ?_)
  refine WP.cond (x23 != st4.1) rfl rfl (fun hc25 => ?_) (fun hc25 => ?_)
  rotate_left
  · have hm := iteF hm hc25
    refine WP.skip ?_
    refine WQ.then_normal (hK21 _ _ _ ?_)
    refine WP.region ?_
    refine WL.runk 3 [0, 1, 5] [(0, .slice a0' a_0.length c0'), (1, .int .i64 (wI64 (st4.1 + 1))), (5, .int .i64 st4.2)] (by kernel_rfl) ?_
    refine WL.nil ?_
    refine WQ.block_normal ?_
    refine WQ.then_normal (hK20 _ _ _ ?_)
    refine WP.region ?_
    refine WL.runk 3 [0, 1, 5] [(0, .slice a0' a_0.length c0'), (1, .int .i64 (wI64 (st4.1 + 1))), (5, .int .i64 (wI64 (st4.2 + 1)))] (by kernel_rfl) ?_
    refine WL.nil ?_
    obtain rfl := Option.some.inj hm
    exact WQ.round hK11 ⟨((wI64 (st4.1 + 1)), (wI64 (st4.2 + 1))), rfl, hb6, hL7, hS8, hl9⟩ (Nat.lt_succ_self _) ⟨rfl, rfl, rfl, trivial⟩
  have hm := iteT hm hc25
  refine WP.seq (fun K26 hK26 => ?_)
  refine WP.region ?_
  refine WL.runk 1 [4] [(4, .int .i64 (-1))] (by kernel_rfl) ?_
  refine WL.nil ?_
  refine WQ.then_normal (hK26 _ _ _ ?_)
  refine WP.ret ?_
  refine WQ.then_ret ?_
  refine WQ.block_ret ?_
  refine WQ.then_ret ?_
  refine WQ.then_ret ?_
  refine WQ.block_ret ?_
  refine WQ.then_ret ?_
  obtain rfl := Option.some.inj hm
  obtain rfl := afterN_done hl9
  have hm := hmo10
  obtain rfl := Option.some.inj hm
  exact WQ.ret1 _ rfl rfl ⟨rfl, hb6⟩

theorem c_12 (n : Nat) (aList_0 : List SRepair) (a0' : Option Addr) (c0' : Nat) (aSome_1 : List Int) (a1' : Option Addr) (c1' : Nat) (aFaults_2 : List Int) (a2' : Option Addr) (c2' : Nat) (w : World) {r : Bool} (hm : m_laws_FnExactNeedlessRepairs n aList_0 aSome_1 aFaults_2 = some r) (h0 : Rd fRepair.ty w a0' aList_0) (hle0 : aList_0.length ≤ c0') (h1 : Rd fInt.ty w a1' aSome_1) (hle1 : aSome_1.length ≤ c1') (h2 : Rd fInt.ty w a2' aFaults_2) (hle2 : aFaults_2.length ≤ c2') :
    CallV Try.prog 12 #[.slice a0' aList_0.length c0', .slice a1' aSome_1.length c1', .slice a2' aFaults_2.length c2'] w (fun v w' => v = .bool r ∧ Ext w w') := by
  unfold m_laws_FnExactNeedlessRepairs at hm
  refine CallV.enter Try.func12 rfl (by kernel_rfl) Try.ntmps12 (env := [(0, .slice a0' aList_0.length c0'), (1, .slice a1' aSome_1.length c1'), (2, .slice a2' aFaults_2.length c2')]) ⟨rfl, rfl, rfl, trivial⟩ ?_
  refine WP.seq (fun K1 hK1 => ?_)
  refine WP.region ?_
  refine WL.runk 1 [0, 1, 2] [(0, .slice a0' aList_0.length c0'), (1, .slice a1' aSome_1.length c1'), (2, .slice a2' aFaults_2.length c2')] (by kernel_rfl) ?_
  refine WL.nil ?_
  refine WQ.then_normal (hK1 _ _ _ ?_)
  refine WP.seq (fun K2 hK2 => ?_)
  refine WP.seq (fun K3 hK3 => ?_)
  refine WP.region ?_
  refine WL.runk 3 [0, 1, 2, 22] [(0, .slice a0' aList_0.length c0'), (1, .slice a1' aSome_1.length c1'), (2, .slice a2' aFaults_2.length c2'), (22, .bool (decide ((aSome_1.length : Int) > 1048576)))] (by kernel_rfl) ?_
  refine WL.nil ?_
  refine WQ.then_normal (hK3 _ _ _ ?_)
  refine WP.cond (decide ((aSome_1.length : Int) > 1048576)) rfl rfl (fun hc4 => ?_) (fun hc4 => ?_)
  · have hm := iteT hm hc4
    refine WP.seq (fun K5 hK5 => ?_)
    refine WP.region ?_
    refine WL.runk 1 [6] [(6, .bool true)] (by kernel_rfl) ?_
    refine WL.nil ?_
    refine WQ.then_normal (hK5 _ _ _ ?_)
    refine WP.ret ?_
    refine WQ.then_ret ?_
    obtain rfl := Option.some.inj hm
    exact WQ.ret1 _ rfl rfl ⟨rfl, (Ext.refl w)⟩
  have hm := iteF hm hc4
  refine WP.skip ?_
  refine WQ.then_normal (hK2 _ _ _ ?_)
  refine WP.seq (fun K6 hK6 => ?_)
  refine WP.seq (fun K7 hK7 => ?_)
  refine WP.region ?_
  refine WL.runk 3 [0, 1, 2, 25] [(0, .slice a0' aList_0.length c0'), (1, .slice a1' aSome_1.length c1'), (2, .slice a2' aFaults_2.length c2'), (25, .bool (decide ((aFaults_2.length : Int) > 1048576)))] (by kernel_rfl) ?_
  refine WL.nil ?_
  refine WQ.then_normal (hK7 _ _ _ ?_)
  refine WP.cond (decide ((aFaults_2.length : Int) > 1048576)) rfl rfl (fun hc8 => ?_) (fun hc8 => ?_)
  · have hm := iteT hm hc8
    refine WP.seq (fun K9 hK9 => ?_)
    refine WP.region ?_
    refine WL.runk 1 [6] [(6, .bool true)] (by kernel_rfl) ?_
    refine WL.nil ?_
    refine WQ.then_normal (hK9 _ _ _ ?_)
    refine WP.ret ?_
    refine WQ.then_ret ?_
    obtain rfl := Option.some.inj hm
    exact WQ.ret1 _ rfl rfl ⟨rfl, (Ext.refl w)⟩
  have hm := iteF hm hc8
  refine WP.skip ?_
  refine WQ.then_normal (hK6 _ _ _ ?_)
  refine WP.seq (fun K10 hK10 => ?_)
  refine WP.region ?_
  refine WL.runk 1 [0, 1, 2, 7] [(0, .slice a0' aList_0.length c0'), (1, .slice a1' aSome_1.length c1'), (2, .slice a2' aFaults_2.length c2'), (7, .int .i64 1048576)] (by kernel_rfl) ?_
  refine WL.nil ?_
  refine WQ.then_normal (hK10 _ _ _ ?_)
  refine WP.seq (fun K11 hK11 => ?_)
  refine WP.region ?_
  refine WL.runk 2 [0, 1, 2, 26, 27] [(0, .slice a0' aList_0.length c0'), (1, .slice a1' aSome_1.length c1'), (2, .slice a2' aFaults_2.length c2'), (26, .slice a0' aList_0.length c0'), (27, .int .i64 1048576)] (by kernel_rfl) ?_
  obtain ⟨x12, hx13, hm⟩ := bindE hm
  refine WL.call 28 #[.slice a0' aList_0.length c0', .int .i64 1048576] rfl rfl (by kernel_rfl) (c_28 n aList_0 a0' c0' 1048576 w hx13 (Rd.below h0 (Ext.refl w)) hle0) ?_
  rintro _ w14 ⟨rfl, hE15⟩
  refine ⟨_, rfl, ?_⟩
  have hb17 : Ext w w14 := Ext.trans (Ext.refl w) hE15
  have hL18 : w.heap.size ≤ w14.heap.size := Nat.le_trans (Nat.le_refl _) hE15.size
  have hS19 : SH w14 w.heap.size [] := SH.ext (SH.nil _ _) hE15
  refine WL.runk 1 [0, 1, 2, 7] [(0, .slice a0' aList_0.length c0'), (1, .slice a1' aSome_1.length c1'), (2, .slice a2' aFaults_2.length c2'), (7, .int .i64 x12)] (by kernel_rfl) ?_
  refine WL.nil ?_
  refine WQ.then_normal (hK11 _ _ _ ?_)
  refine WP.seq (fun K20 hK20 => ?_)
  refine WP.seq (fun K21 hK21 => ?_)
  refine WP.region ?_
  refine WL.runk 2 [0, 1, 2, 30] [(0, .slice a0' aList_0.length c0'), (1, .slice a1' aSome_1.length c1'), (2, .slice a2' aFaults_2.length c2'), (30, .bool (decide (x12 < 0)))] (by kernel_rfl) ?_
  refine WL.nil ?_
  refine WQ.then_normal (hK21 _ _ _ ?_)
  refine WP.cond (decide (x12 < 0)) rfl rfl (fun hc22 => ?_) (fun hc22 => ?_)
  · have hm := iteT hm hc22
    refine WP.seq (fun K23 hK23 => ?_)
    refine WP.region ?_
    refine WL.runk 1 [6] [(6, .bool true)] (by kernel_rfl) ?_
    refine WL.nil ?_
    refine WQ.then_normal (hK23 _ _ _ ?_)
    refine WP.ret ?_
    refine WQ.then_ret ?_
    obtain rfl := Option.some.inj hm
    exact WQ.ret1 _ rfl rfl ⟨rfl, hb17⟩
  have hm := iteF hm hc22
  refine WP.skip ?_
  refine WQ.then_normal (hK20 _ _ _ ?_)
  refine WP.seq (fun K24 hK24 => ?_)
  refine WP.region ?_
  refine WL.runk 1 [0, 1, 2, 32] [(0, .slice a0' aList_0.length c0'), (1, .slice a1' aSome_1.length c1'), (2, .slice a2' aFaults_2.length c2'), (32, .slice a0' aList_0.length c0')] (by kernel_rfl) ?_
  obtain ⟨x25, hx26, hm⟩ := bindE hm
  refine WL.call 30 #[.slice a0' aList_0.length c0'] rfl rfl (by kernel_rfl) (c_30 n aList_0 a0' c0' w14 hx26 (Rd.below h0 hb17) hle0) ?_
  rintro _ w30 ⟨a27, c28, rfl, hE31, hR32⟩
  refine ⟨_, rfl, ?_⟩
  have hb33 : Ext w w30 := Ext.trans hb17 hE31
  have hL34 : w.heap.size ≤ w30.heap.size := Nat.le_trans hL18 hE31.size
  have hS35 : SH w30 w.heap.size [aNest fRepair 73 2 a27 c28 x25] := SH.add hS19 hE31 hL18 hR32
  refine WL.runk 1 [0, 1, 2, 33, 34] [(0, .slice a0' aList_0.length c0'), (1, .slice a1' aSome_1.length c1'), (2, .slice a2' aFaults_2.length c2'), (33, .slice a27 x25.length c28), (34, .slice a1' aSome_1.length c1')] (by kernel_rfl) ?_
  obtain ⟨x36, hx37, hm⟩ := bindE hm
  refine WL.call 36 #[.slice a1' aSome_1.length c1'] rfl rfl (by kernel_rfl) (c_36 n aSome_1 a1' c1' w30 hx37 (Rd.below h1 hb33) hle1) ?_
  rintro _ w41 ⟨a38, c39, rfl, hE42, hR43⟩
  refine ⟨_, rfl, ?_⟩
  have hb44 : Ext w w41 := Ext.trans hb33 hE42
  have hL45 : w.heap.size ≤ w41.heap.size := Nat.le_trans hL34 hE42.size
  have hS46 : SH w41 w.heap.size [aOwn fInt 2 a38 c39 x36, aNest fRepair 73 2 a27 c28 x25] := SH.add hS35 hE42 hL34 hR43
  refine WL.runk 1 [0, 1, 2, 33, 35, 36] [(0, .slice a0' aList_0.length c0'), (1, .slice a1' aSome_1.length c1'), (2, .slice a2' aFaults_2.length c2'), (33, .slice a27 x25.length c28), (35, .slice a38 x36.length c39), (36, .slice a2' aFaults_2.length c2')] (by kernel_rfl) ?_
  obtain ⟨x47, hx48, hm⟩ := bindE hm
  refine WL.call 36 #[.slice a2' aFaults_2.length c2'] rfl rfl (by kernel_rfl) (c_36 n aFaults_2 a2' c2' w41 hx48 (Rd.below h2 hb44) hle2) ?_
  rintro _ w52 ⟨a49, c50, rfl, hE53, hR54⟩
  refine ⟨_, rfl, ?_⟩
  have hb55 : Ext w w52 := Ext.trans hb44 hE53
  have hL56 : w.heap.size ≤ w52.heap.size := Nat.le_trans hL45 hE53.size
  have hS57 : SH w52 w.heap.size [aOwn fInt 2 a49 c50 x47, aOwn fInt 2 a38 c39 x36, aNest fRepair 73 2 a27 c28 x25] := SH.add hS46 hE53 hL45 hR54
  obtain ⟨x58, hx59, hm⟩ := bindE hm
  refine WL.call 22 #[.slice a27 x25.length c28, .slice a38 x36.length c39, .slice a49 x47.length c50] rfl rfl (by kernel_rfl) (c_22 n x25 a27 c28 x36 a38 c39 x47 a49 c50 w52 hx59 (SH.rdN (SH.front 2 hS57)) (SH.leN (SH.front 2 hS57)).1 (SH.rd (SH.front 1 hS57)) (SH.le (SH.front 1 hS57)).1 (SH.rd (SH.front 0 hS57)) (SH.le (SH.front 0 hS57)).1) ?_
  rintro _ w63 ⟨a60, c61, rfl, hE64, hR65⟩
  refine ⟨_, rfl, ?_⟩
  have hb66 : Ext w w63 := Ext.trans hb55 hE64
  have hL67 : w.heap.size ≤ w63.heap.size := Nat.le_trans hL56 hE64.size
  have hS68 : SH w63 w.heap.size [aOwn fInt 2 a60 c61 x58.1, aOwn fInt 2 a49 c50 x47, aOwn fInt 2 a38 c39 x36, aNest fRepair 73 2 a27 c28 x25] := SH.add hS57 hE64 hL56 hR65
  refine WL.runk 5 [0, 1, 2, 8, 9] [(0, .slice a0' aList_0.length c0'), (1, .slice a1' aSome_1.length c1'), (2, .slice a2' aFaults_2.length c2'), (8, .slice a60 x58.1.length c61), (9, .int .i64 x58.2)] (by kernel_rfl) ?_
  refine WL.nil ?_
  refine WQ.then_normal (hK24 _ _ _ ?_)
  refine WP.seq (fun K69 hK69 => ?_)
  refine WP.region ?_
  refine WL.runk 1 [0, 1, 2, 8, 9, 41] [(0, .slice a0' aList_0.length c0'), (1, .slice a1' aSome_1.length c1'), (2, .slice a2' aFaults_2.length c2'), (8, .slice a60 x58.1.length c61), (9, .int .i64 x58.2), (41, .slice a0' aList_0.length c0')] (by kernel_rfl) ?_
  obtain ⟨x70, hx71, hm⟩ := bindE hm
  refine WL.call 30 #[.slice a0' aList_0.length c0'] rfl rfl (by kernel_rfl) (c_30 n aList_0 a0' c0' w63 hx71 (Rd.below h0 hb66) hle0) ?_
  rintro _ w75 ⟨a72, c73, rfl, hE76, hR77⟩
  refine ⟨_, rfl, ?_⟩
  have hb78 : Ext w w75 := Ext.trans hb66 hE76
  have hL79 : w.heap.size ≤ w75.heap.size := Nat.le_trans hL67 hE76.size
  have hS80 : SH w75 w.heap.size [aNest fRepair 73 2 a72 c73 x70, aOwn fInt 2 a60 c61 x58.1, aOwn fInt 2 a49 c50 x47, aOwn fInt 2 a38 c39 x36, aNest fRepair 73 2 a27 c28 x25] := SH.add hS68 hE76 hL67 hR77
  refine WL.runk 1 [0, 1, 2, 8, 9, 10] [(0, .slice a0' aList_0.length c0'), (1, .slice a1' aSome_1.length c1'), (2, .slice a2' aFaults_2.length c2'), (8, .slice a60 x58.1.length c61), (9, .int .i64 x58.2), (10, .slice a72 x70.length c73)] (by kernel_rfl) ?_
  refine WL.nil ?_
  refine WQ.then_normal (hK69 _ _ _ ?_)
  refine WP.seq (fun K81 hK81 => ?_)
  refine WP.region ?_
  refine WL.runk 1 [0, 1, 2, 8, 9, 10, 43] [(0, .slice a0' aList_0.length c0'), (1, .slice a1' aSome_1.length c1'), (2, .slice a2' aFaults_2.length c2'), (8, .slice a60 x58.1.length c61), (9, .int .i64 x58.2), (10, .slice a72 x70.length c73), (43, .slice a1' aSome_1.length c1')] (by kernel_rfl) ?_
  obtain ⟨x82, hx83, hm⟩ := bindE hm
  refine WL.call 36 #[.slice a1' aSome_1.length c1'] rfl rfl (by kernel_rfl) (c_36 n aSome_1 a1' c1' w75 hx83 (Rd.below h1 hb78) hle1) ?_
  rintro _ w87 ⟨a84, c85, rfl, hE88, hR89⟩
  refine ⟨_, rfl, ?_⟩
  have hb90 : Ext w w87 := Ext.trans hb78 hE88
  have hL91 : w.heap.size ≤ w87.heap.size := Nat.le_trans hL79 hE88.size
  have hS92 : SH w87 w.heap.size [aOwn fInt 2 a84 c85 x82, aNest fRepair 73 2 a72 c73 x70, aOwn fInt 2 a60 c61 x58.1, aOwn fInt 2 a49 c50 x47, aOwn fInt 2 a38 c39 x36, aNest fRepair 73 2 a27 c28 x25] := SH.add hS80 hE88 hL79 hR89
  refine WL.runk 1 [0, 1, 2, 8, 9, 10, 11] [(0, .slice a0' aList_0.length c0'), (1, .slice a1' aSome_1.length c1'), (2, .slice a2' aFaults_2.length c2'), (8, .slice a60 x58.1.length c61), (9, .int .i64 x58.2), (10, .slice a72 x70.length c73), (11, .slice a84 x82.length c85)] (by kernel_rfl) ?_
  refine WL.nil ?_
  refine WQ.then_normal (hK81 _ _ _ ?_)
  refine WP.seq (fun K93 hK93 => ?_)
  refine WP.region ?_
  refine WL.runk 1 [0, 1, 2, 8, 9, 10, 11, 45] [(0, .slice a0' aList_0.length c0'), (1, .slice a1' aSome_1.length c1'), (2, .slice a2' aFaults_2.length c2'), (8, .slice a60 x58.1.length c61), (9, .int .i64 x58.2), (10, .slice a72 x70.length c73), (11, .slice a84 x82.length c85), (45, .slice a2' aFaults_2.length c2')] (by kernel_rfl) ?_
  obtain ⟨x94, hx95, hm⟩ := bindE hm
  refine WL.call 36 #[.slice a2' aFaults_2.length c2'] rfl rfl (by kernel_rfl) (c_36 n aFaults_2 a2' c2' w87 hx95 (Rd.below h2 hb90) hle2) ?_
  rintro _ w99 ⟨a96, c97, rfl, hE100, hR101⟩
  refine ⟨_, rfl, ?_⟩
  have hb102 : Ext w w99 := Ext.trans hb90 hE100
  have hL103 : w.heap.size ≤ w99.heap.size := Nat.le_trans hL91 hE100.size
  have hS104 : SH w99 w.heap.size [aOwn fInt 2 a96 c97 x94, aOwn fInt 2 a84 c85 x82, aNest fRepair 73 2 a72 c73 x70, aOwn fInt 2 a60 c61 x58.1, aOwn fInt 2 a49 c50 x47, aOwn fInt 2 a38 c39 x36, aNest fRepair 73 2 a27 c28 x25] := SH.add hS92 hE100 hL91 hR101
  refine WL.runk 1 [0, 1, 2, 8, 9, 10, 11, 12] [(0, .slice a0' aList_0.length c0'), (1, .slice a1' aSome_1.length c1'), (2, .slice a2' aFaults_2.length c2'), (8, .slice a60 x58.1.length c61), (9, .int .i64 x58.2), (10, .slice a72 x70.length c73), (11, .slice a84 x82.length c85), (12, .slice a96 x94.length c97)] (by kernel_rfl) ?_
  refine WL.nil ?_
  refine WQ.then_normal (hK93 _ _ _ ?_)
  refine WP.seq (fun K105 hK105 => ?_)
  refine WP.region ?_
  refine WL.runk 3 [0, 1, 2, 8, 9, 10, 11, 12, 48, 49, 50] [(0, .slice a0' aList_0.length c0'), (1, .slice a1' aSome_1.length c1'), (2, .slice a2' aFaults_2.length c2'), (8, .slice a60 x58.1.length c61), (9, .int .i64 x58.2), (10, .slice a72 x70.length c73), (11, .slice a84 x82.length c85), (12, .slice a96 x94.length c97), (48, .slice a72 x70.length c73), (49, .slice a84 x82.length c85), (50, .slice a96 x94.length c97)] (by kernel_rfl) ?_
  obtain ⟨x106, hx107, hm⟩ := bindE hm
  refine WL.call 21 #[.slice a72 x70.length c73, .slice a84 x82.length c85, .slice a96 x94.length c97] rfl rfl (by kernel_rfl) (c_21 n x70 a72 c73 x82 a84 c85 x94 a96 c97 w99 hx107 (SH.rdN (SH.front 2 hS104)) (SH.leN (SH.front 2 hS104)).1 (SH.rd (SH.front 1 hS104)) (SH.le (SH.front 1 hS104)).1 (SH.rd (SH.front 0 hS104)) (SH.le (SH.front 0 hS104)).1) ?_
  rintro _ w111 ⟨a108, c109, rfl, hE112, hR113⟩
  refine ⟨_, rfl, ?_⟩
  have hb114 : Ext w w111 := Ext.trans hb102 hE112
  have hL115 : w.heap.size ≤ w111.heap.size := Nat.le_trans hL103 hE112.size
  have hS116 : SH w111 w.heap.size [aOwn fInt 2 a108 c109 x106.1, aOwn fInt 2 a96 c97 x94, aOwn fInt 2 a84 c85 x82, aNest fRepair 73 2 a72 c73 x70, aOwn fInt 2 a60 c61 x58.1, aOwn fInt 2 a49 c50 x47, aOwn fInt 2 a38 c39 x36, aNest fRepair 73 2 a27 c28 x25] := SH.add hS104 hE112 hL103 hR113
  refine WL.runk 5 [0, 1, 2, 8, 9, 10, 11, 12, 13, 14] [(0, .slice a0' aList_0.length c0'), (1, .slice a1' aSome_1.length c1'), (2, .slice a2' aFaults_2.length c2'), (8, .slice a60 x58.1.length c61), (9, .int .i64 x58.2), (10, .slice a72 x70.length c73), (11, .slice a84 x82.length c85), (12, .slice a96 x94.length c97), (13, .slice a108 x106.1.length c109), (14, .int .i64 x106.2)] (by kernel_rfl) ?_
  refine WL.nil ?_
  refine WQ.then_normal (hK105 _ _ _ ?_)
  refine WP.seq (fun K117 hK117 => ?_)
  refine WP.seq (fun K118 hK118 => ?_)
  obtain ⟨x128, hx129, hm⟩ := bindE hm
  refine WP.cut (fun env' w' => env' = [(0, .slice a0' aList_0.length c0'), (1, .slice a1' aSome_1.length c1'), (2, .slice a2' aFaults_2.length c2'), (8, .slice a60 x58.1.length c61), (9, .int .i64 x58.2), (10, .slice a72 x70.length c73), (11, .slice a84 x82.length c85), (12, .slice a96 x94.length c97), (13, .slice a108 x106.1.length c109), (14, .int .i64 x106.2), (62, .bool x128)] ∧ Ext w w' ∧ w.heap.size ≤ w'.heap.size ∧ SH w' w.heap.size [aOwn fInt 2 a108 c109 x106.1, aOwn fInt 2 a96 c97 x94, aOwn fInt 2 a84 c85 x82, aNest fRepair 73 2 a72 c73 x70, aOwn fInt 2 a60 c61 x58.1]) ?_ ?_
  · have hm := hx129; clear hx129
    refine WP.region ?_
    refine WL.runk 2 [0, 1, 2, 8, 9, 10, 11, 12, 13, 14, 54, 55] [(0, .slice a0' aList_0.length c0'), (1, .slice a1' aSome_1.length c1'), (2, .slice a2' aFaults_2.length c2'), (8, .slice a60 x58.1.length c61), (9, .int .i64 x58.2), (10, .slice a72 x70.length c73), (11, .slice a84 x82.length c85), (12, .slice a96 x94.length c97), (13, .slice a108 x106.1.length c109), (14, .int .i64 x106.2), (54, .slice a108 x106.1.length c109), (55, .slice a60 x58.1.length c61)] (by kernel_rfl) ?_
    obtain ⟨x130, hx131, hm⟩ := bindE hm
    refine WL.call 38 #[.slice a108 x106.1.length c109, .slice a60 x58.1.length c61] rfl rfl (by kernel_rfl) (c_38 n x106.1 a108 c109 x58.1 a60 c61 w111 hx131 (SH.rd (SH.front 0 hS116)) (SH.le (SH.front 0 hS116)).1 (SH.rd (SH.front 4 hS116)) (SH.le (SH.front 4 hS116)).1) ?_
    rintro _ w132 ⟨rfl, hE133⟩
    refine ⟨_, rfl, ?_⟩
    have hb135 : Ext w w132 := Ext.trans hb114 hE133
    have hL136 : w.heap.size ≤ w132.heap.size := Nat.le_trans hL115 hE133.size
    have hS137 : SH w132 w.heap.size [aOwn fInt 2 a108 c109 x106.1, aOwn fInt 2 a96 c97 x94, aOwn fInt 2 a84 c85 x82, aNest fRepair 73 2 a72 c73 x70, aOwn fInt 2 a60 c61 x58.1, aOwn fInt 2 a49 c50 x47, aOwn fInt 2 a38 c39 x36, aNest fRepair 73 2 a27 c28 x25] := SH.ext hS116 hE133
    refine WL.runk 2 [0, 1, 2, 8, 9, 10, 11, 12, 13, 14, 58] [(0, .slice a0' aList_0.length c0'), (1, .slice a1' aSome_1.length c1'), (2, .slice a2' aFaults_2.length c2'), (8, .slice a60 x58.1.length c61), (9, .int .i64 x58.2), (10, .slice a72 x70.length c73), (11, .slice a84 x82.length c85), (12, .slice a96 x94.length c97), (13, .slice a108 x106.1.length c109), (14, .int .i64 x106.2), (58, .bool (!x130))] (by kernel_rfl) ?_
    refine WL.case (!x130) [58] ⟨rfl, trivial⟩ (fun hc138 => ?_) (fun hc138 => ?_)
    · have hm := iteT hm hc138
      refine WL.runk 4 [0, 1, 2, 8, 9, 10, 11, 12, 13, 14, 62] [(0, .slice a0' aList_0.length c0'), (1, .slice a1' aSome_1.length c1'), (2, .slice a2' aFaults_2.length c2'), (8, .slice a60 x58.1.length c61), (9, .int .i64 x58.2), (10, .slice a72 x70.length c73), (11, .slice a84 x82.length c85), (12, .slice a96 x94.length c97), (13, .slice a108 x106.1.length c109), (14, .int .i64 x106.2), (62, .bool true)] (by kernel_rfl) ?_
      refine WL.nil ?_
      obtain rfl := Option.some.inj hm
      exact WQ.post' ⟨rfl, hb135, hL136, (SH.take 5 (SH.front 4 (SH.front 4 (SH.front 4 (SH.front 4 (SH.front 4 hS137))))))⟩ ⟨rfl, rfl, rfl, rfl, rfl, rfl, rfl, rfl, rfl, rfl, rfl, trivial⟩
    have hm := iteF hm hc138
    refine WL.runk 4 [0, 1, 2, 8, 9, 10, 11, 12, 13, 14, 62] [(0, .slice a0' aList_0.length c0'), (1, .slice a1' aSome_1.length c1'), (2, .slice a2' aFaults_2.length c2'), (8, .slice a60 x58.1.length c61), (9, .int .i64 x58.2), (10, .slice a72 x70.length c73), (11, .slice a84 x82.length c85), (12, .slice a96 x94.length c97), (13, .slice a108 x106.1.length c109), (14, .int .i64 x106.2), (62, .bool (x106.2 != x58.2))] (by kernel_rfl) ?_
    refine WL.nil ?_
    obtain rfl := Option.some.inj hm
    exact WQ.post' ⟨rfl, hb135, hL136, (SH.take 5 (SH.front 4 (SH.front 4 (SH.front 4 (SH.front 4 (SH.front 4 hS137))))))⟩ ⟨rfl, rfl, rfl, rfl, rfl, rfl, rfl, rfl, rfl, rfl, rfl, trivial⟩
  clear hx129
  rintro _ w139 ⟨rfl, hb140, hL141, hS142⟩
  refine WQ.then_normal (hK118 _ _ _ ?_)
  refine WP.cond x128 rfl rfl (fun hc143 => ?_) (fun hc143 => ?_)
  · have hm := iteT hm hc143
    refine WP.seq (fun K144 hK144 => ?_)
    refine WP.region ?_
    refine WL.runk 1 [6] [(6, .bool false)] (by kernel_rfl) ?_
    refine WL.nil ?_
    refine WQ.then_normal (hK144 _ _ _ ?_)
    refine WP.ret ?_
    refine WQ.then_ret ?_
    obtain rfl := Option.some.inj hm
    exact WQ.ret1 _ rfl rfl ⟨rfl, hb140⟩
  have hm := iteF hm hc143
  refine WP.skip ?_
  refine WQ.then_normal (hK117 _ _ _ ?_)
  refine WP.seq (fun K145 hK145 => ?_)
  refine WP.seq (fun K146 hK146 => ?_)
  refine WP.region ?_
  refine WL.runk 2 [0, 1, 2, 8, 9, 10, 11, 12, 13, 14, 63, 64] [(0, .slice a0' aList_0.length c0'), (1, .slice a1' aSome_1.length c1'), (2, .slice a2' aFaults_2.length c2'), (8, .slice a60 x58.1.length c61), (9, .int .i64 x58.2), (10, .slice a72 x70.length c73), (11, .slice a84 x82.length c85), (12, .slice a96 x94.length c97), (13, .slice a108 x106.1.length c109), (14, .int .i64 x106.2), (63, .slice a72 x70.length c73), (64, .slice a0' aList_0.length c0')] (by kernel_rfl) ?_
  obtain ⟨x147, hx148, hm⟩ := bindE hm
  refine WL.call 30 #[.slice a0' aList_0.length c0'] rfl rfl (by kernel_rfl) (c_30 n aList_0 a0' c0' w139 hx148 (Rd.below h0 hb140) hle0) ?_
  rintro _ w152 ⟨a149, c150, rfl, hE153, hR154⟩
  refine ⟨_, rfl, ?_⟩
  have hb155 : Ext w w152 := Ext.trans hb140 hE153
  have hL156 : w.heap.size ≤ w152.heap.size := Nat.le_trans hL141 hE153.size
  have hS157 : SH w152 w.heap.size [aNest fRepair 73 2 a149 c150 x147, aOwn fInt 2 a108 c109 x106.1, aOwn fInt 2 a96 c97 x94, aOwn fInt 2 a84 c85 x82, aNest fRepair 73 2 a72 c73 x70, aOwn fInt 2 a60 c61 x58.1] := SH.add hS142 hE153 hL141 hR154
  obtain ⟨x158, hx159, hm⟩ := bindE hm
  refine WL.call 32 #[.slice a72 x70.length c73, .slice a149 x147.length c150] rfl rfl (by kernel_rfl) (c_32 n x70 a72 c73 x147 a149 c150 w152 hx159 (SH.rdN (SH.front 4 hS157)) (SH.leN (SH.front 4 hS157)).1 (SH.rdN (SH.front 0 hS157)) (SH.leN (SH.front 0 hS157)).1) ?_
  rintro _ w160 ⟨rfl, hE161⟩
  refine ⟨_, rfl, ?_⟩
  have hb163 : Ext w w160 := Ext.trans hb155 hE161
  have hL164 : w.heap.size ≤ w160.heap.size := Nat.le_trans hL156 hE161.size
  have hS165 : SH w160 w.heap.size [aNest fRepair 73 2 a149 c150 x147, aOwn fInt 2 a108 c109 x106.1, aOwn fInt 2 a96 c97 x94, aOwn fInt 2 a84 c85 x82, aNest fRepair 73 2 a72 c73 x70, aOwn fInt 2 a60 c61 x58.1] := SH.ext hS157 hE161
  refine WL.runk 1 [0, 1, 2, 8, 9, 10, 11, 12, 13, 14, 67] [(0, .slice a0' aList_0.length c0'), (1, .slice a1' aSome_1.length c1'), (2, .slice a2' aFaults_2.length c2'), (8, .slice a60 x58.1.length c61), (9, .int .i64 x58.2), (10, .slice a72 x70.length c73), (11, .slice a84 x82.length c85), (12, .slice a96 x94.length c97), (13, .slice a108 x106.1.length c109), (14, .int .i64 x106.2), (67, .bool (!x158))] (by kernel_rfl) ?_
  refine WL.nil ?_
  refine WQ.then_normal (hK146 _ _ _ ?_)
  refine WP.cond (!x158) rfl rfl (fun hc166 => ?_) (fun hc166 => ?_)
  · have hm := iteT hm hc166
    refine WP.seq (fun K167 hK167 => ?_)
    refine WP.region ?_
    refine WL.runk 1 [6] [(6, .bool false)] (by kernel_rfl) ?_
    refine WL.nil ?_
    refine WQ.then_normal (hK167 _ _ _ ?_)
    refine WP.ret ?_
    refine WQ.then_ret ?_
    obtain rfl := Option.some.inj hm
    exact WQ.ret1 _ rfl rfl ⟨rfl, hb163⟩
  have hm := iteF hm hc166
  refine WP.skip ?_
  refine WQ.then_normal (hK145 _ _ _ ?_)
  refine WP.seq (fun K168 hK168 => ?_)
  refine WP.seq (fun K169 hK169 => ?_)
  refine WP.region ?_
  refine WL.runk 2 [0, 1, 2, 8, 9, 10, 11, 12, 13, 14, 68, 69] [(0, .slice a0' aList_0.length c0'), (1, .slice a1' aSome_1.length c1'), (2, .slice a2' aFaults_2.length c2'), (8, .slice a60 x58.1.length c61), (9, .int .i64 x58.2), (10, .slice a72 x70.length c73), (11, .slice a84 x82.length c85), (12, .slice a96 x94.length c97), (13, .slice a108 x106.1.length c109), (14, .int .i64 x106.2), (68, .slice a84 x82.length c85), (69, .slice a1' aSome_1.length c1')] (by kernel_rfl) ?_
  obtain ⟨x170, hx171, hm⟩ := bindE hm
  refine WL.call 36 #[.slice a1' aSome_1.length c1'] rfl rfl (by kernel_rfl) (c_36 n aSome_1 a1' c1' w160 hx171 (Rd.below h1 hb163) hle1) ?_
  rintro _ w175 ⟨a172, c173, rfl, hE176, hR177⟩
  refine ⟨_, rfl, ?_⟩
  have hb178 : Ext w w175 := Ext.trans hb163 hE176
  have hL179 : w.heap.size ≤ w175.heap.size := Nat.le_trans hL164 hE176.size
  have hS180 : SH w175 w.heap.size [aOwn fInt 2 a172 c173 x170, aNest fRepair 73 2 a149 c150 x147, aOwn fInt 2 a108 c109 x106.1, aOwn fInt 2 a96 c97 x94, aOwn fInt 2 a84 c85 x82, aNest fRepair 73 2 a72 c73 x70, aOwn fInt 2 a60 c61 x58.1] := SH.add hS165 hE176 hL164 hR177
  obtain ⟨x181, hx182, hm⟩ := bindE hm
  refine WL.call 38 #[.slice a84 x82.length c85, .slice a172 x170.length c173] rfl rfl (by kernel_rfl) (c_38 n x82 a84 c85 x170 a172 c173 w175 hx182 (SH.rd (SH.front 4 hS180)) (SH.le (SH.front 4 hS180)).1 (SH.rd (SH.front 0 hS180)) (SH.le (SH.front 0 hS180)).1) ?_
  rintro _ w183 ⟨rfl, hE184⟩
  refine ⟨_, rfl, ?_⟩
  have hb186 : Ext w w183 := Ext.trans hb178 hE184
  have hL187 : w.heap.size ≤ w183.heap.size := Nat.le_trans hL179 hE184.size
  have hS188 : SH w183 w.heap.size [aOwn fInt 2 a172 c173 x170, aNest fRepair 73 2 a149 c150 x147, aOwn fInt 2 a108 c109 x106.1, aOwn fInt 2 a96 c97 x94, aOwn fInt 2 a84 c85 x82, aNest fRepair 73 2 a72 c73 x70, aOwn fInt 2 a60 c61 x58.1] := SH.ext hS180 hE184
  refine WL.runk 1 [0, 1, 2, 8, 9, 10, 11, 12, 13, 14, 72] [(0, .slice a0' aList_0.length c0'), (1, .slice a1' aSome_1.length c1'), (2, .slice a2' aFaults_2.length c2'), (8, .slice a60 x58.1.length c61), (9, .int .i64 x58.2), (10, .slice a72 x70.length c73), (11, .slice a84 x82.length c85), (12, .slice a96 x94.length c97), (13, .slice a108 x106.1.length c109), (14, .int .i64 x106.2), (72, .bool (!x181))] (by kernel_rfl) ?_
  refine WL.nil ?_
  refine WQ.then_normal (hK169 _ _ _ ?_)
  refine WP.cond (!x181) rfl rfl (fun hc189 => ?_) (fun hc189 => ?_)
  · have hm := iteT hm hc189
    refine WP.seq (fun K190 hK190 => ?_)
    refine WP.region ?_
    refine WL.runk 1 [6] [(6, .bool false)] (by kernel_rfl) ?_
    refine WL.nil ?_
    refine WQ.then_normal (hK190 _ _ _ ?_)
    refine WP.ret ?_
    refine WQ.then_ret ?_
    obtain rfl := Option.some.inj hm
    exact WQ.ret1 _ rfl rfl ⟨rfl, hb186⟩
  have hm := iteF hm hc189
  refine WP.skip ?_
  refine WQ.then_normal (hK168 _ _ _ ?_)
  refine WP.seq (fun K191 hK191 => ?_)
  refine WP.seq (fun K192 hK192 => ?_)
  refine WP.region ?_
  refine WL.runk 2 [0, 1, 2, 8, 9, 10, 11, 12, 13, 14, 73, 74] [(0, .slice a0' aList_0.length c0'), (1, .slice a1' aSome_1.length c1'), (2, .slice a2' aFaults_2.length c2'), (8, .slice a60 x58.1.length c61), (9, .int .i64 x58.2), (10, .slice a72 x70.length c73), (11, .slice a84 x82.length c85), (12, .slice a96 x94.length c97), (13, .slice a108 x106.1.length c109), (14, .int .i64 x106.2), (73, .slice a96 x94.length c97), (74, .slice a2' aFaults_2.length c2')] (by kernel_rfl) ?_
  obtain ⟨x193, hx194, hm⟩ := bindE hm
  refine WL.call 36 #[.slice a2' aFaults_2.length c2'] rfl rfl (by kernel_rfl) (c_36 n aFaults_2 a2' c2' w183 hx194 (Rd.below h2 hb186) hle2) ?_
  rintro _ w198 ⟨a195, c196, rfl, hE199, hR200⟩
  refine ⟨_, rfl, ?_⟩
  have hb201 : Ext w w198 := Ext.trans hb186 hE199
  have hL202 : w.heap.size ≤ w198.heap.size := Nat.le_trans hL187 hE199.size
  have hS203 : SH w198 w.heap.size [aOwn fInt 2 a195 c196 x193, aOwn fInt 2 a172 c173 x170, aNest fRepair 73 2 a149 c150 x147, aOwn fInt 2 a108 c109 x106.1, aOwn fInt 2 a96 c97 x94, aOwn fInt 2 a84 c85 x82, aNest fRepair 73 2 a72 c73 x70, aOwn fInt 2 a60 c61 x58.1] := SH.add hS188 hE199 hL187 hR200
  obtain ⟨x204, hx205, hm⟩ := bindE hm
  refine WL.call 38 #[.slice a96 x94.length c97, .slice a195 x193.length c196] rfl rfl (by kernel_rfl) (c_38 n x94 a96 c97 x193 a195 c196 w198 hx205 (SH.rd (SH.front 4 hS203)) (SH.le (SH.front 4 hS203)).1 (SH.rd (SH.front 0 hS203)) (SH.le (SH.front 0 hS203)).1) ?_
  rintro _ w206 ⟨rfl, hE207⟩
  refine ⟨_, rfl, ?_⟩
  have hb209 : Ext w w206 := Ext.trans hb201 hE207
  have hL210 : w.heap.size ≤ w206.heap.size := Nat.le_trans hL202 hE207.size
  have hS211 : SH w206 w.heap.size [aOwn fInt 2 a195 c196 x193, aOwn fInt 2 a172 c173 x170, aNest fRepair 73 2 a149 c150 x147, aOwn fInt 2 a108 c109 x106.1, aOwn fInt 2 a96 c97 x94, aOwn fInt 2 a84 c85 x82, aNest fRepair 73 2 a72 c73 x70, aOwn fInt 2 a60 c61 x58.1] := SH.ext hS203 hE207
  refine WL.runk 1 [0, 1, 2, 8, 9, 10, 11, 12, 13, 14, 77] [(0, .slice a0' aList_0.length c0'), (1, .slice a1' aSome_1.length c1'), (2, .slice a2' aFaults_2.length c2'), (8, .slice a60 x58.1.length c61), (9, .int .i64 x58.2), (10, .slice a72 x70.length c73), (11, .slice a84 x82.length c85), (12, .slice a96 x94.length c97), (13, .slice a108 x106.1.length c109), (14, .int .i64 x106.2), (77, .bool (!x204))] (by kernel_rfl) ?_
  refine WL.nil ?_
  refine WQ.then_normal (hK192 _ _ _ ?_)
  refine WP.cond (!x204) rfl rfl (fun hc212 => ?_) (fun hc212 => ?_)
  · have hm := iteT hm hc212
    refine WP.seq (fun K213 hK213 => ?_)
    refine WP.region ?_
    refine WL.runk 1 [6] [(6, .bool false)] (by kernel_rfl) ?_
    refine WL.nil ?_
    refine WQ.then_normal (hK213 _ _ _ ?_)
    refine WP.ret ?_
    refine WQ.then_ret ?_
    obtain rfl := Option.some.inj hm
    exact WQ.ret1 _ rfl rfl ⟨rfl, hb209⟩
  have hm := iteF hm hc212
  refine WP.skip ?_
  refine WQ.then_normal (hK191 _ _ _ ?_)
  refine WP.seq (fun K214 hK214 => ?_)
  refine WP.region ?_
  refine WL.runk 1 [0, 1, 2, 8, 9, 10, 11, 12, 13, 14, 15] [(0, .slice a0' aList_0.length c0'), (1, .slice a1' aSome_1.length c1'), (2, .slice a2' aFaults_2.length c2'), (8, .slice a60 x58.1.length c61), (9, .int .i64 x58.2), (10, .slice a72 x70.length c73), (11, .slice a84 x82.length c85), (12, .slice a96 x94.length c97), (13, .slice a108 x106.1.length c109), (14, .int .i64 x106.2), (15, .int .i64 1)] (by kernel_rfl) ?_
  refine WL.nil ?_
  refine WQ.then_normal (hK214 _ _ _ ?_)
  refine WP.seq (fun K215 hK215 => ?_)
  refine WP.region ?_
  refine WL.runk 2 [0, 1, 2, 8, 9, 11, 12, 13, 14, 78, 79] [(0, .slice a0' aList_0.length c0'), (1, .slice a1' aSome_1.length c1'), (2, .slice a2' aFaults_2.length c2'), (8, .slice a60 x58.1.length c61), (9, .int .i64 x58.2), (11, .slice a84 x82.length c85), (12, .slice a96 x94.length c97), (13, .slice a108 x106.1.length c109), (14, .int .i64 x106.2), (78, .slice a72 x70.length c73), (79, .int .i64 1)] (by kernel_rfl) ?_
  obtain ⟨x216, hx217, hm⟩ := bindE hm
  refine WL.call 42 #[.slice a72 x70.length c73, .int .i64 1] rfl rfl (by kernel_rfl) (c_42 n x70 a72 c73 1 w206 w w.heap.size [aOwn fInt 2 a195 c196 x193, aOwn fInt 2 a172 c173 x170, aNest fRepair 73 2 a149 c150 x147, aOwn fInt 2 a108 c109 x106.1, aOwn fInt 2 a96 c97 x94, aOwn fInt 2 a84 c85 x82, aOwn fInt 2 a60 c61 x58.1] hx217 hb209 (Nat.le_refl _) hL210  (SH.front 7 (SH.front 6 (SH.front 6 (SH.front 6 (SH.front 6 (SH.front 6 (SH.front 6 (SH.front 7 hS211))))))))) ?_
  rintro _ w218 ⟨rfl, hB222, hS221, hlen223⟩
  refine ⟨_, rfl, ?_⟩
  have hb224 : Ext w w218 := Below.trans hb209 hB222
  have hL225 : w.heap.size ≤ w218.heap.size := Nat.le_trans hL210 hB222.size
  refine WL.sub [(0, .slice a0' aList_0.length c0'), (1, .slice a1' aSome_1.length c1'), (2, .slice a2' aFaults_2.length c2'), (8, .slice a60 x58.1.length c61), (9, .int .i64 x58.2), (11, .slice a84 x82.length c85), (12, .slice a96 x94.length c97), (13, .slice a108 x106.1.length c109), (14, .int .i64 x106.2), (78, .slice a72 x216.2.length c73), (79, .int .i64 1), (80, .int .i64 x216.1)] ⟨rfl, rfl, rfl, rfl, rfl, rfl, rfl, rfl, rfl, by rw [hlen223]; rfl, rfl, rfl, trivial⟩ ?_
  refine WL.runk 1 [0, 1, 2, 8, 9, 11, 12, 13, 14, 15] [(0, .slice a0' aList_0.length c0'), (1, .slice a1' aSome_1.length c1'), (2, .slice a2' aFaults_2.length c2'), (8, .slice a60 x58.1.length c61), (9, .int .i64 x58.2), (11, .slice a84 x82.length c85), (12, .slice a96 x94.length c97), (13, .slice a108 x106.1.length c109), (14, .int .i64 x106.2), (15, .int .i64 x216.1)] (by kernel_rfl) ?_
  refine WL.nil ?_
  refine WQ.then_normal (hK215 _ _ _ ?_)
  refine WP.seq (fun K226 hK226 => ?_)
  refine WP.region ?_
  refine WL.runk 2 [0, 1, 2, 8, 9, 12, 13, 14, 81, 82] [(0, .slice a0' aList_0.length c0'), (1, .slice a1' aSome_1.length c1'), (2, .slice a2' aFaults_2.length c2'), (8, .slice a60 x58.1.length c61), (9, .int .i64 x58.2), (12, .slice a96 x94.length c97), (13, .slice a108 x106.1.length c109), (14, .int .i64 x106.2), (81, .slice a84 x82.length c85), (82, .int .i64 x216.1)] (by kernel_rfl) ?_
  obtain ⟨x227, hx228, hm⟩ := bindE hm
  refine WL.call 43 #[.slice a84 x82.length c85, .int .i64 x216.1] rfl rfl (by kernel_rfl) (c_43 n x82 a84 c85 x216.1 w218 w w.heap.size [aNest fRepair 73 2 a72 c73 x216.2, aOwn fInt 2 a195 c196 x193, aOwn fInt 2 a172 c173 x170, aNest fRepair 73 2 a149 c150 x147, aOwn fInt 2 a108 c109 x106.1, aOwn fInt 2 a96 c97 x94, aOwn fInt 2 a60 c61 x58.1] hx228 hb224 (Nat.le_refl _) hL225  (SH.front 7 (SH.front 6 (SH.front 6 (SH.front 6 (SH.front 6 (SH.front 6 (SH.front 6 (SH.front 7 hS221))))))))) ?_
  rintro _ w229 ⟨rfl, hB233, hS232, hlen234⟩
  refine ⟨_, rfl, ?_⟩
  have hb235 : Ext w w229 := Below.trans hb224 hB233
  have hL236 : w.heap.size ≤ w229.heap.size := Nat.le_trans hL225 hB233.size
  refine WL.sub [(0, .slice a0' aList_0.length c0'), (1, .slice a1' aSome_1.length c1'), (2, .slice a2' aFaults_2.length c2'), (8, .slice a60 x58.1.length c61), (9, .int .i64 x58.2), (12, .slice a96 x94.length c97), (13, .slice a108 x106.1.length c109), (14, .int .i64 x106.2), (81, .slice a84 x227.2.length c85), (82, .int .i64 x216.1), (83, .int .i64 x227.1)] ⟨rfl, rfl, rfl, rfl, rfl, rfl, rfl, rfl, by rw [hlen234]; rfl, rfl, rfl, trivial⟩ ?_
  refine WL.runk 1 [0, 1, 2, 8, 9, 12, 13, 14, 15] [(0, .slice a0' aList_0.length c0'), (1, .slice a1' aSome_1.length c1'), (2, .slice a2' aFaults_2.length c2'), (8, .slice a60 x58.1.length c61), (9, .int .i64 x58.2), (12, .slice a96 x94.length c97), (13, .slice a108 x106.1.length c109), (14, .int .i64 x106.2), (15, .int .i64 x227.1)] (by kernel_rfl) ?_
  refine WL.nil ?_
  refine WQ.then_normal (hK226 _ _ _ ?_)
  refine WP.seq (fun K237 hK237 => ?_)
  refine WP.region ?_
  refine WL.runk 2 [0, 1, 2, 8, 9, 13, 14, 84, 85] [(0, .slice a0' aList_0.length c0'), (1, .slice a1' aSome_1.length c1'), (2, .slice a2' aFaults_2.length c2'), (8, .slice a60 x58.1.length c61), (9, .int .i64 x58.2), (13, .slice a108 x106.1.length c109), (14, .int .i64 x106.2), (84, .slice a96 x94.length c97), (85, .int .i64 x227.1)] (by kernel_rfl) ?_
  obtain ⟨x238, hx239, hm⟩ := bindE hm
  refine WL.call 43 #[.slice a96 x94.length c97, .int .i64 x227.1] rfl rfl (by kernel_rfl) (c_43 n x94 a96 c97 x227.1 w229 w w.heap.size [aOwn fInt 2 a84 c85 x227.2, aNest fRepair 73 2 a72 c73 x216.2, aOwn fInt 2 a195 c196 x193, aOwn fInt 2 a172 c173 x170, aNest fRepair 73 2 a149 c150 x147, aOwn fInt 2 a108 c109 x106.1, aOwn fInt 2 a60 c61 x58.1] hx239 hb235 (Nat.le_refl _) hL236  (SH.front 7 (SH.front 6 (SH.front 6 (SH.front 6 (SH.front 6 (SH.front 6 (SH.front 6 (SH.front 7 hS232))))))))) ?_
  rintro _ w240 ⟨rfl, hB244, hS243, hlen245⟩
  refine ⟨_, rfl, ?_⟩
  have hb246 : Ext w w240 := Below.trans hb235 hB244
  have hL247 : w.heap.size ≤ w240.heap.size := Nat.le_trans hL236 hB244.size
  refine WL.sub [(0, .slice a0' aList_0.length c0'), (1, .slice a1' aSome_1.length c1'), (2, .slice a2' aFaults_2.length c2'), (8, .slice a60 x58.1.length c61), (9, .int .i64 x58.2), (13, .slice a108 x106.1.length c109), (14, .int .i64 x106.2), (84, .slice a96 x238.2.length c97), (85, .int .i64 x227.1), (86, .int .i64 x238.1)] ⟨rfl, rfl, rfl, rfl, rfl, rfl, rfl, by rw [hlen245]; rfl, rfl, rfl, trivial⟩ ?_
  refine WL.runk 1 [0, 1, 2, 8, 9, 13, 14, 15] [(0, .slice a0' aList_0.length c0'), (1, .slice a1' aSome_1.length c1'), (2, .slice a2' aFaults_2.length c2'), (8, .slice a60 x58.1.length c61), (9, .int .i64 x58.2), (13, .slice a108 x106.1.length c109), (14, .int .i64 x106.2), (15, .int .i64 x238.1)] (by kernel_rfl) ?_
  refine WL.nil ?_
  refine WQ.then_normal (hK237 _ _ _ ?_)
  refine WP.seq (fun K248 hK248 => ?_)
  refine WP.seq (fun K249 hK249 => ?_)
  obtain ⟨x260, hx261, hm⟩ := bindE hm
  refine WP.cut (fun env' w' => env' = [(0, .slice a0' aList_0.length c0'), (1, .slice a1' aSome_1.length c1'), (2, .slice a2' aFaults_2.length c2'), (8, .slice a60 x58.1.length c61), (9, .int .i64 x58.2), (13, .slice a108 x106.1.length c109), (99, .bool x260)] ∧ Ext w w' ∧ w.heap.size ≤ w'.heap.size ∧ SH w' w.heap.size [aOwn fInt 2 a108 c109 x106.1, aOwn fInt 2 a60 c61 x58.1]) ?_ ?_
  · have hm := hx261; clear hx261
    refine WP.region ?_
    refine WL.runk 3 [0, 1, 2, 8, 9, 13, 14, 89] [(0, .slice a0' aList_0.length c0'), (1, .slice a1' aSome_1.length c1'), (2, .slice a2' aFaults_2.length c2'), (8, .slice a60 x58.1.length c61), (9, .int .i64 x58.2), (13, .slice a108 x106.1.length c109), (14, .int .i64 x106.2), (89, .bool (decide (x238.1 < 0)))] (by kernel_rfl) ?_
    refine WL.case (decide (x238.1 < 0)) [89] ⟨rfl, trivial⟩ (fun hc262 => ?_) (fun hc262 => ?_)
    · have hm := iteT hm hc262
      refine WL.runk 10 [0, 1, 2, 8, 9, 13, 99] [(0, .slice a0' aList_0.length c0'), (1, .slice a1' aSome_1.length c1'), (2, .slice a2' aFaults_2.length c2'), (8, .slice a60 x58.1.length c61), (9, .int .i64 x58.2), (13, .slice a108 x106.1.length c109), (99, .bool true)] (by kernel_rfl) ?_
      refine WL.nil ?_
      obtain rfl := Option.some.inj hm
      exact WQ.post' ⟨rfl, hb246, hL247, (SH.take 2 (SH.front 7 (SH.front 7 hS243)))⟩ ⟨rfl, rfl, rfl, rfl, rfl, rfl, rfl, trivial⟩
    have hm := iteF hm hc262
    refine WL.runk 2 [0, 1, 2, 8, 9, 13, 14, 89, 90, 91] [(0, .slice a0' aList_0.length c0'), (1, .slice a1' aSome_1.length c1'), (2, .slice a2' aFaults_2.length c2'), (8, .slice a60 x58.1.length c61), (9, .int .i64 x58.2), (13, .slice a108 x106.1.length c109), (14, .int .i64 x106.2), (89, .bool false), (90, .slice a108 x106.1.length c109), (91, .slice a60 x58.1.length c61)] (by kernel_rfl) ?_
    obtain ⟨x263, hx264, hm⟩ := bindE hm
    refine WL.call 38 #[.slice a108 x106.1.length c109, .slice a60 x58.1.length c61] rfl rfl (by kernel_rfl) (c_38 n x106.1 a108 c109 x58.1 a60 c61 w240 hx264 (SH.rd (SH.front 6 hS243)) (SH.le (SH.front 6 hS243)).1 (SH.rd (SH.front 7 hS243)) (SH.le (SH.front 7 hS243)).1) ?_
    rintro _ w265 ⟨rfl, hE266⟩
    refine ⟨_, rfl, ?_⟩
    have hb268 : Ext w w265 := Ext.trans hb246 hE266
    have hL269 : w.heap.size ≤ w265.heap.size := Nat.le_trans hL247 hE266.size
    have hS270 : SH w265 w.heap.size [aOwn fInt 2 a96 c97 x238.2, aOwn fInt 2 a84 c85 x227.2, aNest fRepair 73 2 a72 c73 x216.2, aOwn fInt 2 a195 c196 x193, aOwn fInt 2 a172 c173 x170, aNest fRepair 73 2 a149 c150 x147, aOwn fInt 2 a108 c109 x106.1, aOwn fInt 2 a60 c61 x58.1] := SH.ext hS243 hE266
    refine WL.runk 3 [0, 1, 2, 8, 9, 13, 14, 95] [(0, .slice a0' aList_0.length c0'), (1, .slice a1' aSome_1.length c1'), (2, .slice a2' aFaults_2.length c2'), (8, .slice a60 x58.1.length c61), (9, .int .i64 x58.2), (13, .slice a108 x106.1.length c109), (14, .int .i64 x106.2), (95, .bool (!x263))] (by kernel_rfl) ?_
    refine WL.case (!x263) [95] ⟨rfl, trivial⟩ (fun hc271 => ?_) (fun hc271 => ?_)
    · have hm := iteT hm hc271
      refine WL.runk 4 [0, 1, 2, 8, 9, 13, 99] [(0, .slice a0' aList_0.length c0'), (1, .slice a1' aSome_1.length c1'), (2, .slice a2' aFaults_2.length c2'), (8, .slice a60 x58.1.length c61), (9, .int .i64 x58.2), (13, .slice a108 x106.1.length c109), (99, .bool true)] (by kernel_rfl) ?_
      refine WL.nil ?_
      obtain rfl := Option.some.inj hm
      exact WQ.post' ⟨rfl, hb268, hL269, (SH.take 2 (SH.front 7 (SH.front 7 hS270)))⟩ ⟨rfl, rfl, rfl, rfl, rfl, rfl, rfl, trivial⟩
    have hm := iteF hm hc271
    refine WL.runk 4 [0, 1, 2, 8, 9, 13, 99] [(0, .slice a0' aList_0.length c0'), (1, .slice a1' aSome_1.length c1'), (2, .slice a2' aFaults_2.length c2'), (8, .slice a60 x58.1.length c61), (9, .int .i64 x58.2), (13, .slice a108 x106.1.length c109), (99, .bool (x106.2 != x58.2))] (by kernel_rfl) ?_
    refine WL.nil ?_
    obtain rfl := Option.some.inj hm
    exact WQ.post' ⟨rfl, hb268, hL269, (SH.take 2 (SH.front 7 (SH.front 7 hS270)))⟩ ⟨rfl, rfl, rfl, rfl, rfl, rfl, rfl, trivial⟩
  clear hx261
  rintro _ w272 ⟨rfl, hb273, hL274, hS275⟩
  refine WQ.then_normal (hK249 _ _ _ ?_)
  refine WP.cond x260 rfl rfl (fun hc276 => ?_) (fun hc276 => ?_)
  · have hm := iteT hm hc276
    refine WP.seq (fun K277 hK277 => ?_)
    refine WP.region ?_
    refine WL.runk 1 [6] [(6, .bool false)] (by kernel_rfl) ?_
    refine WL.nil ?_
    refine WQ.then_normal (hK277 _ _ _ ?_)
    refine WP.ret ?_
    refine WQ.then_ret ?_
    obtain rfl := Option.some.inj hm
    exact WQ.ret1 _ rfl rfl ⟨rfl, hb273⟩
  have hm := iteF hm hc276
  refine WP.skip ?_
  refine WQ.then_normal (hK248 _ _ _ ?_)
  refine WP.seq (fun K278 hK278 => ?_)
  refine WP.region ?_
  refine WL.runk 1 [0, 1, 2, 8, 9, 13, 16] [(0, .slice a0' aList_0.length c0'), (1, .slice a1' aSome_1.length c1'), (2, .slice a2' aFaults_2.length c2'), (8, .slice a60 x58.1.length c61), (9, .int .i64 x58.2), (13, .slice a108 x106.1.length c109), (16, .int .i64 1)] (by kernel_rfl) ?_
  refine WL.nil ?_
  refine WQ.then_normal (hK278 _ _ _ ?_)
  refine WP.seq (fun K279 hK279 => ?_)
  refine WP.region ?_
  refine WL.runk 2 [0, 1, 2, 8, 9, 13, 100, 101] [(0, .slice a0' aList_0.length c0'), (1, .slice a1' aSome_1.length c1'), (2, .slice a2' aFaults_2.length c2'), (8, .slice a60 x58.1.length c61), (9, .int .i64 x58.2), (13, .slice a108 x106.1.length c109), (100, .slice a108 x106.1.length c109), (101, .int .i64 1)] (by kernel_rfl) ?_
  obtain ⟨x280, hx281, hm⟩ := bindE hm
  refine WL.call 43 #[.slice a108 x106.1.length c109, .int .i64 1] rfl rfl (by kernel_rfl) (c_43 n x106.1 a108 c109 1 w272 w w.heap.size [aOwn fInt 2 a60 c61 x58.1] hx281 hb273 (Nat.le_refl _) hL274  hS275) ?_
  rintro _ w282 ⟨rfl, hB286, hS285, hlen287⟩
  refine ⟨_, rfl, ?_⟩
  have hb288 : Ext w w282 := Below.trans hb273 hB286
  have hL289 : w.heap.size ≤ w282.heap.size := Nat.le_trans hL274 hB286.size
  refine WL.sub [(0, .slice a0' aList_0.length c0'), (1, .slice a1' aSome_1.length c1'), (2, .slice a2' aFaults_2.length c2'), (8, .slice a60 x58.1.length c61), (9, .int .i64 x58.2), (13, .slice a108 x280.2.length c109), (100, .slice a108 x280.2.length c109), (101, .int .i64 1), (102, .int .i64 x280.1)] ⟨rfl, rfl, rfl, rfl, rfl, by rw [hlen287]; rfl, by rw [hlen287]; rfl, rfl, rfl, trivial⟩ ?_
  refine WL.runk 1 [0, 1, 2, 8, 9, 13, 16] [(0, .slice a0' aList_0.length c0'), (1, .slice a1' aSome_1.length c1'), (2, .slice a2' aFaults_2.length c2'), (8, .slice a60 x58.1.length c61), (9, .int .i64 x58.2), (13, .slice a108 x280.2.length c109), (16, .int .i64 x280.1)] (by kernel_rfl) ?_
  refine WL.nil ?_
  refine WQ.then_normal (hK279 _ _ _ ?_)
  refine WP.seq (fun K290 hK290 => ?_)
  refine WP.region ?_
  refine WL.runk 1 [0, 1, 2, 8, 9, 13, 16, 17] [(0, .slice a0' aList_0.length c0'), (1, .slice a1' aSome_1.length c1'), (2, .slice a2' aFaults_2.length c2'), (8, .slice a60 x58.1.length c61), (9, .int .i64 x58.2), (13, .slice a108 x280.2.length c109), (16, .int .i64 x280.1), (17, .int .i64 1)] (by kernel_rfl) ?_
  refine WL.nil ?_
  refine WQ.then_normal (hK290 _ _ _ ?_)
  refine WP.seq (fun K291 hK291 => ?_)
  refine WP.region ?_
  refine WL.runk 2 [0, 1, 2, 8, 9, 13, 16, 103, 104] [(0, .slice a0' aList_0.length c0'), (1, .slice a1' aSome_1.length c1'), (2, .slice a2' aFaults_2.length c2'), (8, .slice a60 x58.1.length c61), (9, .int .i64 x58.2), (13, .slice a108 x280.2.length c109), (16, .int .i64 x280.1), (103, .slice a108 x280.2.length c109), (104, .int .i64 1)] (by kernel_rfl) ?_
  obtain ⟨x292, hx293, hm⟩ := bindE hm
  refine WL.call 44 #[.slice a108 x280.2.length c109, .int .i64 1] rfl rfl (by kernel_rfl) (c_44 n x280.2 a108 c109 1 w282 hx293 (SH.rd (SH.front 0 hS285)) (SH.le (SH.front 0 hS285)).1) ?_
  rintro _ w294 ⟨rfl, hE295⟩
  refine ⟨_, rfl, ?_⟩
  have hb297 : Ext w w294 := Ext.trans hb288 hE295
  have hL298 : w.heap.size ≤ w294.heap.size := Nat.le_trans hL289 hE295.size
  have hS299 : SH w294 w.heap.size [aOwn fInt 2 a108 c109 x280.2, aOwn fInt 2 a60 c61 x58.1] := SH.ext hS285 hE295
  refine WL.runk 1 [0, 1, 2, 8, 9, 13, 16, 17] [(0, .slice a0' aList_0.length c0'), (1, .slice a1' aSome_1.length c1'), (2, .slice a2' aFaults_2.length c2'), (8, .slice a60 x58.1.length c61), (9, .int .i64 x58.2), (13, .slice a108 x280.2.length c109), (16, .int .i64 x280.1), (17, .int .i64 x292)] (by kernel_rfl) ?_
  refine WL.nil ?_
  refine WQ.then_normal (hK291 _ _ _ ?_)
  refine WP.seq (fun K300 hK300 => ?_)
  refine WP.seq (fun K301 hK301 => ?_)
  refine WP.region ?_
  refine WL.runk 2 [0, 1, 2, 8, 9, 13, 16, 17, 107] [(0, .slice a0' aList_0.length c0'), (1, .slice a1' aSome_1.length c1'), (2, .slice a2' aFaults_2.length c2'), (8, .slice a60 x58.1.length c61), (9, .int .i64 x58.2), (13, .slice a108 x280.2.length c109), (16, .int .i64 x280.1), (17, .int .i64 x292), (107, .bool (decide (x292 < 0)))] (by kernel_rfl) ?_
  refine WL.nil ?_
  refine WQ.then_normal (hK301 _ _ _ ?_)
  refine WP.cond (decide (x292 < 0)) rfl rfl (fun hc302 => ?_) (fun hc302 => ?_)
  · have hm := iteT hm hc302
    refine WP.seq (fun K303 hK303 => ?_)
    refine WP.region ?_
    refine WL.runk 1 [6] [(6, .bool false)] (by kernel_rfl) ?_
    refine WL.nil ?_
    refine WQ.then_normal (hK303 _ _ _ ?_)
    refine WP.ret ?_
    refine WQ.then_ret ?_
    obtain rfl := Option.some.inj hm
    exact WQ.ret1 _ rfl rfl ⟨rfl, hb297⟩
  have hm := iteF hm hc302
  refine WP.skip ?_
  refine WQ.then_normal (hK300 _ _ _ ?_)
  refine WP.seq (fun K304 hK304 => ?_)
  refine WP.seq (fun K305 hK305 => ?_)
  refine WP.region ?_
  refine WL.runk 3 [0, 1, 2, 8, 9, 13, 16, 110] [(0, .slice a0' aList_0.length c0'), (1, .slice a1' aSome_1.length c1'), (2, .slice a2' aFaults_2.length c2'), (8, .slice a60 x58.1.length c61), (9, .int .i64 x58.2), (13, .slice a108 x280.2.length c109), (16, .int .i64 x280.1), (110, .bool (x292 != x280.1))] (by kernel_rfl) ?_
  refine WL.nil ?_
  refine WQ.then_normal (hK305 _ _ _ ?_)
  refine WP.cond (x292 != x280.1) rfl rfl (fun hc306 => ?_) (fun hc306 => ?_)
  · have hm := iteT hm hc306
    refine WP.seq (fun K307 hK307 => ?_)
    refine WP.region ?_
    refine WL.runk 1 [6] [(6, .bool false)] (by kernel_rfl) ?_
    refine WL.nil ?_
    refine WQ.then_normal (hK307 _ _ _ ?_)
    refine WP.ret ?_
    refine WQ.then_ret ?_
    obtain rfl := Option.some.inj hm
    exact WQ.ret1 _ rfl rfl ⟨rfl, hb297⟩
  have hm := iteF hm hc306
  refine WP.skip ?_
  refine WQ.then_normal (hK304 _ _ _ ?_)
  refine WP.seq (fun K308 hK308 => ?_)
  refine WP.region ?_
  refine WL.runk 1 [1, 2, 8, 9, 13, 16, 112] [(1, .slice a1' aSome_1.length c1'), (2, .slice a2' aFaults_2.length c2'), (8, .slice a60 x58.1.length c61), (9, .int .i64 x58.2), (13, .slice a108 x280.2.length c109), (16, .int .i64 x280.1), (112, .slice a0' aList_0.length c0')] (by kernel_rfl) ?_
  obtain ⟨x309, hx310, hm⟩ := bindE hm
  refine WL.call 30 #[.slice a0' aList_0.length c0'] rfl rfl (by kernel_rfl) (c_30 n aList_0 a0' c0' w294 hx310 (Rd.below h0 hb297) hle0) ?_
  rintro _ w314 ⟨a311, c312, rfl, hE315, hR316⟩
  refine ⟨_, rfl, ?_⟩
  have hb317 : Ext w w314 := Ext.trans hb297 hE315
  have hL318 : w.heap.size ≤ w314.heap.size := Nat.le_trans hL298 hE315.size
  have hS319 : SH w314 w.heap.size [aNest fRepair 73 2 a311 c312 x309, aOwn fInt 2 a108 c109 x280.2, aOwn fInt 2 a60 c61 x58.1] := SH.add hS299 hE315 hL298 hR316
  refine WL.runk 1 [2, 8, 9, 13, 16, 113, 114] [(2, .slice a2' aFaults_2.length c2'), (8, .slice a60 x58.1.length c61), (9, .int .i64 x58.2), (13, .slice a108 x280.2.length c109), (16, .int .i64 x280.1), (113, .slice a311 x309.length c312), (114, .slice a1' aSome_1.length c1')] (by kernel_rfl) ?_
  obtain ⟨x320, hx321, hm⟩ := bindE hm
  refine WL.call 36 #[.slice a1' aSome_1.length c1'] rfl rfl (by kernel_rfl) (c_36 n aSome_1 a1' c1' w314 hx321 (Rd.below h1 hb317) hle1) ?_
  rintro _ w325 ⟨a322, c323, rfl, hE326, hR327⟩
  refine ⟨_, rfl, ?_⟩
  have hb328 : Ext w w325 := Ext.trans hb317 hE326
  have hL329 : w.heap.size ≤ w325.heap.size := Nat.le_trans hL318 hE326.size
  have hS330 : SH w325 w.heap.size [aOwn fInt 2 a322 c323 x320, aNest fRepair 73 2 a311 c312 x309, aOwn fInt 2 a108 c109 x280.2, aOwn fInt 2 a60 c61 x58.1] := SH.add hS319 hE326 hL318 hR327
  refine WL.runk 1 [8, 9, 13, 16, 113, 115, 116] [(8, .slice a60 x58.1.length c61), (9, .int .i64 x58.2), (13, .slice a108 x280.2.length c109), (16, .int .i64 x280.1), (113, .slice a311 x309.length c312), (115, .slice a322 x320.length c323), (116, .slice a2' aFaults_2.length c2')] (by kernel_rfl) ?_
  obtain ⟨x331, hx332, hm⟩ := bindE hm
  refine WL.call 36 #[.slice a2' aFaults_2.length c2'] rfl rfl (by kernel_rfl) (c_36 n aFaults_2 a2' c2' w325 hx332 (Rd.below h2 hb328) hle2) ?_
  rintro _ w336 ⟨a333, c334, rfl, hE337, hR338⟩
  refine ⟨_, rfl, ?_⟩
  have hb339 : Ext w w336 := Ext.trans hb328 hE337
  have hL340 : w.heap.size ≤ w336.heap.size := Nat.le_trans hL329 hE337.size
  have hS341 : SH w336 w.heap.size [aOwn fInt 2 a333 c334 x331, aOwn fInt 2 a322 c323 x320, aNest fRepair 73 2 a311 c312 x309, aOwn fInt 2 a108 c109 x280.2, aOwn fInt 2 a60 c61 x58.1] := SH.add hS330 hE337 hL329 hR338
  obtain ⟨x342, hx343, hm⟩ := bindE hm
  refine WL.call 21 #[.slice a311 x309.length c312, .slice a322 x320.length c323, .slice a333 x331.length c334] rfl rfl (by kernel_rfl) (c_21 n x309 a311 c312 x320 a322 c323 x331 a333 c334 w336 hx343 (SH.rdN (SH.front 2 hS341)) (SH.leN (SH.front 2 hS341)).1 (SH.rd (SH.front 1 hS341)) (SH.le (SH.front 1 hS341)).1 (SH.rd (SH.front 0 hS341)) (SH.le (SH.front 0 hS341)).1) ?_
  rintro _ w347 ⟨a344, c345, rfl, hE348, hR349⟩
  refine ⟨_, rfl, ?_⟩
  have hb350 : Ext w w347 := Ext.trans hb339 hE348
  have hL351 : w.heap.size ≤ w347.heap.size := Nat.le_trans hL340 hE348.size
  have hS352 : SH w347 w.heap.size [aOwn fInt 2 a344 c345 x342.1, aOwn fInt 2 a333 c334 x331, aOwn fInt 2 a322 c323 x320, aNest fRepair 73 2 a311 c312 x309, aOwn fInt 2 a108 c109 x280.2, aOwn fInt 2 a60 c61 x58.1] := SH.add hS341 hE348 hL340 hR349
  refine WL.runk 5 [8, 9, 13, 16, 18, 19] [(8, .slice a60 x58.1.length c61), (9, .int .i64 x58.2), (13, .slice a108 x280.2.length c109), (16, .int .i64 x280.1), (18, .slice a344 x342.1.length c345), (19, .int .i64 x342.2)] (by kernel_rfl) ?_
  refine WL.nil ?_
  refine WQ.then_normal (hK308 _ _ _ ?_)
  refine WP.seq (fun K353 hK353 => ?_)
  refine WP.seq (fun K354 hK354 => ?_)
  obtain ⟨x364, hx365, hm⟩ := bindE hm
  refine WP.cut (fun env' w' => env' = [(13, .slice a108 x280.2.length c109), (16, .int .i64 x280.1), (129, .bool x364)] ∧ Ext w w' ∧ w.heap.size ≤ w'.heap.size ∧ SH w' w.heap.size [aOwn fInt 2 a108 c109 x280.2]) ?_ ?_
  · have hm := hx365; clear hx365
    refine WP.region ?_
    refine WL.runk 2 [9, 13, 16, 19, 121, 122] [(9, .int .i64 x58.2), (13, .slice a108 x280.2.length c109), (16, .int .i64 x280.1), (19, .int .i64 x342.2), (121, .slice a344 x342.1.length c345), (122, .slice a60 x58.1.length c61)] (by kernel_rfl) ?_
    obtain ⟨x366, hx367, hm⟩ := bindE hm
    refine WL.call 38 #[.slice a344 x342.1.length c345, .slice a60 x58.1.length c61] rfl rfl (by kernel_rfl) (c_38 n x342.1 a344 c345 x58.1 a60 c61 w347 hx367 (SH.rd (SH.front 0 hS352)) (SH.le (SH.front 0 hS352)).1 (SH.rd (SH.front 5 hS352)) (SH.le (SH.front 5 hS352)).1) ?_
    rintro _ w368 ⟨rfl, hE369⟩
    refine ⟨_, rfl, ?_⟩
    have hb371 : Ext w w368 := Ext.trans hb350 hE369
    have hL372 : w.heap.size ≤ w368.heap.size := Nat.le_trans hL351 hE369.size
    have hS373 : SH w368 w.heap.size [aOwn fInt 2 a344 c345 x342.1, aOwn fInt 2 a333 c334 x331, aOwn fInt 2 a322 c323 x320, aNest fRepair 73 2 a311 c312 x309, aOwn fInt 2 a108 c109 x280.2, aOwn fInt 2 a60 c61 x58.1] := SH.ext hS352 hE369
    refine WL.runk 2 [9, 13, 16, 19, 125] [(9, .int .i64 x58.2), (13, .slice a108 x280.2.length c109), (16, .int .i64 x280.1), (19, .int .i64 x342.2), (125, .bool (!x366))] (by kernel_rfl) ?_
    refine WL.case (!x366) [125] ⟨rfl, trivial⟩ (fun hc374 => ?_) (fun hc374 => ?_)
    · have hm := iteT hm hc374
      refine WL.runk 4 [13, 16, 129] [(13, .slice a108 x280.2.length c109), (16, .int .i64 x280.1), (129, .bool true)] (by kernel_rfl) ?_
      refine WL.nil ?_
      obtain rfl := Option.some.inj hm
      exact WQ.post' ⟨rfl, hb371, hL372, (SH.take 1 (SH.front 4 hS373))⟩ ⟨rfl, rfl, rfl, trivial⟩
    have hm := iteF hm hc374
    refine WL.runk 4 [13, 16, 129] [(13, .slice a108 x280.2.length c109), (16, .int .i64 x280.1), (129, .bool (x342.2 != x58.2))] (by kernel_rfl) ?_
    refine WL.nil ?_
    obtain rfl := Option.some.inj hm
    exact WQ.post' ⟨rfl, hb371, hL372, (SH.take 1 (SH.front 4 hS373))⟩ ⟨rfl, rfl, rfl, trivial⟩
  clear hx365
  rintro _ w375 ⟨rfl, hb376, hL377, hS378⟩
  refine WQ.then_normal (hK354 _ _ _ ?_)
  refine WP.cond x364 rfl rfl (fun hc379 => ?_) (fun hc379 => ?_)
  · have hm := iteT hm hc379
    refine WP.seq (fun K380 hK380 => ?_)
    refine WP.region ?_
    refine WL.runk 1 [6] [(6, .bool false)] (by kernel_rfl) ?_
    refine WL.nil ?_
    refine WQ.then_normal (hK380 _ _ _ ?_)
    refine WP.ret ?_
    refine WQ.then_ret ?_
    obtain rfl := Option.some.inj hm
    exact WQ.ret1 _ rfl rfl ⟨rfl, hb376⟩
  have hm := iteF hm hc379
  refine WP.skip ?_
  refine WQ.then_normal (hK353 _ _ _ ?_)
  refine WP.seq (fun K381 hK381 => ?_)
  refine WP.region ?_
  refine WL.runk 1 [13, 16, 17] [(13, .slice a108 x280.2.length c109), (16, .int .i64 x280.1), (17, .int .i64 1)] (by kernel_rfl) ?_
  refine WL.nil ?_
  refine WQ.then_normal (hK381 _ _ _ ?_)
  refine WP.seq (fun K382 hK382 => ?_)
  refine WP.region ?_
  refine WL.runk 2 [16, 130, 131] [(16, .int .i64 x280.1), (130, .slice a108 x280.2.length c109), (131, .int .i64 1)] (by kernel_rfl) ?_
  obtain ⟨x383, hx384, hm⟩ := bindE hm
  refine WL.call 44 #[.slice a108 x280.2.length c109, .int .i64 1] rfl rfl (by kernel_rfl) (c_44 n x280.2 a108 c109 1 w375 hx384 (SH.rd (SH.front 0 hS378)) (SH.le (SH.front 0 hS378)).1) ?_
  rintro _ w385 ⟨rfl, hE386⟩
  refine ⟨_, rfl, ?_⟩
  have hb388 : Ext w w385 := Ext.trans hb376 hE386
  have hL389 : w.heap.size ≤ w385.heap.size := Nat.le_trans hL377 hE386.size
  have hS390 : SH w385 w.heap.size [aOwn fInt 2 a108 c109 x280.2] := SH.ext hS378 hE386
  refine WL.runk 1 [16, 17] [(16, .int .i64 x280.1), (17, .int .i64 x383)] (by kernel_rfl) ?_
  refine WL.nil ?_
  refine WQ.then_normal (hK382 _ _ _ ?_)
  refine WP.seq (fun K391 hK391 => ?_)
  refine WP.seq (fun K392 hK392 => ?_)
  refine WP.region ?_
  refine WL.runk 2 [16, 17, 134] [(16, .int .i64 x280.1), (17, .int .i64 x383), (134, .bool (decide (x383 < 0)))] (by kernel_rfl) ?_
  refine WL.nil ?_
  refine WQ.then_normal (hK392 _ _ _ ?_)
  refine WP.cond (decide (x383 < 0)) rfl rfl (fun hc393 => ?_) (fun hc393 => ?_)
  · have hm := iteT hm hc393
    refine WP.seq (fun K394 hK394 => ?_)
    refine WP.region ?_
    refine WL.runk 1 [6] [(6, .bool false)] (by kernel_rfl) ?_
    refine WL.nil ?_
    refine WQ.then_normal (hK394 _ _ _ ?_)
    refine WP.ret ?_
    refine WQ.then_ret ?_
    obtain rfl := Option.some.inj hm
    exact WQ.ret1 _ rfl rfl ⟨rfl, hb388⟩
  have hm := iteF hm hc393
  refine WP.skip ?_
  refine WQ.then_normal (hK391 _ _ _ ?_)
  refine WP.seq (fun K395 hK395 => ?_)
  refine WP.seq (fun K396 hK396 => ?_)
  refine WP.region ?_
  refine WL.runk 3 [137] [(137, .bool (x383 != x280.1))] (by kernel_rfl) ?_
  refine WL.nil ?_
  refine WQ.then_normal (hK396 _ _ _ ?_)
  refine WP.cond (x383 != x280.1) rfl rfl (fun hc397 => ?_) (fun hc397 => ?_)
  · have hm := iteT hm hc397
    refine WP.seq (fun K398 hK398 => ?_)
    refine WP.region ?_
    refine WL.runk 1 [6] [(6, .bool false)] (by kernel_rfl) ?_
    refine WL.nil ?_
    refine WQ.then_normal (hK398 _ _ _ ?_)
    refine WP.ret ?_
    refine WQ.then_ret ?_
    obtain rfl := Option.some.inj hm
    exact WQ.ret1 _ rfl rfl ⟨rfl, hb388⟩
  have hm := iteF hm hc397
  refine WP.skip ?_
  refine WQ.then_normal (hK395 _ _ _ ?_)
  refine WP.seq (fun K399 hK399 => ?_)
  refine WP.region ?_
  refine WL.runk 1 [6] [(6, .bool true)] (by kernel_rfl) ?_
  refine WL.nil ?_
  refine WQ.then_normal (hK399 _ _ _ ?_)
  refine WP.ret ?_
  obtain rfl := Option.some.inj hm
  exact WQ.ret1 _ rfl rfl ⟨rfl, hb388⟩

end Go.Proofs.Ytkglfbcelaphhaa
