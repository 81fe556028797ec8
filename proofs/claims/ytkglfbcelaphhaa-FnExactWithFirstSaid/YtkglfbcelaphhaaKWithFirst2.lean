/- Each call does what its Lean function says. -/
import Derived.Test.YtkglfbcelaphhaaKWithFirst1
set_option maxRecDepth 20000
set_option maxHeartbeats 40000000
namespace Go.Proofs.Ytkglfbcelaphhaa
open Go Go.Gv Go.RowKit

theorem c_42 (n : Nat) (a_0 : List SRepair) (a0' : Option Addr) (c0' : Nat) (k_1 : Int) (w : World) (w0 : World) (B : Nat) (L : List Asrt) {r : Int × List SRepair} (hm : m_laws_markRepairS n a_0 k_1 = some r) (hE0 : Ext w0 w) (hW : w0.heap.size ≤ B) (hL : B ≤ w.heap.size) (hS : SH w B (aNest fRepair 73 2 a0' c0' a_0 :: L)) :
    CallV Try.prog 42 #[.slice a0' a_0.length c0', .int .i64 k_1] w (fun v w' => v = .int .i64 r.1 ∧ Below B w w' ∧ SH w' B (aNest fRepair 73 2 a0' c0' r.2 :: L) ∧ r.2.length = a_0.length) := by
  unfold m_laws_markRepairS at hm
  refine CallV.enter Try.func42 rfl (by kernel_rfl) Try.ntmps42 (env := [(0, .slice a0' a_0.length c0'), (1, .int .i64 k_1)]) ⟨rfl, rfl, trivial⟩ ?_
  refine WP.seq (fun K1 hK1 => ?_)
  refine WP.region ?_
  refine WL.runk 1 [0, 1] [(0, .slice a0' a_0.length c0'), (1, .int .i64 k_1)] (by kernel_rfl) ?_
  refine WL.nil ?_
  refine WQ.then_normal (hK1 _ _ _ ?_)
  refine WP.seq (fun K2 hK2 => ?_)
  refine WP.seq (fun K3 hK3 => ?_)
  refine WP.region ?_
  refine WL.runk 1 [0, 1, 5] [(0, .slice a0' a_0.length c0'), (1, .int .i64 k_1), (5, .int .i64 0)] (by kernel_rfl) ?_
  refine WL.nil ?_
  refine WQ.then_normal (hK3 _ _ _ ?_)
  refine WP.block ?_
  obtain ⟨t138, ht139, hm⟩ := bindE hm
  have hmo133 := hm; clear hm
  refine WP.sub [(0, .slice a0' a_0.length c0'), (1, .int .i64 k_1), (5, .int .i64 0)] ⟨rfl, rfl, rfl, trivial⟩ ?_
  refine WP.loop (fun n' env' w' => ∃ (st127 : Int × Int × List SRepair) , env' = [(0, .slice a0' st127.2.2.length c0'), (1, .int .i64 st127.1), (5, .int .i64 st127.2.1)] ∧ Below B w w' ∧ B ≤ w'.heap.size ∧ SH w' B (aNest fRepair 73 2 a0' c0' st127.2.2 :: L) ∧ st127.2.2.length = a_0.length ∧ loopN (m_laws_markRepairS_l1 n) n' st127 = some t138) n ⟨(k_1, 0, a_0), rfl, (Below.refl _ _), hL, hS, rfl, ht139⟩ ?_
  rintro n135 _ w128 ⟨st127, rfl, hb129, hL130, hS131, hn140, hl132⟩ K134 hK134
  obtain ⟨n136, s137, rfl, hm, hl132⟩ := loopN_some hl132
  unfold m_laws_markRepairS_l1 at hm
  refine WP.seq (fun K141 hK141 => ?_)
  refine WP.seq (fun K142 hK142 => ?_)
  refine WP.region ?_
  refine WL.runk 4 [0, 1, 5, 9] [(0, .slice a0' st127.2.2.length c0'), (1, .int .i64 st127.1), (5, .int .i64 st127.2.1), (9, .bool (decide (st127.2.1 < (st127.2.2.length : Int))))] (by kernel_rfl) ?_
  refine WL.nil ?_
  refine WQ.then_normal (hK142 _ _ _ ?_)
  refine WP.cond (decide (st127.2.1 < (st127.2.2.length : Int))) rfl rfl (fun hc143 => ?_) (fun hc143 => ?_)
  rotate_left
  · have hm := iteF hm hc143
    refine WP.exit ?_
    refine WQ.then_exit ?_
    refine WQ.then_exit ?_
    refine WQ.block_here ?_
    obtain rfl := Option.some.inj hm
    obtain rfl := afterN_done hl132
    have hm := hmo133
    refine WQ.then_normal (hK2 _ _ _ ?_)
    refine WP.seq (fun K250 hK250 => ?_)
    refine WP.region ?_
    refine WL.runk 2 [4] [(4, .int .i64 st127.1)] (by kernel_rfl) ?_
    refine WL.nil ?_
    refine WQ.then_normal (hK250 _ _ _ ?_)
    refine WP.ret ?_
    obtain rfl := Option.some.inj hm
    exact WQ.ret1 _ rfl rfl ⟨rfl, hb129, hS131, hn140⟩
  have hm := iteT hm hc143
  refine WP.skip ?_
  refine WQ.then_normal (hK141 _ _ _ ?_)
  refine WP.seq (fun K144 hK144 => ?_)
  refine WP.block ?_
  refine WP.seq (fun K145 hK145 => ?_)
  refine WP.region ?_
  refine WL.runk 3 [0, 1, 5, 12, 13, 14] [(0, .slice a0' st127.2.2.length c0'), (1, .int .i64 st127.1), (5, .int .i64 st127.2.1), (12, .slice a0' st127.2.2.length c0'), (13, .int .i64 st127.2.1), (14, .int .i64 st127.1)] (by kernel_rfl) ?_
  obtain ⟨x146, hx147, hm⟩ := bindE hm
  refine WL.call 83 #[.int .i64 st127.1] rfl rfl (by kernel_rfl) (c_83 n st127.1 w128 hx147 ) ?_
  rintro _ w148 ⟨rfl, hE149⟩
  refine ⟨_, rfl, ?_⟩
  have hb151 : Below B w w148 := Below.trans hb129 (Below.mono hE149 hL130)
  have hL152 : B ≤ w148.heap.size := Nat.le_trans hL130 hE149.size
  have hS153 : SH w148 B (aNest fRepair 73 2 a0' c0' st127.2.2 :: L) := SH.ext hS131 hE149
  obtain ⟨x154, hx155, hm⟩ := bindE hm
  obtain ⟨a156, c157, a159, c160, hS162⟩ := elem_Repair (SH.front 0 hS153) hx155
  refine WL.st (.pointer (some (at_ a0' (Int.toNat st127.2.1 * 5)))) (ST.index (T := fRepair.ty) (xs := st127.2.2) (SH.rdN (SH.front 0 hS153)) hx155 rfl rfl rfl Try.underlying24 (info73).1 (info73).2.1) rfl rfl rfl ?_
  refine WL.runk 1 [0, 1, 5, 15, 17] [(0, .slice a0' st127.2.2.length c0'), (1, .int .i64 st127.1), (5, .int .i64 st127.2.1), (15, .string (bs x146)), (17, .pointer (some (at_ a0' (Int.toNat st127.2.1 * 5))))] (by kernel_rfl) ?_
  refine WL.holeStore 0 [.string (bs x146)] [.string (bs x146), .slice a156 x154.Mends.length c157, .slice a159 x154.First.length c160, .int .i64 x154.Price, .int .i64 x154.Hours] (SH.front 2 hS162) hL152 rfl rfl rfl rfl rfl rfl rfl (info9).1 (info9).2.1 rfl rfl rfl ?_
  intro w163 hB164 hS165
  have hb166 : Below B w w163 := Below.trans hb151 hB164
  have hL167 : B ≤ w163.heap.size := Nat.le_trans hL152 hB164.size
  refine WL.sub [(0, .slice a0' st127.2.2.length c0'), (1, .int .i64 st127.1), (5, .int .i64 st127.2.1)] ⟨rfl, rfl, rfl, trivial⟩ ?_
  have hS168 : SH w163 B (aNest fRepair 73 2 a0' c0' (st127.2.2.set (Int.toNat st127.2.1) (SRepair.mk x146 x154.Mends x154.First x154.Price x154.Hours)) :: L) := SH.elemBack (Ix := [aOwn fInt 2 a156 c157 x154.Mends, aOwn fInt 2 a159 c160 x154.First]) (x' := (SRepair.mk x146 x154.Mends x154.First x154.Price x154.Hours)) (SH.front 2 (SH.front 2 hS165)) (.val (Fit.row' rfl (Fit.row' rfl (.val (.val .nil)))))
  refine WL.sub [(0, .slice a0' ((st127.2.2.set (Int.toNat st127.2.1) (SRepair.mk x146 x154.Mends x154.First x154.Price x154.Hours)).length) c0'), (1, .int .i64 st127.1), (5, .int .i64 st127.2.1)] ⟨by first | (simp only [List.length_set]; done) | (simp only [List.length_set]; rfl), rfl, rfl, trivial⟩ ?_
  have hn169 : (st127.2.2.set (Int.toNat st127.2.1) (SRepair.mk x146 x154.Mends x154.First x154.Price x154.Hours)).length = a_0.length := List.length_set.trans hn140
  refine WL.nil ?_
  refine WQ.then_normal (hK145 _ _ _ ?_)
  refine WP.seq (fun K170 hK170 => ?_)
  refine WP.region ?_
  refine WL.runk 3 [0, 1, 5] [(0, .slice a0' ((st127.2.2.set (Int.toNat st127.2.1) (SRepair.mk x146 x154.Mends x154.First x154.Price x154.Hours)).length) c0'), (1, .int .i64 (wI64 (st127.1 + 1))), (5, .int .i64 st127.2.1)] (by kernel_rfl) ?_
  refine WL.nil ?_
  refine WQ.then_normal (hK170 _ _ _ ?_)
  refine WP.seq (fun K171 hK171 => ?_)
  refine WP.region ?_
  refine WL.runk 2 [0, 1, 5, 20, 21] [(0, .slice a0' ((st127.2.2.set (Int.toNat st127.2.1) (SRepair.mk x146 x154.Mends x154.First x154.Price x154.Hours)).length) c0'), (1, .int .i64 (wI64 (st127.1 + 1))), (5, .int .i64 st127.2.1), (20, .slice a0' ((st127.2.2.set (Int.toNat st127.2.1) (SRepair.mk x146 x154.Mends x154.First x154.Price x154.Hours)).length) c0'), (21, .int .i64 st127.2.1)] (by kernel_rfl) ?_
  obtain ⟨x172, hx173, hm⟩ := bindE hm
  obtain ⟨a174, c175, a177, c178, hS180⟩ := elem_Repair (SH.front 0 hS168) hx173
  refine WL.st (.pointer (some (at_ a0' (Int.toNat st127.2.1 * 5)))) (ST.index (T := fRepair.ty) (xs := (st127.2.2.set (Int.toNat st127.2.1) (SRepair.mk x146 x154.Mends x154.First x154.Price x154.Hours))) (SH.rdN (SH.front 0 hS168)) hx173 rfl rfl rfl Try.underlying24 (info73).1 (info73).2.1) rfl rfl rfl ?_
  refine WL.runk 1 [0, 1, 5, 23] [(0, .slice a0' ((st127.2.2.set (Int.toNat st127.2.1) (SRepair.mk x146 x154.Mends x154.First x154.Price x154.Hours)).length) c0'), (1, .int .i64 (wI64 (st127.1 + 1))), (5, .int .i64 st127.2.1), (23, .pointer (some (at_ a0' (Int.toNat st127.2.1 * 5 + 1))))] (by kernel_rfl) ?_
  refine WL.st (.slice a174 x172.Mends.length c175) (ST.load (cell_ext ((SH.holeAt (SH.front 2 hS180)) 1 _ rfl)) rfl rfl Try.underlying25 rfl) rfl rfl rfl ?_
  refine WL.runk 1 [0, 5, 24, 25] [(0, .slice a0' ((st127.2.2.set (Int.toNat st127.2.1) (SRepair.mk x146 x154.Mends x154.First x154.Price x154.Hours)).length) c0'), (5, .int .i64 st127.2.1), (24, .slice a174 x172.Mends.length c175), (25, .int .i64 (wI64 (st127.1 + 1)))] (by kernel_rfl) ?_
  obtain ⟨x181, hx182, hm⟩ := bindE hm
  refine WL.call 43 #[.slice a174 x172.Mends.length c175, .int .i64 (wI64 (st127.1 + 1))] rfl rfl (by kernel_rfl) (c_43 n x172.Mends a174 c175 (wI64 (st127.1 + 1)) w163 w0 B (aOwn fInt 2 a177 c178 x172.First :: aHole fRepair 73 2 a0' c0' (st127.2.2.set (Int.toNat st127.2.1) (SRepair.mk x146 x154.Mends x154.First x154.Price x154.Hours)) (Int.toNat st127.2.1) [.string (bs x172.Name), .slice a174 x172.Mends.length c175, .slice a177 x172.First.length c178, .int .i64 x172.Price, .int .i64 x172.Hours] :: L) hx182 (Below.trans hE0 (Below.mono hb166 hW)) hW hL167  hS180) ?_
  rintro _ w183 ⟨rfl, hB187, hS186, hlen188⟩
  refine ⟨_, rfl, ?_⟩
  have hb189 : Below B w w183 := Below.trans hb166 hB187
  have hL190 : B ≤ w183.heap.size := Nat.le_trans hL167 hB187.size
  refine WL.sub [(0, .slice a0' ((st127.2.2.set (Int.toNat st127.2.1) (SRepair.mk x146 x154.Mends x154.First x154.Price x154.Hours)).length) c0'), (5, .int .i64 st127.2.1), (24, .slice a174 x181.2.length c175), (25, .int .i64 (wI64 (st127.1 + 1))), (26, .int .i64 x181.1)] ⟨rfl, rfl, by rw [hlen188]; rfl, rfl, rfl, trivial⟩ ?_
  refine WL.runk 1 [0, 1, 5] [(0, .slice a0' ((st127.2.2.set (Int.toNat st127.2.1) (SRepair.mk x146 x154.Mends x154.First x154.Price x154.Hours)).length) c0'), (5, .int .i64 st127.2.1), (1, .int .i64 x181.1)] (by kernel_rfl) ?_
  have hS191 : SH w183 B (aNest fRepair 73 2 a0' c0' ((st127.2.2.set (Int.toNat st127.2.1) (SRepair.mk x146 x154.Mends x154.First x154.Price x154.Hours)).set (Int.toNat st127.2.1) (SRepair.mk x172.Name x181.2 x172.First x172.Price x172.Hours)) :: L) := SH.elemBack (Ix := [aOwn fInt 2 a174 c175 x181.2, aOwn fInt 2 a177 c178 x172.First]) (x' := (SRepair.mk x172.Name x181.2 x172.First x172.Price x172.Hours)) hS186 (.val (Fit.row' hlen188.symm (Fit.row' rfl (.val (.val .nil)))))
  refine WL.sub [(0, .slice a0' (((st127.2.2.set (Int.toNat st127.2.1) (SRepair.mk x146 x154.Mends x154.First x154.Price x154.Hours)).set (Int.toNat st127.2.1) (SRepair.mk x172.Name x181.2 x172.First x172.Price x172.Hours)).length) c0'), (5, .int .i64 st127.2.1), (1, .int .i64 x181.1)] ⟨by first | (simp only [List.length_set]; done) | (simp only [List.length_set]; rfl), rfl, rfl, trivial⟩ ?_
  have hn192 : ((st127.2.2.set (Int.toNat st127.2.1) (SRepair.mk x146 x154.Mends x154.First x154.Price x154.Hours)).set (Int.toNat st127.2.1) (SRepair.mk x172.Name x181.2 x172.First x172.Price x172.Hours)).length = a_0.length := List.length_set.trans hn169
  refine WL.nil ?_
  refine WQ.then_normal (hK171 _ _ _ ?_)
  refine WP.seq (fun K193 hK193 => ?_)
  refine WP.region ?_
  refine WL.runk 2 [0, 1, 5, 27, 28] [(0, .slice a0' (((st127.2.2.set (Int.toNat st127.2.1) (SRepair.mk x146 x154.Mends x154.First x154.Price x154.Hours)).set (Int.toNat st127.2.1) (SRepair.mk x172.Name x181.2 x172.First x172.Price x172.Hours)).length) c0'), (5, .int .i64 st127.2.1), (1, .int .i64 x181.1), (27, .slice a0' (((st127.2.2.set (Int.toNat st127.2.1) (SRepair.mk x146 x154.Mends x154.First x154.Price x154.Hours)).set (Int.toNat st127.2.1) (SRepair.mk x172.Name x181.2 x172.First x172.Price x172.Hours)).length) c0'), (28, .int .i64 st127.2.1)] (by kernel_rfl) ?_
  obtain ⟨x194, hx195, hm⟩ := bindE hm
  obtain ⟨a196, c197, a199, c200, hS202⟩ := elem_Repair (SH.front 0 hS191) hx195
  refine WL.st (.pointer (some (at_ a0' (Int.toNat st127.2.1 * 5)))) (ST.index (T := fRepair.ty) (xs := ((st127.2.2.set (Int.toNat st127.2.1) (SRepair.mk x146 x154.Mends x154.First x154.Price x154.Hours)).set (Int.toNat st127.2.1) (SRepair.mk x172.Name x181.2 x172.First x172.Price x172.Hours))) (SH.rdN (SH.front 0 hS191)) hx195 rfl rfl rfl Try.underlying24 (info73).1 (info73).2.1) rfl rfl rfl ?_
  refine WL.runk 1 [0, 1, 5, 30] [(0, .slice a0' (((st127.2.2.set (Int.toNat st127.2.1) (SRepair.mk x146 x154.Mends x154.First x154.Price x154.Hours)).set (Int.toNat st127.2.1) (SRepair.mk x172.Name x181.2 x172.First x172.Price x172.Hours)).length) c0'), (5, .int .i64 st127.2.1), (1, .int .i64 x181.1), (30, .pointer (some (at_ a0' (Int.toNat st127.2.1 * 5 + 2))))] (by kernel_rfl) ?_
  refine WL.st (.slice a199 x194.First.length c200) (ST.load (cell_ext ((SH.holeAt (SH.front 2 hS202)) 2 _ rfl)) rfl rfl Try.underlying25 rfl) rfl rfl rfl ?_
  refine WL.runk 1 [0, 5, 31, 32] [(0, .slice a0' (((st127.2.2.set (Int.toNat st127.2.1) (SRepair.mk x146 x154.Mends x154.First x154.Price x154.Hours)).set (Int.toNat st127.2.1) (SRepair.mk x172.Name x181.2 x172.First x172.Price x172.Hours)).length) c0'), (5, .int .i64 st127.2.1), (31, .slice a199 x194.First.length c200), (32, .int .i64 x181.1)] (by kernel_rfl) ?_
  obtain ⟨x203, hx204, hm⟩ := bindE hm
  refine WL.call 43 #[.slice a199 x194.First.length c200, .int .i64 x181.1] rfl rfl (by kernel_rfl) (c_43 n x194.First a199 c200 x181.1 w183 w0 B (aOwn fInt 2 a196 c197 x194.Mends :: aHole fRepair 73 2 a0' c0' ((st127.2.2.set (Int.toNat st127.2.1) (SRepair.mk x146 x154.Mends x154.First x154.Price x154.Hours)).set (Int.toNat st127.2.1) (SRepair.mk x172.Name x181.2 x172.First x172.Price x172.Hours)) (Int.toNat st127.2.1) [.string (bs x194.Name), .slice a196 x194.Mends.length c197, .slice a199 x194.First.length c200, .int .i64 x194.Price, .int .i64 x194.Hours] :: L) hx204 (Below.trans hE0 (Below.mono hb189 hW)) hW hL190  (SH.front 2 (SH.front 1 (SH.front 2 hS202)))) ?_
  rintro _ w205 ⟨rfl, hB209, hS208, hlen210⟩
  refine ⟨_, rfl, ?_⟩
  have hb211 : Below B w w205 := Below.trans hb189 hB209
  have hL212 : B ≤ w205.heap.size := Nat.le_trans hL190 hB209.size
  refine WL.sub [(0, .slice a0' (((st127.2.2.set (Int.toNat st127.2.1) (SRepair.mk x146 x154.Mends x154.First x154.Price x154.Hours)).set (Int.toNat st127.2.1) (SRepair.mk x172.Name x181.2 x172.First x172.Price x172.Hours)).length) c0'), (5, .int .i64 st127.2.1), (31, .slice a199 x203.2.length c200), (32, .int .i64 x181.1), (33, .int .i64 x203.1)] ⟨rfl, rfl, by rw [hlen210]; rfl, rfl, rfl, trivial⟩ ?_
  refine WL.runk 1 [0, 1, 5] [(0, .slice a0' (((st127.2.2.set (Int.toNat st127.2.1) (SRepair.mk x146 x154.Mends x154.First x154.Price x154.Hours)).set (Int.toNat st127.2.1) (SRepair.mk x172.Name x181.2 x172.First x172.Price x172.Hours)).length) c0'), (5, .int .i64 st127.2.1), (1, .int .i64 x203.1)] (by kernel_rfl) ?_
  have hS213 : SH w205 B (aNest fRepair 73 2 a0' c0' (((st127.2.2.set (Int.toNat st127.2.1) (SRepair.mk x146 x154.Mends x154.First x154.Price x154.Hours)).set (Int.toNat st127.2.1) (SRepair.mk x172.Name x181.2 x172.First x172.Price x172.Hours)).set (Int.toNat st127.2.1) (SRepair.mk x194.Name x194.Mends x203.2 x194.Price x194.Hours)) :: L) := SH.elemBack (Ix := [aOwn fInt 2 a196 c197 x194.Mends, aOwn fInt 2 a199 c200 x203.2]) (x' := (SRepair.mk x194.Name x194.Mends x203.2 x194.Price x194.Hours)) (SH.front 2 (SH.front 1 (SH.front 2 hS208))) (.val (Fit.row' rfl (Fit.row' hlen210.symm (.val (.val .nil)))))
  refine WL.sub [(0, .slice a0' ((((st127.2.2.set (Int.toNat st127.2.1) (SRepair.mk x146 x154.Mends x154.First x154.Price x154.Hours)).set (Int.toNat st127.2.1) (SRepair.mk x172.Name x181.2 x172.First x172.Price x172.Hours)).set (Int.toNat st127.2.1) (SRepair.mk x194.Name x194.Mends x203.2 x194.Price x194.Hours)).length) c0'), (5, .int .i64 st127.2.1), (1, .int .i64 x203.1)] ⟨by first | (simp only [List.length_set]; done) | (simp only [List.length_set]; rfl), rfl, rfl, trivial⟩ ?_
  have hn214 : (((st127.2.2.set (Int.toNat st127.2.1) (SRepair.mk x146 x154.Mends x154.First x154.Price x154.Hours)).set (Int.toNat st127.2.1) (SRepair.mk x172.Name x181.2 x172.First x172.Price x172.Hours)).set (Int.toNat st127.2.1) (SRepair.mk x194.Name x194.Mends x203.2 x194.Price x194.Hours)).length = a_0.length := List.length_set.trans hn192
  refine WL.nil ?_
  refine WQ.then_normal (hK193 _ _ _ ?_)
  refine WP.seq (fun K215 hK215 => ?_)
  refine WP.region ?_
  refine WL.runk 3 [0, 1, 5, 34, 35, 36] [(0, .slice a0' ((((st127.2.2.set (Int.toNat st127.2.1) (SRepair.mk x146 x154.Mends x154.First x154.Price x154.Hours)).set (Int.toNat st127.2.1) (SRepair.mk x172.Name x181.2 x172.First x172.Price x172.Hours)).set (Int.toNat st127.2.1) (SRepair.mk x194.Name x194.Mends x203.2 x194.Price x194.Hours)).length) c0'), (5, .int .i64 st127.2.1), (1, .int .i64 x203.1), (34, .slice a0' ((((st127.2.2.set (Int.toNat st127.2.1) (SRepair.mk x146 x154.Mends x154.First x154.Price x154.Hours)).set (Int.toNat st127.2.1) (SRepair.mk x172.Name x181.2 x172.First x172.Price x172.Hours)).set (Int.toNat st127.2.1) (SRepair.mk x194.Name x194.Mends x203.2 x194.Price x194.Hours)).length) c0'), (35, .int .i64 st127.2.1), (36, .int .i64 x203.1)] (by kernel_rfl) ?_
  obtain ⟨x216, hx217, hm⟩ := bindE hm
  obtain ⟨a218, c219, a221, c222, hS224⟩ := elem_Repair (SH.front 0 hS213) hx217
  refine WL.st (.pointer (some (at_ a0' (Int.toNat st127.2.1 * 5)))) (ST.index (T := fRepair.ty) (xs := (((st127.2.2.set (Int.toNat st127.2.1) (SRepair.mk x146 x154.Mends x154.First x154.Price x154.Hours)).set (Int.toNat st127.2.1) (SRepair.mk x172.Name x181.2 x172.First x172.Price x172.Hours)).set (Int.toNat st127.2.1) (SRepair.mk x194.Name x194.Mends x203.2 x194.Price x194.Hours))) (SH.rdN (SH.front 0 hS213)) hx217 rfl rfl rfl Try.underlying24 (info73).1 (info73).2.1) rfl rfl rfl ?_
  refine WL.runk 1 [0, 1, 5, 36, 38] [(0, .slice a0' ((((st127.2.2.set (Int.toNat st127.2.1) (SRepair.mk x146 x154.Mends x154.First x154.Price x154.Hours)).set (Int.toNat st127.2.1) (SRepair.mk x172.Name x181.2 x172.First x172.Price x172.Hours)).set (Int.toNat st127.2.1) (SRepair.mk x194.Name x194.Mends x203.2 x194.Price x194.Hours)).length) c0'), (5, .int .i64 st127.2.1), (1, .int .i64 x203.1), (36, .int .i64 x203.1), (38, .pointer (some (at_ a0' (Int.toNat st127.2.1 * 5 + 3))))] (by kernel_rfl) ?_
  refine WL.holeStore 3 [.int .i64 x203.1] [.string (bs x216.Name), .slice a218 x216.Mends.length c219, .slice a221 x216.First.length c222, .int .i64 x203.1, .int .i64 x216.Hours] (SH.front 2 hS224) hL212 rfl rfl rfl rfl rfl rfl rfl (info2).1 (info2).2.1 rfl rfl rfl ?_
  intro w225 hB226 hS227
  have hb228 : Below B w w225 := Below.trans hb211 hB226
  have hL229 : B ≤ w225.heap.size := Nat.le_trans hL212 hB226.size
  refine WL.sub [(0, .slice a0' ((((st127.2.2.set (Int.toNat st127.2.1) (SRepair.mk x146 x154.Mends x154.First x154.Price x154.Hours)).set (Int.toNat st127.2.1) (SRepair.mk x172.Name x181.2 x172.First x172.Price x172.Hours)).set (Int.toNat st127.2.1) (SRepair.mk x194.Name x194.Mends x203.2 x194.Price x194.Hours)).length) c0'), (5, .int .i64 st127.2.1), (1, .int .i64 x203.1)] ⟨rfl, rfl, rfl, trivial⟩ ?_
  have hS230 : SH w225 B (aNest fRepair 73 2 a0' c0' ((((st127.2.2.set (Int.toNat st127.2.1) (SRepair.mk x146 x154.Mends x154.First x154.Price x154.Hours)).set (Int.toNat st127.2.1) (SRepair.mk x172.Name x181.2 x172.First x172.Price x172.Hours)).set (Int.toNat st127.2.1) (SRepair.mk x194.Name x194.Mends x203.2 x194.Price x194.Hours)).set (Int.toNat st127.2.1) (SRepair.mk x216.Name x216.Mends x216.First x203.1 x216.Hours)) :: L) := SH.elemBack (Ix := [aOwn fInt 2 a218 c219 x216.Mends, aOwn fInt 2 a221 c222 x216.First]) (x' := (SRepair.mk x216.Name x216.Mends x216.First x203.1 x216.Hours)) (SH.front 2 (SH.front 2 hS227)) (.val (Fit.row' rfl (Fit.row' rfl (.val (.val .nil)))))
  refine WL.sub [(0, .slice a0' (((((st127.2.2.set (Int.toNat st127.2.1) (SRepair.mk x146 x154.Mends x154.First x154.Price x154.Hours)).set (Int.toNat st127.2.1) (SRepair.mk x172.Name x181.2 x172.First x172.Price x172.Hours)).set (Int.toNat st127.2.1) (SRepair.mk x194.Name x194.Mends x203.2 x194.Price x194.Hours)).set (Int.toNat st127.2.1) (SRepair.mk x216.Name x216.Mends x216.First x203.1 x216.Hours)).length) c0'), (5, .int .i64 st127.2.1), (1, .int .i64 x203.1)] ⟨by first | (simp only [List.length_set]; done) | (simp only [List.length_set]; rfl), rfl, rfl, trivial⟩ ?_
  have hn231 : ((((st127.2.2.set (Int.toNat st127.2.1) (SRepair.mk x146 x154.Mends x154.First x154.Price x154.Hours)).set (Int.toNat st127.2.1) (SRepair.mk x172.Name x181.2 x172.First x172.Price x172.Hours)).set (Int.toNat st127.2.1) (SRepair.mk x194.Name x194.Mends x203.2 x194.Price x194.Hours)).set (Int.toNat st127.2.1) (SRepair.mk x216.Name x216.Mends x216.First x203.1 x216.Hours)).length = a_0.length := List.length_set.trans hn214
  refine WL.nil ?_
  refine WQ.then_normal (hK215 _ _ _ ?_)
  refine WP.seq (fun K232 hK232 => ?_)
  refine WP.region ?_
  refine WL.runk 3 [0, 1, 5] [(0, .slice a0' (((((st127.2.2.set (Int.toNat st127.2.1) (SRepair.mk x146 x154.Mends x154.First x154.Price x154.Hours)).set (Int.toNat st127.2.1) (SRepair.mk x172.Name x181.2 x172.First x172.Price x172.Hours)).set (Int.toNat st127.2.1) (SRepair.mk x194.Name x194.Mends x203.2 x194.Price x194.Hours)).set (Int.toNat st127.2.1) (SRepair.mk x216.Name x216.Mends x216.First x203.1 x216.Hours)).length) c0'), (5, .int .i64 st127.2.1), (1, .int .i64 (wI64 (x203.1 + 1)))] (by kernel_rfl) ?_
  refine WL.nil ?_
  refine WQ.then_normal (hK232 _ _ _ ?_)
  refine WP.seq (fun K233 hK233 => ?_)
  refine WP.region ?_
  refine WL.runk 3 [0, 1, 5, 41, 42, 43] [(0, .slice a0' (((((st127.2.2.set (Int.toNat st127.2.1) (SRepair.mk x146 x154.Mends x154.First x154.Price x154.Hours)).set (Int.toNat st127.2.1) (SRepair.mk x172.Name x181.2 x172.First x172.Price x172.Hours)).set (Int.toNat st127.2.1) (SRepair.mk x194.Name x194.Mends x203.2 x194.Price x194.Hours)).set (Int.toNat st127.2.1) (SRepair.mk x216.Name x216.Mends x216.First x203.1 x216.Hours)).length) c0'), (5, .int .i64 st127.2.1), (1, .int .i64 (wI64 (x203.1 + 1))), (41, .slice a0' (((((st127.2.2.set (Int.toNat st127.2.1) (SRepair.mk x146 x154.Mends x154.First x154.Price x154.Hours)).set (Int.toNat st127.2.1) (SRepair.mk x172.Name x181.2 x172.First x172.Price x172.Hours)).set (Int.toNat st127.2.1) (SRepair.mk x194.Name x194.Mends x203.2 x194.Price x194.Hours)).set (Int.toNat st127.2.1) (SRepair.mk x216.Name x216.Mends x216.First x203.1 x216.Hours)).length) c0'), (42, .int .i64 st127.2.1), (43, .int .i64 (wI64 (x203.1 + 1)))] (by kernel_rfl) ?_
  obtain ⟨x234, hx235, hm⟩ := bindE hm
  obtain ⟨a236, c237, a239, c240, hS242⟩ := elem_Repair (SH.front 0 hS230) hx235
  refine WL.st (.pointer (some (at_ a0' (Int.toNat st127.2.1 * 5)))) (ST.index (T := fRepair.ty) (xs := ((((st127.2.2.set (Int.toNat st127.2.1) (SRepair.mk x146 x154.Mends x154.First x154.Price x154.Hours)).set (Int.toNat st127.2.1) (SRepair.mk x172.Name x181.2 x172.First x172.Price x172.Hours)).set (Int.toNat st127.2.1) (SRepair.mk x194.Name x194.Mends x203.2 x194.Price x194.Hours)).set (Int.toNat st127.2.1) (SRepair.mk x216.Name x216.Mends x216.First x203.1 x216.Hours))) (SH.rdN (SH.front 0 hS230)) hx235 rfl rfl rfl Try.underlying24 (info73).1 (info73).2.1) rfl rfl rfl ?_
  refine WL.runk 1 [0, 1, 5, 43, 45] [(0, .slice a0' (((((st127.2.2.set (Int.toNat st127.2.1) (SRepair.mk x146 x154.Mends x154.First x154.Price x154.Hours)).set (Int.toNat st127.2.1) (SRepair.mk x172.Name x181.2 x172.First x172.Price x172.Hours)).set (Int.toNat st127.2.1) (SRepair.mk x194.Name x194.Mends x203.2 x194.Price x194.Hours)).set (Int.toNat st127.2.1) (SRepair.mk x216.Name x216.Mends x216.First x203.1 x216.Hours)).length) c0'), (5, .int .i64 st127.2.1), (1, .int .i64 (wI64 (x203.1 + 1))), (43, .int .i64 (wI64 (x203.1 + 1))), (45, .pointer (some (at_ a0' (Int.toNat st127.2.1 * 5 + 4))))] (by kernel_rfl) ?_
  refine WL.holeStore 4 [.int .i64 (wI64 (x203.1 + 1))] [.string (bs x234.Name), .slice a236 x234.Mends.length c237, .slice a239 x234.First.length c240, .int .i64 x234.Price, .int .i64 (wI64 (x203.1 + 1))] (SH.front 2 hS242) hL229 rfl rfl rfl rfl rfl rfl rfl (info2).1 (info2).2.1 rfl rfl rfl ?_
  intro w243 hB244 hS245
  have hb246 : Below B w w243 := Below.trans hb228 hB244
  have hL247 : B ≤ w243.heap.size := Nat.le_trans hL229 hB244.size
  refine WL.sub [(0, .slice a0' (((((st127.2.2.set (Int.toNat st127.2.1) (SRepair.mk x146 x154.Mends x154.First x154.Price x154.Hours)).set (Int.toNat st127.2.1) (SRepair.mk x172.Name x181.2 x172.First x172.Price x172.Hours)).set (Int.toNat st127.2.1) (SRepair.mk x194.Name x194.Mends x203.2 x194.Price x194.Hours)).set (Int.toNat st127.2.1) (SRepair.mk x216.Name x216.Mends x216.First x203.1 x216.Hours)).length) c0'), (5, .int .i64 st127.2.1), (1, .int .i64 (wI64 (x203.1 + 1)))] ⟨rfl, rfl, rfl, trivial⟩ ?_
  have hS248 : SH w243 B (aNest fRepair 73 2 a0' c0' (((((st127.2.2.set (Int.toNat st127.2.1) (SRepair.mk x146 x154.Mends x154.First x154.Price x154.Hours)).set (Int.toNat st127.2.1) (SRepair.mk x172.Name x181.2 x172.First x172.Price x172.Hours)).set (Int.toNat st127.2.1) (SRepair.mk x194.Name x194.Mends x203.2 x194.Price x194.Hours)).set (Int.toNat st127.2.1) (SRepair.mk x216.Name x216.Mends x216.First x203.1 x216.Hours)).set (Int.toNat st127.2.1) (SRepair.mk x234.Name x234.Mends x234.First x234.Price (wI64 (x203.1 + 1)))) :: L) := SH.elemBack (Ix := [aOwn fInt 2 a236 c237 x234.Mends, aOwn fInt 2 a239 c240 x234.First]) (x' := (SRepair.mk x234.Name x234.Mends x234.First x234.Price (wI64 (x203.1 + 1)))) (SH.front 2 (SH.front 2 hS245)) (.val (Fit.row' rfl (Fit.row' rfl (.val (.val .nil)))))
  refine WL.sub [(0, .slice a0' ((((((st127.2.2.set (Int.toNat st127.2.1) (SRepair.mk x146 x154.Mends x154.First x154.Price x154.Hours)).set (Int.toNat st127.2.1) (SRepair.mk x172.Name x181.2 x172.First x172.Price x172.Hours)).set (Int.toNat st127.2.1) (SRepair.mk x194.Name x194.Mends x203.2 x194.Price x194.Hours)).set (Int.toNat st127.2.1) (SRepair.mk x216.Name x216.Mends x216.First x203.1 x216.Hours)).set (Int.toNat st127.2.1) (SRepair.mk x234.Name x234.Mends x234.First x234.Price (wI64 (x203.1 + 1)))).length) c0'), (5, .int .i64 st127.2.1), (1, .int .i64 (wI64 (x203.1 + 1)))] ⟨by first | (simp only [List.length_set]; done) | (simp only [List.length_set]; rfl), rfl, rfl, trivial⟩ ?_
  have hn249 : (((((st127.2.2.set (Int.toNat st127.2.1) (SRepair.mk x146 x154.Mends x154.First x154.Price x154.Hours)).set (Int.toNat st127.2.1) (SRepair.mk x172.Name x181.2 x172.First x172.Price x172.Hours)).set (Int.toNat st127.2.1) (SRepair.mk x194.Name x194.Mends x203.2 x194.Price x194.Hours)).set (Int.toNat st127.2.1) (SRepair.mk x216.Name x216.Mends x216.First x203.1 x216.Hours)).set (Int.toNat st127.2.1) (SRepair.mk x234.Name x234.Mends x234.First x234.Price (wI64 (x203.1 + 1)))).length = a_0.length := List.length_set.trans hn231
  refine WL.nil ?_
  refine WQ.then_normal (hK233 _ _ _ ?_)
  refine WP.region ?_
  refine WL.runk 3 [0, 1, 5] [(0, .slice a0' ((((((st127.2.2.set (Int.toNat st127.2.1) (SRepair.mk x146 x154.Mends x154.First x154.Price x154.Hours)).set (Int.toNat st127.2.1) (SRepair.mk x172.Name x181.2 x172.First x172.Price x172.Hours)).set (Int.toNat st127.2.1) (SRepair.mk x194.Name x194.Mends x203.2 x194.Price x194.Hours)).set (Int.toNat st127.2.1) (SRepair.mk x216.Name x216.Mends x216.First x203.1 x216.Hours)).set (Int.toNat st127.2.1) (SRepair.mk x234.Name x234.Mends x234.First x234.Price (wI64 (x203.1 + 1)))).length) c0'), (5, .int .i64 st127.2.1), (1, .int .i64 (wI64 ((wI64 (x203.1 + 1)) + 1)))] (by kernel_rfl) ?_
  refine WL.nil ?_
  refine WQ.block_normal ?_
  refine WQ.then_normal (hK144 _ _ _ ?_)
  refine WP.region ?_
  refine WL.runk 3 [0, 1, 5] [(0, .slice a0' ((((((st127.2.2.set (Int.toNat st127.2.1) (SRepair.mk x146 x154.Mends x154.First x154.Price x154.Hours)).set (Int.toNat st127.2.1) (SRepair.mk x172.Name x181.2 x172.First x172.Price x172.Hours)).set (Int.toNat st127.2.1) (SRepair.mk x194.Name x194.Mends x203.2 x194.Price x194.Hours)).set (Int.toNat st127.2.1) (SRepair.mk x216.Name x216.Mends x216.First x203.1 x216.Hours)).set (Int.toNat st127.2.1) (SRepair.mk x234.Name x234.Mends x234.First x234.Price (wI64 (x203.1 + 1)))).length) c0'), (5, .int .i64 (wI64 (st127.2.1 + 1))), (1, .int .i64 (wI64 ((wI64 (x203.1 + 1)) + 1)))] (by kernel_rfl) ?_
  refine WL.nil ?_
  obtain rfl := Option.some.inj hm
  exact WQ.round hK134 ⟨((wI64 ((wI64 (x203.1 + 1)) + 1)), (wI64 (st127.2.1 + 1)), (((((st127.2.2.set (Int.toNat st127.2.1) (SRepair.mk x146 x154.Mends x154.First x154.Price x154.Hours)).set (Int.toNat st127.2.1) (SRepair.mk x172.Name x181.2 x172.First x172.Price x172.Hours)).set (Int.toNat st127.2.1) (SRepair.mk x194.Name x194.Mends x203.2 x194.Price x194.Hours)).set (Int.toNat st127.2.1) (SRepair.mk x216.Name x216.Mends x216.First x203.1 x216.Hours)).set (Int.toNat st127.2.1) (SRepair.mk x234.Name x234.Mends x234.First x234.Price (wI64 (x203.1 + 1))))), rfl, hb246, hL247, hS248, hn249, hl132⟩ (Nat.lt_succ_self _) ⟨rfl, rfl, rfl, trivial⟩

theorem c_44 (n : Nat) (a_0 : List Int) (a0' : Option Addr) (c0' : Nat) (k_1 : Int) (w : World) {r : Int} (hm : m_laws_heldInt64S n a_0 k_1 = some r) (h0 : Rd fInt.ty w a0' a_0) (_hle0 : a_0.length ≤ c0') :
    CallV Try.prog 44 #[.slice a0' a_0.length c0', .int .i64 k_1] w (fun v w' => v = .int .i64 r ∧ Ext w w') := by
  unfold m_laws_heldInt64S at hm
  refine CallV.enter Try.func44 rfl (by kernel_rfl) Try.ntmps44 (env := [(0, .slice a0' a_0.length c0'), (1, .int .i64 k_1)]) ⟨rfl, rfl, trivial⟩ ?_
  refine WP.seq (fun K1 hK1 => ?_)
  refine WP.region ?_
  refine WL.runk 1 [0, 1] [(0, .slice a0' a_0.length c0'), (1, .int .i64 k_1)] (by kernel_rfl) ?_
  refine WL.nil ?_
  refine WQ.then_normal (hK1 _ _ _ ?_)
  refine WP.seq (fun K2 hK2 => ?_)
  refine WP.seq (fun K3 hK3 => ?_)
  refine WP.region ?_
  refine WL.runk 1 [0, 1, 5] [(0, .slice a0' a_0.length c0'), (1, .int .i64 k_1), (5, .int .i64 0)] (by kernel_rfl) ?_
  refine WL.nil ?_
  refine WQ.then_normal (hK3 _ _ _ ?_)
  refine WP.block ?_
  obtain ⟨t15, ht16, hm⟩ := bindE hm
  have hmo10 := hm; clear hm
  refine WP.sub [(0, .slice a0' a_0.length c0'), (1, .int .i64 k_1), (5, .int .i64 0)] ⟨rfl, rfl, rfl, trivial⟩ ?_
  refine WP.loop (fun n' env' w' => ∃ (st4 : Int × Int) , env' = [(0, .slice a0' a_0.length c0'), (1, .int .i64 st4.1), (5, .int .i64 st4.2)] ∧ Ext w w' ∧ w.heap.size ≤ w'.heap.size ∧ SH w' w.heap.size [] ∧ loopN (m_laws_heldInt64S_l1 n a_0) n' st4 = some t15) n ⟨(k_1, 0), rfl, (Ext.refl w), (Nat.le_refl _), (SH.nil _ _), ht16⟩ ?_
  rintro n12 _ w5 ⟨st4, rfl, hb6, hL7, hS8, hl9⟩ K11 hK11
  obtain ⟨n13, s14, rfl, hm, hl9⟩ := loopN_some hl9
  unfold m_laws_heldInt64S_l1 at hm
  refine WP.seq (fun K17 hK17 => ?_)
  refine WP.seq (fun K18 hK18 => ?_)
  refine WP.region ?_
  refine WL.runk 4 [0, 1, 5, 9] [(0, .slice a0' a_0.length c0'), (1, .int .i64 st4.1), (5, .int .i64 st4.2), (9, .bool (decide (st4.2 < (a_0.length : Int))))] (by kernel_rfl) ?_
  refine WL.nil ?_
  refine WQ.then_normal (hK18 _ _ _ ?_)
  refine WP.cond (decide (st4.2 < (a_0.length : Int))) rfl rfl (fun hc19 => ?_) (fun hc19 => ?_)
  rotate_left
  · have hm := iteF hm hc19
    refine WP.exit ?_
    refine WQ.then_exit ?_
    refine WQ.then_exit ?_
    refine WQ.block_here ?_
    obtain rfl := Option.some.inj hm
    obtain rfl := afterN_done hl9
    have hm := hmo10
    refine WQ.then_normal (hK2 _ _ _ ?_)
    refine WP.seq (fun K27 hK27 => ?_)
    refine WP.region ?_
    refine WL.runk 2 [4] [(4, .int .i64 st4.1)] (by kernel_rfl) ?_
    refine WL.nil ?_
    refine WQ.then_normal (hK27 _ _ _ ?_)
    refine WP.ret ?_
    obtain rfl := Option.some.inj hm
    exact WQ.ret1 _ rfl rfl ⟨rfl, hb6⟩
  have hm := iteT hm hc19
  refine WP.skip ?_
  refine WQ.then_normal (hK17 _ _ _ ?_)
  refine WP.seq (fun K20 hK20 => ?_)
  refine WP.block ?_
  refine WP.seq (fun K21 hK21 => ?_)
  refine WP.seq (fun K22 hK22 => ?_)
  refine WP.region ?_
  refine WL.runk 2 [0, 1, 5, 12, 13] [(0, .slice a0' a_0.length c0'), (1, .int .i64 st4.1), (5, .int .i64 st4.2), (12, .slice a0' a_0.length c0'), (13, .int .i64 st4.2)] (by kernel_rfl) ?_
  obtain ⟨x23, hx24, hm⟩ := bindE hm
  refine WL.st (.pointer (some (at_ a0' (Int.toNat st4.2 * 1)))) (ST.index (T := fInt.ty) (xs := a_0) (Rd.below h0 hb6) hx24 rfl rfl rfl Try.underlying25 (info2).1 (info2).2.1) rfl rfl rfl ?_
  refine WL.st (.int .i64 x23) (ST.load (cell_ext (Rd.flat (F := fInt) (Rd.below h0 hb6) hx24 0 rfl)) rfl rfl Try.underlying2 rfl) rfl rfl rfl ?_
  refine WL.runk 2 [0, 1, 5, 17] [(0, .slice a0' a_0.length c0'), (1, .int .i64 st4.1), (5, .int .i64 st4.2), (17, .bool (x23 != st4.1))] (by kernel_rfl) ?_
  refine WL.nil ?_
  refine WQ.then_normal (hK22 _ _ _ ?_)
  refine WP.cond (x23 != st4.1) rfl rfl (fun hc25 => ?_) (fun hc25 => ?_)
  rotate_left
  · have hm := iteF hm hc25
    refine WP.skip ?_
    refine WQ.then_normal (hK21 _ _ _ ?_)
    refine WP.region ?_
    refine WL.runk 3 [0, 1, 5] [(0, .slice a0' a_0.length c0'), (1, .int .i64 (wI64 (st4.1 + 1))), (5, .int .i64 st4.2)] (by kernel_rfl) ?_
    refine WL.nil ?_
    refine WQ.block_normal ?_
    refine WQ.then_normal (hK20 _ _ _ ?_)
    refine WP.region ?_
    refine WL.runk 3 [0, 1, 5] [(0, .slice a0' a_0.length c0'), (1, .int .i64 (wI64 (st4.1 + 1))), (5, .int .i64 (wI64 (st4.2 + 1)))] (by kernel_rfl) ?_
    refine WL.nil ?_
    obtain rfl := Option.some.inj hm
    exact WQ.round hK11 ⟨((wI64 (st4.1 + 1)), (wI64 (st4.2 + 1))), rfl, hb6, hL7, hS8, hl9⟩ (Nat.lt_succ_self _) ⟨rfl, rfl, rfl, trivial⟩
  have hm := iteT hm hc25
  refine WP.seq (fun K26 hK26 => ?_)
  refine WP.region ?_
  refine WL.runk 1 [4] [(4, .int .i64 (-1))] (by kernel_rfl) ?_
  refine WL.nil ?_
  refine WQ.then_normal (hK26 _ _ _ ?_)
  refine WP.ret ?_
  refine WQ.then_ret ?_
  refine WQ.block_ret ?_
  refine WQ.then_ret ?_
  refine WQ.then_ret ?_
  refine WQ.block_ret ?_
  refine WQ.then_ret ?_
  obtain rfl := Option.some.inj hm
  obtain rfl := afterN_done hl9
  have hm := hmo10
  obtain rfl := Option.some.inj hm
  exact WQ.ret1 _ rfl rfl ⟨rfl, hb6⟩

theorem c_45 (n : Nat) (list_0 : List SRepair) (a0' : Option Addr) (c0' : Nat) (some_1 : List Int) (a1' : Option Addr) (c1' : Nat) (w : World) {r : List Int × Int} (hm : m_spec_WithFirst n list_0 some_1 = some r) (h0 : Rd fRepair.ty w a0' list_0) (hle0 : list_0.length ≤ c0') (h1 : Rd fInt.ty w a1' some_1) (hle1 : some_1.length ≤ c1') :
    CallV Try.prog 45 #[.slice a0' list_0.length c0', .slice a1' some_1.length c1'] w (fun v w' => ∃ (ra0 : Option Addr) (rc0 : Nat), v = .tuple #[.slice ra0 r.1.length rc0, .int .i64 r.2] ∧ Ext w w' ∧ SH w' w.heap.size [aOwn fInt 2 ra0 rc0 r.1]) := by
  unfold m_spec_WithFirst at hm
  refine CallV.enter Try.func45 rfl (by kernel_rfl) Try.ntmps45 (env := [(0, .slice a0' list_0.length c0'), (1, .slice a1' some_1.length c1')]) ⟨rfl, rfl, trivial⟩ ?_
  refine WP.seq (fun K1 hK1 => ?_)
  refine WP.region ?_
  refine WL.runk 2 [0, 1] [(0, .slice a0' list_0.length c0'), (1, .slice a1' some_1.length c1')] (by kernel_rfl) ?_
  refine WL.nil ?_
  refine WQ.then_normal (hK1 _ _ _ ?_)
  refine WP.seq (fun K2 hK2 => ?_)
  refine WP.region ?_
  refine WL.runk 2 [0, 1, 7, 8] [(0, .slice a0' list_0.length c0'), (1, .slice a1' some_1.length c1'), (7, .slice a0' list_0.length c0'), (8, .slice a1' some_1.length c1')] (by kernel_rfl) ?_
  obtain ⟨x3, hx4, hm⟩ := bindE hm
  refine WL.call 80 #[.slice a0' list_0.length c0', .slice a1' some_1.length c1'] rfl rfl (by kernel_rfl) (c_80 n list_0 a0' c0' some_1 a1' c1' w hx4 (Rd.below h0 (Ext.refl w)) hle0 (Rd.below h1 (Ext.refl w)) hle1) ?_
  rintro _ w5 ⟨rfl, hE6⟩
  refine ⟨_, rfl, ?_⟩
  have hb8 : Ext w w5 := Ext.trans (Ext.refl w) hE6
  have hL9 : w.heap.size ≤ w5.heap.size := Nat.le_trans (Nat.le_refl _) hE6.size
  have hS10 : SH w5 w.heap.size [] := SH.ext (SH.nil _ _) hE6
  refine WL.runk 1 [0, 1, 6] [(0, .slice a0' list_0.length c0'), (1, .slice a1' some_1.length c1'), (6, .int .i64 x3)] (by kernel_rfl) ?_
  refine WL.nil ?_
  refine WQ.then_normal (hK2 _ _ _ ?_)
  refine WP.seq (fun K11 hK11 => ?_)
  refine WP.seq (fun K12 hK12 => ?_)
  refine WP.region ?_
  refine WL.runk 2 [0, 1, 6, 11] [(0, .slice a0' list_0.length c0'), (1, .slice a1' some_1.length c1'), (6, .int .i64 x3), (11, .bool (x3 != 0))] (by kernel_rfl) ?_
  refine WL.nil ?_
  refine WQ.then_normal (hK12 _ _ _ ?_)
  refine WP.cond (x3 != 0) rfl rfl (fun hc13 => ?_) (fun hc13 => ?_)
  · have hm := iteT hm hc13
    refine WP.seq (fun K14 hK14 => ?_)
    refine WP.region ?_
    refine WL.runk 3 [4, 5] [(4, .slice none 0 0), (5, .int .i64 x3)] (by kernel_rfl) ?_
    refine WL.nil ?_
    refine WQ.then_normal (hK14 _ _ _ ?_)
    refine WP.ret ?_
    refine WQ.then_ret ?_
    obtain rfl := Option.some.inj hm
    have hS16 : SH w5 w.heap.size [aOwn fInt 2 none 0 ([] : List Int)] := SH.nilOwn hS10
    exact WQ.ret2 _ _ rfl rfl rfl ⟨_, _, rfl, hb8, hS16⟩
  have hm := iteF hm hc13
  refine WP.skip ?_
  refine WQ.then_normal (hK11 _ _ _ ?_)
  refine WP.seq (fun K17 hK17 => ?_)
  refine WP.region ?_
  refine WL.runk 2 [13, 14] [(13, .slice a0' list_0.length c0'), (14, .slice a1' some_1.length c1')] (by kernel_rfl) ?_
  obtain ⟨x18, hx19, hm⟩ := bindE hm
  refine WL.call 84 #[.slice a0' list_0.length c0', .slice a1' some_1.length c1'] rfl rfl (by kernel_rfl) (c_84 n list_0 a0' c0' some_1 a1' c1' w5 hx19 (Rd.below h0 hb8) hle0 (Rd.below h1 hb8) hle1) ?_
  rintro _ w23 ⟨a20, c21, rfl, hE24, hR25⟩
  refine ⟨_, rfl, ?_⟩
  have hb26 : Ext w w23 := Ext.trans hb8 hE24
  have hL27 : w.heap.size ≤ w23.heap.size := Nat.le_trans hL9 hE24.size
  have hS28 : SH w23 w.heap.size [aOwn fInt 2 a20 c21 x18] := SH.add hS10 hE24 hL9 hR25
  refine WL.runk 2 [4, 5] [(4, .slice a20 x18.length c21), (5, .int .i64 0)] (by kernel_rfl) ?_
  refine WL.nil ?_
  refine WQ.then_normal (hK17 _ _ _ ?_)
  refine WP.ret ?_
  obtain rfl := Option.some.inj hm
  exact WQ.ret2 _ _ rfl rfl rfl ⟨_, _, rfl, hb26, hS28⟩

theorem c_85 (n : Nat) (s_0 : List Int) (a0' : Option Addr) (c0' : Nat) (w : World) (w0 : World) (B : Nat) (L : List Asrt) {r : List Int} (hm : m_slices_Reverse_int64_int64 n s_0 = some r) (_hE0 : Ext w0 w) (_hW : w0.heap.size ≤ B) (hL : B ≤ w.heap.size) (hS : SH w B (aOwn fInt 2 a0' c0' s_0 :: L)) :
    CallV Try.prog 85 #[.slice a0' s_0.length c0'] w (fun v w' => v = .tuple #[] ∧ Below B w w' ∧ SH w' B (aOwn fInt 2 a0' c0' r :: L) ∧ r.length = s_0.length) := by
  unfold m_slices_Reverse_int64_int64 at hm
  refine CallV.enter Try.func85 rfl (by kernel_rfl) Try.ntmps85 (env := [(0, .slice a0' s_0.length c0')]) ⟨rfl, trivial⟩ ?_
  refine WP.seq (fun K1 hK1 => ?_)
  refine WP.region ?_
  refine WL.runk 5 [0, 2, 3] [(0, .slice a0' s_0.length c0'), (2, .int .i64 0), (3, .int .i64 (wI64 ((s_0.length : Int) - 1)))] (by kernel_rfl) ?_
  refine WL.nil ?_
  refine WQ.then_normal (hK1 _ _ _ ?_)
  refine WP.block ?_
  obtain ⟨t60, ht61, hm⟩ := bindE hm
  have hmo55 := hm; clear hm
  refine WP.sub [(0, .slice a0' s_0.length c0'), (2, .int .i64 0), (3, .int .i64 (wI64 ((s_0.length : Int) - 1)))] ⟨rfl, rfl, rfl, trivial⟩ ?_
  refine WP.loop (fun n' env' w' => ∃ (st49 : Int × Int × List Int) , env' = [(0, .slice a0' st49.2.2.length c0'), (2, .int .i64 st49.1), (3, .int .i64 st49.2.1)] ∧ Below B w w' ∧ B ≤ w'.heap.size ∧ SH w' B (aOwn fInt 2 a0' c0' st49.2.2 :: L) ∧ st49.2.2.length = s_0.length ∧ loopN (m_slices_Reverse_int64_int64_l1 n) n' st49 = some t60) n ⟨(0, (wI64 ((s_0.length : Int) - 1)), s_0), rfl, (Below.refl _ _), hL, hS, rfl, ht61⟩ ?_
  rintro n57 _ w50 ⟨st49, rfl, hb51, hL52, hS53, hn62, hl54⟩ K56 hK56
  obtain ⟨n58, s59, rfl, hm, hl54⟩ := loopN_some hl54
  unfold m_slices_Reverse_int64_int64_l1 at hm
  refine WP.seq (fun K63 hK63 => ?_)
  refine WP.seq (fun K64 hK64 => ?_)
  refine WP.region ?_
  refine WL.runk 3 [0, 2, 3, 9] [(0, .slice a0' st49.2.2.length c0'), (2, .int .i64 st49.1), (3, .int .i64 st49.2.1), (9, .bool (decide (st49.1 < st49.2.1)))] (by kernel_rfl) ?_
  refine WL.nil ?_
  refine WQ.then_normal (hK64 _ _ _ ?_)
  refine WP.cond (decide (st49.1 < st49.2.1)) rfl rfl (fun hc65 => ?_) (fun hc65 => ?_)
  rotate_left
  · have hm := iteF hm hc65
    refine WP.exit ?_
    refine WQ.then_exit ?_
    refine WQ.then_exit ?_
    refine WQ.block_here ?_
    obtain rfl := Option.some.inj hm
    obtain rfl := afterN_done hl54
    have hm := hmo55
    obtain rfl := Option.some.inj hm
    exact WQ.end0 rfl ⟨rfl, hb51, hS53, hn62⟩
  have hm := iteT hm hc65
  refine WP.skip ?_
  refine WQ.then_normal (hK63 _ _ _ ?_)
  refine WP.seq (fun K66 hK66 => ?_)
  refine WP.block ?_
  refine WP.open (n := 16) (by kernel_rfl) rfl (fun w67 hE68 => ?_)
  have hb69 : Below B w w67 := Below.trans hb51 (Below.mono hE68 hL52)
  have hL70 : B ≤ w67.heap.size := Nat.le_trans hL52 hE68.size
  have hS71 : SH w67 B (aOwn fInt 2 a0' c0' st49.2.2 :: L) := SH.ext hS53 hE68
  refine WA.pre (i := 2) (D' := [2]) [(0, .slice a0' st49.2.2.length c0'), (2, .int .i64 st49.1), (3, .int .i64 st49.2.1), (9, .bool (decide (st49.1 < st49.2.1))), (16, .slice a0' st49.2.2.length c0')] rfl (by kernel_rfl) rfl (fun _ => by kernel_rfl) rfl ?_
  refine WA.pre (i := 3) (D' := [2, 3]) [(0, .slice a0' st49.2.2.length c0'), (2, .int .i64 st49.1), (3, .int .i64 st49.2.1), (9, .bool (decide (st49.1 < st49.2.1))), (16, .slice a0' st49.2.2.length c0'), (17, .int .i64 st49.2.1)] rfl (by kernel_rfl) rfl (fun _ => by kernel_rfl) rfl ?_
  refine WA.quiet (f' := 3) (D' := [2, 3, 0, 1, 4, 5, 6, 7, 8, 9, 10, 11, 12]) [0, 1, 4, 5, 6, 7, 8, 9, 10, 11, 12] rfl rfl (by kernel_rfl) ?_
  refine QL.step1v 14 (.slice a0' st49.2.2.length c0') rfl (fun _ => by kernel_rfl) ?_
  refine QL.step1v 15 (.int .i64 st49.1) rfl (fun _ => by kernel_rfl) ?_
  refine QL.step1v 18 (.slice a0' st49.2.2.length c0') rfl (fun _ => by kernel_rfl) ?_
  refine QL.step1v 19 (.int .i64 st49.2.1) rfl (fun _ => by kernel_rfl) ?_
  refine QL.subk [0, 2, 3, 16, 17, 14, 15, 18, 19] [(0, .slice a0' st49.2.2.length c0'), (2, .int .i64 st49.1), (3, .int .i64 st49.2.1), (16, .slice a0' st49.2.2.length c0'), (17, .int .i64 st49.2.1), (14, .slice a0' st49.2.2.length c0'), (15, .int .i64 st49.1), (18, .slice a0' st49.2.2.length c0'), (19, .int .i64 st49.2.1)] (by kernel_rfl) ?_
  obtain ⟨x72, hx73, hm⟩ := bindE hm
  refine QL.st (.pointer (some (at_ a0' (Int.toNat st49.2.1 * 1)))) (ST.index (T := fInt.ty) (xs := st49.2.2) (SH.rd (SH.front 0 hS71)) hx73 rfl rfl rfl Try.underlying25 (info2).1 (info2).2.1) rfl rfl rfl ?_
  refine QL.st (.int .i64 x72) (ST.load (cell_ext (Rd.flat (F := fInt) (SH.rd (SH.front 0 hS71)) hx73 0 rfl)) rfl rfl Try.underlying2 rfl) rfl rfl rfl ?_
  refine QL.step1v 22 (.slice a0' st49.2.2.length c0') rfl (fun _ => by kernel_rfl) ?_
  refine QL.step1v 23 (.int .i64 st49.1) rfl (fun _ => by kernel_rfl) ?_
  refine QL.subk [0, 2, 3, 16, 17, 14, 15, 21, 22, 23] [(0, .slice a0' st49.2.2.length c0'), (2, .int .i64 st49.1), (3, .int .i64 st49.2.1), (16, .slice a0' st49.2.2.length c0'), (17, .int .i64 st49.2.1), (14, .slice a0' st49.2.2.length c0'), (15, .int .i64 st49.1), (21, .int .i64 x72), (22, .slice a0' st49.2.2.length c0'), (23, .int .i64 st49.1)] (by kernel_rfl) ?_
  obtain ⟨x74, hx75, hm⟩ := bindE hm
  refine QL.st (.pointer (some (at_ a0' (Int.toNat st49.1 * 1)))) (ST.index (T := fInt.ty) (xs := st49.2.2) (SH.rd (SH.front 0 hS71)) hx75 rfl rfl rfl Try.underlying25 (info2).1 (info2).2.1) rfl rfl rfl ?_
  refine QL.st (.int .i64 x74) (ST.load (cell_ext (Rd.flat (F := fInt) (SH.rd (SH.front 0 hS71)) hx75 0 rfl)) rfl rfl Try.underlying2 rfl) rfl rfl rfl ?_
  obtain ⟨x76, hx77, hm⟩ := bindE hm
  refine QL.st (.pointer (some (at_ a0' (Int.toNat st49.1 * 1)))) (ST.index (T := fInt.ty) (xs := st49.2.2) (SH.rd (SH.front 0 hS71)) hx77 rfl rfl rfl Try.underlying25 (info2).1 (info2).2.1) rfl rfl rfl ?_
  refine QL.subk [0, 2, 3, 16, 17, 21, 25, 26] [(0, .slice a0' st49.2.2.length c0'), (2, .int .i64 st49.1), (3, .int .i64 st49.2.1), (16, .slice a0' st49.2.2.length c0'), (17, .int .i64 st49.2.1), (21, .int .i64 x72), (25, .int .i64 x74), (26, .pointer (some (at_ a0' (Int.toNat st49.1 * 1))))] (by kernel_rfl) ?_
  refine QL.nil ?_
  intro w78 hE79
  have hb80 : Below B w w78 := Below.trans hb69 (Below.mono hE79 hL70)
  have hL81 : B ≤ w78.heap.size := Nat.le_trans hL70 hE79.size
  have hS82 : SH w78 B (aOwn fInt 2 a0' c0' st49.2.2 :: L) := SH.ext hS71 hE79
  refine WA.one (i := 13) (D' := [2, 3, 0, 1, 4, 5, 6, 7, 8, 9, 10, 11, 12, 13]) rfl rfl (by kernel_rfl) ?_
  refine WL.store (F := fInt) x72 0 [.int .i64 x72] (SH.front 0 hS82) hL81 hx77 rfl rfl rfl rfl rfl rfl rfl (info2).1 (info2).2.1 rfl rfl rfl ?_
  intro w83 hB84 hS85
  have hb86 : Below B w w83 := Below.trans hb80 hB84
  have hL87 : B ≤ w83.heap.size := Nat.le_trans hL81 hB84.size
  refine WL.sub [(0, .slice a0' ((st49.2.2.set (Int.toNat st49.1) x72).length) c0'), (2, .int .i64 st49.1), (3, .int .i64 st49.2.1), (16, .slice a0' ((st49.2.2.set (Int.toNat st49.1) x72).length) c0'), (17, .int .i64 st49.2.1), (21, .int .i64 x72), (25, .int .i64 x74)] ⟨by first | (simp only [List.length_set]; done) | (simp only [List.length_set]; rfl), rfl, rfl, by first | (simp only [List.length_set]; done) | (simp only [List.length_set]; rfl), rfl, rfl, rfl, trivial⟩ ?_
  have hn88 : (st49.2.2.set (Int.toNat st49.1) x72).length = s_0.length := List.length_set.trans hn62
  refine WL.sub [(0, .slice a0' ((st49.2.2.set (Int.toNat st49.1) x72).length) c0'), (2, .int .i64 st49.1), (3, .int .i64 st49.2.1), (16, .slice a0' ((st49.2.2.set (Int.toNat st49.1) x72).length) c0'), (17, .int .i64 st49.2.1), (25, .int .i64 x74)] ⟨rfl, rfl, rfl, rfl, rfl, rfl, trivial⟩ ?_
  refine WL.nil ?_
  refine WA.one (i := 14) (D' := [2, 3, 0, 1, 4, 5, 6, 7, 8, 9, 10, 11, 12, 13, 14]) rfl rfl (by kernel_rfl) ?_
  obtain ⟨x89, hx90, hm⟩ := bindE hm
  refine WL.st (.pointer (some (at_ a0' (Int.toNat st49.2.1 * 1)))) (ST.index (T := fInt.ty) (xs := (st49.2.2.set (Int.toNat st49.1) x72)) (SH.rd (SH.front 0 hS85)) hx90 rfl rfl rfl Try.underlying25 (info2).1 (info2).2.1) rfl rfl rfl ?_
  refine WL.sub [(0, .slice a0' ((st49.2.2.set (Int.toNat st49.1) x72).length) c0'), (2, .int .i64 st49.1), (3, .int .i64 st49.2.1), (25, .int .i64 x74), (27, .pointer (some (at_ a0' (Int.toNat st49.2.1 * 1))))] ⟨rfl, rfl, rfl, rfl, rfl, trivial⟩ ?_
  refine WL.nil ?_
  refine WA.one (i := 15) (D' := [2, 3, 0, 1, 4, 5, 6, 7, 8, 9, 10, 11, 12, 13, 14, 15]) rfl rfl (by kernel_rfl) ?_
  refine WL.store (F := fInt) x74 0 [.int .i64 x74] (SH.front 0 hS85) hL87 hx90 rfl rfl rfl rfl rfl rfl rfl (info2).1 (info2).2.1 rfl rfl rfl ?_
  intro w91 hB92 hS93
  have hb94 : Below B w w91 := Below.trans hb86 hB92
  have hL95 : B ≤ w91.heap.size := Nat.le_trans hL87 hB92.size
  refine WL.sub [(0, .slice a0' (((st49.2.2.set (Int.toNat st49.1) x72).set (Int.toNat st49.2.1) x74).length) c0'), (2, .int .i64 st49.1), (3, .int .i64 st49.2.1), (25, .int .i64 x74)] ⟨by first | (simp only [List.length_set]; done) | (simp only [List.length_set]; rfl), rfl, rfl, rfl, trivial⟩ ?_
  have hn96 : ((st49.2.2.set (Int.toNat st49.1) x72).set (Int.toNat st49.2.1) x74).length = s_0.length := List.length_set.trans hn88
  refine WL.sub [(0, .slice a0' (((st49.2.2.set (Int.toNat st49.1) x72).set (Int.toNat st49.2.1) x74).length) c0'), (2, .int .i64 st49.1), (3, .int .i64 st49.2.1)] ⟨rfl, rfl, rfl, trivial⟩ ?_
  refine WL.nil ?_
  refine WA.done (by kernel_rfl) ?_
  refine WQ.block_normal ?_
  refine WQ.then_normal (hK66 _ _ _ ?_)
  refine WP.region ?_
  refine WL.runk 6 [0, 2, 3] [(0, .slice a0' (((st49.2.2.set (Int.toNat st49.1) x72).set (Int.toNat st49.2.1) x74).length) c0'), (2, .int .i64 (wI64 (st49.1 + 1))), (3, .int .i64 (wI64 (st49.2.1 - 1)))] (by kernel_rfl) ?_
  refine WL.nil ?_
  obtain rfl := Option.some.inj hm
  exact WQ.round hK56 ⟨((wI64 (st49.1 + 1)), (wI64 (st49.2.1 - 1)), ((st49.2.2.set (Int.toNat st49.1) x72).set (Int.toNat st49.2.1) x74)), rfl, hb94, hL95, hS93, hn96, hl54⟩ (Nat.lt_succ_self _) ⟨rfl, rfl, rfl, trivial⟩

theorem c_46 (n : Nat) (list_0 : List SRepair) (a0' : Option Addr) (c0' : Nat) (some_1 : List Int) (a1' : Option Addr) (c1' : Nat) (w : World) {r : List Int × Int} (hm : m_impl_WithFirst n list_0 some_1 = some r) (h0 : Rd fRepair.ty w a0' list_0) (hle0 : list_0.length ≤ c0') (h1 : Rd fInt.ty w a1' some_1) (hle1 : some_1.length ≤ c1') :
    CallV Try.prog 46 #[.slice a0' list_0.length c0', .slice a1' some_1.length c1'] w (fun v w' => ∃ (ra0 : Option Addr) (rc0 : Nat), v = .tuple #[.slice ra0 r.1.length rc0, .int .i64 r.2] ∧ Ext w w' ∧ SH w' w.heap.size [aOwn fInt 2 ra0 rc0 r.1]) := by
  unfold m_impl_WithFirst at hm
  refine CallV.enter Try.func46 rfl (by kernel_rfl) Try.ntmps46 (env := [(0, .slice a0' list_0.length c0'), (1, .slice a1' some_1.length c1')]) ⟨rfl, rfl, trivial⟩ ?_
  refine WP.seq (fun K1 hK1 => ?_)
  refine WP.region ?_
  refine WL.runk 2 [0, 1] [(0, .slice a0' list_0.length c0'), (1, .slice a1' some_1.length c1')] (by kernel_rfl) ?_
  refine WL.nil ?_
  refine WQ.then_normal (hK1 _ _ _ ?_)
  refine WP.seq (fun K2 hK2 => ?_)
  refine WP.seq (fun K3 hK3 => ?_)
  refine WP.region ?_
  refine WL.runk 2 [0, 1, 14, 15] [(0, .slice a0' list_0.length c0'), (1, .slice a1' some_1.length c1'), (14, .slice a0' list_0.length c0'), (15, .slice a1' some_1.length c1')] (by kernel_rfl) ?_
  obtain ⟨x4, hx5, hm⟩ := bindE hm
  refine WL.call 50 #[.slice a0' list_0.length c0', .slice a1' some_1.length c1', .slice none 0 0] rfl rfl (by kernel_rfl) (c_50 n list_0 a0' c0' some_1 a1' c1' ([] : List Int) none 0 w hx5 (Rd.below h0 (Ext.refl w)) hle0 (Rd.below h1 (Ext.refl w)) hle1 (Rd.nil _ _ _) (Nat.zero_le _)) ?_
  rintro _ w6 ⟨rfl, hE7⟩
  refine ⟨_, rfl, ?_⟩
  have hb9 : Ext w w6 := Ext.trans (Ext.refl w) hE7
  have hL10 : w.heap.size ≤ w6.heap.size := Nat.le_trans (Nat.le_refl _) hE7.size
  have hS11 : SH w6 w.heap.size [] := SH.ext (SH.nil _ _) hE7
  refine WL.runk 1 [0, 1, 6] [(0, .slice a0' list_0.length c0'), (1, .slice a1' some_1.length c1'), (6, .int .i64 x4)] (by kernel_rfl) ?_
  refine WL.nil ?_
  refine WQ.then_normal (hK3 _ _ _ ?_)
  refine WP.seq (fun K12 hK12 => ?_)
  refine WP.region ?_
  refine WL.runk 2 [0, 1, 6, 18] [(0, .slice a0' list_0.length c0'), (1, .slice a1' some_1.length c1'), (6, .int .i64 x4), (18, .bool (x4 != 0))] (by kernel_rfl) ?_
  refine WL.nil ?_
  refine WQ.then_normal (hK12 _ _ _ ?_)
  refine WP.cond (x4 != 0) rfl rfl (fun hc13 => ?_) (fun hc13 => ?_)
  · have hm := iteT hm hc13
    refine WP.seq (fun K14 hK14 => ?_)
    refine WP.region ?_
    refine WL.runk 3 [4, 5] [(4, .slice none 0 0), (5, .int .i64 x4)] (by kernel_rfl) ?_
    refine WL.nil ?_
    refine WQ.then_normal (hK14 _ _ _ ?_)
    refine WP.ret ?_
    refine WQ.then_ret ?_
    obtain rfl := Option.some.inj hm
    have hS16 : SH w6 w.heap.size [aOwn fInt 2 none 0 ([] : List Int)] := SH.nilOwn hS11
    exact WQ.ret2 _ _ rfl rfl rfl ⟨_, _, rfl, hb9, hS16⟩
  have hm := iteF hm hc13
  refine WP.skip ?_
  refine WQ.then_normal (hK2 _ _ _ ?_)
  refine WP.seq (fun K17 hK17 => ?_)
  refine WP.region ?_
  refine WL.runk 1 [0, 1, 7] [(0, .slice a0' list_0.length c0'), (1, .slice a1' some_1.length c1'), (7, .int .i64 0)] (by kernel_rfl) ?_
  refine WL.nil ?_
  refine WQ.then_normal (hK17 _ _ _ ?_)
  refine WP.seq (fun K18 hK18 => ?_)
  refine WP.seq (fun K19 hK19 => ?_)
  refine WP.region ?_
  refine WL.runk 3 [0, 7, 20, 21, 22] [(0, .slice a0' list_0.length c0'), (7, .int .i64 0), (20, .slice a1' some_1.length c1'), (21, .int .i64 (some_1.length : Int)), (22, .int .i64 0)] (by kernel_rfl) ?_
  refine WL.nil ?_
  refine WQ.then_normal (hK19 _ _ _ ?_)
  refine WP.block ?_
  obtain ⟨t31, ht32, hm⟩ := bindE hm
  have hmo26 := hm; clear hm
  refine WP.sub [(0, .slice a0' list_0.length c0'), (7, .int .i64 0), (20, .slice a1' some_1.length c1'), (21, .int .i64 (some_1.length : Int)), (22, .int .i64 0)] ⟨rfl, rfl, rfl, rfl, rfl, trivial⟩ ?_
  refine WP.loop (fun n' env' w' => ∃ (st20 : Int × Int) , env' = [(0, .slice a0' list_0.length c0'), (7, .int .i64 st20.1), (20, .slice a1' some_1.length c1'), (21, .int .i64 (some_1.length : Int)), (22, .int .i64 st20.2)] ∧ Ext w w' ∧ w.heap.size ≤ w'.heap.size ∧ SH w' w.heap.size [] ∧ loopN (m_impl_WithFirst_l1 n some_1) n' st20 = some t31) n ⟨(0, 0), rfl, hb9, hL10, hS11, ht32⟩ ?_
  rintro n28 _ w21 ⟨st20, rfl, hb22, hL23, hS24, hl25⟩ K27 hK27
  obtain ⟨n29, s30, rfl, hm, hl25⟩ := loopN_some hl25
  unfold m_impl_WithFirst_l1 at hm
  refine WP.seq (fun K33 hK33 => ?_)
  refine WP.region ?_
  refine WL.runk 1 [0, 7, 20, 21, 22, 23] [(0, .slice a0' list_0.length c0'), (7, .int .i64 st20.1), (20, .slice a1' some_1.length c1'), (21, .int .i64 (some_1.length : Int)), (22, .int .i64 st20.2), (23, .bool (decide (st20.2 < (some_1.length : Int))))] (by kernel_rfl) ?_
  refine WL.nil ?_
  refine WQ.then_normal (hK33 _ _ _ ?_)
  refine WP.seq (fun K34 hK34 => ?_)
  refine WP.cond (decide (st20.2 < (some_1.length : Int))) rfl rfl (fun hc35 => ?_) (fun hc35 => ?_)
  · have hm := iteT hm hc35
    refine WP.skip ?_
    refine WQ.then_normal (hK34 _ _ _ ?_)
    refine WP.seq (fun K36 hK36 => ?_)
    refine WP.block ?_
    refine WP.seq (fun K37 hK37 => ?_)
    refine WP.region ?_
    obtain ⟨x38, hx39, hm⟩ := bindE hm
    refine WL.st (.pointer (some (at_ a1' (Int.toNat st20.2 * 1)))) (ST.index (T := fInt.ty) (xs := some_1) (Rd.below h1 hb22) hx39 rfl rfl rfl Try.underlying25 (info2).1 (info2).2.1) rfl rfl rfl ?_
    refine WL.st (.int .i64 x38) (ST.load (cell_ext (Rd.flat (F := fInt) (Rd.below h1 hb22) hx39 0 rfl)) rfl rfl Try.underlying2 rfl) rfl rfl rfl ?_
    refine WL.runk 1 [0, 7, 9, 20, 21, 22] [(0, .slice a0' list_0.length c0'), (7, .int .i64 st20.1), (20, .slice a1' some_1.length c1'), (21, .int .i64 (some_1.length : Int)), (22, .int .i64 st20.2), (9, .int .i64 x38)] (by kernel_rfl) ?_
    refine WL.nil ?_
    refine WQ.then_normal (hK37 _ _ _ ?_)
    refine WP.region ?_
    refine WL.runk 3 [0, 20, 21, 22, 26, 28] [(0, .slice a0' list_0.length c0'), (20, .slice a1' some_1.length c1'), (21, .int .i64 (some_1.length : Int)), (22, .int .i64 st20.2), (26, .int .i64 st20.1), (28, .int .u64 (IntKind.u64.wrap x38))] (by kernel_rfl) ?_
    obtain ⟨x40, hx41, hm⟩ := bindE hm
    refine WL.st (.int .i64 x40) (ST.shl (k := .i64) hx41 rfl rfl rfl) rfl rfl rfl ?_
    refine WL.runk 2 [0, 7, 20, 21, 22] [(0, .slice a0' list_0.length c0'), (20, .slice a1' some_1.length c1'), (21, .int .i64 (some_1.length : Int)), (22, .int .i64 st20.2), (7, .int .i64 (ior .i64 st20.1 x40))] (by kernel_rfl) ?_
    refine WL.nil ?_
    refine WQ.block_normal ?_
    refine WQ.then_normal (hK36 _ _ _ ?_)
    refine WP.region ?_
    refine WL.runk 2 [0, 7, 20, 21, 22] [(0, .slice a0' list_0.length c0'), (20, .slice a1' some_1.length c1'), (21, .int .i64 (some_1.length : Int)), (22, .int .i64 (wI64 (st20.2 + 1))), (7, .int .i64 (ior .i64 st20.1 x40))] (by kernel_rfl) ?_
    refine WL.nil ?_
    obtain rfl := Option.some.inj hm
    exact WQ.round hK27 ⟨((ior .i64 st20.1 x40), (wI64 (st20.2 + 1))), rfl, hb22, hL23, hS24, hl25⟩ (Nat.lt_succ_self _) ⟨rfl, rfl, rfl, rfl, rfl, trivial⟩
  have hm := iteF hm hc35
  refine WP.exit ?_
  refine WQ.then_exit ?_
  refine WQ.then_exit ?_
  refine WQ.block_here ?_
  obtain rfl := Option.some.inj hm
  obtain rfl := afterN_done hl25
  have hm := hmo26
  refine WQ.then_normal (hK18 _ _ _ ?_)
  refine WP.seq (fun K42 hK42 => ?_)
  refine WP.region ?_
  refine WL.row fInt 2 ([] : List Int) 0 #[] 32 (by kernel_rfl) rfl rfl rfl rfl rfl rfl rfl ?_
  intro a43 c44 w45 hE46 hR47
  have hb49 : Ext w w45 := Ext.trans hb22 hE46
  have hL50 : w.heap.size ≤ w45.heap.size := Nat.le_trans hL23 hE46.size
  have hS51 : SH w45 w.heap.size [aOwn fInt 2 a43 c44 ([] : List Int)] := SH.add hS24 hE46 hL23 hR47
  refine WL.runk 1 [0, 7, 10] [(0, .slice a0' list_0.length c0'), (7, .int .i64 st20.1), (10, .slice a43 (([] : List Int).length) c44)] (by kernel_rfl) ?_
  refine WL.nil ?_
  refine WQ.then_normal (hK42 _ _ _ ?_)
  refine WP.seq (fun K52 hK52 => ?_)
  refine WP.seq (fun K53 hK53 => ?_)
  refine WP.region ?_
  refine WL.runk 4 [0, 7, 10, 11] [(0, .slice a0' list_0.length c0'), (7, .int .i64 st20.1), (10, .slice a43 (([] : List Int).length) c44), (11, .int .i64 (wI64 ((list_0.length : Int) - 1)))] (by kernel_rfl) ?_
  refine WL.nil ?_
  refine WQ.then_normal (hK53 _ _ _ ?_)
  refine WP.block ?_
  obtain ⟨t68, ht69, hm⟩ := bindE hm
  have hmo63 := hm; clear hm
  refine WP.sub [(0, .slice a0' list_0.length c0'), (7, .int .i64 st20.1), (10, .slice a43 (([] : List Int).length) c44), (11, .int .i64 (wI64 ((list_0.length : Int) - 1)))] ⟨rfl, rfl, rfl, rfl, trivial⟩ ?_
  refine WP.loop (fun n' env' w' => ∃ (st54 : Int × List Int × Int) (a55 : Option Addr) (c56 : Nat), env' = [(0, .slice a0' list_0.length c0'), (7, .int .i64 st54.1), (10, .slice a55 st54.2.1.length c56), (11, .int .i64 st54.2.2)] ∧ Ext w w' ∧ w.heap.size ≤ w'.heap.size ∧ SH w' w.heap.size [aOwn fInt 2 a55 c56 st54.2.1] ∧ loopN (m_impl_WithFirst_l2 n list_0) n' st54 = some t68) n ⟨(st20.1, ([] : List Int), (wI64 ((list_0.length : Int) - 1))), _, _, rfl, hb49, hL50, hS51, ht69⟩ ?_
  rintro n65 _ w58 ⟨st54, a55, c56, rfl, hb59, hL60, hS61, hl62⟩ K64 hK64
  obtain ⟨n66, s67, rfl, hm, hl62⟩ := loopN_some hl62
  unfold m_impl_WithFirst_l2 at hm
  refine WP.seq (fun K70 hK70 => ?_)
  refine WP.seq (fun K71 hK71 => ?_)
  refine WP.region ?_
  refine WL.runk 2 [0, 7, 10, 11, 37] [(0, .slice a0' list_0.length c0'), (7, .int .i64 st54.1), (10, .slice a55 st54.2.1.length c56), (11, .int .i64 st54.2.2), (37, .bool (decide (st54.2.2 ≥ 0)))] (by kernel_rfl) ?_
  refine WL.nil ?_
  refine WQ.then_normal (hK71 _ _ _ ?_)
  refine WP.cond (decide (st54.2.2 ≥ 0)) rfl rfl (fun hc72 => ?_) (fun hc72 => ?_)
  rotate_left
  · have hm := iteF hm hc72
    refine WP.exit ?_
    refine WQ.then_exit ?_
    refine WQ.then_exit ?_
    refine WQ.block_here ?_
    obtain rfl := Option.some.inj hm
    obtain rfl := afterN_done hl62
    have hm := hmo63
    refine WQ.then_normal (hK52 _ _ _ ?_)
    refine WP.seq (fun K141 hK141 => ?_)
    refine WP.region ?_
    refine WL.runk 1 [10, 64] [(10, .slice a55 st54.2.1.length c56), (64, .slice a55 st54.2.1.length c56)] (by kernel_rfl) ?_
    obtain ⟨x142, hx143, hm⟩ := bindE hm
    refine WL.call 85 #[.slice a55 st54.2.1.length c56] rfl rfl (by kernel_rfl) (c_85 n st54.2.1 a55 c56 w58 w w.heap.size [] hx143 hb59 (Nat.le_refl _) hL60  hS61) ?_
    rintro _ w144 ⟨rfl, hB148, hS147, hlen149⟩
    refine ⟨_, rfl, ?_⟩
    have hb150 : Ext w w144 := Below.trans hb59 hB148
    have hL151 : w.heap.size ≤ w144.heap.size := Nat.le_trans hL60 hB148.size
    refine WL.sub [(10, .slice a55 x142.length c56), (64, .slice a55 x142.length c56), (65, .tuple #[])] ⟨by rw [hlen149]; rfl, by rw [hlen149]; rfl, rfl, trivial⟩ ?_
    refine WL.sub [(10, .slice a55 x142.length c56)] ⟨rfl, trivial⟩ ?_
    refine WL.nil ?_
    refine WQ.then_normal (hK141 _ _ _ ?_)
    refine WP.seq (fun K152 hK152 => ?_)
    refine WP.region ?_
    refine WL.runk 3 [4, 5] [(4, .slice a55 x142.length c56), (5, .int .i64 0)] (by kernel_rfl) ?_
    refine WL.nil ?_
    refine WQ.then_normal (hK152 _ _ _ ?_)
    refine WP.ret ?_
    obtain rfl := Option.some.inj hm
    exact WQ.ret2 _ _ rfl rfl rfl ⟨_, _, rfl, hb150, hS147⟩
  have hm := iteT hm hc72
  refine WP.skip ?_
  refine WQ.then_normal (hK70 _ _ _ ?_)
  refine WP.seq (fun K73 hK73 => ?_)
  refine WP.block ?_
  refine WP.seq (fun K74 hK74 => ?_)
  refine WP.seq (fun K75 hK75 => ?_)
  refine WP.region ?_
  refine WL.runk 2 [0, 7, 10, 11, 40, 41] [(0, .slice a0' list_0.length c0'), (7, .int .i64 st54.1), (10, .slice a55 st54.2.1.length c56), (11, .int .i64 st54.2.2), (40, .int .i64 st54.1), (41, .int .i64 st54.2.2)] (by kernel_rfl) ?_
  obtain ⟨x76, hx77, hm⟩ := bindE hm
  refine WL.call 54 #[.int .i64 st54.1, .int .i64 st54.2.2] rfl rfl (by kernel_rfl) (c_54 n st54.1 st54.2.2 w58 hx77 ) ?_
  rintro _ w78 ⟨rfl, hE79⟩
  refine ⟨_, rfl, ?_⟩
  have hb81 : Ext w w78 := Ext.trans hb59 hE79
  have hL82 : w.heap.size ≤ w78.heap.size := Nat.le_trans hL60 hE79.size
  have hS83 : SH w78 w.heap.size [aOwn fInt 2 a55 c56 st54.2.1] := SH.ext hS61 hE79
  refine WL.runk 1 [0, 7, 10, 11, 43] [(0, .slice a0' list_0.length c0'), (7, .int .i64 st54.1), (10, .slice a55 st54.2.1.length c56), (11, .int .i64 st54.2.2), (43, .bool (!x76))] (by kernel_rfl) ?_
  refine WL.nil ?_
  refine WQ.then_normal (hK75 _ _ _ ?_)
  refine WP.cond (!x76) rfl rfl (fun hc84 => ?_) (fun hc84 => ?_)
  · have hm := iteT hm hc84
    refine WP.exit ?_
    refine WQ.then_exit ?_
    refine WQ.block_here ?_
    refine WQ.then_normal (hK73 _ _ _ ?_)
    refine WP.region ?_
    refine WL.runk 3 [0, 7, 10, 11] [(0, .slice a0' list_0.length c0'), (7, .int .i64 st54.1), (10, .slice a55 st54.2.1.length c56), (11, .int .i64 (wI64 (st54.2.2 - 1)))] (by kernel_rfl) ?_
    refine WL.nil ?_
    obtain rfl := Option.some.inj hm
    exact WQ.round hK64 ⟨(st54.1, st54.2.1, (wI64 (st54.2.2 - 1))), _, _, rfl, hb81, hL82, hS83, hl62⟩ (Nat.lt_succ_self _) ⟨rfl, rfl, rfl, rfl, trivial⟩
  have hm := iteF hm hc84
  refine WP.skip ?_
  refine WQ.then_normal (hK74 _ _ _ ?_)
  refine WP.seq (fun K85 hK85 => ?_)
  refine WP.region ?_
  refine WL.runk 2 [0, 7, 11, 44, 45] [(0, .slice a0' list_0.length c0'), (7, .int .i64 st54.1), (11, .int .i64 st54.2.2), (44, .slice a55 st54.2.1.length c56), (45, .int .i64 st54.2.2)] (by kernel_rfl) ?_
  refine WL.row fInt 2 ([st54.2.2] : List Int) 1 #[.int .i64 st54.2.2] 46 (by kernel_rfl) rfl rfl rfl rfl rfl rfl rfl ?_
  intro a86 c87 w88 hE89 hR90
  have hb92 : Ext w w88 := Ext.trans hb81 hE89
  have hL93 : w.heap.size ≤ w88.heap.size := Nat.le_trans hL82 hE89.size
  have hS94 : SH w88 w.heap.size [aOwn fInt 2 a86 c87 ([st54.2.2] : List Int), aOwn fInt 2 a55 c56 st54.2.1] := SH.add hS83 hE89 hL82 hR90
  obtain ⟨x95, hx96, hm⟩ := bindE hm
  refine WL.append (F := fInt) (xs := st54.2.1) (ys := ([st54.2.2] : List Int)) 47 (SH.front 1 hS94) hL93 (SH.rd (SH.front 0 hS94)) hx96 rfl rfl rfl Try.underlying25 (info2).1 (info2).2.2.1 (info2).2.1 (info2).2.2.2 rfl rfl rfl rfl rfl ?_
  intro a97 c98 w99 hB100 hS101
  have hb102 : Ext w w99 := Below.trans hb92 hB100
  have hL103 : w.heap.size ≤ w99.heap.size := Nat.le_trans hL93 hB100.size
  refine WL.runk 1 [0, 7, 10, 11] [(0, .slice a0' list_0.length c0'), (7, .int .i64 st54.1), (11, .int .i64 st54.2.2), (10, .slice a97 x95.length c98)] (by kernel_rfl) ?_
  refine WL.nil ?_
  refine WQ.then_normal (hK85 _ _ _ ?_)
  refine WP.seq (fun K104 hK104 => ?_)
  refine WP.region ?_
  refine WL.runk 2 [0, 7, 10, 11, 48, 49] [(0, .slice a0' list_0.length c0'), (7, .int .i64 st54.1), (11, .int .i64 st54.2.2), (10, .slice a97 x95.length c98), (48, .slice a0' list_0.length c0'), (49, .int .i64 st54.2.2)] (by kernel_rfl) ?_
  obtain ⟨x105, hx106, hm⟩ := bindE hm
  obtain ⟨a107, c108, a112, c113, hc117, hR109, hle110, hR114, hle115⟩ := nest_Repair h0 hx106
  refine WL.st (.pointer (some (at_ a0' (Int.toNat st54.2.2 * 5)))) (ST.index (T := fRepair.ty) (xs := list_0) (Rd.below h0 hb102) hx106 rfl rfl rfl Try.underlying24 (info73).1 (info73).2.1) rfl rfl rfl ?_
  refine WL.runk 1 [0, 7, 10, 11, 51] [(0, .slice a0' list_0.length c0'), (7, .int .i64 st54.1), (11, .int .i64 st54.2.2), (10, .slice a97 x95.length c98), (51, .pointer (some (at_ a0' (Int.toNat st54.2.2 * 5 + 2))))] (by kernel_rfl) ?_
  refine WL.st (.slice a112 x105.First.length c113) (ST.load (cell_ext ((cells_ext hc117 hb102) 2 _ rfl)) rfl rfl Try.underlying25 rfl) rfl rfl rfl ?_
  refine WL.runk 2 [0, 7, 10, 11, 52, 53, 54] [(0, .slice a0' list_0.length c0'), (7, .int .i64 st54.1), (11, .int .i64 st54.2.2), (10, .slice a97 x95.length c98), (52, .slice a112 x105.First.length c113), (53, .int .i64 (x105.First.length : Int)), (54, .int .i64 0)] (by kernel_rfl) ?_
  refine WL.nil ?_
  refine WQ.then_normal (hK104 _ _ _ ?_)
  refine WP.block ?_
  obtain ⟨t129, ht130, hm⟩ := bindE hm
  have hmo124 := hm; clear hm
  refine WP.sub [(0, .slice a0' list_0.length c0'), (7, .int .i64 st54.1), (11, .int .i64 st54.2.2), (10, .slice a97 x95.length c98), (52, .slice a112 x105.First.length c113), (53, .int .i64 (x105.First.length : Int)), (54, .int .i64 0)] ⟨rfl, rfl, rfl, rfl, rfl, rfl, rfl, trivial⟩ ?_
  refine WP.loop (fun n' env' w' => ∃ (st118 : Int × Int) , env' = [(0, .slice a0' list_0.length c0'), (7, .int .i64 st118.1), (11, .int .i64 st54.2.2), (10, .slice a97 x95.length c98), (52, .slice a112 x105.First.length c113), (53, .int .i64 (x105.First.length : Int)), (54, .int .i64 st118.2)] ∧ Ext w w' ∧ w.heap.size ≤ w'.heap.size ∧ SH w' w.heap.size [aOwn fInt 2 a97 c98 x95] ∧ loopN (m_impl_WithFirst_l3 n x105) n' st118 = some t129) n ⟨(st54.1, 0), rfl, hb102, hL103, (SH.take 1 hS101), ht130⟩ ?_
  rintro n126 _ w119 ⟨st118, rfl, hb120, hL121, hS122, hl123⟩ K125 hK125
  obtain ⟨n127, s128, rfl, hm, hl123⟩ := loopN_some hl123
  unfold m_impl_WithFirst_l3 at hm
  refine WP.seq (fun K131 hK131 => ?_)
  refine WP.region ?_
  refine WL.runk 1 [0, 7, 10, 11, 52, 53, 54, 55] [(0, .slice a0' list_0.length c0'), (7, .int .i64 st118.1), (11, .int .i64 st54.2.2), (10, .slice a97 x95.length c98), (52, .slice a112 x105.First.length c113), (53, .int .i64 (x105.First.length : Int)), (54, .int .i64 st118.2), (55, .bool (decide (st118.2 < (x105.First.length : Int))))] (by kernel_rfl) ?_
  refine WL.nil ?_
  refine WQ.then_normal (hK131 _ _ _ ?_)
  refine WP.seq (fun K132 hK132 => ?_)
  refine WP.cond (decide (st118.2 < (x105.First.length : Int))) rfl rfl (fun hc133 => ?_) (fun hc133 => ?_)
  rotate_left
  · have hm := iteF hm hc133
    refine WP.exit ?_
    refine WQ.then_exit ?_
    refine WQ.then_exit ?_
    refine WQ.block_here ?_
    obtain rfl := Option.some.inj hm
    obtain rfl := afterN_done hl123
    have hm := hmo124
    refine WQ.block_normal ?_
    refine WQ.then_normal (hK73 _ _ _ ?_)
    refine WP.region ?_
    refine WL.runk 3 [0, 7, 10, 11] [(0, .slice a0' list_0.length c0'), (7, .int .i64 st118.1), (11, .int .i64 (wI64 (st54.2.2 - 1))), (10, .slice a97 x95.length c98)] (by kernel_rfl) ?_
    refine WL.nil ?_
    obtain rfl := Option.some.inj hm
    exact WQ.round hK64 ⟨(st118.1, x95, (wI64 (st54.2.2 - 1))), _, _, rfl, hb120, hL121, hS122, hl62⟩ (Nat.lt_succ_self _) ⟨rfl, rfl, rfl, rfl, trivial⟩
  have hm := iteT hm hc133
  refine WP.skip ?_
  refine WQ.then_normal (hK132 _ _ _ ?_)
  refine WP.seq (fun K134 hK134 => ?_)
  refine WP.block ?_
  refine WP.seq (fun K135 hK135 => ?_)
  refine WP.region ?_
  obtain ⟨x136, hx137, hm⟩ := bindE hm
  refine WL.st (.pointer (some (at_ a112 (Int.toNat st118.2 * 1)))) (ST.index (T := fInt.ty) (xs := x105.First) (Rd.below hR114 hb120) hx137 rfl rfl rfl Try.underlying25 (info2).1 (info2).2.1) rfl rfl rfl ?_
  refine WL.st (.int .i64 x136) (ST.load (cell_ext (Rd.flat (F := fInt) (Rd.below hR114 hb120) hx137 0 rfl)) rfl rfl Try.underlying2 rfl) rfl rfl rfl ?_
  refine WL.runk 1 [0, 7, 10, 11, 13, 52, 53, 54] [(0, .slice a0' list_0.length c0'), (7, .int .i64 st118.1), (11, .int .i64 st54.2.2), (10, .slice a97 x95.length c98), (52, .slice a112 x105.First.length c113), (53, .int .i64 (x105.First.length : Int)), (54, .int .i64 st118.2), (13, .int .i64 x136)] (by kernel_rfl) ?_
  refine WL.nil ?_
  refine WQ.then_normal (hK135 _ _ _ ?_)
  refine WP.region ?_
  refine WL.runk 3 [0, 10, 11, 52, 53, 54, 58, 60] [(0, .slice a0' list_0.length c0'), (11, .int .i64 st54.2.2), (10, .slice a97 x95.length c98), (52, .slice a112 x105.First.length c113), (53, .int .i64 (x105.First.length : Int)), (54, .int .i64 st118.2), (58, .int .i64 st118.1), (60, .int .u64 (IntKind.u64.wrap x136))] (by kernel_rfl) ?_
  obtain ⟨x138, hx139, hm⟩ := bindE hm
  refine WL.st (.int .i64 x138) (ST.shl (k := .i64) hx139 rfl rfl rfl) rfl rfl rfl ?_
  refine WL.runk 2 [0, 7, 10, 11, 52, 53, 54] [(0, .slice a0' list_0.length c0'), (11, .int .i64 st54.2.2), (10, .slice a97 x95.length c98), (52, .slice a112 x105.First.length c113), (53, .int .i64 (x105.First.length : Int)), (54, .int .i64 st118.2), (7, .int .i64 (ior .i64 st118.1 x138))] (by kernel_rfl) ?_
  refine WL.nil ?_
  refine WQ.block_normal ?_
  refine WQ.then_normal (hK134 _ _ _ ?_)
  refine WP.region ?_
  refine WL.runk 2 [0, 7, 10, 11, 52, 53, 54] [(0, .slice a0' list_0.length c0'), (11, .int .i64 st54.2.2), (10, .slice a97 x95.length c98), (52, .slice a112 x105.First.length c113), (53, .int .i64 (x105.First.length : Int)), (54, .int .i64 (wI64 (st118.2 + 1))), (7, .int .i64 (ior .i64 st118.1 x138))] (by kernel_rfl) ?_
  refine WL.nil ?_
  obtain rfl := Option.some.inj hm
  exact WQ.round hK125 ⟨((ior .i64 st118.1 x138), (wI64 (st118.2 + 1))), rfl, hb120, hL121, hS122, hl123⟩ (Nat.lt_succ_self _) ⟨rfl, rfl, rfl, rfl, rfl, rfl, rfl, trivial⟩

theorem c_10 (n : Nat) (aList_0 : List SRepair) (a0' : Option Addr) (c0' : Nat) (aSome_1 : List Int) (a1' : Option Addr) (c1' : Nat) (w : World) {r : Bool} (hm : m_laws_FnExactWithFirst n aList_0 aSome_1 = some r) (h0 : Rd fRepair.ty w a0' aList_0) (hle0 : aList_0.length ≤ c0') (h1 : Rd fInt.ty w a1' aSome_1) (hle1 : aSome_1.length ≤ c1') :
    CallV Try.prog 10 #[.slice a0' aList_0.length c0', .slice a1' aSome_1.length c1'] w (fun v w' => v = .bool r ∧ Ext w w') := by
  unfold m_laws_FnExactWithFirst at hm
  refine CallV.enter Try.func10 rfl (by kernel_rfl) Try.ntmps10 (env := [(0, .slice a0' aList_0.length c0'), (1, .slice a1' aSome_1.length c1')]) ⟨rfl, rfl, trivial⟩ ?_
  refine WP.seq (fun K1 hK1 => ?_)
  refine WP.region ?_
  refine WL.runk 1 [0, 1] [(0, .slice a0' aList_0.length c0'), (1, .slice a1' aSome_1.length c1')] (by kernel_rfl) ?_
  refine WL.nil ?_
  refine WQ.then_normal (hK1 _ _ _ ?_)
  refine WP.seq (fun K2 hK2 => ?_)
  refine WP.seq (fun K3 hK3 => ?_)
  refine WP.region ?_
  refine WL.runk 3 [0, 1, 19] [(0, .slice a0' aList_0.length c0'), (1, .slice a1' aSome_1.length c1'), (19, .bool (decide ((aSome_1.length : Int) > 1048576)))] (by kernel_rfl) ?_
  refine WL.nil ?_
  refine WQ.then_normal (hK3 _ _ _ ?_)
  refine WP.cond (decide ((aSome_1.length : Int) > 1048576)) rfl rfl (fun hc4 => ?_) (fun hc4 => ?_)
  · have hm := iteT hm hc4
    refine WP.seq (fun K5 hK5 => ?_)
    refine WP.region ?_
    refine WL.runk 1 [4] [(4, .bool true)] (by kernel_rfl) ?_
    refine WL.nil ?_
    refine WQ.then_normal (hK5 _ _ _ ?_)
    refine WP.ret ?_
    refine WQ.then_ret ?_
    obtain rfl := Option.some.inj hm
    exact WQ.ret1 _ rfl rfl ⟨rfl, (Ext.refl w)⟩
  have hm := iteF hm hc4
  refine WP.skip ?_
  refine WQ.then_normal (hK2 _ _ _ ?_)
  refine WP.seq (fun K6 hK6 => ?_)
  refine WP.region ?_
  refine WL.runk 1 [0, 1, 5] [(0, .slice a0' aList_0.length c0'), (1, .slice a1' aSome_1.length c1'), (5, .int .i64 1048576)] (by kernel_rfl) ?_
  refine WL.nil ?_
  refine WQ.then_normal (hK6 _ _ _ ?_)
  refine WP.seq (fun K7 hK7 => ?_)
  refine WP.region ?_
  refine WL.runk 2 [0, 1, 20, 21] [(0, .slice a0' aList_0.length c0'), (1, .slice a1' aSome_1.length c1'), (20, .slice a0' aList_0.length c0'), (21, .int .i64 1048576)] (by kernel_rfl) ?_
  obtain ⟨x8, hx9, hm⟩ := bindE hm
  refine WL.call 28 #[.slice a0' aList_0.length c0', .int .i64 1048576] rfl rfl (by kernel_rfl) (c_28 n aList_0 a0' c0' 1048576 w hx9 (Rd.below h0 (Ext.refl w)) hle0) ?_
  rintro _ w10 ⟨rfl, hE11⟩
  refine ⟨_, rfl, ?_⟩
  have hb13 : Ext w w10 := Ext.trans (Ext.refl w) hE11
  have hL14 : w.heap.size ≤ w10.heap.size := Nat.le_trans (Nat.le_refl _) hE11.size
  have hS15 : SH w10 w.heap.size [] := SH.ext (SH.nil _ _) hE11
  refine WL.runk 1 [0, 1, 5] [(0, .slice a0' aList_0.length c0'), (1, .slice a1' aSome_1.length c1'), (5, .int .i64 x8)] (by kernel_rfl) ?_
  refine WL.nil ?_
  refine WQ.then_normal (hK7 _ _ _ ?_)
  refine WP.seq (fun K16 hK16 => ?_)
  refine WP.seq (fun K17 hK17 => ?_)
  refine WP.region ?_
  refine WL.runk 2 [0, 1, 24] [(0, .slice a0' aList_0.length c0'), (1, .slice a1' aSome_1.length c1'), (24, .bool (decide (x8 < 0)))] (by kernel_rfl) ?_
  refine WL.nil ?_
  refine WQ.then_normal (hK17 _ _ _ ?_)
  refine WP.cond (decide (x8 < 0)) rfl rfl (fun hc18 => ?_) (fun hc18 => ?_)
  · have hm := iteT hm hc18
    refine WP.seq (fun K19 hK19 => ?_)
    refine WP.region ?_
    refine WL.runk 1 [4] [(4, .bool true)] (by kernel_rfl) ?_
    refine WL.nil ?_
    refine WQ.then_normal (hK19 _ _ _ ?_)
    refine WP.ret ?_
    refine WQ.then_ret ?_
    obtain rfl := Option.some.inj hm
    exact WQ.ret1 _ rfl rfl ⟨rfl, hb13⟩
  have hm := iteF hm hc18
  refine WP.skip ?_
  refine WQ.then_normal (hK16 _ _ _ ?_)
  refine WP.seq (fun K20 hK20 => ?_)
  refine WP.region ?_
  refine WL.runk 1 [0, 1, 26] [(0, .slice a0' aList_0.length c0'), (1, .slice a1' aSome_1.length c1'), (26, .slice a0' aList_0.length c0')] (by kernel_rfl) ?_
  obtain ⟨x21, hx22, hm⟩ := bindE hm
  refine WL.call 30 #[.slice a0' aList_0.length c0'] rfl rfl (by kernel_rfl) (c_30 n aList_0 a0' c0' w10 hx22 (Rd.below h0 hb13) hle0) ?_
  rintro _ w26 ⟨a23, c24, rfl, hE27, hR28⟩
  refine ⟨_, rfl, ?_⟩
  have hb29 : Ext w w26 := Ext.trans hb13 hE27
  have hL30 : w.heap.size ≤ w26.heap.size := Nat.le_trans hL14 hE27.size
  have hS31 : SH w26 w.heap.size [aNest fRepair 73 2 a23 c24 x21] := SH.add hS15 hE27 hL14 hR28
  refine WL.runk 1 [0, 1, 27, 28] [(0, .slice a0' aList_0.length c0'), (1, .slice a1' aSome_1.length c1'), (27, .slice a23 x21.length c24), (28, .slice a1' aSome_1.length c1')] (by kernel_rfl) ?_
  obtain ⟨x32, hx33, hm⟩ := bindE hm
  refine WL.call 36 #[.slice a1' aSome_1.length c1'] rfl rfl (by kernel_rfl) (c_36 n aSome_1 a1' c1' w26 hx33 (Rd.below h1 hb29) hle1) ?_
  rintro _ w37 ⟨a34, c35, rfl, hE38, hR39⟩
  refine ⟨_, rfl, ?_⟩
  have hb40 : Ext w w37 := Ext.trans hb29 hE38
  have hL41 : w.heap.size ≤ w37.heap.size := Nat.le_trans hL30 hE38.size
  have hS42 : SH w37 w.heap.size [aOwn fInt 2 a34 c35 x32, aNest fRepair 73 2 a23 c24 x21] := SH.add hS31 hE38 hL30 hR39
  obtain ⟨x43, hx44, hm⟩ := bindE hm
  refine WL.call 45 #[.slice a23 x21.length c24, .slice a34 x32.length c35] rfl rfl (by kernel_rfl) (c_45 n x21 a23 c24 x32 a34 c35 w37 hx44 (SH.rdN (SH.front 1 hS42)) (SH.leN (SH.front 1 hS42)).1 (SH.rd (SH.front 0 hS42)) (SH.le (SH.front 0 hS42)).1) ?_
  rintro _ w48 ⟨a45, c46, rfl, hE49, hR50⟩
  refine ⟨_, rfl, ?_⟩
  have hb51 : Ext w w48 := Ext.trans hb40 hE49
  have hL52 : w.heap.size ≤ w48.heap.size := Nat.le_trans hL41 hE49.size
  have hS53 : SH w48 w.heap.size [aOwn fInt 2 a45 c46 x43.1, aOwn fInt 2 a34 c35 x32, aNest fRepair 73 2 a23 c24 x21] := SH.add hS42 hE49 hL41 hR50
  refine WL.runk 5 [0, 1, 6, 7] [(0, .slice a0' aList_0.length c0'), (1, .slice a1' aSome_1.length c1'), (6, .slice a45 x43.1.length c46), (7, .int .i64 x43.2)] (by kernel_rfl) ?_
  refine WL.nil ?_
  refine WQ.then_normal (hK20 _ _ _ ?_)
  refine WP.seq (fun K54 hK54 => ?_)
  refine WP.region ?_
  refine WL.runk 1 [0, 1, 6, 7, 33] [(0, .slice a0' aList_0.length c0'), (1, .slice a1' aSome_1.length c1'), (6, .slice a45 x43.1.length c46), (7, .int .i64 x43.2), (33, .slice a0' aList_0.length c0')] (by kernel_rfl) ?_
  obtain ⟨x55, hx56, hm⟩ := bindE hm
  refine WL.call 30 #[.slice a0' aList_0.length c0'] rfl rfl (by kernel_rfl) (c_30 n aList_0 a0' c0' w48 hx56 (Rd.below h0 hb51) hle0) ?_
  rintro _ w60 ⟨a57, c58, rfl, hE61, hR62⟩
  refine ⟨_, rfl, ?_⟩
  have hb63 : Ext w w60 := Ext.trans hb51 hE61
  have hL64 : w.heap.size ≤ w60.heap.size := Nat.le_trans hL52 hE61.size
  have hS65 : SH w60 w.heap.size [aNest fRepair 73 2 a57 c58 x55, aOwn fInt 2 a45 c46 x43.1, aOwn fInt 2 a34 c35 x32, aNest fRepair 73 2 a23 c24 x21] := SH.add hS53 hE61 hL52 hR62
  refine WL.runk 1 [0, 1, 6, 7, 8] [(0, .slice a0' aList_0.length c0'), (1, .slice a1' aSome_1.length c1'), (6, .slice a45 x43.1.length c46), (7, .int .i64 x43.2), (8, .slice a57 x55.length c58)] (by kernel_rfl) ?_
  refine WL.nil ?_
  refine WQ.then_normal (hK54 _ _ _ ?_)
  refine WP.seq (fun K66 hK66 => ?_)
  refine WP.region ?_
  refine WL.runk 1 [0, 1, 6, 7, 8, 35] [(0, .slice a0' aList_0.length c0'), (1, .slice a1' aSome_1.length c1'), (6, .slice a45 x43.1.length c46), (7, .int .i64 x43.2), (8, .slice a57 x55.length c58), (35, .slice a1' aSome_1.length c1')] (by kernel_rfl) ?_
  obtain ⟨x67, hx68, hm⟩ := bindE hm
  refine WL.call 36 #[.slice a1' aSome_1.length c1'] rfl rfl (by kernel_rfl) (c_36 n aSome_1 a1' c1' w60 hx68 (Rd.below h1 hb63) hle1) ?_
  rintro _ w72 ⟨a69, c70, rfl, hE73, hR74⟩
  refine ⟨_, rfl, ?_⟩
  have hb75 : Ext w w72 := Ext.trans hb63 hE73
  have hL76 : w.heap.size ≤ w72.heap.size := Nat.le_trans hL64 hE73.size
  have hS77 : SH w72 w.heap.size [aOwn fInt 2 a69 c70 x67, aNest fRepair 73 2 a57 c58 x55, aOwn fInt 2 a45 c46 x43.1, aOwn fInt 2 a34 c35 x32, aNest fRepair 73 2 a23 c24 x21] := SH.add hS65 hE73 hL64 hR74
  refine WL.runk 1 [0, 1, 6, 7, 8, 9] [(0, .slice a0' aList_0.length c0'), (1, .slice a1' aSome_1.length c1'), (6, .slice a45 x43.1.length c46), (7, .int .i64 x43.2), (8, .slice a57 x55.length c58), (9, .slice a69 x67.length c70)] (by kernel_rfl) ?_
  refine WL.nil ?_
  refine WQ.then_normal (hK66 _ _ _ ?_)
  refine WP.seq (fun K78 hK78 => ?_)
  refine WP.region ?_
  refine WL.runk 2 [0, 1, 6, 7, 8, 9, 38, 39] [(0, .slice a0' aList_0.length c0'), (1, .slice a1' aSome_1.length c1'), (6, .slice a45 x43.1.length c46), (7, .int .i64 x43.2), (8, .slice a57 x55.length c58), (9, .slice a69 x67.length c70), (38, .slice a57 x55.length c58), (39, .slice a69 x67.length c70)] (by kernel_rfl) ?_
  obtain ⟨x79, hx80, hm⟩ := bindE hm
  refine WL.call 46 #[.slice a57 x55.length c58, .slice a69 x67.length c70] rfl rfl (by kernel_rfl) (c_46 n x55 a57 c58 x67 a69 c70 w72 hx80 (SH.rdN (SH.front 1 hS77)) (SH.leN (SH.front 1 hS77)).1 (SH.rd (SH.front 0 hS77)) (SH.le (SH.front 0 hS77)).1) ?_
  rintro _ w84 ⟨a81, c82, rfl, hE85, hR86⟩
  refine ⟨_, rfl, ?_⟩
  have hb87 : Ext w w84 := Ext.trans hb75 hE85
  have hL88 : w.heap.size ≤ w84.heap.size := Nat.le_trans hL76 hE85.size
  have hS89 : SH w84 w.heap.size [aOwn fInt 2 a81 c82 x79.1, aOwn fInt 2 a69 c70 x67, aNest fRepair 73 2 a57 c58 x55, aOwn fInt 2 a45 c46 x43.1, aOwn fInt 2 a34 c35 x32, aNest fRepair 73 2 a23 c24 x21] := SH.add hS77 hE85 hL76 hR86
  refine WL.runk 5 [0, 1, 6, 7, 8, 9, 10, 11] [(0, .slice a0' aList_0.length c0'), (1, .slice a1' aSome_1.length c1'), (6, .slice a45 x43.1.length c46), (7, .int .i64 x43.2), (8, .slice a57 x55.length c58), (9, .slice a69 x67.length c70), (10, .slice a81 x79.1.length c82), (11, .int .i64 x79.2)] (by kernel_rfl) ?_
  refine WL.nil ?_
  refine WQ.then_normal (hK78 _ _ _ ?_)
  refine WP.seq (fun K90 hK90 => ?_)
  refine WP.seq (fun K91 hK91 => ?_)
  obtain ⟨x101, hx102, hm⟩ := bindE hm
  refine WP.cut (fun env' w' => env' = [(0, .slice a0' aList_0.length c0'), (1, .slice a1' aSome_1.length c1'), (6, .slice a45 x43.1.length c46), (7, .int .i64 x43.2), (8, .slice a57 x55.length c58), (9, .slice a69 x67.length c70), (10, .slice a81 x79.1.length c82), (11, .int .i64 x79.2), (51, .bool x101)] ∧ Ext w w' ∧ w.heap.size ≤ w'.heap.size ∧ SH w' w.heap.size [aOwn fInt 2 a81 c82 x79.1, aOwn fInt 2 a69 c70 x67, aNest fRepair 73 2 a57 c58 x55, aOwn fInt 2 a45 c46 x43.1]) ?_ ?_
  · have hm := hx102; clear hx102
    refine WP.region ?_
    refine WL.runk 2 [0, 1, 6, 7, 8, 9, 10, 11, 43, 44] [(0, .slice a0' aList_0.length c0'), (1, .slice a1' aSome_1.length c1'), (6, .slice a45 x43.1.length c46), (7, .int .i64 x43.2), (8, .slice a57 x55.length c58), (9, .slice a69 x67.length c70), (10, .slice a81 x79.1.length c82), (11, .int .i64 x79.2), (43, .slice a81 x79.1.length c82), (44, .slice a45 x43.1.length c46)] (by kernel_rfl) ?_
    obtain ⟨x103, hx104, hm⟩ := bindE hm
    refine WL.call 38 #[.slice a81 x79.1.length c82, .slice a45 x43.1.length c46] rfl rfl (by kernel_rfl) (c_38 n x79.1 a81 c82 x43.1 a45 c46 w84 hx104 (SH.rd (SH.front 0 hS89)) (SH.le (SH.front 0 hS89)).1 (SH.rd (SH.front 3 hS89)) (SH.le (SH.front 3 hS89)).1) ?_
    rintro _ w105 ⟨rfl, hE106⟩
    refine ⟨_, rfl, ?_⟩
    have hb108 : Ext w w105 := Ext.trans hb87 hE106
    have hL109 : w.heap.size ≤ w105.heap.size := Nat.le_trans hL88 hE106.size
    have hS110 : SH w105 w.heap.size [aOwn fInt 2 a81 c82 x79.1, aOwn fInt 2 a69 c70 x67, aNest fRepair 73 2 a57 c58 x55, aOwn fInt 2 a45 c46 x43.1, aOwn fInt 2 a34 c35 x32, aNest fRepair 73 2 a23 c24 x21] := SH.ext hS89 hE106
    refine WL.runk 2 [0, 1, 6, 7, 8, 9, 10, 11, 47] [(0, .slice a0' aList_0.length c0'), (1, .slice a1' aSome_1.length c1'), (6, .slice a45 x43.1.length c46), (7, .int .i64 x43.2), (8, .slice a57 x55.length c58), (9, .slice a69 x67.length c70), (10, .slice a81 x79.1.length c82), (11, .int .i64 x79.2), (47, .bool (!x103))] (by kernel_rfl) ?_
    refine WL.case (!x103) [47] ⟨rfl, trivial⟩ (fun hc111 => ?_) (fun hc111 => ?_)
    · have hm := iteT hm hc111
      refine WL.runk 4 [0, 1, 6, 7, 8, 9, 10, 11, 51] [(0, .slice a0' aList_0.length c0'), (1, .slice a1' aSome_1.length c1'), (6, .slice a45 x43.1.length c46), (7, .int .i64 x43.2), (8, .slice a57 x55.length c58), (9, .slice a69 x67.length c70), (10, .slice a81 x79.1.length c82), (11, .int .i64 x79.2), (51, .bool true)] (by kernel_rfl) ?_
      refine WL.nil ?_
      obtain rfl := Option.some.inj hm
      exact WQ.post' ⟨rfl, hb108, hL109, (SH.take 4 (SH.front 3 (SH.front 3 (SH.front 3 (SH.front 3 hS110)))))⟩ ⟨rfl, rfl, rfl, rfl, rfl, rfl, rfl, rfl, rfl, trivial⟩
    have hm := iteF hm hc111
    refine WL.runk 4 [0, 1, 6, 7, 8, 9, 10, 11, 51] [(0, .slice a0' aList_0.length c0'), (1, .slice a1' aSome_1.length c1'), (6, .slice a45 x43.1.length c46), (7, .int .i64 x43.2), (8, .slice a57 x55.length c58), (9, .slice a69 x67.length c70), (10, .slice a81 x79.1.length c82), (11, .int .i64 x79.2), (51, .bool (x79.2 != x43.2))] (by kernel_rfl) ?_
    refine WL.nil ?_
    obtain rfl := Option.some.inj hm
    exact WQ.post' ⟨rfl, hb108, hL109, (SH.take 4 (SH.front 3 (SH.front 3 (SH.front 3 (SH.front 3 hS110)))))⟩ ⟨rfl, rfl, rfl, rfl, rfl, rfl, rfl, rfl, rfl, trivial⟩
  clear hx102
  rintro _ w112 ⟨rfl, hb113, hL114, hS115⟩
  refine WQ.then_normal (hK91 _ _ _ ?_)
  refine WP.cond x101 rfl rfl (fun hc116 => ?_) (fun hc116 => ?_)
  · have hm := iteT hm hc116
    refine WP.seq (fun K117 hK117 => ?_)
    refine WP.region ?_
    refine WL.runk 1 [4] [(4, .bool false)] (by kernel_rfl) ?_
    refine WL.nil ?_
    refine WQ.then_normal (hK117 _ _ _ ?_)
    refine WP.ret ?_
    refine WQ.then_ret ?_
    obtain rfl := Option.some.inj hm
    exact WQ.ret1 _ rfl rfl ⟨rfl, hb113⟩
  have hm := iteF hm hc116
  refine WP.skip ?_
  refine WQ.then_normal (hK90 _ _ _ ?_)
  refine WP.seq (fun K118 hK118 => ?_)
  refine WP.seq (fun K119 hK119 => ?_)
  refine WP.region ?_
  refine WL.runk 2 [0, 1, 6, 7, 8, 9, 10, 11, 52, 53] [(0, .slice a0' aList_0.length c0'), (1, .slice a1' aSome_1.length c1'), (6, .slice a45 x43.1.length c46), (7, .int .i64 x43.2), (8, .slice a57 x55.length c58), (9, .slice a69 x67.length c70), (10, .slice a81 x79.1.length c82), (11, .int .i64 x79.2), (52, .slice a57 x55.length c58), (53, .slice a0' aList_0.length c0')] (by kernel_rfl) ?_
  obtain ⟨x120, hx121, hm⟩ := bindE hm
  refine WL.call 30 #[.slice a0' aList_0.length c0'] rfl rfl (by kernel_rfl) (c_30 n aList_0 a0' c0' w112 hx121 (Rd.below h0 hb113) hle0) ?_
  rintro _ w125 ⟨a122, c123, rfl, hE126, hR127⟩
  refine ⟨_, rfl, ?_⟩
  have hb128 : Ext w w125 := Ext.trans hb113 hE126
  have hL129 : w.heap.size ≤ w125.heap.size := Nat.le_trans hL114 hE126.size
  have hS130 : SH w125 w.heap.size [aNest fRepair 73 2 a122 c123 x120, aOwn fInt 2 a81 c82 x79.1, aOwn fInt 2 a69 c70 x67, aNest fRepair 73 2 a57 c58 x55, aOwn fInt 2 a45 c46 x43.1] := SH.add hS115 hE126 hL114 hR127
  obtain ⟨x131, hx132, hm⟩ := bindE hm
  refine WL.call 32 #[.slice a57 x55.length c58, .slice a122 x120.length c123] rfl rfl (by kernel_rfl) (c_32 n x55 a57 c58 x120 a122 c123 w125 hx132 (SH.rdN (SH.front 3 hS130)) (SH.leN (SH.front 3 hS130)).1 (SH.rdN (SH.front 0 hS130)) (SH.leN (SH.front 0 hS130)).1) ?_
  rintro _ w133 ⟨rfl, hE134⟩
  refine ⟨_, rfl, ?_⟩
  have hb136 : Ext w w133 := Ext.trans hb128 hE134
  have hL137 : w.heap.size ≤ w133.heap.size := Nat.le_trans hL129 hE134.size
  have hS138 : SH w133 w.heap.size [aNest fRepair 73 2 a122 c123 x120, aOwn fInt 2 a81 c82 x79.1, aOwn fInt 2 a69 c70 x67, aNest fRepair 73 2 a57 c58 x55, aOwn fInt 2 a45 c46 x43.1] := SH.ext hS130 hE134
  refine WL.runk 1 [0, 1, 6, 7, 8, 9, 10, 11, 56] [(0, .slice a0' aList_0.length c0'), (1, .slice a1' aSome_1.length c1'), (6, .slice a45 x43.1.length c46), (7, .int .i64 x43.2), (8, .slice a57 x55.length c58), (9, .slice a69 x67.length c70), (10, .slice a81 x79.1.length c82), (11, .int .i64 x79.2), (56, .bool (!x131))] (by kernel_rfl) ?_
  refine WL.nil ?_
  refine WQ.then_normal (hK119 _ _ _ ?_)
  refine WP.cond (!x131) rfl rfl (fun hc139 => ?_) (fun hc139 => ?_)
  · have hm := iteT hm hc139
    refine WP.seq (fun K140 hK140 => ?_)
    refine WP.region ?_
    refine WL.runk 1 [4] [(4, .bool false)] (by kernel_rfl) ?_
    refine WL.nil ?_
    refine WQ.then_normal (hK140 _ _ _ ?_)
    refine WP.ret ?_
    refine WQ.then_ret ?_
    obtain rfl := Option.some.inj hm
    exact WQ.ret1 _ rfl rfl ⟨rfl, hb136⟩
  have hm := iteF hm hc139
  refine WP.skip ?_
  refine WQ.then_normal (hK118 _ _ _ ?_)
  refine WP.seq (fun K141 hK141 => ?_)
  refine WP.seq (fun K142 hK142 => ?_)
  refine WP.region ?_
  refine WL.runk 2 [0, 1, 6, 7, 8, 9, 10, 11, 57, 58] [(0, .slice a0' aList_0.length c0'), (1, .slice a1' aSome_1.length c1'), (6, .slice a45 x43.1.length c46), (7, .int .i64 x43.2), (8, .slice a57 x55.length c58), (9, .slice a69 x67.length c70), (10, .slice a81 x79.1.length c82), (11, .int .i64 x79.2), (57, .slice a69 x67.length c70), (58, .slice a1' aSome_1.length c1')] (by kernel_rfl) ?_
  obtain ⟨x143, hx144, hm⟩ := bindE hm
  refine WL.call 36 #[.slice a1' aSome_1.length c1'] rfl rfl (by kernel_rfl) (c_36 n aSome_1 a1' c1' w133 hx144 (Rd.below h1 hb136) hle1) ?_
  rintro _ w148 ⟨a145, c146, rfl, hE149, hR150⟩
  refine ⟨_, rfl, ?_⟩
  have hb151 : Ext w w148 := Ext.trans hb136 hE149
  have hL152 : w.heap.size ≤ w148.heap.size := Nat.le_trans hL137 hE149.size
  have hS153 : SH w148 w.heap.size [aOwn fInt 2 a145 c146 x143, aNest fRepair 73 2 a122 c123 x120, aOwn fInt 2 a81 c82 x79.1, aOwn fInt 2 a69 c70 x67, aNest fRepair 73 2 a57 c58 x55, aOwn fInt 2 a45 c46 x43.1] := SH.add hS138 hE149 hL137 hR150
  obtain ⟨x154, hx155, hm⟩ := bindE hm
  refine WL.call 38 #[.slice a69 x67.length c70, .slice a145 x143.length c146] rfl rfl (by kernel_rfl) (c_38 n x67 a69 c70 x143 a145 c146 w148 hx155 (SH.rd (SH.front 3 hS153)) (SH.le (SH.front 3 hS153)).1 (SH.rd (SH.front 0 hS153)) (SH.le (SH.front 0 hS153)).1) ?_
  rintro _ w156 ⟨rfl, hE157⟩
  refine ⟨_, rfl, ?_⟩
  have hb159 : Ext w w156 := Ext.trans hb151 hE157
  have hL160 : w.heap.size ≤ w156.heap.size := Nat.le_trans hL152 hE157.size
  have hS161 : SH w156 w.heap.size [aOwn fInt 2 a145 c146 x143, aNest fRepair 73 2 a122 c123 x120, aOwn fInt 2 a81 c82 x79.1, aOwn fInt 2 a69 c70 x67, aNest fRepair 73 2 a57 c58 x55, aOwn fInt 2 a45 c46 x43.1] := SH.ext hS153 hE157
  refine WL.runk 1 [0, 1, 6, 7, 8, 9, 10, 11, 61] [(0, .slice a0' aList_0.length c0'), (1, .slice a1' aSome_1.length c1'), (6, .slice a45 x43.1.length c46), (7, .int .i64 x43.2), (8, .slice a57 x55.length c58), (9, .slice a69 x67.length c70), (10, .slice a81 x79.1.length c82), (11, .int .i64 x79.2), (61, .bool (!x154))] (by kernel_rfl) ?_
  refine WL.nil ?_
  refine WQ.then_normal (hK142 _ _ _ ?_)
  refine WP.cond (!x154) rfl rfl (fun hc162 => ?_) (fun hc162 => ?_)
  · have hm := iteT hm hc162
    refine WP.seq (fun K163 hK163 => ?_)
    refine WP.region ?_
    refine WL.runk 1 [4] [(4, .bool false)] (by kernel_rfl) ?_
    refine WL.nil ?_
    refine WQ.then_normal (hK163 _ _ _ ?_)
    refine WP.ret ?_
    refine WQ.then_ret ?_
    obtain rfl := Option.some.inj hm
    exact WQ.ret1 _ rfl rfl ⟨rfl, hb159⟩
  have hm := iteF hm hc162
  refine WP.skip ?_
  refine WQ.then_normal (hK141 _ _ _ ?_)
  refine WP.seq (fun K164 hK164 => ?_)
  refine WP.region ?_
  refine WL.runk 1 [0, 1, 6, 7, 8, 9, 10, 11, 12] [(0, .slice a0' aList_0.length c0'), (1, .slice a1' aSome_1.length c1'), (6, .slice a45 x43.1.length c46), (7, .int .i64 x43.2), (8, .slice a57 x55.length c58), (9, .slice a69 x67.length c70), (10, .slice a81 x79.1.length c82), (11, .int .i64 x79.2), (12, .int .i64 1)] (by kernel_rfl) ?_
  refine WL.nil ?_
  refine WQ.then_normal (hK164 _ _ _ ?_)
  refine WP.seq (fun K165 hK165 => ?_)
  refine WP.region ?_
  refine WL.runk 2 [0, 1, 6, 7, 9, 10, 11, 62, 63] [(0, .slice a0' aList_0.length c0'), (1, .slice a1' aSome_1.length c1'), (6, .slice a45 x43.1.length c46), (7, .int .i64 x43.2), (9, .slice a69 x67.length c70), (10, .slice a81 x79.1.length c82), (11, .int .i64 x79.2), (62, .slice a57 x55.length c58), (63, .int .i64 1)] (by kernel_rfl) ?_
  obtain ⟨x166, hx167, hm⟩ := bindE hm
  refine WL.call 42 #[.slice a57 x55.length c58, .int .i64 1] rfl rfl (by kernel_rfl) (c_42 n x55 a57 c58 1 w156 w w.heap.size [aOwn fInt 2 a145 c146 x143, aNest fRepair 73 2 a122 c123 x120, aOwn fInt 2 a81 c82 x79.1, aOwn fInt 2 a69 c70 x67, aOwn fInt 2 a45 c46 x43.1] hx167 hb159 (Nat.le_refl _) hL160  (SH.front 5 (SH.front 4 (SH.front 4 (SH.front 4 (SH.front 4 (SH.front 5 hS161))))))) ?_
  rintro _ w168 ⟨rfl, hB172, hS171, hlen173⟩
  refine ⟨_, rfl, ?_⟩
  have hb174 : Ext w w168 := Below.trans hb159 hB172
  have hL175 : w.heap.size ≤ w168.heap.size := Nat.le_trans hL160 hB172.size
  refine WL.sub [(0, .slice a0' aList_0.length c0'), (1, .slice a1' aSome_1.length c1'), (6, .slice a45 x43.1.length c46), (7, .int .i64 x43.2), (9, .slice a69 x67.length c70), (10, .slice a81 x79.1.length c82), (11, .int .i64 x79.2), (62, .slice a57 x166.2.length c58), (63, .int .i64 1), (64, .int .i64 x166.1)] ⟨rfl, rfl, rfl, rfl, rfl, rfl, rfl, by rw [hlen173]; rfl, rfl, rfl, trivial⟩ ?_
  refine WL.runk 1 [0, 1, 6, 7, 9, 10, 11, 12] [(0, .slice a0' aList_0.length c0'), (1, .slice a1' aSome_1.length c1'), (6, .slice a45 x43.1.length c46), (7, .int .i64 x43.2), (9, .slice a69 x67.length c70), (10, .slice a81 x79.1.length c82), (11, .int .i64 x79.2), (12, .int .i64 x166.1)] (by kernel_rfl) ?_
  refine WL.nil ?_
  refine WQ.then_normal (hK165 _ _ _ ?_)
  refine WP.seq (fun K176 hK176 => ?_)
  refine WP.region ?_
  refine WL.runk 2 [0, 1, 6, 7, 10, 11, 65, 66] [(0, .slice a0' aList_0.length c0'), (1, .slice a1' aSome_1.length c1'), (6, .slice a45 x43.1.length c46), (7, .int .i64 x43.2), (10, .slice a81 x79.1.length c82), (11, .int .i64 x79.2), (65, .slice a69 x67.length c70), (66, .int .i64 x166.1)] (by kernel_rfl) ?_
  obtain ⟨x177, hx178, hm⟩ := bindE hm
  refine WL.call 43 #[.slice a69 x67.length c70, .int .i64 x166.1] rfl rfl (by kernel_rfl) (c_43 n x67 a69 c70 x166.1 w168 w w.heap.size [aNest fRepair 73 2 a57 c58 x166.2, aOwn fInt 2 a145 c146 x143, aNest fRepair 73 2 a122 c123 x120, aOwn fInt 2 a81 c82 x79.1, aOwn fInt 2 a45 c46 x43.1] hx178 hb174 (Nat.le_refl _) hL175  (SH.front 5 (SH.front 4 (SH.front 4 (SH.front 4 (SH.front 4 (SH.front 5 hS171))))))) ?_
  rintro _ w179 ⟨rfl, hB183, hS182, hlen184⟩
  refine ⟨_, rfl, ?_⟩
  have hb185 : Ext w w179 := Below.trans hb174 hB183
  have hL186 : w.heap.size ≤ w179.heap.size := Nat.le_trans hL175 hB183.size
  refine WL.sub [(0, .slice a0' aList_0.length c0'), (1, .slice a1' aSome_1.length c1'), (6, .slice a45 x43.1.length c46), (7, .int .i64 x43.2), (10, .slice a81 x79.1.length c82), (11, .int .i64 x79.2), (65, .slice a69 x177.2.length c70), (66, .int .i64 x166.1), (67, .int .i64 x177.1)] ⟨rfl, rfl, rfl, rfl, rfl, rfl, by rw [hlen184]; rfl, rfl, rfl, trivial⟩ ?_
  refine WL.runk 1 [0, 1, 6, 7, 10, 11, 12] [(0, .slice a0' aList_0.length c0'), (1, .slice a1' aSome_1.length c1'), (6, .slice a45 x43.1.length c46), (7, .int .i64 x43.2), (10, .slice a81 x79.1.length c82), (11, .int .i64 x79.2), (12, .int .i64 x177.1)] (by kernel_rfl) ?_
  refine WL.nil ?_
  refine WQ.then_normal (hK176 _ _ _ ?_)
  refine WP.seq (fun K187 hK187 => ?_)
  refine WP.seq (fun K188 hK188 => ?_)
  obtain ⟨x199, hx200, hm⟩ := bindE hm
  refine WP.cut (fun env' w' => env' = [(0, .slice a0' aList_0.length c0'), (1, .slice a1' aSome_1.length c1'), (6, .slice a45 x43.1.length c46), (7, .int .i64 x43.2), (10, .slice a81 x79.1.length c82), (80, .bool x199)] ∧ Ext w w' ∧ w.heap.size ≤ w'.heap.size ∧ SH w' w.heap.size [aOwn fInt 2 a81 c82 x79.1, aOwn fInt 2 a45 c46 x43.1]) ?_ ?_
  · have hm := hx200; clear hx200
    refine WP.region ?_
    refine WL.runk 3 [0, 1, 6, 7, 10, 11, 70] [(0, .slice a0' aList_0.length c0'), (1, .slice a1' aSome_1.length c1'), (6, .slice a45 x43.1.length c46), (7, .int .i64 x43.2), (10, .slice a81 x79.1.length c82), (11, .int .i64 x79.2), (70, .bool (decide (x177.1 < 0)))] (by kernel_rfl) ?_
    refine WL.case (decide (x177.1 < 0)) [70] ⟨rfl, trivial⟩ (fun hc201 => ?_) (fun hc201 => ?_)
    · have hm := iteT hm hc201
      refine WL.runk 10 [0, 1, 6, 7, 10, 80] [(0, .slice a0' aList_0.length c0'), (1, .slice a1' aSome_1.length c1'), (6, .slice a45 x43.1.length c46), (7, .int .i64 x43.2), (10, .slice a81 x79.1.length c82), (80, .bool true)] (by kernel_rfl) ?_
      refine WL.nil ?_
      obtain rfl := Option.some.inj hm
      exact WQ.post' ⟨rfl, hb185, hL186, (SH.take 2 (SH.front 5 (SH.front 5 hS182)))⟩ ⟨rfl, rfl, rfl, rfl, rfl, rfl, trivial⟩
    have hm := iteF hm hc201
    refine WL.runk 2 [0, 1, 6, 7, 10, 11, 70, 71, 72] [(0, .slice a0' aList_0.length c0'), (1, .slice a1' aSome_1.length c1'), (6, .slice a45 x43.1.length c46), (7, .int .i64 x43.2), (10, .slice a81 x79.1.length c82), (11, .int .i64 x79.2), (70, .bool false), (71, .slice a81 x79.1.length c82), (72, .slice a45 x43.1.length c46)] (by kernel_rfl) ?_
    obtain ⟨x202, hx203, hm⟩ := bindE hm
    refine WL.call 38 #[.slice a81 x79.1.length c82, .slice a45 x43.1.length c46] rfl rfl (by kernel_rfl) (c_38 n x79.1 a81 c82 x43.1 a45 c46 w179 hx203 (SH.rd (SH.front 4 hS182)) (SH.le (SH.front 4 hS182)).1 (SH.rd (SH.front 5 hS182)) (SH.le (SH.front 5 hS182)).1) ?_
    rintro _ w204 ⟨rfl, hE205⟩
    refine ⟨_, rfl, ?_⟩
    have hb207 : Ext w w204 := Ext.trans hb185 hE205
    have hL208 : w.heap.size ≤ w204.heap.size := Nat.le_trans hL186 hE205.size
    have hS209 : SH w204 w.heap.size [aOwn fInt 2 a69 c70 x177.2, aNest fRepair 73 2 a57 c58 x166.2, aOwn fInt 2 a145 c146 x143, aNest fRepair 73 2 a122 c123 x120, aOwn fInt 2 a81 c82 x79.1, aOwn fInt 2 a45 c46 x43.1] := SH.ext hS182 hE205
    refine WL.runk 3 [0, 1, 6, 7, 10, 11, 76] [(0, .slice a0' aList_0.length c0'), (1, .slice a1' aSome_1.length c1'), (6, .slice a45 x43.1.length c46), (7, .int .i64 x43.2), (10, .slice a81 x79.1.length c82), (11, .int .i64 x79.2), (76, .bool (!x202))] (by kernel_rfl) ?_
    refine WL.case (!x202) [76] ⟨rfl, trivial⟩ (fun hc210 => ?_) (fun hc210 => ?_)
    · have hm := iteT hm hc210
      refine WL.runk 4 [0, 1, 6, 7, 10, 80] [(0, .slice a0' aList_0.length c0'), (1, .slice a1' aSome_1.length c1'), (6, .slice a45 x43.1.length c46), (7, .int .i64 x43.2), (10, .slice a81 x79.1.length c82), (80, .bool true)] (by kernel_rfl) ?_
      refine WL.nil ?_
      obtain rfl := Option.some.inj hm
      exact WQ.post' ⟨rfl, hb207, hL208, (SH.take 2 (SH.front 5 (SH.front 5 hS209)))⟩ ⟨rfl, rfl, rfl, rfl, rfl, rfl, trivial⟩
    have hm := iteF hm hc210
    refine WL.runk 4 [0, 1, 6, 7, 10, 80] [(0, .slice a0' aList_0.length c0'), (1, .slice a1' aSome_1.length c1'), (6, .slice a45 x43.1.length c46), (7, .int .i64 x43.2), (10, .slice a81 x79.1.length c82), (80, .bool (x79.2 != x43.2))] (by kernel_rfl) ?_
    refine WL.nil ?_
    obtain rfl := Option.some.inj hm
    exact WQ.post' ⟨rfl, hb207, hL208, (SH.take 2 (SH.front 5 (SH.front 5 hS209)))⟩ ⟨rfl, rfl, rfl, rfl, rfl, rfl, trivial⟩
  clear hx200
  rintro _ w211 ⟨rfl, hb212, hL213, hS214⟩
  refine WQ.then_normal (hK188 _ _ _ ?_)
  refine WP.cond x199 rfl rfl (fun hc215 => ?_) (fun hc215 => ?_)
  · have hm := iteT hm hc215
    refine WP.seq (fun K216 hK216 => ?_)
    refine WP.region ?_
    refine WL.runk 1 [4] [(4, .bool false)] (by kernel_rfl) ?_
    refine WL.nil ?_
    refine WQ.then_normal (hK216 _ _ _ ?_)
    refine WP.ret ?_
    refine WQ.then_ret ?_
    obtain rfl := Option.some.inj hm
    exact WQ.ret1 _ rfl rfl ⟨rfl, hb212⟩
  have hm := iteF hm hc215
  refine WP.skip ?_
  refine WQ.then_normal (hK187 _ _ _ ?_)
  refine WP.seq (fun K217 hK217 => ?_)
  refine WP.region ?_
  refine WL.runk 1 [0, 1, 6, 7, 10, 13] [(0, .slice a0' aList_0.length c0'), (1, .slice a1' aSome_1.length c1'), (6, .slice a45 x43.1.length c46), (7, .int .i64 x43.2), (10, .slice a81 x79.1.length c82), (13, .int .i64 1)] (by kernel_rfl) ?_
  refine WL.nil ?_
  refine WQ.then_normal (hK217 _ _ _ ?_)
  refine WP.seq (fun K218 hK218 => ?_)
  refine WP.region ?_
  refine WL.runk 2 [0, 1, 6, 7, 10, 81, 82] [(0, .slice a0' aList_0.length c0'), (1, .slice a1' aSome_1.length c1'), (6, .slice a45 x43.1.length c46), (7, .int .i64 x43.2), (10, .slice a81 x79.1.length c82), (81, .slice a81 x79.1.length c82), (82, .int .i64 1)] (by kernel_rfl) ?_
  obtain ⟨x219, hx220, hm⟩ := bindE hm
  refine WL.call 43 #[.slice a81 x79.1.length c82, .int .i64 1] rfl rfl (by kernel_rfl) (c_43 n x79.1 a81 c82 1 w211 w w.heap.size [aOwn fInt 2 a45 c46 x43.1] hx220 hb212 (Nat.le_refl _) hL213  hS214) ?_
  rintro _ w221 ⟨rfl, hB225, hS224, hlen226⟩
  refine ⟨_, rfl, ?_⟩
  have hb227 : Ext w w221 := Below.trans hb212 hB225
  have hL228 : w.heap.size ≤ w221.heap.size := Nat.le_trans hL213 hB225.size
  refine WL.sub [(0, .slice a0' aList_0.length c0'), (1, .slice a1' aSome_1.length c1'), (6, .slice a45 x43.1.length c46), (7, .int .i64 x43.2), (10, .slice a81 x219.2.length c82), (81, .slice a81 x219.2.length c82), (82, .int .i64 1), (83, .int .i64 x219.1)] ⟨rfl, rfl, rfl, rfl, by rw [hlen226]; rfl, by rw [hlen226]; rfl, rfl, rfl, trivial⟩ ?_
  refine WL.runk 1 [0, 1, 6, 7, 10, 13] [(0, .slice a0' aList_0.length c0'), (1, .slice a1' aSome_1.length c1'), (6, .slice a45 x43.1.length c46), (7, .int .i64 x43.2), (10, .slice a81 x219.2.length c82), (13, .int .i64 x219.1)] (by kernel_rfl) ?_
  refine WL.nil ?_
  refine WQ.then_normal (hK218 _ _ _ ?_)
  refine WP.seq (fun K229 hK229 => ?_)
  refine WP.region ?_
  refine WL.runk 1 [0, 1, 6, 7, 10, 13, 14] [(0, .slice a0' aList_0.length c0'), (1, .slice a1' aSome_1.length c1'), (6, .slice a45 x43.1.length c46), (7, .int .i64 x43.2), (10, .slice a81 x219.2.length c82), (13, .int .i64 x219.1), (14, .int .i64 1)] (by kernel_rfl) ?_
  refine WL.nil ?_
  refine WQ.then_normal (hK229 _ _ _ ?_)
  refine WP.seq (fun K230 hK230 => ?_)
  refine WP.region ?_
  refine WL.runk 2 [0, 1, 6, 7, 10, 13, 84, 85] [(0, .slice a0' aList_0.length c0'), (1, .slice a1' aSome_1.length c1'), (6, .slice a45 x43.1.length c46), (7, .int .i64 x43.2), (10, .slice a81 x219.2.length c82), (13, .int .i64 x219.1), (84, .slice a81 x219.2.length c82), (85, .int .i64 1)] (by kernel_rfl) ?_
  obtain ⟨x231, hx232, hm⟩ := bindE hm
  refine WL.call 44 #[.slice a81 x219.2.length c82, .int .i64 1] rfl rfl (by kernel_rfl) (c_44 n x219.2 a81 c82 1 w221 hx232 (SH.rd (SH.front 0 hS224)) (SH.le (SH.front 0 hS224)).1) ?_
  rintro _ w233 ⟨rfl, hE234⟩
  refine ⟨_, rfl, ?_⟩
  have hb236 : Ext w w233 := Ext.trans hb227 hE234
  have hL237 : w.heap.size ≤ w233.heap.size := Nat.le_trans hL228 hE234.size
  have hS238 : SH w233 w.heap.size [aOwn fInt 2 a81 c82 x219.2, aOwn fInt 2 a45 c46 x43.1] := SH.ext hS224 hE234
  refine WL.runk 1 [0, 1, 6, 7, 10, 13, 14] [(0, .slice a0' aList_0.length c0'), (1, .slice a1' aSome_1.length c1'), (6, .slice a45 x43.1.length c46), (7, .int .i64 x43.2), (10, .slice a81 x219.2.length c82), (13, .int .i64 x219.1), (14, .int .i64 x231)] (by kernel_rfl) ?_
  refine WL.nil ?_
  refine WQ.then_normal (hK230 _ _ _ ?_)
  refine WP.seq (fun K239 hK239 => ?_)
  refine WP.seq (fun K240 hK240 => ?_)
  refine WP.region ?_
  refine WL.runk 2 [0, 1, 6, 7, 10, 13, 14, 88] [(0, .slice a0' aList_0.length c0'), (1, .slice a1' aSome_1.length c1'), (6, .slice a45 x43.1.length c46), (7, .int .i64 x43.2), (10, .slice a81 x219.2.length c82), (13, .int .i64 x219.1), (14, .int .i64 x231), (88, .bool (decide (x231 < 0)))] (by kernel_rfl) ?_
  refine WL.nil ?_
  refine WQ.then_normal (hK240 _ _ _ ?_)
  refine WP.cond (decide (x231 < 0)) rfl rfl (fun hc241 => ?_) (fun hc241 => ?_)
  · have hm := iteT hm hc241
    refine WP.seq (fun K242 hK242 => ?_)
    refine WP.region ?_
    refine WL.runk 1 [4] [(4, .bool false)] (by kernel_rfl) ?_
    refine WL.nil ?_
    refine WQ.then_normal (hK242 _ _ _ ?_)
    refine WP.ret ?_
    refine WQ.then_ret ?_
    obtain rfl := Option.some.inj hm
    exact WQ.ret1 _ rfl rfl ⟨rfl, hb236⟩
  have hm := iteF hm hc241
  refine WP.skip ?_
  refine WQ.then_normal (hK239 _ _ _ ?_)
  refine WP.seq (fun K243 hK243 => ?_)
  refine WP.seq (fun K244 hK244 => ?_)
  refine WP.region ?_
  refine WL.runk 3 [0, 1, 6, 7, 10, 13, 91] [(0, .slice a0' aList_0.length c0'), (1, .slice a1' aSome_1.length c1'), (6, .slice a45 x43.1.length c46), (7, .int .i64 x43.2), (10, .slice a81 x219.2.length c82), (13, .int .i64 x219.1), (91, .bool (x231 != x219.1))] (by kernel_rfl) ?_
  refine WL.nil ?_
  refine WQ.then_normal (hK244 _ _ _ ?_)
  refine WP.cond (x231 != x219.1) rfl rfl (fun hc245 => ?_) (fun hc245 => ?_)
  · have hm := iteT hm hc245
    refine WP.seq (fun K246 hK246 => ?_)
    refine WP.region ?_
    refine WL.runk 1 [4] [(4, .bool false)] (by kernel_rfl) ?_
    refine WL.nil ?_
    refine WQ.then_normal (hK246 _ _ _ ?_)
    refine WP.ret ?_
    refine WQ.then_ret ?_
    obtain rfl := Option.some.inj hm
    exact WQ.ret1 _ rfl rfl ⟨rfl, hb236⟩
  have hm := iteF hm hc245
  refine WP.skip ?_
  refine WQ.then_normal (hK243 _ _ _ ?_)
  refine WP.seq (fun K247 hK247 => ?_)
  refine WP.region ?_
  refine WL.runk 1 [1, 6, 7, 10, 13, 93] [(1, .slice a1' aSome_1.length c1'), (6, .slice a45 x43.1.length c46), (7, .int .i64 x43.2), (10, .slice a81 x219.2.length c82), (13, .int .i64 x219.1), (93, .slice a0' aList_0.length c0')] (by kernel_rfl) ?_
  obtain ⟨x248, hx249, hm⟩ := bindE hm
  refine WL.call 30 #[.slice a0' aList_0.length c0'] rfl rfl (by kernel_rfl) (c_30 n aList_0 a0' c0' w233 hx249 (Rd.below h0 hb236) hle0) ?_
  rintro _ w253 ⟨a250, c251, rfl, hE254, hR255⟩
  refine ⟨_, rfl, ?_⟩
  have hb256 : Ext w w253 := Ext.trans hb236 hE254
  have hL257 : w.heap.size ≤ w253.heap.size := Nat.le_trans hL237 hE254.size
  have hS258 : SH w253 w.heap.size [aNest fRepair 73 2 a250 c251 x248, aOwn fInt 2 a81 c82 x219.2, aOwn fInt 2 a45 c46 x43.1] := SH.add hS238 hE254 hL237 hR255
  refine WL.runk 1 [6, 7, 10, 13, 94, 95] [(6, .slice a45 x43.1.length c46), (7, .int .i64 x43.2), (10, .slice a81 x219.2.length c82), (13, .int .i64 x219.1), (94, .slice a250 x248.length c251), (95, .slice a1' aSome_1.length c1')] (by kernel_rfl) ?_
  obtain ⟨x259, hx260, hm⟩ := bindE hm
  refine WL.call 36 #[.slice a1' aSome_1.length c1'] rfl rfl (by kernel_rfl) (c_36 n aSome_1 a1' c1' w253 hx260 (Rd.below h1 hb256) hle1) ?_
  rintro _ w264 ⟨a261, c262, rfl, hE265, hR266⟩
  refine ⟨_, rfl, ?_⟩
  have hb267 : Ext w w264 := Ext.trans hb256 hE265
  have hL268 : w.heap.size ≤ w264.heap.size := Nat.le_trans hL257 hE265.size
  have hS269 : SH w264 w.heap.size [aOwn fInt 2 a261 c262 x259, aNest fRepair 73 2 a250 c251 x248, aOwn fInt 2 a81 c82 x219.2, aOwn fInt 2 a45 c46 x43.1] := SH.add hS258 hE265 hL257 hR266
  obtain ⟨x270, hx271, hm⟩ := bindE hm
  refine WL.call 46 #[.slice a250 x248.length c251, .slice a261 x259.length c262] rfl rfl (by kernel_rfl) (c_46 n x248 a250 c251 x259 a261 c262 w264 hx271 (SH.rdN (SH.front 1 hS269)) (SH.leN (SH.front 1 hS269)).1 (SH.rd (SH.front 0 hS269)) (SH.le (SH.front 0 hS269)).1) ?_
  rintro _ w275 ⟨a272, c273, rfl, hE276, hR277⟩
  refine ⟨_, rfl, ?_⟩
  have hb278 : Ext w w275 := Ext.trans hb267 hE276
  have hL279 : w.heap.size ≤ w275.heap.size := Nat.le_trans hL268 hE276.size
  have hS280 : SH w275 w.heap.size [aOwn fInt 2 a272 c273 x270.1, aOwn fInt 2 a261 c262 x259, aNest fRepair 73 2 a250 c251 x248, aOwn fInt 2 a81 c82 x219.2, aOwn fInt 2 a45 c46 x43.1] := SH.add hS269 hE276 hL268 hR277
  refine WL.runk 5 [6, 7, 10, 13, 15, 16] [(6, .slice a45 x43.1.length c46), (7, .int .i64 x43.2), (10, .slice a81 x219.2.length c82), (13, .int .i64 x219.1), (15, .slice a272 x270.1.length c273), (16, .int .i64 x270.2)] (by kernel_rfl) ?_
  refine WL.nil ?_
  refine WQ.then_normal (hK247 _ _ _ ?_)
  refine WP.seq (fun K281 hK281 => ?_)
  refine WP.seq (fun K282 hK282 => ?_)
  obtain ⟨x292, hx293, hm⟩ := bindE hm
  refine WP.cut (fun env' w' => env' = [(10, .slice a81 x219.2.length c82), (13, .int .i64 x219.1), (108, .bool x292)] ∧ Ext w w' ∧ w.heap.size ≤ w'.heap.size ∧ SH w' w.heap.size [aOwn fInt 2 a81 c82 x219.2]) ?_ ?_
  · have hm := hx293; clear hx293
    refine WP.region ?_
    refine WL.runk 2 [7, 10, 13, 16, 100, 101] [(7, .int .i64 x43.2), (10, .slice a81 x219.2.length c82), (13, .int .i64 x219.1), (16, .int .i64 x270.2), (100, .slice a272 x270.1.length c273), (101, .slice a45 x43.1.length c46)] (by kernel_rfl) ?_
    obtain ⟨x294, hx295, hm⟩ := bindE hm
    refine WL.call 38 #[.slice a272 x270.1.length c273, .slice a45 x43.1.length c46] rfl rfl (by kernel_rfl) (c_38 n x270.1 a272 c273 x43.1 a45 c46 w275 hx295 (SH.rd (SH.front 0 hS280)) (SH.le (SH.front 0 hS280)).1 (SH.rd (SH.front 4 hS280)) (SH.le (SH.front 4 hS280)).1) ?_
    rintro _ w296 ⟨rfl, hE297⟩
    refine ⟨_, rfl, ?_⟩
    have hb299 : Ext w w296 := Ext.trans hb278 hE297
    have hL300 : w.heap.size ≤ w296.heap.size := Nat.le_trans hL279 hE297.size
    have hS301 : SH w296 w.heap.size [aOwn fInt 2 a272 c273 x270.1, aOwn fInt 2 a261 c262 x259, aNest fRepair 73 2 a250 c251 x248, aOwn fInt 2 a81 c82 x219.2, aOwn fInt 2 a45 c46 x43.1] := SH.ext hS280 hE297
    refine WL.runk 2 [7, 10, 13, 16, 104] [(7, .int .i64 x43.2), (10, .slice a81 x219.2.length c82), (13, .int .i64 x219.1), (16, .int .i64 x270.2), (104, .bool (!x294))] (by kernel_rfl) ?_
    refine WL.case (!x294) [104] ⟨rfl, trivial⟩ (fun hc302 => ?_) (fun hc302 => ?_)
    · have hm := iteT hm hc302
      refine WL.runk 4 [10, 13, 108] [(10, .slice a81 x219.2.length c82), (13, .int .i64 x219.1), (108, .bool true)] (by kernel_rfl) ?_
      refine WL.nil ?_
      obtain rfl := Option.some.inj hm
      exact WQ.post' ⟨rfl, hb299, hL300, (SH.take 1 (SH.front 3 hS301))⟩ ⟨rfl, rfl, rfl, trivial⟩
    have hm := iteF hm hc302
    refine WL.runk 4 [10, 13, 108] [(10, .slice a81 x219.2.length c82), (13, .int .i64 x219.1), (108, .bool (x270.2 != x43.2))] (by kernel_rfl) ?_
    refine WL.nil ?_
    obtain rfl := Option.some.inj hm
    exact WQ.post' ⟨rfl, hb299, hL300, (SH.take 1 (SH.front 3 hS301))⟩ ⟨rfl, rfl, rfl, trivial⟩
  clear hx293
  rintro _ w303 ⟨rfl, hb304, hL305, hS306⟩
  refine WQ.then_normal (hK282 _ _ _ ?_)
  refine WP.cond x292 rfl rfl (fun hc307 => ?_) (fun hc307 => ?_)
  · have hm := iteT hm hc307
    refine WP.seq (fun K308 hK308 => ?_)
    refine WP.region ?_
    refine WL.runk 1 [4] [(4, .bool false)] (by kernel_rfl) ?_
    refine WL.nil ?_
    refine WQ.then_normal (hK308 _ _ _ ?_)
    refine WP.ret ?_
    refine WQ.then_ret ?_
    obtain rfl := Option.some.inj hm
    exact WQ.ret1 _ rfl rfl ⟨rfl, hb304⟩
  have hm := iteF hm hc307
  refine WP.skip ?_
  refine WQ.then_normal (hK281 _ _ _ ?_)
  refine WP.seq (fun K309 hK309 => ?_)
  refine WP.region ?_
  refine WL.runk 1 [10, 13, 14] [(10, .slice a81 x219.2.length c82), (13, .int .i64 x219.1), (14, .int .i64 1)] (by kernel_rfl) ?_
  refine WL.nil ?_
  refine WQ.then_normal (hK309 _ _ _ ?_)
  refine WP.seq (fun K310 hK310 => ?_)
  refine WP.region ?_
  refine WL.runk 2 [13, 109, 110] [(13, .int .i64 x219.1), (109, .slice a81 x219.2.length c82), (110, .int .i64 1)] (by kernel_rfl) ?_
  obtain ⟨x311, hx312, hm⟩ := bindE hm
  refine WL.call 44 #[.slice a81 x219.2.length c82, .int .i64 1] rfl rfl (by kernel_rfl) (c_44 n x219.2 a81 c82 1 w303 hx312 (SH.rd (SH.front 0 hS306)) (SH.le (SH.front 0 hS306)).1) ?_
  rintro _ w313 ⟨rfl, hE314⟩
  refine ⟨_, rfl, ?_⟩
  have hb316 : Ext w w313 := Ext.trans hb304 hE314
  have hL317 : w.heap.size ≤ w313.heap.size := Nat.le_trans hL305 hE314.size
  have hS318 : SH w313 w.heap.size [aOwn fInt 2 a81 c82 x219.2] := SH.ext hS306 hE314
  refine WL.runk 1 [13, 14] [(13, .int .i64 x219.1), (14, .int .i64 x311)] (by kernel_rfl) ?_
  refine WL.nil ?_
  refine WQ.then_normal (hK310 _ _ _ ?_)
  refine WP.seq (fun K319 hK319 => ?_)
  refine WP.seq (fun K320 hK320 => ?_)
  refine WP.region ?_
  refine WL.runk 2 [13, 14, 113] [(13, .int .i64 x219.1), (14, .int .i64 x311), (113, .bool (decide (x311 < 0)))] (by kernel_rfl) ?_
  refine WL.nil ?_
  refine WQ.then_normal (hK320 _ _ _ ?_)
  refine WP.cond (decide (x311 < 0)) rfl rfl (fun hc321 => ?_) (fun hc321 => ?_)
  · have hm := iteT hm hc321
    refine WP.seq (fun K322 hK322 => ?_)
    refine WP.region ?_
    refine WL.runk 1 [4] [(4, .bool false)] (by kernel_rfl) ?_
    refine WL.nil ?_
    refine WQ.then_normal (hK322 _ _ _ ?_)
    refine WP.ret ?_
    refine WQ.then_ret ?_
    obtain rfl := Option.some.inj hm
    exact WQ.ret1 _ rfl rfl ⟨rfl, hb316⟩
  have hm := iteF hm hc321
  refine WP.skip ?_
  refine WQ.then_normal (hK319 _ _ _ ?_)
  refine WP.seq (fun K323 hK323 => ?_)
  refine WP.seq (fun K324 hK324 => ?_)
  refine WP.region ?_
  refine WL.runk 3 [116] [(116, .bool (x311 != x219.1))] (by kernel_rfl) ?_
  refine WL.nil ?_
  refine WQ.then_normal (hK324 _ _ _ ?_)
  refine WP.cond (x311 != x219.1) rfl rfl (fun hc325 => ?_) (fun hc325 => ?_)
  · have hm := iteT hm hc325
    refine WP.seq (fun K326 hK326 => ?_)
    refine WP.region ?_
    refine WL.runk 1 [4] [(4, .bool false)] (by kernel_rfl) ?_
    refine WL.nil ?_
    refine WQ.then_normal (hK326 _ _ _ ?_)
    refine WP.ret ?_
    refine WQ.then_ret ?_
    obtain rfl := Option.some.inj hm
    exact WQ.ret1 _ rfl rfl ⟨rfl, hb316⟩
  have hm := iteF hm hc325
  refine WP.skip ?_
  refine WQ.then_normal (hK323 _ _ _ ?_)
  refine WP.seq (fun K327 hK327 => ?_)
  refine WP.region ?_
  refine WL.runk 1 [4] [(4, .bool true)] (by kernel_rfl) ?_
  refine WL.nil ?_
  refine WQ.then_normal (hK327 _ _ _ ?_)
  refine WP.ret ?_
  obtain rfl := Option.some.inj hm
  exact WQ.ret1 _ rfl rfl ⟨rfl, hb316⟩

end Go.Proofs.Ytkglfbcelaphhaa
