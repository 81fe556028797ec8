/- Each call does what its Lean function says. -/
import Derived.Test.YtkpdicajinionaaKAddGood1
set_option maxRecDepth 20000
set_option maxHeartbeats 40000000
namespace Go.Proofs.Ytkpdicajinionaa
open Go Go.Gv Go.RowKit

theorem c_10 (n : Nat) (aList_0 : List SGood) (a0' : Option Addr) (c0' : Nat) (aG_1 : SGood) (w : World) {r : Bool} (hm : m_laws_FnExactAddGood n aList_0 aG_1 = some r) (h0 : Rd fGood.ty w a0' aList_0) (hle0 : aList_0.length ≤ c0') :
    CallV Try.prog 10 #[.slice a0' aList_0.length c0', .agg #[.string (bs aG_1.Name), .int .i64 aG_1.OnHand, .int .i64 aG_1.Reserved, .int .i64 aG_1.Least]] w (fun v w' => v = .bool r ∧ Ext w w') := by
  unfold m_laws_FnExactAddGood at hm
  refine CallV.enter Try.func10 rfl (by kernel_rfl) Try.ntmps10 (env := [(0, .slice a0' aList_0.length c0'), (1, .agg #[.string (bs aG_1.Name), .int .i64 aG_1.OnHand, .int .i64 aG_1.Reserved, .int .i64 aG_1.Least])]) ⟨rfl, rfl, trivial⟩ ?_
  refine WP.seq (fun K1 hK1 => ?_)
  refine WP.region ?_
  refine WL.box 53 [.string (bs aG_1.Name), .int .i64 aG_1.OnHand, .int .i64 aG_1.Reserved, .int .i64 aG_1.Least] 3 (by kernel_rfl) rfl rfl rfl rfl ?_
  intro b2 w3 hE4 hR5
  have hb7 : Ext w w3 := Ext.trans (Ext.refl w) hE4
  have hL8 : w.heap.size ≤ w3.heap.size := Nat.le_trans (Nat.le_refl _) hE4.size
  have hS9 : SH w3 w.heap.size [aBox 53 b2 [.string (bs aG_1.Name), .int .i64 aG_1.OnHand, .int .i64 aG_1.Reserved, .int .i64 aG_1.Least]] := SH.add (SH.nil _ _) hE4 (Nat.le_refl _) hR5
  refine WL.runk 1 [0, 3] [(0, .slice a0' aList_0.length c0'), (3, .pointer (some ⟨b2, 0, none⟩))] (by kernel_rfl) ?_
  refine WL.nil ?_
  refine WQ.then_normal (hK1 _ _ _ ?_)
  refine WP.seq (fun K10 hK10 => ?_)
  refine WP.region ?_
  refine WL.runk 1 [0, 3, 5] [(0, .slice a0' aList_0.length c0'), (3, .pointer (some ⟨b2, 0, none⟩)), (5, .int .i64 1048576)] (by kernel_rfl) ?_
  refine WL.nil ?_
  refine WQ.then_normal (hK10 _ _ _ ?_)
  refine WP.seq (fun K11 hK11 => ?_)
  refine WP.region ?_
  refine WL.runk 2 [0, 3, 16, 17] [(0, .slice a0' aList_0.length c0'), (3, .pointer (some ⟨b2, 0, none⟩)), (16, .slice a0' aList_0.length c0'), (17, .int .i64 1048576)] (by kernel_rfl) ?_
  obtain ⟨x12, hx13, hm⟩ := bindE hm
  refine WL.call 13 #[.slice a0' aList_0.length c0', .int .i64 1048576] rfl rfl (by kernel_rfl) (c_13 n aList_0 a0' c0' 1048576 w3 hx13 (Rd.below h0 hb7) hle0) ?_
  rintro _ w14 ⟨rfl, hE15⟩
  refine ⟨_, rfl, ?_⟩
  have hb17 : Ext w w14 := Ext.trans hb7 hE15
  have hL18 : w.heap.size ≤ w14.heap.size := Nat.le_trans hL8 hE15.size
  have hS19 : SH w14 w.heap.size [aBox 53 b2 [.string (bs aG_1.Name), .int .i64 aG_1.OnHand, .int .i64 aG_1.Reserved, .int .i64 aG_1.Least]] := SH.ext hS9 hE15
  refine WL.runk 1 [0, 3, 5] [(0, .slice a0' aList_0.length c0'), (3, .pointer (some ⟨b2, 0, none⟩)), (5, .int .i64 x12)] (by kernel_rfl) ?_
  refine WL.nil ?_
  refine WQ.then_normal (hK11 _ _ _ ?_)
  refine WP.seq (fun K20 hK20 => ?_)
  refine WP.seq (fun K21 hK21 => ?_)
  refine WP.region ?_
  refine WL.runk 2 [0, 3, 5, 20] [(0, .slice a0' aList_0.length c0'), (3, .pointer (some ⟨b2, 0, none⟩)), (5, .int .i64 x12), (20, .bool (decide (x12 < 0)))] (by kernel_rfl) ?_
  refine WL.nil ?_
  refine WQ.then_normal (hK21 _ _ _ ?_)
  refine WP.cond (decide (x12 < 0)) rfl rfl (fun hc22 => ?_) (fun hc22 => ?_)
  · have hm := iteT hm hc22
    refine WP.seq (fun K23 hK23 => ?_)
    refine WP.region ?_
    refine WL.runk 1 [4] [(4, .bool true)] (by kernel_rfl) ?_
    refine WL.nil ?_
    refine WQ.then_normal (hK23 _ _ _ ?_)
    refine WP.ret ?_
    refine WQ.then_ret ?_
    obtain rfl := Option.some.inj hm
    exact WQ.ret1 _ rfl rfl ⟨rfl, hb17⟩
  have hm := iteF hm hc22
  refine WP.skip ?_
  refine WQ.then_normal (hK20 _ _ _ ?_)
  refine WP.seq (fun K24 hK24 => ?_)
  refine WP.region ?_
  refine WL.st (.agg #[.string (bs aG_1.Name), .int .i64 aG_1.OnHand, .int .i64 aG_1.Reserved, .int .i64 aG_1.Least]) (ST.loadAgg (vs := [.string (bs aG_1.Name), .int .i64 aG_1.OnHand, .int .i64 aG_1.Reserved, .int .i64 aG_1.Least]) (fun j v hv => SH.boxPart (us := [.string (bs aG_1.Name), .int .i64 aG_1.OnHand, .int .i64 aG_1.Reserved, .int .i64 aG_1.Least]) (SH.front 0 hS19) 0 rfl j v hv) rfl rfl rfl Try.underlying53 rfl (info53).1 (info53).2.1) rfl rfl rfl ?_
  refine WL.runk 1 [0, 3, 21, 22] [(0, .slice a0' aList_0.length c0'), (3, .pointer (some ⟨b2, 0, none⟩)), (21, .agg #[.string (bs aG_1.Name), .int .i64 aG_1.OnHand, .int .i64 aG_1.Reserved, .int .i64 aG_1.Least]), (22, .int .i64 x12)] (by kernel_rfl) ?_
  obtain ⟨x25, hx26, hm⟩ := bindE hm
  refine WL.call 39 #[.agg #[.string (bs aG_1.Name), .int .i64 aG_1.OnHand, .int .i64 aG_1.Reserved, .int .i64 aG_1.Least], .int .i64 x12] rfl rfl (by kernel_rfl) (c_39 n aG_1 x12 w14 hx26 ) ?_
  rintro _ w27 ⟨rfl, hE28⟩
  refine ⟨_, rfl, ?_⟩
  have hb30 : Ext w w27 := Ext.trans hb17 hE28
  have hL31 : w.heap.size ≤ w27.heap.size := Nat.le_trans hL18 hE28.size
  have hS32 : SH w27 w.heap.size [aBox 53 b2 [.string (bs aG_1.Name), .int .i64 aG_1.OnHand, .int .i64 aG_1.Reserved, .int .i64 aG_1.Least]] := SH.ext hS19 hE28
  refine WL.runk 1 [0, 3, 5] [(0, .slice a0' aList_0.length c0'), (3, .pointer (some ⟨b2, 0, none⟩)), (5, .int .i64 x25)] (by kernel_rfl) ?_
  refine WL.nil ?_
  refine WQ.then_normal (hK24 _ _ _ ?_)
  refine WP.seq (fun K33 hK33 => ?_)
  refine WP.seq (fun K34 hK34 => ?_)
  refine WP.region ?_
  refine WL.runk 2 [0, 3, 25] [(0, .slice a0' aList_0.length c0'), (3, .pointer (some ⟨b2, 0, none⟩)), (25, .bool (decide (x25 < 0)))] (by kernel_rfl) ?_
  refine WL.nil ?_
  refine WQ.then_normal (hK34 _ _ _ ?_)
  refine WP.cond (decide (x25 < 0)) rfl rfl (fun hc35 => ?_) (fun hc35 => ?_)
  · have hm := iteT hm hc35
    refine WP.seq (fun K36 hK36 => ?_)
    refine WP.region ?_
    refine WL.runk 1 [4] [(4, .bool true)] (by kernel_rfl) ?_
    refine WL.nil ?_
    refine WQ.then_normal (hK36 _ _ _ ?_)
    refine WP.ret ?_
    refine WQ.then_ret ?_
    obtain rfl := Option.some.inj hm
    exact WQ.ret1 _ rfl rfl ⟨rfl, hb30⟩
  have hm := iteF hm hc35
  refine WP.skip ?_
  refine WQ.then_normal (hK33 _ _ _ ?_)
  refine WP.seq (fun K37 hK37 => ?_)
  refine WP.open (n := 10) (by kernel_rfl) rfl (fun w38 hE39 => ?_)
  have hb40 : Ext w w38 := Ext.trans hb30 hE39
  have hL41 : w.heap.size ≤ w38.heap.size := Nat.le_trans hL31 hE39.size
  have hS42 : SH w38 w.heap.size [aBox 53 b2 [.string (bs aG_1.Name), .int .i64 aG_1.OnHand, .int .i64 aG_1.Reserved, .int .i64 aG_1.Least]] := SH.ext hS32 hE39
  refine WA.pre (i := 0) (D' := [0]) [(0, .slice a0' aList_0.length c0'), (3, .pointer (some ⟨b2, 0, none⟩)), (25, .bool (decide (x25 < 0))), (27, .slice a0' aList_0.length c0')] rfl (by kernel_rfl) rfl (fun _ => by kernel_rfl) rfl ?_
  obtain ⟨x48, hx49, hm⟩ := bindE hm
  refine WA.float (Φ := fun v w' => ∃ (a50 : Option Addr) (c51 : Nat), v = .slice a50 x48.length c51 ∧ SH w' w38.heap.size [aOwn fGood 56 a50 c51 x48]) (f := 1) (f' := 7) (D1 := [0, 2]) (D' := [0, 2, 1]) [2] [] (fun _ _ _ ⟨a50, c51, e, h⟩ hE => ⟨a50, c51, e, SH.ext h hE⟩) rfl rfl rfl rfl (by kernel_rfl) ?_
  refine QL.st (.agg #[.string (bs aG_1.Name), .int .i64 aG_1.OnHand, .int .i64 aG_1.Reserved, .int .i64 aG_1.Least]) (ST.loadAgg (vs := [.string (bs aG_1.Name), .int .i64 aG_1.OnHand, .int .i64 aG_1.Reserved, .int .i64 aG_1.Least]) (fun j v hv => SH.boxPart (us := [.string (bs aG_1.Name), .int .i64 aG_1.OnHand, .int .i64 aG_1.Reserved, .int .i64 aG_1.Least]) (SH.front 0 hS42) 0 rfl j v hv) rfl rfl rfl Try.underlying53 rfl (info53).1 (info53).2.1) rfl rfl rfl ?_
  refine QL.subk [0, 3, 27, 29] [(0, .slice a0' aList_0.length c0'), (3, .pointer (some ⟨b2, 0, none⟩)), (27, .slice a0' aList_0.length c0'), (29, .agg #[.string (bs aG_1.Name), .int .i64 aG_1.OnHand, .int .i64 aG_1.Reserved, .int .i64 aG_1.Least])] (by kernel_rfl) ?_
  refine QL.nil ?_
  intro w60 hE61
  refine QF.make (f' := 7) (hs := [2]) (D' := [0, 2, 1]) (ex := []) (pre := [1, 0]) (D'' := [0, 2, 1]) 28 (fun w43 hE44 => ?_) (fun v62 => ⟨[(0, .slice a0' aList_0.length c0'), (3, .pointer (some ⟨b2, 0, none⟩)), (27, .slice a0' aList_0.length c0'), (29, .agg #[.string (bs aG_1.Name), .int .i64 aG_1.OnHand, .int .i64 aG_1.Reserved, .int .i64 aG_1.Least]), (28, v62)], runP_nil, fun w63 hE64 hR65 => ?_⟩) rfl rfl rfl rfl rfl (by kernel_rfl)
  · have hb45 : Ext w w43 := Ext.trans hb40 hE44
    have hL46 : w.heap.size ≤ w43.heap.size := Nat.le_trans hL41 hE44.size
    have hS47 : SH w43 w.heap.size [aBox 53 b2 [.string (bs aG_1.Name), .int .i64 aG_1.OnHand, .int .i64 aG_1.Reserved, .int .i64 aG_1.Least]] := SH.ext hS42 hE44
    refine WL.call 15 #[.slice a0' aList_0.length c0'] rfl rfl (by kernel_rfl) (c_15 n aList_0 a0' c0' w43 hx49 (Rd.below h0 hb45) hle0) ?_
    rintro _ w53 ⟨a50, c51, rfl, hE54, hR55⟩
    refine ⟨_, rfl, ?_⟩
    have hb56 : Ext w w53 := Ext.trans hb45 hE54
    have hL57 : w.heap.size ≤ w53.heap.size := Nat.le_trans hL46 hE54.size
    have hS58 : SH w53 w.heap.size [aOwn fGood 56 a50 c51 x48, aBox 53 b2 [.string (bs aG_1.Name), .int .i64 aG_1.OnHand, .int .i64 aG_1.Reserved, .int .i64 aG_1.Least]] := SH.add hS47 hE54 hL46 hR55
    have hx59 := hE54
    refine WL.nil ?_
    exact QΦ.intro (v := .slice a50 x48.length c51) rfl hx59 ⟨a50, c51, rfl, SH.low hR55 hE44.size⟩
  · obtain ⟨a50, c51, rfl, hR65⟩ := hR65
    have hb66 : Ext w w63 := Ext.trans hb40 hE64
    have hL67 : w.heap.size ≤ w63.heap.size := Nat.le_trans hL41 hE64.size
    have hS68 : SH w63 w.heap.size [aOwn fGood 56 a50 c51 x48, aBox 53 b2 [.string (bs aG_1.Name), .int .i64 aG_1.OnHand, .int .i64 aG_1.Reserved, .int .i64 aG_1.Least]] := SH.add hS42 hE64 hL41 hR65
    refine WA.one (i := 3) (D' := [0, 2, 1, 3]) rfl rfl (by kernel_rfl) ?_
    obtain ⟨x69, hx70, hm⟩ := bindE hm
    refine WL.call 41 #[.agg #[.string (bs aG_1.Name), .int .i64 aG_1.OnHand, .int .i64 aG_1.Reserved, .int .i64 aG_1.Least]] rfl rfl (by kernel_rfl) (c_41 n aG_1 w63 hx70 ) ?_
    rintro _ w71 ⟨rfl, hE72⟩
    refine ⟨_, rfl, ?_⟩
    have hb74 : Ext w w71 := Ext.trans hb66 hE72
    have hL75 : w.heap.size ≤ w71.heap.size := Nat.le_trans hL67 hE72.size
    have hS76 : SH w71 w.heap.size [aOwn fGood 56 a50 c51 x48, aBox 53 b2 [.string (bs aG_1.Name), .int .i64 aG_1.OnHand, .int .i64 aG_1.Reserved, .int .i64 aG_1.Least]] := SH.ext hS68 hE72
    refine WL.sub [(0, .slice a0' aList_0.length c0'), (3, .pointer (some ⟨b2, 0, none⟩)), (28, .slice a50 x48.length c51), (30, .agg #[.string (bs x69.Name), .int .i64 x69.OnHand, .int .i64 x69.Reserved, .int .i64 x69.Least])] ⟨rfl, rfl, rfl, rfl, trivial⟩ ?_
    refine WL.nil ?_
    refine WA.one (i := 4) (D' := [0, 2, 1, 3, 4]) rfl rfl (by kernel_rfl) ?_
    obtain ⟨x77, hx78, hm⟩ := bindE hm
    refine WL.call 40 #[.slice a50 x48.length c51, .agg #[.string (bs x69.Name), .int .i64 x69.OnHand, .int .i64 x69.Reserved, .int .i64 x69.Least]] rfl rfl (by kernel_rfl) (c_40 n x48 a50 c51 x69 w71 hx78 (SH.rd (SH.front 0 hS76)) (SH.le (SH.front 0 hS76)).1) ?_
    rintro _ w82 ⟨a79, c80, rfl, hE83, hR84⟩
    refine ⟨_, rfl, ?_⟩
    have hb85 : Ext w w82 := Ext.trans hb74 hE83
    have hL86 : w.heap.size ≤ w82.heap.size := Nat.le_trans hL75 hE83.size
    have hS87 : SH w82 w.heap.size [aOwn fGood 56 a79 c80 x77.1, aOwn fGood 56 a50 c51 x48, aBox 53 b2 [.string (bs aG_1.Name), .int .i64 aG_1.OnHand, .int .i64 aG_1.Reserved, .int .i64 aG_1.Least]] := SH.add hS76 hE83 hL75 hR84
    refine WL.sub [(0, .slice a0' aList_0.length c0'), (3, .pointer (some ⟨b2, 0, none⟩)), (31, .tuple #[.slice a79 x77.1.length c80, .int .i64 x77.2])] ⟨rfl, rfl, rfl, trivial⟩ ?_
    refine WL.nil ?_
    refine WA.one (i := 5) (D' := [0, 2, 1, 3, 4, 5]) rfl rfl (by kernel_rfl) ?_
    refine WL.runk 1 [0, 3, 6, 7, 26, 32, 33] [(0, .slice a0' aList_0.length c0'), (3, .pointer (some ⟨b2, 0, none⟩)), (26, .tuple #[.slice a79 x77.1.length c80, .int .i64 x77.2])] (by kernel_rfl) ?_
    refine WL.nil ?_
    refine WA.quiet (f' := 0) (D' := [0, 2, 1, 3, 4, 5, 6, 7, 8, 9]) [6, 7, 8, 9] rfl rfl (by kernel_rfl) ?_
    refine QL.step1v 32 (.slice a79 x77.1.length c80) rfl (fun _ => by kernel_rfl) ?_
    refine QL.step1v 33 (.int .i64 x77.2) rfl (fun _ => by kernel_rfl) ?_
    refine QL.step1v 6 (.slice a79 x77.1.length c80) rfl (fun _ => by kernel_rfl) ?_
    refine QL.step1v 7 (.int .i64 x77.2) rfl (fun _ => by kernel_rfl) ?_
    refine QL.subk [0, 3, 6, 7] [(0, .slice a0' aList_0.length c0'), (3, .pointer (some ⟨b2, 0, none⟩)), (6, .slice a79 x77.1.length c80), (7, .int .i64 x77.2)] (by kernel_rfl) ?_
    refine QL.nil ?_
    intro w88 hE89
    have hb90 : Ext w w88 := Ext.trans hb85 hE89
    have hL91 : w.heap.size ≤ w88.heap.size := Nat.le_trans hL86 hE89.size
    have hS92 : SH w88 w.heap.size [aOwn fGood 56 a79 c80 x77.1, aOwn fGood 56 a50 c51 x48, aBox 53 b2 [.string (bs aG_1.Name), .int .i64 aG_1.OnHand, .int .i64 aG_1.Reserved, .int .i64 aG_1.Least]] := SH.ext hS87 hE89
    refine WA.done (by kernel_rfl) ?_
    refine WQ.then_normal (hK37 _ _ _ ?_)
    refine WP.seq (fun K93 hK93 => ?_)
    refine WP.region ?_
    refine WL.runk 1 [0, 3, 6, 7, 34] [(0, .slice a0' aList_0.length c0'), (3, .pointer (some ⟨b2, 0, none⟩)), (6, .slice a79 x77.1.length c80), (7, .int .i64 x77.2), (34, .slice a0' aList_0.length c0')] (by kernel_rfl) ?_
    obtain ⟨x94, hx95, hm⟩ := bindE hm
    refine WL.call 15 #[.slice a0' aList_0.length c0'] rfl rfl (by kernel_rfl) (c_15 n aList_0 a0' c0' w88 hx95 (Rd.below h0 hb90) hle0) ?_
    rintro _ w99 ⟨a96, c97, rfl, hE100, hR101⟩
    refine ⟨_, rfl, ?_⟩
    have hb102 : Ext w w99 := Ext.trans hb90 hE100
    have hL103 : w.heap.size ≤ w99.heap.size := Nat.le_trans hL91 hE100.size
    have hS104 : SH w99 w.heap.size [aOwn fGood 56 a96 c97 x94, aOwn fGood 56 a79 c80 x77.1, aOwn fGood 56 a50 c51 x48, aBox 53 b2 [.string (bs aG_1.Name), .int .i64 aG_1.OnHand, .int .i64 aG_1.Reserved, .int .i64 aG_1.Least]] := SH.add hS92 hE100 hL91 hR101
    refine WL.runk 1 [0, 3, 6, 7, 8] [(0, .slice a0' aList_0.length c0'), (3, .pointer (some ⟨b2, 0, none⟩)), (6, .slice a79 x77.1.length c80), (7, .int .i64 x77.2), (8, .slice a96 x94.length c97)] (by kernel_rfl) ?_
    refine WL.nil ?_
    refine WQ.then_normal (hK93 _ _ _ ?_)
    refine WP.seq (fun K105 hK105 => ?_)
    refine WP.region ?_
    refine WL.runk 1 [0, 3, 6, 7, 8, 37] [(0, .slice a0' aList_0.length c0'), (3, .pointer (some ⟨b2, 0, none⟩)), (6, .slice a79 x77.1.length c80), (7, .int .i64 x77.2), (8, .slice a96 x94.length c97), (37, .slice a96 x94.length c97)] (by kernel_rfl) ?_
    refine WL.st (.agg #[.string (bs aG_1.Name), .int .i64 aG_1.OnHand, .int .i64 aG_1.Reserved, .int .i64 aG_1.Least]) (ST.loadAgg (vs := [.string (bs aG_1.Name), .int .i64 aG_1.OnHand, .int .i64 aG_1.Reserved, .int .i64 aG_1.Least]) (fun j v hv => SH.boxPart (us := [.string (bs aG_1.Name), .int .i64 aG_1.OnHand, .int .i64 aG_1.Reserved, .int .i64 aG_1.Least]) (SH.front 3 hS104) 0 rfl j v hv) rfl rfl rfl Try.underlying53 rfl (info53).1 (info53).2.1) rfl rfl rfl ?_
    obtain ⟨x106, hx107, hm⟩ := bindE hm
    refine WL.call 41 #[.agg #[.string (bs aG_1.Name), .int .i64 aG_1.OnHand, .int .i64 aG_1.Reserved, .int .i64 aG_1.Least]] rfl rfl (by kernel_rfl) (c_41 n aG_1 w99 hx107 ) ?_
    rintro _ w108 ⟨rfl, hE109⟩
    refine ⟨_, rfl, ?_⟩
    have hb111 : Ext w w108 := Ext.trans hb102 hE109
    have hL112 : w.heap.size ≤ w108.heap.size := Nat.le_trans hL103 hE109.size
    have hS113 : SH w108 w.heap.size [aOwn fGood 56 a96 c97 x94, aOwn fGood 56 a79 c80 x77.1, aOwn fGood 56 a50 c51 x48, aBox 53 b2 [.string (bs aG_1.Name), .int .i64 aG_1.OnHand, .int .i64 aG_1.Reserved, .int .i64 aG_1.Least]] := SH.ext hS104 hE109
    obtain ⟨x114, hx115, hm⟩ := bindE hm
    refine WL.call 42 #[.slice a96 x94.length c97, .agg #[.string (bs x106.Name), .int .i64 x106.OnHand, .int .i64 x106.Reserved, .int .i64 x106.Least]] rfl rfl (by kernel_rfl) (c_42 n x94 a96 c97 x106 w108 hx115 (SH.rd (SH.front 0 hS113)) (SH.le (SH.front 0 hS113)).1) ?_
    rintro _ w119 ⟨a116, c117, rfl, hE120, hR121⟩
    refine ⟨_, rfl, ?_⟩
    have hb122 : Ext w w119 := Ext.trans hb111 hE120
    have hL123 : w.heap.size ≤ w119.heap.size := Nat.le_trans hL112 hE120.size
    have hS124 : SH w119 w.heap.size [aOwn fGood 56 a116 c117 x114.1, aOwn fGood 56 a96 c97 x94, aOwn fGood 56 a79 c80 x77.1, aOwn fGood 56 a50 c51 x48, aBox 53 b2 [.string (bs aG_1.Name), .int .i64 aG_1.OnHand, .int .i64 aG_1.Reserved, .int .i64 aG_1.Least]] := SH.add hS113 hE120 hL112 hR121
    refine WL.runk 5 [0, 3, 6, 7, 8, 9, 10] [(0, .slice a0' aList_0.length c0'), (3, .pointer (some ⟨b2, 0, none⟩)), (6, .slice a79 x77.1.length c80), (7, .int .i64 x77.2), (8, .slice a96 x94.length c97), (9, .slice a116 x114.1.length c117), (10, .int .i64 x114.2)] (by kernel_rfl) ?_
    refine WL.nil ?_
    refine WQ.then_normal (hK105 _ _ _ ?_)
    refine WP.seq (fun K125 hK125 => ?_)
    refine WP.seq (fun K126 hK126 => ?_)
    obtain ⟨x136, hx137, hm⟩ := bindE hm
    refine WP.cut (fun env' w' => env' = [(0, .slice a0' aList_0.length c0'), (3, .pointer (some ⟨b2, 0, none⟩)), (6, .slice a79 x77.1.length c80), (7, .int .i64 x77.2), (8, .slice a96 x94.length c97), (9, .slice a116 x114.1.length c117), (10, .int .i64 x114.2), (51, .bool x136)] ∧ Ext w w' ∧ w.heap.size ≤ w'.heap.size ∧ SH w' w.heap.size [aOwn fGood 56 a116 c117 x114.1, aOwn fGood 56 a96 c97 x94, aOwn fGood 56 a79 c80 x77.1, aBox 53 b2 [.string (bs aG_1.Name), .int .i64 aG_1.OnHand, .int .i64 aG_1.Reserved, .int .i64 aG_1.Least]]) ?_ ?_
    · have hm := hx137; clear hx137
      refine WP.region ?_
      refine WL.runk 2 [0, 3, 6, 7, 8, 9, 10, 43, 44] [(0, .slice a0' aList_0.length c0'), (3, .pointer (some ⟨b2, 0, none⟩)), (6, .slice a79 x77.1.length c80), (7, .int .i64 x77.2), (8, .slice a96 x94.length c97), (9, .slice a116 x114.1.length c117), (10, .int .i64 x114.2), (43, .slice a116 x114.1.length c117), (44, .slice a79 x77.1.length c80)] (by kernel_rfl) ?_
      obtain ⟨x138, hx139, hm⟩ := bindE hm
      refine WL.call 17 #[.slice a116 x114.1.length c117, .slice a79 x77.1.length c80] rfl rfl (by kernel_rfl) (c_17 n x114.1 a116 c117 x77.1 a79 c80 w119 hx139 (SH.rd (SH.front 0 hS124)) (SH.le (SH.front 0 hS124)).1 (SH.rd (SH.front 2 hS124)) (SH.le (SH.front 2 hS124)).1) ?_
      rintro _ w140 ⟨rfl, hE141⟩
      refine ⟨_, rfl, ?_⟩
      have hb143 : Ext w w140 := Ext.trans hb122 hE141
      have hL144 : w.heap.size ≤ w140.heap.size := Nat.le_trans hL123 hE141.size
      have hS145 : SH w140 w.heap.size [aOwn fGood 56 a116 c117 x114.1, aOwn fGood 56 a96 c97 x94, aOwn fGood 56 a79 c80 x77.1, aOwn fGood 56 a50 c51 x48, aBox 53 b2 [.string (bs aG_1.Name), .int .i64 aG_1.OnHand, .int .i64 aG_1.Reserved, .int .i64 aG_1.Least]] := SH.ext hS124 hE141
      refine WL.runk 2 [0, 3, 6, 7, 8, 9, 10, 47] [(0, .slice a0' aList_0.length c0'), (3, .pointer (some ⟨b2, 0, none⟩)), (6, .slice a79 x77.1.length c80), (7, .int .i64 x77.2), (8, .slice a96 x94.length c97), (9, .slice a116 x114.1.length c117), (10, .int .i64 x114.2), (47, .bool (!x138))] (by kernel_rfl) ?_
      refine WL.case (!x138) [47] ⟨rfl, trivial⟩ (fun hc146 => ?_) (fun hc146 => ?_)
      · have hm := iteT hm hc146
        refine WL.runk 4 [0, 3, 6, 7, 8, 9, 10, 51] [(0, .slice a0' aList_0.length c0'), (3, .pointer (some ⟨b2, 0, none⟩)), (6, .slice a79 x77.1.length c80), (7, .int .i64 x77.2), (8, .slice a96 x94.length c97), (9, .slice a116 x114.1.length c117), (10, .int .i64 x114.2), (51, .bool true)] (by kernel_rfl) ?_
        refine WL.nil ?_
        obtain rfl := Option.some.inj hm
        exact WQ.post' ⟨rfl, hb143, hL144, (SH.take 4 (SH.front 3 (SH.front 3 (SH.front 3 (SH.front 4 hS145)))))⟩ ⟨rfl, rfl, rfl, rfl, rfl, rfl, rfl, rfl, trivial⟩
      have hm := iteF hm hc146
      refine WL.runk 4 [0, 3, 6, 7, 8, 9, 10, 51] [(0, .slice a0' aList_0.length c0'), (3, .pointer (some ⟨b2, 0, none⟩)), (6, .slice a79 x77.1.length c80), (7, .int .i64 x77.2), (8, .slice a96 x94.length c97), (9, .slice a116 x114.1.length c117), (10, .int .i64 x114.2), (51, .bool (x114.2 != x77.2))] (by kernel_rfl) ?_
      refine WL.nil ?_
      obtain rfl := Option.some.inj hm
      exact WQ.post' ⟨rfl, hb143, hL144, (SH.take 4 (SH.front 3 (SH.front 3 (SH.front 3 (SH.front 4 hS145)))))⟩ ⟨rfl, rfl, rfl, rfl, rfl, rfl, rfl, rfl, trivial⟩
    clear hx137
    rintro _ w147 ⟨rfl, hb148, hL149, hS150⟩
    refine WQ.then_normal (hK126 _ _ _ ?_)
    refine WP.cond x136 rfl rfl (fun hc151 => ?_) (fun hc151 => ?_)
    · have hm := iteT hm hc151
      refine WP.seq (fun K152 hK152 => ?_)
      refine WP.region ?_
      refine WL.runk 1 [4] [(4, .bool false)] (by kernel_rfl) ?_
      refine WL.nil ?_
      refine WQ.then_normal (hK152 _ _ _ ?_)
      refine WP.ret ?_
      refine WQ.then_ret ?_
      obtain rfl := Option.some.inj hm
      exact WQ.ret1 _ rfl rfl ⟨rfl, hb148⟩
    have hm := iteF hm hc151
    refine WP.skip ?_
    refine WQ.then_normal (hK125 _ _ _ ?_)
    refine WP.seq (fun K153 hK153 => ?_)
    refine WP.seq (fun K154 hK154 => ?_)
    refine WP.region ?_
    refine WL.runk 2 [0, 3, 6, 7, 8, 9, 10, 52, 53] [(0, .slice a0' aList_0.length c0'), (3, .pointer (some ⟨b2, 0, none⟩)), (6, .slice a79 x77.1.length c80), (7, .int .i64 x77.2), (8, .slice a96 x94.length c97), (9, .slice a116 x114.1.length c117), (10, .int .i64 x114.2), (52, .slice a96 x94.length c97), (53, .slice a0' aList_0.length c0')] (by kernel_rfl) ?_
    obtain ⟨x155, hx156, hm⟩ := bindE hm
    refine WL.call 15 #[.slice a0' aList_0.length c0'] rfl rfl (by kernel_rfl) (c_15 n aList_0 a0' c0' w147 hx156 (Rd.below h0 hb148) hle0) ?_
    rintro _ w160 ⟨a157, c158, rfl, hE161, hR162⟩
    refine ⟨_, rfl, ?_⟩
    have hb163 : Ext w w160 := Ext.trans hb148 hE161
    have hL164 : w.heap.size ≤ w160.heap.size := Nat.le_trans hL149 hE161.size
    have hS165 : SH w160 w.heap.size [aOwn fGood 56 a157 c158 x155, aOwn fGood 56 a116 c117 x114.1, aOwn fGood 56 a96 c97 x94, aOwn fGood 56 a79 c80 x77.1, aBox 53 b2 [.string (bs aG_1.Name), .int .i64 aG_1.OnHand, .int .i64 aG_1.Reserved, .int .i64 aG_1.Least]] := SH.add hS150 hE161 hL149 hR162
    obtain ⟨x166, hx167, hm⟩ := bindE hm
    refine WL.call 17 #[.slice a96 x94.length c97, .slice a157 x155.length c158] rfl rfl (by kernel_rfl) (c_17 n x94 a96 c97 x155 a157 c158 w160 hx167 (SH.rd (SH.front 2 hS165)) (SH.le (SH.front 2 hS165)).1 (SH.rd (SH.front 0 hS165)) (SH.le (SH.front 0 hS165)).1) ?_
    rintro _ w168 ⟨rfl, hE169⟩
    refine ⟨_, rfl, ?_⟩
    have hb171 : Ext w w168 := Ext.trans hb163 hE169
    have hL172 : w.heap.size ≤ w168.heap.size := Nat.le_trans hL164 hE169.size
    have hS173 : SH w168 w.heap.size [aOwn fGood 56 a157 c158 x155, aOwn fGood 56 a116 c117 x114.1, aOwn fGood 56 a96 c97 x94, aOwn fGood 56 a79 c80 x77.1, aBox 53 b2 [.string (bs aG_1.Name), .int .i64 aG_1.OnHand, .int .i64 aG_1.Reserved, .int .i64 aG_1.Least]] := SH.ext hS165 hE169
    refine WL.runk 1 [0, 3, 6, 7, 8, 9, 10, 56] [(0, .slice a0' aList_0.length c0'), (3, .pointer (some ⟨b2, 0, none⟩)), (6, .slice a79 x77.1.length c80), (7, .int .i64 x77.2), (8, .slice a96 x94.length c97), (9, .slice a116 x114.1.length c117), (10, .int .i64 x114.2), (56, .bool (!x166))] (by kernel_rfl) ?_
    refine WL.nil ?_
    refine WQ.then_normal (hK154 _ _ _ ?_)
    refine WP.cond (!x166) rfl rfl (fun hc174 => ?_) (fun hc174 => ?_)
    · have hm := iteT hm hc174
      refine WP.seq (fun K175 hK175 => ?_)
      refine WP.region ?_
      refine WL.runk 1 [4] [(4, .bool false)] (by kernel_rfl) ?_
      refine WL.nil ?_
      refine WQ.then_normal (hK175 _ _ _ ?_)
      refine WP.ret ?_
      refine WQ.then_ret ?_
      obtain rfl := Option.some.inj hm
      exact WQ.ret1 _ rfl rfl ⟨rfl, hb171⟩
    have hm := iteF hm hc174
    refine WP.skip ?_
    refine WQ.then_normal (hK153 _ _ _ ?_)
    refine WP.seq (fun K176 hK176 => ?_)
    refine WP.region ?_
    refine WL.runk 1 [0, 3, 6, 7, 8, 9, 10, 11] [(0, .slice a0' aList_0.length c0'), (3, .pointer (some ⟨b2, 0, none⟩)), (6, .slice a79 x77.1.length c80), (7, .int .i64 x77.2), (8, .slice a96 x94.length c97), (9, .slice a116 x114.1.length c117), (10, .int .i64 x114.2), (11, .int .i64 1)] (by kernel_rfl) ?_
    refine WL.nil ?_
    refine WQ.then_normal (hK176 _ _ _ ?_)
    refine WP.seq (fun K177 hK177 => ?_)
    refine WP.region ?_
    refine WL.runk 2 [0, 3, 6, 7, 9, 10, 57, 58] [(0, .slice a0' aList_0.length c0'), (3, .pointer (some ⟨b2, 0, none⟩)), (6, .slice a79 x77.1.length c80), (7, .int .i64 x77.2), (9, .slice a116 x114.1.length c117), (10, .int .i64 x114.2), (57, .slice a96 x94.length c97), (58, .int .i64 1)] (by kernel_rfl) ?_
    obtain ⟨x178, hx179, hm⟩ := bindE hm
    refine WL.call 23 #[.slice a96 x94.length c97, .int .i64 1] rfl rfl (by kernel_rfl) (c_23 n x94 a96 c97 1 w168 w w.heap.size [aOwn fGood 56 a157 c158 x155, aOwn fGood 56 a116 c117 x114.1, aOwn fGood 56 a79 c80 x77.1, aBox 53 b2 [.string (bs aG_1.Name), .int .i64 aG_1.OnHand, .int .i64 aG_1.Reserved, .int .i64 aG_1.Least]] hx179 hb171 (Nat.le_refl _) hL172  (SH.front 4 (SH.front 3 (SH.front 3 (SH.front 4 (SH.front 4 hS173)))))) ?_
    rintro _ w180 ⟨rfl, hB184, hS183, hlen185⟩
    refine ⟨_, rfl, ?_⟩
    have hb186 : Ext w w180 := Below.trans hb171 hB184
    have hL187 : w.heap.size ≤ w180.heap.size := Nat.le_trans hL172 hB184.size
    refine WL.sub [(0, .slice a0' aList_0.length c0'), (3, .pointer (some ⟨b2, 0, none⟩)), (6, .slice a79 x77.1.length c80), (7, .int .i64 x77.2), (9, .slice a116 x114.1.length c117), (10, .int .i64 x114.2), (57, .slice a96 x178.2.length c97), (58, .int .i64 1), (59, .int .i64 x178.1)] ⟨rfl, rfl, rfl, rfl, rfl, rfl, by rw [hlen185]; rfl, rfl, rfl, trivial⟩ ?_
    refine WL.runk 1 [0, 3, 6, 7, 9, 10, 11] [(0, .slice a0' aList_0.length c0'), (3, .pointer (some ⟨b2, 0, none⟩)), (6, .slice a79 x77.1.length c80), (7, .int .i64 x77.2), (9, .slice a116 x114.1.length c117), (10, .int .i64 x114.2), (11, .int .i64 x178.1)] (by kernel_rfl) ?_
    refine WL.nil ?_
    refine WQ.then_normal (hK177 _ _ _ ?_)
    refine WP.seq (fun K188 hK188 => ?_)
    refine WP.seq (fun K189 hK189 => ?_)
    obtain ⟨x200, hx201, hm⟩ := bindE hm
    refine WP.cut (fun env' w' => env' = [(0, .slice a0' aList_0.length c0'), (3, .pointer (some ⟨b2, 0, none⟩)), (6, .slice a79 x77.1.length c80), (7, .int .i64 x77.2), (9, .slice a116 x114.1.length c117), (72, .bool x200)] ∧ Ext w w' ∧ w.heap.size ≤ w'.heap.size ∧ SH w' w.heap.size [aOwn fGood 56 a116 c117 x114.1, aOwn fGood 56 a79 c80 x77.1, aBox 53 b2 [.string (bs aG_1.Name), .int .i64 aG_1.OnHand, .int .i64 aG_1.Reserved, .int .i64 aG_1.Least]]) ?_ ?_
    · have hm := hx201; clear hx201
      refine WP.region ?_
      refine WL.runk 3 [0, 3, 6, 7, 9, 10, 62] [(0, .slice a0' aList_0.length c0'), (3, .pointer (some ⟨b2, 0, none⟩)), (6, .slice a79 x77.1.length c80), (7, .int .i64 x77.2), (9, .slice a116 x114.1.length c117), (10, .int .i64 x114.2), (62, .bool (decide (x178.1 < 0)))] (by kernel_rfl) ?_
      refine WL.case (decide (x178.1 < 0)) [62] ⟨rfl, trivial⟩ (fun hc202 => ?_) (fun hc202 => ?_)
      · have hm := iteT hm hc202
        refine WL.runk 10 [0, 3, 6, 7, 9, 72] [(0, .slice a0' aList_0.length c0'), (3, .pointer (some ⟨b2, 0, none⟩)), (6, .slice a79 x77.1.length c80), (7, .int .i64 x77.2), (9, .slice a116 x114.1.length c117), (72, .bool true)] (by kernel_rfl) ?_
        refine WL.nil ?_
        obtain rfl := Option.some.inj hm
        exact WQ.post' ⟨rfl, hb186, hL187, (SH.take 3 (SH.front 4 (SH.front 4 (SH.front 4 hS183))))⟩ ⟨rfl, rfl, rfl, rfl, rfl, rfl, trivial⟩
      have hm := iteF hm hc202
      refine WL.runk 2 [0, 3, 6, 7, 9, 10, 62, 63, 64] [(0, .slice a0' aList_0.length c0'), (3, .pointer (some ⟨b2, 0, none⟩)), (6, .slice a79 x77.1.length c80), (7, .int .i64 x77.2), (9, .slice a116 x114.1.length c117), (10, .int .i64 x114.2), (62, .bool false), (63, .slice a116 x114.1.length c117), (64, .slice a79 x77.1.length c80)] (by kernel_rfl) ?_
      obtain ⟨x203, hx204, hm⟩ := bindE hm
      refine WL.call 17 #[.slice a116 x114.1.length c117, .slice a79 x77.1.length c80] rfl rfl (by kernel_rfl) (c_17 n x114.1 a116 c117 x77.1 a79 c80 w180 hx204 (SH.rd (SH.front 2 hS183)) (SH.le (SH.front 2 hS183)).1 (SH.rd (SH.front 3 hS183)) (SH.le (SH.front 3 hS183)).1) ?_
      rintro _ w205 ⟨rfl, hE206⟩
      refine ⟨_, rfl, ?_⟩
      have hb208 : Ext w w205 := Ext.trans hb186 hE206
      have hL209 : w.heap.size ≤ w205.heap.size := Nat.le_trans hL187 hE206.size
      have hS210 : SH w205 w.heap.size [aOwn fGood 56 a96 c97 x178.2, aOwn fGood 56 a157 c158 x155, aOwn fGood 56 a116 c117 x114.1, aOwn fGood 56 a79 c80 x77.1, aBox 53 b2 [.string (bs aG_1.Name), .int .i64 aG_1.OnHand, .int .i64 aG_1.Reserved, .int .i64 aG_1.Least]] := SH.ext hS183 hE206
      refine WL.runk 3 [0, 3, 6, 7, 9, 10, 68] [(0, .slice a0' aList_0.length c0'), (3, .pointer (some ⟨b2, 0, none⟩)), (6, .slice a79 x77.1.length c80), (7, .int .i64 x77.2), (9, .slice a116 x114.1.length c117), (10, .int .i64 x114.2), (68, .bool (!x203))] (by kernel_rfl) ?_
      refine WL.case (!x203) [68] ⟨rfl, trivial⟩ (fun hc211 => ?_) (fun hc211 => ?_)
      · have hm := iteT hm hc211
        refine WL.runk 4 [0, 3, 6, 7, 9, 72] [(0, .slice a0' aList_0.length c0'), (3, .pointer (some ⟨b2, 0, none⟩)), (6, .slice a79 x77.1.length c80), (7, .int .i64 x77.2), (9, .slice a116 x114.1.length c117), (72, .bool true)] (by kernel_rfl) ?_
        refine WL.nil ?_
        obtain rfl := Option.some.inj hm
        exact WQ.post' ⟨rfl, hb208, hL209, (SH.take 3 (SH.front 4 (SH.front 4 (SH.front 4 hS210))))⟩ ⟨rfl, rfl, rfl, rfl, rfl, rfl, trivial⟩
      have hm := iteF hm hc211
      refine WL.runk 4 [0, 3, 6, 7, 9, 72] [(0, .slice a0' aList_0.length c0'), (3, .pointer (some ⟨b2, 0, none⟩)), (6, .slice a79 x77.1.length c80), (7, .int .i64 x77.2), (9, .slice a116 x114.1.length c117), (72, .bool (x114.2 != x77.2))] (by kernel_rfl) ?_
      refine WL.nil ?_
      obtain rfl := Option.some.inj hm
      exact WQ.post' ⟨rfl, hb208, hL209, (SH.take 3 (SH.front 4 (SH.front 4 (SH.front 4 hS210))))⟩ ⟨rfl, rfl, rfl, rfl, rfl, rfl, trivial⟩
    clear hx201
    rintro _ w212 ⟨rfl, hb213, hL214, hS215⟩
    refine WQ.then_normal (hK189 _ _ _ ?_)
    refine WP.cond x200 rfl rfl (fun hc216 => ?_) (fun hc216 => ?_)
    · have hm := iteT hm hc216
      refine WP.seq (fun K217 hK217 => ?_)
      refine WP.region ?_
      refine WL.runk 1 [4] [(4, .bool false)] (by kernel_rfl) ?_
      refine WL.nil ?_
      refine WQ.then_normal (hK217 _ _ _ ?_)
      refine WP.ret ?_
      refine WQ.then_ret ?_
      obtain rfl := Option.some.inj hm
      exact WQ.ret1 _ rfl rfl ⟨rfl, hb213⟩
    have hm := iteF hm hc216
    refine WP.skip ?_
    refine WQ.then_normal (hK188 _ _ _ ?_)
    refine WP.seq (fun K218 hK218 => ?_)
    refine WP.region ?_
    refine WL.runk 1 [0, 3, 6, 7, 9, 12] [(0, .slice a0' aList_0.length c0'), (3, .pointer (some ⟨b2, 0, none⟩)), (6, .slice a79 x77.1.length c80), (7, .int .i64 x77.2), (9, .slice a116 x114.1.length c117), (12, .int .i64 1)] (by kernel_rfl) ?_
    refine WL.nil ?_
    refine WQ.then_normal (hK218 _ _ _ ?_)
    refine WP.seq (fun K219 hK219 => ?_)
    refine WP.region ?_
    refine WL.runk 2 [0, 3, 6, 7, 9, 73, 74] [(0, .slice a0' aList_0.length c0'), (3, .pointer (some ⟨b2, 0, none⟩)), (6, .slice a79 x77.1.length c80), (7, .int .i64 x77.2), (9, .slice a116 x114.1.length c117), (73, .slice a116 x114.1.length c117), (74, .int .i64 1)] (by kernel_rfl) ?_
    obtain ⟨x220, hx221, hm⟩ := bindE hm
    refine WL.call 23 #[.slice a116 x114.1.length c117, .int .i64 1] rfl rfl (by kernel_rfl) (c_23 n x114.1 a116 c117 1 w212 w w.heap.size [aOwn fGood 56 a79 c80 x77.1, aBox 53 b2 [.string (bs aG_1.Name), .int .i64 aG_1.OnHand, .int .i64 aG_1.Reserved, .int .i64 aG_1.Least]] hx221 hb213 (Nat.le_refl _) hL214  hS215) ?_
    rintro _ w222 ⟨rfl, hB226, hS225, hlen227⟩
    refine ⟨_, rfl, ?_⟩
    have hb228 : Ext w w222 := Below.trans hb213 hB226
    have hL229 : w.heap.size ≤ w222.heap.size := Nat.le_trans hL214 hB226.size
    refine WL.sub [(0, .slice a0' aList_0.length c0'), (3, .pointer (some ⟨b2, 0, none⟩)), (6, .slice a79 x77.1.length c80), (7, .int .i64 x77.2), (9, .slice a116 x220.2.length c117), (73, .slice a116 x220.2.length c117), (74, .int .i64 1), (75, .int .i64 x220.1)] ⟨rfl, rfl, rfl, rfl, by rw [hlen227]; rfl, by rw [hlen227]; rfl, rfl, rfl, trivial⟩ ?_
    refine WL.runk 1 [0, 3, 6, 7, 9, 12] [(0, .slice a0' aList_0.length c0'), (3, .pointer (some ⟨b2, 0, none⟩)), (6, .slice a79 x77.1.length c80), (7, .int .i64 x77.2), (9, .slice a116 x220.2.length c117), (12, .int .i64 x220.1)] (by kernel_rfl) ?_
    refine WL.nil ?_
    refine WQ.then_normal (hK219 _ _ _ ?_)
    refine WP.seq (fun K230 hK230 => ?_)
    refine WP.region ?_
    refine WL.runk 1 [0, 3, 6, 7, 9, 12, 13] [(0, .slice a0' aList_0.length c0'), (3, .pointer (some ⟨b2, 0, none⟩)), (6, .slice a79 x77.1.length c80), (7, .int .i64 x77.2), (9, .slice a116 x220.2.length c117), (12, .int .i64 x220.1), (13, .int .i64 1)] (by kernel_rfl) ?_
    refine WL.nil ?_
    refine WQ.then_normal (hK230 _ _ _ ?_)
    refine WP.seq (fun K231 hK231 => ?_)
    refine WP.region ?_
    refine WL.runk 2 [0, 3, 6, 7, 9, 12, 76, 77] [(0, .slice a0' aList_0.length c0'), (3, .pointer (some ⟨b2, 0, none⟩)), (6, .slice a79 x77.1.length c80), (7, .int .i64 x77.2), (9, .slice a116 x220.2.length c117), (12, .int .i64 x220.1), (76, .slice a116 x220.2.length c117), (77, .int .i64 1)] (by kernel_rfl) ?_
    obtain ⟨x232, hx233, hm⟩ := bindE hm
    refine WL.call 28 #[.slice a116 x220.2.length c117, .int .i64 1] rfl rfl (by kernel_rfl) (c_28 n x220.2 a116 c117 1 w222 hx233 (SH.rd (SH.front 0 hS225)) (SH.le (SH.front 0 hS225)).1) ?_
    rintro _ w234 ⟨rfl, hE235⟩
    refine ⟨_, rfl, ?_⟩
    have hb237 : Ext w w234 := Ext.trans hb228 hE235
    have hL238 : w.heap.size ≤ w234.heap.size := Nat.le_trans hL229 hE235.size
    have hS239 : SH w234 w.heap.size [aOwn fGood 56 a116 c117 x220.2, aOwn fGood 56 a79 c80 x77.1, aBox 53 b2 [.string (bs aG_1.Name), .int .i64 aG_1.OnHand, .int .i64 aG_1.Reserved, .int .i64 aG_1.Least]] := SH.ext hS225 hE235
    refine WL.runk 1 [0, 3, 6, 7, 9, 12, 13] [(0, .slice a0' aList_0.length c0'), (3, .pointer (some ⟨b2, 0, none⟩)), (6, .slice a79 x77.1.length c80), (7, .int .i64 x77.2), (9, .slice a116 x220.2.length c117), (12, .int .i64 x220.1), (13, .int .i64 x232)] (by kernel_rfl) ?_
    refine WL.nil ?_
    refine WQ.then_normal (hK231 _ _ _ ?_)
    refine WP.seq (fun K240 hK240 => ?_)
    refine WP.seq (fun K241 hK241 => ?_)
    refine WP.region ?_
    refine WL.runk 2 [0, 3, 6, 7, 9, 12, 13, 80] [(0, .slice a0' aList_0.length c0'), (3, .pointer (some ⟨b2, 0, none⟩)), (6, .slice a79 x77.1.length c80), (7, .int .i64 x77.2), (9, .slice a116 x220.2.length c117), (12, .int .i64 x220.1), (13, .int .i64 x232), (80, .bool (decide (x232 < 0)))] (by kernel_rfl) ?_
    refine WL.nil ?_
    refine WQ.then_normal (hK241 _ _ _ ?_)
    refine WP.cond (decide (x232 < 0)) rfl rfl (fun hc242 => ?_) (fun hc242 => ?_)
    · have hm := iteT hm hc242
      refine WP.seq (fun K243 hK243 => ?_)
      refine WP.region ?_
      refine WL.runk 1 [4] [(4, .bool false)] (by kernel_rfl) ?_
      refine WL.nil ?_
      refine WQ.then_normal (hK243 _ _ _ ?_)
      refine WP.ret ?_
      refine WQ.then_ret ?_
      obtain rfl := Option.some.inj hm
      exact WQ.ret1 _ rfl rfl ⟨rfl, hb237⟩
    have hm := iteF hm hc242
    refine WP.skip ?_
    refine WQ.then_normal (hK240 _ _ _ ?_)
    refine WP.seq (fun K244 hK244 => ?_)
    refine WP.seq (fun K245 hK245 => ?_)
    refine WP.region ?_
    refine WL.runk 3 [0, 3, 6, 7, 9, 12, 83] [(0, .slice a0' aList_0.length c0'), (3, .pointer (some ⟨b2, 0, none⟩)), (6, .slice a79 x77.1.length c80), (7, .int .i64 x77.2), (9, .slice a116 x220.2.length c117), (12, .int .i64 x220.1), (83, .bool (x232 != x220.1))] (by kernel_rfl) ?_
    refine WL.nil ?_
    refine WQ.then_normal (hK245 _ _ _ ?_)
    refine WP.cond (x232 != x220.1) rfl rfl (fun hc246 => ?_) (fun hc246 => ?_)
    · have hm := iteT hm hc246
      refine WP.seq (fun K247 hK247 => ?_)
      refine WP.region ?_
      refine WL.runk 1 [4] [(4, .bool false)] (by kernel_rfl) ?_
      refine WL.nil ?_
      refine WQ.then_normal (hK247 _ _ _ ?_)
      refine WP.ret ?_
      refine WQ.then_ret ?_
      obtain rfl := Option.some.inj hm
      exact WQ.ret1 _ rfl rfl ⟨rfl, hb237⟩
    have hm := iteF hm hc246
    refine WP.skip ?_
    refine WQ.then_normal (hK244 _ _ _ ?_)
    refine WP.seq (fun K248 hK248 => ?_)
    refine WP.open (n := 10) (by kernel_rfl) rfl (fun w249 hE250 => ?_)
    have hb251 : Ext w w249 := Ext.trans hb237 hE250
    have hL252 : w.heap.size ≤ w249.heap.size := Nat.le_trans hL238 hE250.size
    have hS253 : SH w249 w.heap.size [aOwn fGood 56 a116 c117 x220.2, aOwn fGood 56 a79 c80 x77.1, aBox 53 b2 [.string (bs aG_1.Name), .int .i64 aG_1.OnHand, .int .i64 aG_1.Reserved, .int .i64 aG_1.Least]] := SH.ext hS239 hE250
    refine WA.pre (i := 0) (D' := [0]) [(0, .slice a0' aList_0.length c0'), (3, .pointer (some ⟨b2, 0, none⟩)), (6, .slice a79 x77.1.length c80), (7, .int .i64 x77.2), (9, .slice a116 x220.2.length c117), (12, .int .i64 x220.1), (83, .bool (x232 != x220.1)), (85, .slice a0' aList_0.length c0')] rfl (by kernel_rfl) rfl (fun _ => by kernel_rfl) rfl ?_
    obtain ⟨x259, hx260, hm⟩ := bindE hm
    refine WA.float (Φ := fun v w' => ∃ (a261 : Option Addr) (c262 : Nat), v = .slice a261 x259.length c262 ∧ SH w' w249.heap.size [aOwn fGood 56 a261 c262 x259]) (f := 1) (f' := 7) (D1 := [0, 2]) (D' := [0, 2, 1]) [2] [] (fun _ _ _ ⟨a261, c262, e, h⟩ hE => ⟨a261, c262, e, SH.ext h hE⟩) rfl rfl rfl rfl (by kernel_rfl) ?_
    refine QL.st (.agg #[.string (bs aG_1.Name), .int .i64 aG_1.OnHand, .int .i64 aG_1.Reserved, .int .i64 aG_1.Least]) (ST.loadAgg (vs := [.string (bs aG_1.Name), .int .i64 aG_1.OnHand, .int .i64 aG_1.Reserved, .int .i64 aG_1.Least]) (fun j v hv => SH.boxPart (us := [.string (bs aG_1.Name), .int .i64 aG_1.OnHand, .int .i64 aG_1.Reserved, .int .i64 aG_1.Least]) (SH.front 2 hS253) 0 rfl j v hv) rfl rfl rfl Try.underlying53 rfl (info53).1 (info53).2.1) rfl rfl rfl ?_
    refine QL.subk [6, 7, 9, 12, 85, 87] [(6, .slice a79 x77.1.length c80), (7, .int .i64 x77.2), (9, .slice a116 x220.2.length c117), (12, .int .i64 x220.1), (85, .slice a0' aList_0.length c0'), (87, .agg #[.string (bs aG_1.Name), .int .i64 aG_1.OnHand, .int .i64 aG_1.Reserved, .int .i64 aG_1.Least])] (by kernel_rfl) ?_
    refine QL.nil ?_
    intro w271 hE272
    refine QF.make (f' := 7) (hs := [2]) (D' := [0, 2, 1]) (ex := []) (pre := [1, 0]) (D'' := [0, 2, 1]) 86 (fun w254 hE255 => ?_) (fun v273 => ⟨[(6, .slice a79 x77.1.length c80), (7, .int .i64 x77.2), (9, .slice a116 x220.2.length c117), (12, .int .i64 x220.1), (85, .slice a0' aList_0.length c0'), (87, .agg #[.string (bs aG_1.Name), .int .i64 aG_1.OnHand, .int .i64 aG_1.Reserved, .int .i64 aG_1.Least]), (86, v273)], runP_nil, fun w274 hE275 hR276 => ?_⟩) rfl rfl rfl rfl rfl (by kernel_rfl)
    · have hb256 : Ext w w254 := Ext.trans hb251 hE255
      have hL257 : w.heap.size ≤ w254.heap.size := Nat.le_trans hL252 hE255.size
      have hS258 : SH w254 w.heap.size [aOwn fGood 56 a116 c117 x220.2, aOwn fGood 56 a79 c80 x77.1, aBox 53 b2 [.string (bs aG_1.Name), .int .i64 aG_1.OnHand, .int .i64 aG_1.Reserved, .int .i64 aG_1.Least]] := SH.ext hS253 hE255
      refine WL.call 15 #[.slice a0' aList_0.length c0'] rfl rfl (by kernel_rfl) (c_15 n aList_0 a0' c0' w254 hx260 (Rd.below h0 hb256) hle0) ?_
      rintro _ w264 ⟨a261, c262, rfl, hE265, hR266⟩
      refine ⟨_, rfl, ?_⟩
      have hb267 : Ext w w264 := Ext.trans hb256 hE265
      have hL268 : w.heap.size ≤ w264.heap.size := Nat.le_trans hL257 hE265.size
      have hS269 : SH w264 w.heap.size [aOwn fGood 56 a261 c262 x259, aOwn fGood 56 a116 c117 x220.2, aOwn fGood 56 a79 c80 x77.1, aBox 53 b2 [.string (bs aG_1.Name), .int .i64 aG_1.OnHand, .int .i64 aG_1.Reserved, .int .i64 aG_1.Least]] := SH.add hS258 hE265 hL257 hR266
      have hx270 := hE265
      refine WL.nil ?_
      exact QΦ.intro (v := .slice a261 x259.length c262) rfl hx270 ⟨a261, c262, rfl, SH.low hR266 hE255.size⟩
    · obtain ⟨a261, c262, rfl, hR276⟩ := hR276
      have hb277 : Ext w w274 := Ext.trans hb251 hE275
      have hL278 : w.heap.size ≤ w274.heap.size := Nat.le_trans hL252 hE275.size
      have hS279 : SH w274 w.heap.size [aOwn fGood 56 a261 c262 x259, aOwn fGood 56 a116 c117 x220.2, aOwn fGood 56 a79 c80 x77.1, aBox 53 b2 [.string (bs aG_1.Name), .int .i64 aG_1.OnHand, .int .i64 aG_1.Reserved, .int .i64 aG_1.Least]] := SH.add hS253 hE275 hL252 hR276
      refine WA.one (i := 3) (D' := [0, 2, 1, 3]) rfl rfl (by kernel_rfl) ?_
      obtain ⟨x280, hx281, hm⟩ := bindE hm
      refine WL.call 41 #[.agg #[.string (bs aG_1.Name), .int .i64 aG_1.OnHand, .int .i64 aG_1.Reserved, .int .i64 aG_1.Least]] rfl rfl (by kernel_rfl) (c_41 n aG_1 w274 hx281 ) ?_
      rintro _ w282 ⟨rfl, hE283⟩
      refine ⟨_, rfl, ?_⟩
      have hb285 : Ext w w282 := Ext.trans hb277 hE283
      have hL286 : w.heap.size ≤ w282.heap.size := Nat.le_trans hL278 hE283.size
      have hS287 : SH w282 w.heap.size [aOwn fGood 56 a261 c262 x259, aOwn fGood 56 a116 c117 x220.2, aOwn fGood 56 a79 c80 x77.1, aBox 53 b2 [.string (bs aG_1.Name), .int .i64 aG_1.OnHand, .int .i64 aG_1.Reserved, .int .i64 aG_1.Least]] := SH.ext hS279 hE283
      refine WL.sub [(6, .slice a79 x77.1.length c80), (7, .int .i64 x77.2), (9, .slice a116 x220.2.length c117), (12, .int .i64 x220.1), (86, .slice a261 x259.length c262), (88, .agg #[.string (bs x280.Name), .int .i64 x280.OnHand, .int .i64 x280.Reserved, .int .i64 x280.Least])] ⟨rfl, rfl, rfl, rfl, rfl, rfl, trivial⟩ ?_
      refine WL.nil ?_
      refine WA.one (i := 4) (D' := [0, 2, 1, 3, 4]) rfl rfl (by kernel_rfl) ?_
      obtain ⟨x288, hx289, hm⟩ := bindE hm
      refine WL.call 42 #[.slice a261 x259.length c262, .agg #[.string (bs x280.Name), .int .i64 x280.OnHand, .int .i64 x280.Reserved, .int .i64 x280.Least]] rfl rfl (by kernel_rfl) (c_42 n x259 a261 c262 x280 w282 hx289 (SH.rd (SH.front 0 hS287)) (SH.le (SH.front 0 hS287)).1) ?_
      rintro _ w293 ⟨a290, c291, rfl, hE294, hR295⟩
      refine ⟨_, rfl, ?_⟩
      have hb296 : Ext w w293 := Ext.trans hb285 hE294
      have hL297 : w.heap.size ≤ w293.heap.size := Nat.le_trans hL286 hE294.size
      have hS298 : SH w293 w.heap.size [aOwn fGood 56 a290 c291 x288.1, aOwn fGood 56 a261 c262 x259, aOwn fGood 56 a116 c117 x220.2, aOwn fGood 56 a79 c80 x77.1, aBox 53 b2 [.string (bs aG_1.Name), .int .i64 aG_1.OnHand, .int .i64 aG_1.Reserved, .int .i64 aG_1.Least]] := SH.add hS287 hE294 hL286 hR295
      refine WL.sub [(6, .slice a79 x77.1.length c80), (7, .int .i64 x77.2), (9, .slice a116 x220.2.length c117), (12, .int .i64 x220.1), (89, .tuple #[.slice a290 x288.1.length c291, .int .i64 x288.2])] ⟨rfl, rfl, rfl, rfl, rfl, trivial⟩ ?_
      refine WL.nil ?_
      refine WA.one (i := 5) (D' := [0, 2, 1, 3, 4, 5]) rfl rfl (by kernel_rfl) ?_
      refine WL.runk 1 [6, 7, 9, 12, 14, 15, 84, 90, 91] [(6, .slice a79 x77.1.length c80), (7, .int .i64 x77.2), (9, .slice a116 x220.2.length c117), (12, .int .i64 x220.1), (84, .tuple #[.slice a290 x288.1.length c291, .int .i64 x288.2])] (by kernel_rfl) ?_
      refine WL.nil ?_
      refine WA.quiet (f' := 0) (D' := [0, 2, 1, 3, 4, 5, 6, 7, 8, 9]) [6, 7, 8, 9] rfl rfl (by kernel_rfl) ?_
      refine QL.step1v 90 (.slice a290 x288.1.length c291) rfl (fun _ => by kernel_rfl) ?_
      refine QL.step1v 91 (.int .i64 x288.2) rfl (fun _ => by kernel_rfl) ?_
      refine QL.step1v 14 (.slice a290 x288.1.length c291) rfl (fun _ => by kernel_rfl) ?_
      refine QL.step1v 15 (.int .i64 x288.2) rfl (fun _ => by kernel_rfl) ?_
      refine QL.subk [6, 7, 9, 12, 14, 15] [(6, .slice a79 x77.1.length c80), (7, .int .i64 x77.2), (9, .slice a116 x220.2.length c117), (12, .int .i64 x220.1), (14, .slice a290 x288.1.length c291), (15, .int .i64 x288.2)] (by kernel_rfl) ?_
      refine QL.nil ?_
      intro w299 hE300
      have hb301 : Ext w w299 := Ext.trans hb296 hE300
      have hL302 : w.heap.size ≤ w299.heap.size := Nat.le_trans hL297 hE300.size
      have hS303 : SH w299 w.heap.size [aOwn fGood 56 a290 c291 x288.1, aOwn fGood 56 a261 c262 x259, aOwn fGood 56 a116 c117 x220.2, aOwn fGood 56 a79 c80 x77.1, aBox 53 b2 [.string (bs aG_1.Name), .int .i64 aG_1.OnHand, .int .i64 aG_1.Reserved, .int .i64 aG_1.Least]] := SH.ext hS298 hE300
      refine WA.done (by kernel_rfl) ?_
      refine WQ.then_normal (hK248 _ _ _ ?_)
      refine WP.seq (fun K304 hK304 => ?_)
      refine WP.seq (fun K305 hK305 => ?_)
      obtain ⟨x315, hx316, hm⟩ := bindE hm
      refine WP.cut (fun env' w' => env' = [(9, .slice a116 x220.2.length c117), (12, .int .i64 x220.1), (100, .bool x315)] ∧ Ext w w' ∧ w.heap.size ≤ w'.heap.size ∧ SH w' w.heap.size [aOwn fGood 56 a116 c117 x220.2, aBox 53 b2 [.string (bs aG_1.Name), .int .i64 aG_1.OnHand, .int .i64 aG_1.Reserved, .int .i64 aG_1.Least]]) ?_ ?_
      · have hm := hx316; clear hx316
        refine WP.region ?_
        refine WL.runk 2 [7, 9, 12, 15, 92, 93] [(7, .int .i64 x77.2), (9, .slice a116 x220.2.length c117), (12, .int .i64 x220.1), (15, .int .i64 x288.2), (92, .slice a290 x288.1.length c291), (93, .slice a79 x77.1.length c80)] (by kernel_rfl) ?_
        obtain ⟨x317, hx318, hm⟩ := bindE hm
        refine WL.call 17 #[.slice a290 x288.1.length c291, .slice a79 x77.1.length c80] rfl rfl (by kernel_rfl) (c_17 n x288.1 a290 c291 x77.1 a79 c80 w299 hx318 (SH.rd (SH.front 0 hS303)) (SH.le (SH.front 0 hS303)).1 (SH.rd (SH.front 3 hS303)) (SH.le (SH.front 3 hS303)).1) ?_
        rintro _ w319 ⟨rfl, hE320⟩
        refine ⟨_, rfl, ?_⟩
        have hb322 : Ext w w319 := Ext.trans hb301 hE320
        have hL323 : w.heap.size ≤ w319.heap.size := Nat.le_trans hL302 hE320.size
        have hS324 : SH w319 w.heap.size [aOwn fGood 56 a290 c291 x288.1, aOwn fGood 56 a261 c262 x259, aOwn fGood 56 a116 c117 x220.2, aOwn fGood 56 a79 c80 x77.1, aBox 53 b2 [.string (bs aG_1.Name), .int .i64 aG_1.OnHand, .int .i64 aG_1.Reserved, .int .i64 aG_1.Least]] := SH.ext hS303 hE320
        refine WL.runk 2 [7, 9, 12, 15, 96] [(7, .int .i64 x77.2), (9, .slice a116 x220.2.length c117), (12, .int .i64 x220.1), (15, .int .i64 x288.2), (96, .bool (!x317))] (by kernel_rfl) ?_
        refine WL.case (!x317) [96] ⟨rfl, trivial⟩ (fun hc325 => ?_) (fun hc325 => ?_)
        · have hm := iteT hm hc325
          refine WL.runk 4 [9, 12, 100] [(9, .slice a116 x220.2.length c117), (12, .int .i64 x220.1), (100, .bool true)] (by kernel_rfl) ?_
          refine WL.nil ?_
          obtain rfl := Option.some.inj hm
          exact WQ.post' ⟨rfl, hb322, hL323, (SH.take 2 (SH.front 3 (SH.front 4 hS324)))⟩ ⟨rfl, rfl, rfl, trivial⟩
        have hm := iteF hm hc325
        refine WL.runk 4 [9, 12, 100] [(9, .slice a116 x220.2.length c117), (12, .int .i64 x220.1), (100, .bool (x288.2 != x77.2))] (by kernel_rfl) ?_
        refine WL.nil ?_
        obtain rfl := Option.some.inj hm
        exact WQ.post' ⟨rfl, hb322, hL323, (SH.take 2 (SH.front 3 (SH.front 4 hS324)))⟩ ⟨rfl, rfl, rfl, trivial⟩
      clear hx316
      rintro _ w326 ⟨rfl, hb327, hL328, hS329⟩
      refine WQ.then_normal (hK305 _ _ _ ?_)
      refine WP.cond x315 rfl rfl (fun hc330 => ?_) (fun hc330 => ?_)
      · have hm := iteT hm hc330
        refine WP.seq (fun K331 hK331 => ?_)
        refine WP.region ?_
        refine WL.runk 1 [4] [(4, .bool false)] (by kernel_rfl) ?_
        refine WL.nil ?_
        refine WQ.then_normal (hK331 _ _ _ ?_)
        refine WP.ret ?_
        refine WQ.then_ret ?_
        obtain rfl := Option.some.inj hm
        exact WQ.ret1 _ rfl rfl ⟨rfl, hb327⟩
      have hm := iteF hm hc330
      refine WP.skip ?_
      refine WQ.then_normal (hK304 _ _ _ ?_)
      refine WP.seq (fun K332 hK332 => ?_)
      refine WP.region ?_
      refine WL.runk 1 [9, 12, 13] [(9, .slice a116 x220.2.length c117), (12, .int .i64 x220.1), (13, .int .i64 1)] (by kernel_rfl) ?_
      refine WL.nil ?_
      refine WQ.then_normal (hK332 _ _ _ ?_)
      refine WP.seq (fun K333 hK333 => ?_)
      refine WP.region ?_
      refine WL.runk 2 [12, 101, 102] [(12, .int .i64 x220.1), (101, .slice a116 x220.2.length c117), (102, .int .i64 1)] (by kernel_rfl) ?_
      obtain ⟨x334, hx335, hm⟩ := bindE hm
      refine WL.call 28 #[.slice a116 x220.2.length c117, .int .i64 1] rfl rfl (by kernel_rfl) (c_28 n x220.2 a116 c117 1 w326 hx335 (SH.rd (SH.front 0 hS329)) (SH.le (SH.front 0 hS329)).1) ?_
      rintro _ w336 ⟨rfl, hE337⟩
      refine ⟨_, rfl, ?_⟩
      have hb339 : Ext w w336 := Ext.trans hb327 hE337
      have hL340 : w.heap.size ≤ w336.heap.size := Nat.le_trans hL328 hE337.size
      have hS341 : SH w336 w.heap.size [aOwn fGood 56 a116 c117 x220.2, aBox 53 b2 [.string (bs aG_1.Name), .int .i64 aG_1.OnHand, .int .i64 aG_1.Reserved, .int .i64 aG_1.Least]] := SH.ext hS329 hE337
      refine WL.runk 1 [12, 13] [(12, .int .i64 x220.1), (13, .int .i64 x334)] (by kernel_rfl) ?_
      refine WL.nil ?_
      refine WQ.then_normal (hK333 _ _ _ ?_)
      refine WP.seq (fun K342 hK342 => ?_)
      refine WP.seq (fun K343 hK343 => ?_)
      refine WP.region ?_
      refine WL.runk 2 [12, 13, 105] [(12, .int .i64 x220.1), (13, .int .i64 x334), (105, .bool (decide (x334 < 0)))] (by kernel_rfl) ?_
      refine WL.nil ?_
      refine WQ.then_normal (hK343 _ _ _ ?_)
      refine WP.cond (decide (x334 < 0)) rfl rfl (fun hc344 => ?_) (fun hc344 => ?_)
      · have hm := iteT hm hc344
        refine WP.seq (fun K345 hK345 => ?_)
        refine WP.region ?_
        refine WL.runk 1 [4] [(4, .bool false)] (by kernel_rfl) ?_
        refine WL.nil ?_
        refine WQ.then_normal (hK345 _ _ _ ?_)
        refine WP.ret ?_
        refine WQ.then_ret ?_
        obtain rfl := Option.some.inj hm
        exact WQ.ret1 _ rfl rfl ⟨rfl, hb339⟩
      have hm := iteF hm hc344
      refine WP.skip ?_
      refine WQ.then_normal (hK342 _ _ _ ?_)
      refine WP.seq (fun K346 hK346 => ?_)
      refine WP.seq (fun K347 hK347 => ?_)
      refine WP.region ?_
      refine WL.runk 3 [108] [(108, .bool (x334 != x220.1))] (by kernel_rfl) ?_
      refine WL.nil ?_
      refine WQ.then_normal (hK347 _ _ _ ?_)
      refine WP.cond (x334 != x220.1) rfl rfl (fun hc348 => ?_) (fun hc348 => ?_)
      · have hm := iteT hm hc348
        refine WP.seq (fun K349 hK349 => ?_)
        refine WP.region ?_
        refine WL.runk 1 [4] [(4, .bool false)] (by kernel_rfl) ?_
        refine WL.nil ?_
        refine WQ.then_normal (hK349 _ _ _ ?_)
        refine WP.ret ?_
        refine WQ.then_ret ?_
        obtain rfl := Option.some.inj hm
        exact WQ.ret1 _ rfl rfl ⟨rfl, hb339⟩
      have hm := iteF hm hc348
      refine WP.skip ?_
      refine WQ.then_normal (hK346 _ _ _ ?_)
      refine WP.seq (fun K350 hK350 => ?_)
      refine WP.region ?_
      refine WL.runk 1 [4] [(4, .bool true)] (by kernel_rfl) ?_
      refine WL.nil ?_
      refine WQ.then_normal (hK350 _ _ _ ?_)
      refine WP.ret ?_
      obtain rfl := Option.some.inj hm
      exact WQ.ret1 _ rfl rfl ⟨rfl, hb339⟩

end Go.Proofs.Ytkpdicajinionaa
