/- Each call does what its Lean function says. -/
import Derived.Test.YtlplbjeegkkilaaDoorKChanges1
import Derived.Test.YtlplbjeegkkilaaDoorGu
set_option maxRecDepth 20000
set_option maxHeartbeats 40000000
namespace Go.Proofs.YtlplbjeegkkilaaDoor
open Go Go.Gv Go.RowKit

theorem c_15 (n : Nat) (x_0 : SLast) (list_1 : List SChange) (a1' : Option Addr) (c1' : Nat) (w : World) {r : SLast × Int} (hm : m_impl_ApplyChanges n x_0 list_1 = some r) (h1 : Rd fChange.ty w a1' list_1) (hle1 : list_1.length ≤ c1') :
    CallV Tryd.prog 15 #[.agg #[.string (bs x_0.Name), .int .i64 x_0.Length, .int .i64 x_0.Ball, .int .i64 x_0.Instep, .int .i64 x_0.Heel, .int .i64 x_0.Pitch], .slice a1' list_1.length c1'] w (fun v w' => v = .tuple #[.agg #[.string (bs r.1.Name), .int .i64 r.1.Length, .int .i64 r.1.Ball, .int .i64 r.1.Instep, .int .i64 r.1.Heel, .int .i64 r.1.Pitch], .int .i64 r.2] ∧ Ext w w') := by
  unfold m_impl_ApplyChanges at hm
  refine CallV.enter Tryd.func15 rfl (by kernel_rfl) Tryd.ntmps15 (env := [(0, .agg #[.string (bs x_0.Name), .int .i64 x_0.Length, .int .i64 x_0.Ball, .int .i64 x_0.Instep, .int .i64 x_0.Heel, .int .i64 x_0.Pitch]), (1, .slice a1' list_1.length c1')]) ⟨rfl, rfl, trivial⟩ ?_
  refine WP.seq (fun K1 hK1 => ?_)
  refine WP.region ?_
  refine WL.box 35 [.string (bs x_0.Name), .int .i64 x_0.Length, .int .i64 x_0.Ball, .int .i64 x_0.Instep, .int .i64 x_0.Heel, .int .i64 x_0.Pitch] 2 (by kernel_rfl) rfl rfl rfl rfl ?_
  intro b2 w3 hE4 hR5
  have hb7 : Ext w w3 := Ext.trans (Ext.refl w) hE4
  have hL8 : w.heap.size ≤ w3.heap.size := Nat.le_trans (Nat.le_refl _) hE4.size
  have hS9 : SH w3 w.heap.size [aBox 35 b2 [.string (bs x_0.Name), .int .i64 x_0.Length, .int .i64 x_0.Ball, .int .i64 x_0.Instep, .int .i64 x_0.Heel, .int .i64 x_0.Pitch]] := SH.add (SH.nil _ _) hE4 (Nat.le_refl _) hR5
  refine WL.box 35 [.string (bs []), .int .i64 0, .int .i64 0, .int .i64 0, .int .i64 0, .int .i64 0] 4 (by kernel_rfl) rfl rfl rfl rfl ?_
  intro b10 w11 hE12 hR13
  have hb15 : Ext w w11 := Ext.trans hb7 hE12
  have hL16 : w.heap.size ≤ w11.heap.size := Nat.le_trans hL8 hE12.size
  have hS17 : SH w11 w.heap.size [aBox 35 b10 [.string (bs []), .int .i64 0, .int .i64 0, .int .i64 0, .int .i64 0, .int .i64 0], aBox 35 b2 [.string (bs x_0.Name), .int .i64 x_0.Length, .int .i64 x_0.Ball, .int .i64 x_0.Instep, .int .i64 x_0.Heel, .int .i64 x_0.Pitch]] := SH.add hS9 hE12 hL8 hR13
  refine WL.runk 1 [1, 2, 4] [(1, .slice a1' list_1.length c1'), (2, .pointer (some ⟨b2, 0, none⟩)), (4, .pointer (some ⟨b10, 0, none⟩))] (by kernel_rfl) ?_
  refine WL.nil ?_
  refine WQ.then_normal (hK1 _ _ _ ?_)
  refine WP.seq (fun K18 hK18 => ?_)
  refine WP.seq (fun K19 hK19 => ?_)
  obtain ⟨x37, hx38, hm⟩ := bindE hm
  refine WP.cut (fun env' w' => env' = [(1, .slice a1' list_1.length c1'), (2, .pointer (some ⟨b2, 0, none⟩)), (4, .pointer (some ⟨b10, 0, none⟩)), (15, .bool x37)] ∧ Ext w w' ∧ w.heap.size ≤ w'.heap.size ∧ SH w' w.heap.size [aBox 35 b10 [.string (bs []), .int .i64 0, .int .i64 0, .int .i64 0, .int .i64 0, .int .i64 0], aBox 35 b2 [.string (bs x_0.Name), .int .i64 x_0.Length, .int .i64 x_0.Ball, .int .i64 x_0.Instep, .int .i64 x_0.Heel, .int .i64 x_0.Pitch]]) ?_ ?_
  · have hm := hx38; clear hx38
    refine WP.region ?_
    refine WL.st (.agg #[.string (bs x_0.Name), .int .i64 x_0.Length, .int .i64 x_0.Ball, .int .i64 x_0.Instep, .int .i64 x_0.Heel, .int .i64 x_0.Pitch]) (ST.loadAgg (vs := [.string (bs x_0.Name), .int .i64 x_0.Length, .int .i64 x_0.Ball, .int .i64 x_0.Instep, .int .i64 x_0.Heel, .int .i64 x_0.Pitch]) (fun j v hv => SH.boxPart (us := [.string (bs x_0.Name), .int .i64 x_0.Length, .int .i64 x_0.Ball, .int .i64 x_0.Instep, .int .i64 x_0.Heel, .int .i64 x_0.Pitch]) (SH.front 1 hS17) 0 rfl j v hv) rfl rfl rfl Tryd.underlying35 rfl (info35).1 (info35).2.1) rfl rfl rfl ?_
    obtain ⟨x39, hx40, hm⟩ := bindE hm
    refine WL.call 36 #[.agg #[.string (bs x_0.Name), .int .i64 x_0.Length, .int .i64 x_0.Ball, .int .i64 x_0.Instep, .int .i64 x_0.Heel, .int .i64 x_0.Pitch]] rfl rfl (by kernel_rfl) (c_36 n x_0 w11 hx40 ) ?_
    rintro _ w41 ⟨rfl, hE42⟩
    refine ⟨_, rfl, ?_⟩
    have hb44 : Ext w w41 := Ext.trans hb15 hE42
    have hL45 : w.heap.size ≤ w41.heap.size := Nat.le_trans hL16 hE42.size
    have hS46 : SH w41 w.heap.size [aBox 35 b10 [.string (bs []), .int .i64 0, .int .i64 0, .int .i64 0, .int .i64 0, .int .i64 0], aBox 35 b2 [.string (bs x_0.Name), .int .i64 x_0.Length, .int .i64 x_0.Ball, .int .i64 x_0.Instep, .int .i64 x_0.Heel, .int .i64 x_0.Pitch]] := SH.ext hS17 hE42
    refine WL.runk 2 [1, 2, 4, 11] [(1, .slice a1' list_1.length c1'), (2, .pointer (some ⟨b2, 0, none⟩)), (4, .pointer (some ⟨b10, 0, none⟩)), (11, .bool (!x39))] (by kernel_rfl) ?_
    refine WL.case (!x39) [11] ⟨rfl, trivial⟩ (fun hc47 => ?_) (fun hc47 => ?_)
    · have hm := iteT hm hc47
      refine WL.runk 4 [1, 2, 4, 15] [(1, .slice a1' list_1.length c1'), (2, .pointer (some ⟨b2, 0, none⟩)), (4, .pointer (some ⟨b10, 0, none⟩)), (15, .bool true)] (by kernel_rfl) ?_
      refine WL.nil ?_
      obtain rfl := Option.some.inj hm
      exact WQ.post' ⟨rfl, hb44, hL45, hS46⟩ ⟨rfl, rfl, rfl, rfl, trivial⟩
    have hm := iteF hm hc47
    refine WL.runk 1 [1, 2, 4, 11, 12] [(1, .slice a1' list_1.length c1'), (2, .pointer (some ⟨b2, 0, none⟩)), (4, .pointer (some ⟨b10, 0, none⟩)), (11, .bool false), (12, .slice a1' list_1.length c1')] (by kernel_rfl) ?_
    obtain ⟨x48, hx49, hm⟩ := bindE hm
    refine WL.call 37 #[.slice a1' list_1.length c1'] rfl rfl (by kernel_rfl) (c_37 n list_1 a1' c1' w41 hx49 (Rd.below h1 hb44) hle1) ?_
    rintro _ w50 ⟨rfl, hE51⟩
    refine ⟨_, rfl, ?_⟩
    have hb53 : Ext w w50 := Ext.trans hb44 hE51
    have hL54 : w.heap.size ≤ w50.heap.size := Nat.le_trans hL45 hE51.size
    have hS55 : SH w50 w.heap.size [aBox 35 b10 [.string (bs []), .int .i64 0, .int .i64 0, .int .i64 0, .int .i64 0, .int .i64 0], aBox 35 b2 [.string (bs x_0.Name), .int .i64 x_0.Length, .int .i64 x_0.Ball, .int .i64 x_0.Instep, .int .i64 x_0.Heel, .int .i64 x_0.Pitch]] := SH.ext hS46 hE51
    refine WL.runk 2 [1, 2, 4, 15] [(1, .slice a1' list_1.length c1'), (2, .pointer (some ⟨b2, 0, none⟩)), (4, .pointer (some ⟨b10, 0, none⟩)), (15, .bool (!x48))] (by kernel_rfl) ?_
    refine WL.nil ?_
    obtain rfl := Option.some.inj hm
    exact WQ.post' ⟨rfl, hb53, hL54, hS55⟩ ⟨rfl, rfl, rfl, rfl, trivial⟩
  clear hx38
  rintro _ w56 ⟨rfl, hb57, hL58, hS59⟩
  refine WQ.then_normal (hK19 _ _ _ ?_)
  refine WP.cond x37 rfl rfl (fun hc60 => ?_) (fun hc60 => ?_)
  · have hm := iteT hm hc60
    refine WP.seq (fun K61 hK61 => ?_)
    refine WP.region ?_
    refine WL.runk 1 [4, 16] [(4, .pointer (some ⟨b10, 0, none⟩)), (16, .agg #[.string (bs []), .int .i64 0, .int .i64 0, .int .i64 0, .int .i64 0, .int .i64 0])] (by kernel_rfl) ?_
    refine WL.boxStore 0 [.string (bs []), .int .i64 0, .int .i64 0, .int .i64 0, .int .i64 0, .int .i64 0] [.string (bs []), .int .i64 0, .int .i64 0, .int .i64 0, .int .i64 0, .int .i64 0] (SH.front 0 hS59) hL58 rfl rfl rfl rfl rfl rfl rfl (info35).1 (info35).2.1 rfl rfl rfl ?_
    intro w62 hB63 hS64
    have hb65 : Ext w w62 := Below.trans hb57 hB63
    have hL66 : w.heap.size ≤ w62.heap.size := Nat.le_trans hL58 hB63.size
    refine WL.runk 1 [4, 5] [(4, .pointer (some ⟨b10, 0, none⟩)), (5, .int .i64 1)] (by kernel_rfl) ?_
    refine WL.nil ?_
    refine WQ.then_normal (hK61 _ _ _ ?_)
    refine WP.ret ?_
    refine WQ.then_ret ?_
    obtain rfl := Option.some.inj hm
    exact WQ.retv2 _ _ rfl (RVal.box (SH.front 0 hS64) rfl Tryd.underlying35 rfl (info35).1 (info35).2.1) (RVal.tmp rfl) ⟨rfl, hb65⟩
  have hm := iteF hm hc60
  refine WP.skip ?_
  refine WQ.then_normal (hK18 _ _ _ ?_)
  refine WP.seq (fun K67 hK67 => ?_)
  refine WP.seq (fun K68 hK68 => ?_)
  refine WP.region ?_
  refine WL.runk 3 [2, 4, 17, 18, 19] [(2, .pointer (some ⟨b2, 0, none⟩)), (4, .pointer (some ⟨b10, 0, none⟩)), (17, .slice a1' list_1.length c1'), (18, .int .i64 (list_1.length : Int)), (19, .int .i64 0)] (by kernel_rfl) ?_
  refine WL.nil ?_
  refine WQ.then_normal (hK68 _ _ _ ?_)
  refine WP.block ?_
  obtain ⟨t149, ht150, hm⟩ := bindE hm
  have hmo144 := hm; clear hm
  refine WP.sub [(2, .pointer (some ⟨b2, 0, none⟩)), (4, .pointer (some ⟨b10, 0, none⟩)), (17, .slice a1' list_1.length c1'), (18, .int .i64 (list_1.length : Int)), (19, .int .i64 0)] ⟨rfl, rfl, rfl, rfl, rfl, trivial⟩ ?_
  refine WP.loop (fun n' env' w' => ∃ (st138 : Int × List UInt8 × Int × Int × Int × Int × Int) , env' = [(2, .pointer (some ⟨b2, 0, none⟩)), (4, .pointer (some ⟨b10, 0, none⟩)), (17, .slice a1' list_1.length c1'), (18, .int .i64 (list_1.length : Int)), (19, .int .i64 st138.1)] ∧ Ext w w' ∧ w.heap.size ≤ w'.heap.size ∧ SH w' w.heap.size [aBox 35 b10 [.string (bs []), .int .i64 0, .int .i64 0, .int .i64 0, .int .i64 0, .int .i64 0], aBox 35 b2 [.string (bs st138.2.1), .int .i64 st138.2.2.1, .int .i64 st138.2.2.2.1, .int .i64 st138.2.2.2.2.1, .int .i64 st138.2.2.2.2.2.1, .int .i64 st138.2.2.2.2.2.2]] ∧ loopN (m_impl_ApplyChanges_l1 n list_1) n' st138 = some t149) n ⟨(0, x_0.Name, x_0.Length, x_0.Ball, x_0.Instep, x_0.Heel, x_0.Pitch), rfl, hb57, hL58, hS59, ht150⟩ ?_
  rintro n146 _ w139 ⟨st138, rfl, hb140, hL141, hS142, hl143⟩ K145 hK145
  obtain ⟨n147, s148, rfl, hm, hl143⟩ := loopN_some hl143
  unfold m_impl_ApplyChanges_l1 at hm
  refine WP.seq (fun K151 hK151 => ?_)
  refine WP.region ?_
  refine WL.runk 1 [2, 4, 17, 18, 19, 20] [(2, .pointer (some ⟨b2, 0, none⟩)), (4, .pointer (some ⟨b10, 0, none⟩)), (17, .slice a1' list_1.length c1'), (18, .int .i64 (list_1.length : Int)), (19, .int .i64 st138.1), (20, .bool (decide (st138.1 < (list_1.length : Int))))] (by kernel_rfl) ?_
  refine WL.nil ?_
  refine WQ.then_normal (hK151 _ _ _ ?_)
  refine WP.seq (fun K152 hK152 => ?_)
  refine WP.cond (decide (st138.1 < (list_1.length : Int))) rfl rfl (fun hc153 => ?_) (fun hc153 => ?_)
  rotate_left
  · have hm := iteF hm hc153
    refine WP.exit ?_
    refine WQ.then_exit ?_
    refine WQ.then_exit ?_
    refine WQ.block_here ?_
    obtain rfl := Option.some.inj hm
    obtain rfl := afterN_done hl143
    have hm := hmo144
    refine WQ.then_normal (hK67 _ _ _ ?_)
    refine WP.seq (fun K201 hK201 => ?_)
    refine WP.region ?_
    refine WL.st (.agg #[.string (bs st138.2.1), .int .i64 st138.2.2.1, .int .i64 st138.2.2.2.1, .int .i64 st138.2.2.2.2.1, .int .i64 st138.2.2.2.2.2.1, .int .i64 st138.2.2.2.2.2.2]) (ST.loadAgg (vs := [.string (bs st138.2.1), .int .i64 st138.2.2.1, .int .i64 st138.2.2.2.1, .int .i64 st138.2.2.2.2.1, .int .i64 st138.2.2.2.2.2.1, .int .i64 st138.2.2.2.2.2.2]) (fun j v hv => SH.boxPart (us := [.string (bs st138.2.1), .int .i64 st138.2.2.1, .int .i64 st138.2.2.2.1, .int .i64 st138.2.2.2.2.1, .int .i64 st138.2.2.2.2.2.1, .int .i64 st138.2.2.2.2.2.2]) (SH.front 1 hS142) 0 rfl j v hv) rfl rfl rfl Tryd.underlying35 rfl (info35).1 (info35).2.1) rfl rfl rfl ?_
    refine WL.boxStore 0 [.string (bs st138.2.1), .int .i64 st138.2.2.1, .int .i64 st138.2.2.2.1, .int .i64 st138.2.2.2.2.1, .int .i64 st138.2.2.2.2.2.1, .int .i64 st138.2.2.2.2.2.2] [.string (bs st138.2.1), .int .i64 st138.2.2.1, .int .i64 st138.2.2.2.1, .int .i64 st138.2.2.2.2.1, .int .i64 st138.2.2.2.2.2.1, .int .i64 st138.2.2.2.2.2.2] (SH.front 0 hS142) hL141 rfl rfl rfl rfl rfl rfl rfl (info35).1 (info35).2.1 rfl rfl rfl ?_
    intro w202 hB203 hS204
    have hb205 : Ext w w202 := Below.trans hb140 hB203
    have hL206 : w.heap.size ≤ w202.heap.size := Nat.le_trans hL141 hB203.size
    refine WL.runk 1 [4, 5] [(4, .pointer (some ⟨b10, 0, none⟩)), (5, .int .i64 0)] (by kernel_rfl) ?_
    refine WL.nil ?_
    refine WQ.then_normal (hK201 _ _ _ ?_)
    refine WP.ret ?_
    obtain rfl := Option.some.inj hm
    exact WQ.retv2 _ _ rfl (RVal.box (SH.front 0 hS204) rfl Tryd.underlying35 rfl (info35).1 (info35).2.1) (RVal.tmp rfl) ⟨rfl, hb205⟩
  have hm := iteT hm hc153
  refine WP.skip ?_
  refine WQ.then_normal (hK152 _ _ _ ?_)
  refine WP.seq (fun K154 hK154 => ?_)
  refine WP.block ?_
  refine WP.seq (fun K155 hK155 => ?_)
  refine WP.region ?_
  obtain ⟨x156, hx157, hm⟩ := bindE hm
  refine WL.st (.pointer (some (at_ a1' (Int.toNat st138.1 * 2)))) (ST.index (T := fChange.ty) (xs := list_1) (Rd.below h1 hb140) hx157 rfl rfl rfl Tryd.underlying37 (info25).1 (info25).2.1) rfl rfl rfl ?_
  refine WL.st (.agg #[.int .i64 x156.Kind, .int .i64 x156.Amount]) (ST.loadAgg (vs := fChange.leaf x156) (fun j v hv => Rd.flatA (F := fChange) (Rd.below h1 hb140) hx157 j hv) rfl rfl rfl Tryd.underlying25 rfl (info25).1 (info25).2.1) rfl rfl rfl ?_
  refine WL.box 25 [.int .i64 0, .int .i64 0] 7 (by kernel_rfl) rfl rfl rfl rfl ?_
  intro b158 w159 hE160 hR161
  have hb163 : Ext w w159 := Ext.trans hb140 hE160
  have hL164 : w.heap.size ≤ w159.heap.size := Nat.le_trans hL141 hE160.size
  have hS165 : SH w159 w.heap.size [aBox 25 b158 [.int .i64 0, .int .i64 0], aBox 35 b10 [.string (bs []), .int .i64 0, .int .i64 0, .int .i64 0, .int .i64 0, .int .i64 0], aBox 35 b2 [.string (bs st138.2.1), .int .i64 st138.2.2.1, .int .i64 st138.2.2.2.1, .int .i64 st138.2.2.2.2.1, .int .i64 st138.2.2.2.2.2.1, .int .i64 st138.2.2.2.2.2.2]] := SH.add hS142 hE160 hL141 hR161
  refine WL.boxStore 0 [.int .i64 x156.Kind, .int .i64 x156.Amount] [.int .i64 x156.Kind, .int .i64 x156.Amount] (SH.front 0 hS165) hL164 rfl rfl rfl rfl rfl rfl rfl (info25).1 (info25).2.1 rfl rfl rfl ?_
  intro w166 hB167 hS168
  have hb169 : Ext w w166 := Below.trans hb163 hB167
  have hL170 : w.heap.size ≤ w166.heap.size := Nat.le_trans hL164 hB167.size
  refine WL.sub [(2, .pointer (some ⟨b2, 0, none⟩)), (4, .pointer (some ⟨b10, 0, none⟩)), (17, .slice a1' list_1.length c1'), (18, .int .i64 (list_1.length : Int)), (19, .int .i64 st138.1), (7, .pointer (some ⟨b158, 0, none⟩))] ⟨rfl, rfl, rfl, rfl, rfl, rfl, trivial⟩ ?_
  refine WL.nil ?_
  refine WQ.then_normal (hK155 _ _ _ ?_)
  refine WP.seq (fun K171 hK171 => ?_)
  refine WP.region ?_
  refine WL.st (.agg #[.string (bs st138.2.1), .int .i64 st138.2.2.1, .int .i64 st138.2.2.2.1, .int .i64 st138.2.2.2.2.1, .int .i64 st138.2.2.2.2.2.1, .int .i64 st138.2.2.2.2.2.2]) (ST.loadAgg (vs := [.string (bs st138.2.1), .int .i64 st138.2.2.1, .int .i64 st138.2.2.2.1, .int .i64 st138.2.2.2.2.1, .int .i64 st138.2.2.2.2.2.1, .int .i64 st138.2.2.2.2.2.2]) (fun j v hv => SH.boxPart (us := [.string (bs st138.2.1), .int .i64 st138.2.2.1, .int .i64 st138.2.2.2.1, .int .i64 st138.2.2.2.2.1, .int .i64 st138.2.2.2.2.2.1, .int .i64 st138.2.2.2.2.2.2]) (SH.front 2 hS168) 0 rfl j v hv) rfl rfl rfl Tryd.underlying35 rfl (info35).1 (info35).2.1) rfl rfl rfl ?_
  refine WL.st (.agg #[.int .i64 x156.Kind, .int .i64 x156.Amount]) (ST.loadAgg (vs := [.int .i64 x156.Kind, .int .i64 x156.Amount]) (fun j v hv => SH.boxPart (us := [.int .i64 x156.Kind, .int .i64 x156.Amount]) (SH.front 0 hS168) 0 rfl j v hv) rfl rfl rfl Tryd.underlying25 rfl (info25).1 (info25).2.1) rfl rfl rfl ?_
  obtain ⟨x172, hx173, hm⟩ := bindE hm
  refine WL.call 38 #[.agg #[.string (bs st138.2.1), .int .i64 st138.2.2.1, .int .i64 st138.2.2.2.1, .int .i64 st138.2.2.2.2.1, .int .i64 st138.2.2.2.2.2.1, .int .i64 st138.2.2.2.2.2.2], .agg #[.int .i64 x156.Kind, .int .i64 x156.Amount]] rfl rfl (by kernel_rfl) (c_38 n (SLast.mk st138.2.1 st138.2.2.1 st138.2.2.2.1 st138.2.2.2.2.1 st138.2.2.2.2.2.1 st138.2.2.2.2.2.2) x156 w166 hx173 ) ?_
  rintro _ w174 ⟨rfl, hE175⟩
  refine ⟨_, rfl, ?_⟩
  have hb177 : Ext w w174 := Ext.trans hb169 hE175
  have hL178 : w.heap.size ≤ w174.heap.size := Nat.le_trans hL170 hE175.size
  have hS179 : SH w174 w.heap.size [aBox 25 b158 [.int .i64 x156.Kind, .int .i64 x156.Amount], aBox 35 b10 [.string (bs []), .int .i64 0, .int .i64 0, .int .i64 0, .int .i64 0, .int .i64 0], aBox 35 b2 [.string (bs st138.2.1), .int .i64 st138.2.2.1, .int .i64 st138.2.2.2.1, .int .i64 st138.2.2.2.2.1, .int .i64 st138.2.2.2.2.2.1, .int .i64 st138.2.2.2.2.2.2]] := SH.ext hS168 hE175
  refine WL.boxStore 0 [.string (bs x172.Name), .int .i64 x172.Length, .int .i64 x172.Ball, .int .i64 x172.Instep, .int .i64 x172.Heel, .int .i64 x172.Pitch] [.string (bs x172.Name), .int .i64 x172.Length, .int .i64 x172.Ball, .int .i64 x172.Instep, .int .i64 x172.Heel, .int .i64 x172.Pitch] (SH.front 2 hS179) hL178 rfl rfl rfl rfl rfl rfl rfl (info35).1 (info35).2.1 rfl rfl rfl ?_
  intro w180 hB181 hS182
  have hb183 : Ext w w180 := Below.trans hb177 hB181
  have hL184 : w.heap.size ≤ w180.heap.size := Nat.le_trans hL178 hB181.size
  refine WL.sub [(2, .pointer (some ⟨b2, 0, none⟩)), (4, .pointer (some ⟨b10, 0, none⟩)), (17, .slice a1' list_1.length c1'), (18, .int .i64 (list_1.length : Int)), (19, .int .i64 st138.1)] ⟨rfl, rfl, rfl, rfl, rfl, trivial⟩ ?_
  refine WL.nil ?_
  refine WQ.then_normal (hK171 _ _ _ ?_)
  refine WP.seq (fun K185 hK185 => ?_)
  refine WP.region ?_
  refine WL.st (.agg #[.string (bs x172.Name), .int .i64 x172.Length, .int .i64 x172.Ball, .int .i64 x172.Instep, .int .i64 x172.Heel, .int .i64 x172.Pitch]) (ST.loadAgg (vs := [.string (bs x172.Name), .int .i64 x172.Length, .int .i64 x172.Ball, .int .i64 x172.Instep, .int .i64 x172.Heel, .int .i64 x172.Pitch]) (fun j v hv => SH.boxPart (us := [.string (bs x172.Name), .int .i64 x172.Length, .int .i64 x172.Ball, .int .i64 x172.Instep, .int .i64 x172.Heel, .int .i64 x172.Pitch]) (SH.front 0 hS182) 0 rfl j v hv) rfl rfl rfl Tryd.underlying35 rfl (info35).1 (info35).2.1) rfl rfl rfl ?_
  obtain ⟨x186, hx187, hm⟩ := bindE hm
  refine WL.call 36 #[.agg #[.string (bs x172.Name), .int .i64 x172.Length, .int .i64 x172.Ball, .int .i64 x172.Instep, .int .i64 x172.Heel, .int .i64 x172.Pitch]] rfl rfl (by kernel_rfl) (c_36 n x172 w180 hx187 ) ?_
  rintro _ w188 ⟨rfl, hE189⟩
  refine ⟨_, rfl, ?_⟩
  have hb191 : Ext w w188 := Ext.trans hb183 hE189
  have hL192 : w.heap.size ≤ w188.heap.size := Nat.le_trans hL184 hE189.size
  have hS193 : SH w188 w.heap.size [aBox 35 b2 [.string (bs x172.Name), .int .i64 x172.Length, .int .i64 x172.Ball, .int .i64 x172.Instep, .int .i64 x172.Heel, .int .i64 x172.Pitch], aBox 25 b158 [.int .i64 x156.Kind, .int .i64 x156.Amount], aBox 35 b10 [.string (bs []), .int .i64 0, .int .i64 0, .int .i64 0, .int .i64 0, .int .i64 0]] := SH.ext hS182 hE189
  refine WL.runk 1 [2, 4, 17, 18, 19, 28] [(2, .pointer (some ⟨b2, 0, none⟩)), (4, .pointer (some ⟨b10, 0, none⟩)), (17, .slice a1' list_1.length c1'), (18, .int .i64 (list_1.length : Int)), (19, .int .i64 st138.1), (28, .bool (!x186))] (by kernel_rfl) ?_
  refine WL.nil ?_
  refine WQ.then_normal (hK185 _ _ _ ?_)
  refine WP.cond (!x186) rfl rfl (fun hc194 => ?_) (fun hc194 => ?_)
  rotate_left
  · have hm := iteF hm hc194
    refine WP.skip ?_
    refine WQ.block_normal ?_
    refine WQ.then_normal (hK154 _ _ _ ?_)
    refine WP.region ?_
    refine WL.runk 2 [2, 4, 17, 18, 19] [(2, .pointer (some ⟨b2, 0, none⟩)), (4, .pointer (some ⟨b10, 0, none⟩)), (17, .slice a1' list_1.length c1'), (18, .int .i64 (list_1.length : Int)), (19, .int .i64 (wI64 (st138.1 + 1)))] (by kernel_rfl) ?_
    refine WL.nil ?_
    obtain rfl := Option.some.inj hm
    exact WQ.round hK145 ⟨((wI64 (st138.1 + 1)), x172.Name, x172.Length, x172.Ball, x172.Instep, x172.Heel, x172.Pitch), rfl, hb191, hL192, (SH.take 2 (SH.front 2 hS193)), hl143⟩ (Nat.lt_succ_self _) ⟨rfl, rfl, rfl, rfl, rfl, trivial⟩
  have hm := iteT hm hc194
  refine WP.seq (fun K195 hK195 => ?_)
  refine WP.region ?_
  refine WL.runk 1 [4, 29] [(4, .pointer (some ⟨b10, 0, none⟩)), (29, .agg #[.string (bs []), .int .i64 0, .int .i64 0, .int .i64 0, .int .i64 0, .int .i64 0])] (by kernel_rfl) ?_
  refine WL.boxStore 0 [.string (bs []), .int .i64 0, .int .i64 0, .int .i64 0, .int .i64 0, .int .i64 0] [.string (bs []), .int .i64 0, .int .i64 0, .int .i64 0, .int .i64 0, .int .i64 0] (SH.front 2 hS193) hL192 rfl rfl rfl rfl rfl rfl rfl (info35).1 (info35).2.1 rfl rfl rfl ?_
  intro w196 hB197 hS198
  have hb199 : Ext w w196 := Below.trans hb191 hB197
  have hL200 : w.heap.size ≤ w196.heap.size := Nat.le_trans hL192 hB197.size
  refine WL.runk 1 [4, 5] [(4, .pointer (some ⟨b10, 0, none⟩)), (5, .int .i64 10)] (by kernel_rfl) ?_
  refine WL.nil ?_
  refine WQ.then_normal (hK195 _ _ _ ?_)
  refine WP.ret ?_
  refine WQ.block_ret ?_
  refine WQ.then_ret ?_
  refine WQ.then_ret ?_
  refine WQ.block_ret ?_
  refine WQ.then_ret ?_
  obtain rfl := Option.some.inj hm
  obtain rfl := afterN_done hl143
  have hm := hmo144
  obtain rfl := Option.some.inj hm
  exact WQ.retv2 _ _ rfl (RVal.box (SH.front 0 hS198) rfl Tryd.underlying35 rfl (info35).1 (info35).2.1) (RVal.tmp rfl) ⟨rfl, hb199⟩


theorem back_39 (a : Option Addr) (n c : Nat) (w : World) : CallV Tryd.prog 39 #[.slice a n c] w (fun v w' => ∃ b, v = .func (.func 61) #[] #[.pointer (some ⟨b, 0, none⟩)] ∧ Ext w w' ∧ SH w' w.heap.size [aBox 37 b [.slice a n c]]) := by
  refine CallV.enter Tryd.func39 rfl (by kernel_rfl) Tryd.ntmps39 (env := [(0, .slice a n c)]) ⟨rfl, trivial⟩ ?_
  refine WP.seq (fun K1 hK1 => ?_)
  refine WP.region ?_
  refine WL.box 37 [.slice a n c] 1 (by kernel_rfl) rfl rfl rfl rfl ?_
  intro b w1 hE1 hS1
  refine WL.runk 1 [1] [(1, .pointer (some ⟨b, 0, none⟩))] (by kernel_rfl) ?_
  refine WL.nil ?_
  refine WQ.then_normal (hK1 _ _ _ ?_)
  refine WP.seq (fun K2 hK2 => ?_)
  refine WP.region ?_
  refine WL.runk 2 [2] [(2, .func (.func 61) #[] #[.pointer (some ⟨b, 0, none⟩)])] (by kernel_rfl) ?_
  refine WL.nil ?_
  refine WQ.then_normal (hK2 _ _ _ ?_)
  refine WP.ret ?_
  exact WQ.ret1 _ rfl rfl ⟨b, rfl, hE1, hS1⟩

theorem stops_61 {xs : List SChange} {a : Option Addr} {c b : Nat} {w w0 : World} (hb : w.heap[b]? = some (.cells #[.slice a xs.length c] 37 (0, 0))) (hR : Rd fChange.ty w0 a xs) (hE : Ext w0 w) (hlen : xs.length ≤ 4294967296) :
    SeqStopsK Fence.wide 7 Tryd.prog 61 #[.pointer (some ⟨b, 0, none⟩)] (fun x : Int × SChange => #[.int .i64 x.1, .agg #[.int .i64 x.2.Kind, .int .i64 x.2.Amount]]) (fun X Y => Below w0.heap.size X Y ∧ Y.heap[b]? = X.heap[b]?)
      (fun ys => ys.map (·.2) = xs.reverse) (fun _ => True) xs.length w := by
  intro l J Jx W hW hJ hJx hY hj
  have hbl : b < w.heap.size := (Array.getElem?_eq_some_iff.1 hb).1
  have hbW := (hW.block b hbl).trans hb
  have hEW : Ext w0 W := Ext.trans hE hW
  have hcell : ∀ w1 : World, w1.heap[b]? = W.heap[b]? → w1.cell? ⟨b, 0, none⟩ = some (.slice a xs.length c) := fun w1 h => by simp only [World.cell?, h, hbW]; rfl
  have hw0 : wI64 ((xs.length : Int) - 1) = (xs.length : Int) - 1 := by show IntKind.i64.wrap _ = _; rw [IntKind.wrap_i64]; omega
  refine callsIn_wide.2 (Calls.mono (CallV.enter Tryd.func61 rfl (by kernel_rfl) Tryd.ntmps61 (env := [(0, .func (.yield l) #[] #[]), (1, .pointer (some ⟨b, 0, none⟩))])
    (R := fun _ w' => (∃ ys : List (Int × SChange), ys.map (·.2) = xs.reverse ∧ J ys w') ∨ (∃ pre, True ∧ Jx pre w')) ⟨rfl, rfl, trivial⟩ ?_) ?_)
  · refine WP.seq (fun K1 hK1 => ?_)
    refine WP.region ?_
    refine WL.st (.slice a xs.length c) (ST.load (cell_ext (hcell W rfl)) rfl rfl Tryd.underlying37 rfl) rfl rfl rfl ?_
    refine WL.runk 3 [0, 1, 3] [(0, .func (.yield l) #[] #[]), (1, .pointer (some ⟨b, 0, none⟩)), (3, .int .i64 (wI64 ((xs.length : Int) - 1)))] (by kernel_rfl) ?_
    refine WL.nil ?_
    refine WQ.then_normal (hK1 _ _ _ ?_)
    rw [hw0]
    refine WP.block ?_
    refine WP.loop (fun m env' w' => ∃ (pre : List (Int × SChange)) (k : Nat), k ≤ xs.length ∧ m = xs.length - k ∧ env' = [(0, .func (.yield l) #[] #[]), (1, .pointer (some ⟨b, 0, none⟩)), (3, .int .i64 ((xs.length : Int) - 1 - (k : Int)))] ∧
      pre.map (·.2) = xs.reverse.take k ∧ pre.length = k ∧ J pre w' ∧ Below w0.heap.size W w' ∧ w'.heap[b]? = W.heap[b]?) xs.length ⟨[], 0, Nat.zero_le _, by simp, by simp, by simp, rfl, hj, Below.refl _ _, rfl⟩ ?_
    rintro m _ w1 ⟨pre, k, hk, rfl, rfl, hpre, hpl, hJ1, hB1, hb1⟩ K2 hK2
    obtain ⟨i, hi⟩ : ∃ i : Int, i = (xs.length : Int) - 1 - (k : Int) := ⟨_, rfl⟩
    rw [← hi]
    refine WP.seq (fun K3 hK3 => ?_)
    refine WP.seq (fun K4 hK4 => ?_)
    refine WP.region ?_
    refine WL.runk 2 [0, 1, 3, 8] [(0, .func (.yield l) #[] #[]), (1, .pointer (some ⟨b, 0, none⟩)), (3, .int .i64 i), (8, .bool (decide (i ≥ 0)))] (by kernel_rfl) ?_
    refine WL.nil ?_
    refine WQ.then_normal (hK4 _ _ _ ?_)
    refine WP.cond (decide (i ≥ 0)) rfl rfl (fun hc => ?_) (fun hc => ?_)
    · have hi0 : 0 ≤ i := of_decide_eq_true hc
      have hkl : k < xs.length := by omega
      have hit : i.toNat = xs.length - 1 - k := by omega
      refine WP.skip ?_
      refine WQ.then_normal (hK3 _ _ _ ?_)
      obtain ⟨x, hx0⟩ : ∃ x, xs[xs.length - 1 - k]? = some x := ⟨_, List.getElem?_eq_getElem (by omega)⟩
      have hx : idx xs i = some x := by unfold idx; rw [if_pos hi0, hit]; exact hx0
      have hxr : xs.reverse[k]? = some x := by rw [List.getElem?_reverse hkl]; exact hx0
      have hE1 : Ext w0 w1 := Below.trans hEW hB1
      have hR1 : Rd fChange.ty w1 a xs := Rd.below hR hE1
      obtain ⟨fn, tmps, assign, body, hy, hRd⟩ := hY pre (i, x) w1 hJ1 (by omega)
      dsimp only at hy
      refine WP.seq (fun K5 hK5 => ?_)
      refine WP.block ?_
      refine WP.seq (fun K6 hK6 => ?_)
      refine WP.regionIn 7 ?_
      refine WLI.of 6 (.inl rfl) (fun _ _ h => by obtain ⟨v, h, _⟩ := h; cases h) (by kernel_rfl) ?_
      refine WL.runk 2 [0, 1, 3, 11, 12] [(0, .func (.yield l) #[] #[]), (1, .pointer (some ⟨b, 0, none⟩)), (3, .int .i64 i), (11, .func (.yield l) #[] #[]), (12, .int .i64 i)] (by kernel_rfl) ?_
      refine WL.st (.slice a xs.length c) (ST.load (cell_ext (hcell w1 hb1)) rfl rfl Tryd.underlying37 rfl) rfl rfl rfl ?_
      refine WL.runk 1 [0, 1, 3, 11, 12, 13, 14] [(0, .func (.yield l) #[] #[]), (1, .pointer (some ⟨b, 0, none⟩)), (3, .int .i64 i), (11, .func (.yield l) #[] #[]), (12, .int .i64 i), (13, .slice a xs.length c), (14, .int .i64 i)] (by kernel_rfl) ?_
      refine WL.st (.pointer (some (at_ a (Int.toNat i * 2)))) (ST.index (T := fChange.ty) (xs := xs) hR1 hx rfl rfl rfl Tryd.underlying37 (info25).1 (info25).2.1) rfl rfl rfl ?_
      refine WL.st (.agg #[.int .i64 x.Kind, .int .i64 x.Amount]) (ST.loadAgg (vs := fChange.leaf x) (fun j v hv => Rd.flatA (F := fChange) hR1 hx j hv) rfl rfl rfl Tryd.underlying25 rfl (info25).1 (info25).2.1) rfl rfl rfl ?_
      refine WL.nil ?_
      refine WLI.back ?_
      refine WLI.round (.inl rfl) rfl rfl rfl (run_yieldCall rfl rfl rfl rfl hy) hRd ?_
      rintro e w2 (⟨rfl, hJ2, hKp⟩ | ⟨rfl, hJx2⟩)
      · refine ⟨_, _, rfl, rfl, ?_⟩
        refine WLI.of 1 (.inl rfl) (fun _ _ h => by obtain ⟨v, h, _⟩ := h; cases h) (by kernel_rfl) ?_
        refine WL.runk 1 [0, 1, 3, 18] [(0, .func (.yield l) #[] #[]), (1, .pointer (some ⟨b, 0, none⟩)), (3, .int .i64 i), (18, .bool false)] (by kernel_rfl) ?_
        refine WL.nil ?_
        refine WLI.back ?_
        refine WLI.nil ?_
        refine WQ.then_normal (hK6 _ _ _ ?_)
        refine WP.cond false rfl rfl (fun h => by cases h) (fun _ => ?_)
        refine WP.skip ?_
        refine WQ.block_normal ?_
        refine WQ.then_normal (hK5 _ _ _ ?_)
        refine WP.region ?_
        refine WL.runk 3 [0, 1, 3] [(0, .func (.yield l) #[] #[]), (1, .pointer (some ⟨b, 0, none⟩)), (3, .int .i64 (wI64 (i - 1)))] (by kernel_rfl) ?_
        refine WL.nil ?_
        have hwi : wI64 (i - 1) = (xs.length : Int) - 1 - ((k + 1 : Nat) : Int) := by show IntKind.i64.wrap _ = _; rw [IntKind.wrap_i64]; omega
        refine WQ.then_normal (hK2 (xs.length - (k + 1)) _ _ (by omega) ⟨pre ++ [(i, x)], k + 1, hkl, rfl, by rw [hwi], ?_, by simp [hpl], hJ2, Below.trans hB1 hKp.1, hKp.2.trans hb1⟩)
        rw [List.map_append, hpre, List.take_add_one, hxr]
        rfl
      · refine ⟨_, _, rfl, rfl, ?_⟩
        refine WLI.of 1 (.inl rfl) (fun _ _ h => by obtain ⟨v, h, _⟩ := h; cases h) (by kernel_rfl) ?_
        refine WL.runk 1 [18] [(18, .bool true)] (by kernel_rfl) ?_
        refine WL.nil ?_
        refine WLI.back ?_
        refine WLI.nil ?_
        refine WQ.then_normal (hK6 _ _ _ ?_)
        refine WP.cond true rfl rfl (fun _ => ?_) (fun h => by cases h)
        refine WP.ret ?_
        refine WQ.block_ret (WQ.then_ret (WQ.then_ret (WQ.block_ret ?_)))
        exact WQ.ret0 rfl (.inr ⟨_, trivial, hJx2⟩)
    · have hi0 : ¬ 0 ≤ i := of_decide_eq_false hc
      have hkl : k = xs.length := by omega
      refine WP.exit ?_
      refine WQ.then_exit (WQ.then_exit (WQ.block_here ?_))
      refine WQ.end0 rfl (.inl ⟨pre, ?_, hJ1⟩)
      rw [hpre, hkl, ← List.length_reverse]; exact List.take_length
  · rintro e w' ⟨v, rfl, h⟩
    exact ⟨⟨v, rfl⟩, h⟩

theorem c_16 (n : Nat) (list_0 : List SChange) (a0' : Option Addr) (c0' : Nat) (w : World) {r : List SChange × Int} (hm : m_impl_UndoChanges n list_0 = some r) (h0 : Rd fChange.ty w a0' list_0) (hle0 : list_0.length ≤ c0') :
    CallV Tryd.prog 16 #[.slice a0' list_0.length c0'] w (fun v w' => ∃ (ra0 : Option Addr) (rc0 : Nat), v = .tuple #[.slice ra0 r.1.length rc0, .int .i64 r.2] ∧ Ext w w' ∧ SH w' w.heap.size [aOwn fChange 25 ra0 rc0 r.1]) := by
  unfold m_impl_UndoChanges at hm
  refine CallV.enterM Tryd.func16 rfl (by kernel_rfl) Tryd.ntmps16 (env := [(0, .slice a0' list_0.length c0')]) ⟨rfl, trivial⟩ ?_
  refine WP.seq (fun K1 hK1 => ?_)
  refine WP.region ?_
  refine WL.runk 2 [0] [(0, .slice a0' list_0.length c0')] (by kernel_rfl) ?_
  refine WL.nil ?_
  refine WQ.then_normal (hK1 _ _ _ ?_)
  refine WP.seq (fun K2 hK2 => ?_)
  refine WP.seq (fun K3 hK3 => ?_)
  refine WP.region ?_
  refine WL.runk 1 [0, 7] [(0, .slice a0' list_0.length c0'), (7, .slice a0' list_0.length c0')] (by kernel_rfl) ?_
  obtain ⟨x4, hx5, hm⟩ := bindE hm
  refine WL.call 37 #[.slice a0' list_0.length c0'] rfl rfl (by kernel_rfl) (c_37 n list_0 a0' c0' w hx5 (Rd.below h0 (Ext.refl w)) hle0) ?_
  rintro _ w6 ⟨rfl, hE7⟩
  refine ⟨_, rfl, ?_⟩
  have hb9 : Ext w w6 := Ext.trans (Ext.refl w) hE7
  have hL10 : w.heap.size ≤ w6.heap.size := Nat.le_trans (Nat.le_refl _) hE7.size
  have hS11 : SH w6 w.heap.size [] := SH.ext (SH.nil _ _) hE7
  refine WL.runk 1 [0, 9] [(0, .slice a0' list_0.length c0'), (9, .bool (!x4))] (by kernel_rfl) ?_
  refine WL.nil ?_
  refine WQ.then_normal (hK3 _ _ _ ?_)
  refine WP.cond (!x4) rfl rfl (fun hc12 => ?_) (fun hc12 => ?_)
  · have hm := iteT hm hc12
    refine WP.seq (fun K13 hK13 => ?_)
    refine WP.region ?_
    refine WL.runk 2 [2, 3] [(2, .slice none 0 0), (3, .int .i64 1)] (by kernel_rfl) ?_
    refine WL.nil ?_
    refine WQ.then_normal (hK13 _ _ _ ?_)
    refine WP.ret ?_
    refine WQ.then_ret ?_
    obtain rfl := Option.some.inj hm
    have hS15 : SH w6 w.heap.size [aOwn fChange 25 none 0 ([] : List SChange)] := SH.nilOwn hS11
    exact WQ.ret2M _ _ rfl rfl rfl ⟨_, _, rfl, hb9, hS15⟩
  have hm := iteF hm hc12
  split at hm
  case isFalse => cases hm
  rename_i hlen
  obtain rfl := Option.some.inj hm
  obtain ⟨f, hf⟩ : ∃ f : List (Int × SChange) → List SChange, f = fun pre => pre.map fun x => SChange.mk x.2.Kind (wI64 (0 - x.2.Amount)) := ⟨_, rfl⟩
  have hf0 : f [] = [] := by rw [hf]; rfl
  have hf1 : ∀ pre x, f (pre ++ [x]) = f pre ++ [SChange.mk x.2.Kind (wI64 (0 - x.2.Amount))] := fun pre x => by rw [hf]; simp
  have hfl : ∀ pre, (f pre).length = pre.length := fun pre => by rw [hf]; simp
  refine WP.skip ?_
  refine WQ.then_normal (hK2 _ _ _ ?_)
  refine WP.seq (fun K16 hK16 => ?_)
  refine WP.region ?_
  refine WL.row fChange 25 ([] : List SChange) 0 #[] 10 (by kernel_rfl) rfl rfl rfl rfl rfl rfl rfl ?_
  intro a17 c18 w19 hE20 hR21
  have hb23 : Ext w w19 := Ext.trans hb9 hE20
  have hL24 : w.heap.size ≤ w19.heap.size := Nat.le_trans hL10 hE20.size
  have hS25 : SH w19 w.heap.size [aOwn fChange 25 a17 c18 ([] : List SChange)] := SH.add hS11 hE20 hL10 hR21
  refine WL.box 37 [.slice none 0 0] 4 (by kernel_rfl) rfl rfl rfl rfl ?_
  intro bO w1 hE1 hR1
  have hb1 : Ext w w1 := Ext.trans hb23 hE1
  have hL1 : w.heap.size ≤ w1.heap.size := Nat.le_trans hL24 hE1.size
  have hS1 := SH.add hS25 hE1 hL24 hR1
  refine WL.boxStore 0 [.slice a17 (([] : List SChange).length) c18] [.slice a17 (([] : List SChange).length) c18] hS1 hL1 rfl rfl rfl rfl rfl rfl rfl (info37).1 (info37).2.1 rfl rfl rfl ?_
  intro w2 hB2 hS2
  have hb2 : Ext w w2 := Below.trans hb1 hB2
  have hL2 : w.heap.size ≤ w2.heap.size := Nat.le_trans hL1 hB2.size
  refine WL.sub [(0, .slice a0' list_0.length c0'), (4, .pointer (some ⟨bO, 0, none⟩))] ⟨rfl, rfl, trivial⟩ ?_
  refine WL.nil ?_
  refine WQ.then_normal (hK16 _ _ _ ?_)
  refine WP.seqM (fun K26 hK26 => ?_)
  refine WP.seq (fun K27 hK27 => ?_)
  refine WP.region ?_
  refine WL.runk 1 [0, 4, 11] [(0, .slice a0' list_0.length c0'), (4, .pointer (some ⟨bO, 0, none⟩)), (11, .slice a0' list_0.length c0')] (by kernel_rfl) ?_
  refine WL.call 39 #[.slice a0' list_0.length c0'] rfl rfl (by kernel_rfl) (back_39 a0' list_0.length c0' w2) ?_
  rintro _ w3 ⟨bS, rfl, hE3, hR3⟩
  refine ⟨_, rfl, ?_⟩
  have hb3 : Ext w w3 := Ext.trans hb2 hE3
  have hL3 : w.heap.size ≤ w3.heap.size := Nat.le_trans hL2 hE3.size
  have hS3 := SH.add hS2 hE3 hL2 hR3
  refine WL.sub [(4, .pointer (some ⟨bO, 0, none⟩)), (12, .func (.func 61) #[] #[.pointer (some ⟨bS, 0, none⟩)])] ⟨rfl, rfl, trivial⟩ ?_
  refine WL.nil ?_
  refine WQ.then_normal (hK27 _ _ _ ?_)
  refine WP.block ?_
  have hbS : w3.heap[bS]? = some (.cells #[.slice a0' list_0.length c0'] 37 (0, 0)) := (SH.boxHeap hS3).2.2
  have hbSl : bS < w3.heap.size := (SH.boxHeap hS3).2.1
  refine WP.range2 (α := Int × SChange) (t := 12) (p1 := 13) (p2 := 14) (gf := 61) (M := list_0.length) (lb := #[.pointer (some ⟨bS, 0, none⟩)]) (v1 := fun x => .int .i64 x.1) (v2 := fun x => .agg #[.int .i64 x.2.Kind, .int .i64 x.2.Amount])
    (Kp := fun X Y => Below w.heap.size X Y ∧ Y.heap[bS]? = X.heap[bS]?) (S := fun ys => ys.map (·.2) = list_0.reverse)
    rfl (enter_own Tryd.func61 (by kernel_rfl) rfl) (stops_61 hbS h0 hb3 hlen) (fun h k => ⟨Below.trans h.1 k.1, k.2.trans h.2⟩) (fun W l o o' hl h1 h2 h3 => ⟨belowK_b (w := w3) hL3 W l o o' hl h1 h2 h3, World.putObj_heap_other (by omega)⟩)
    (fun pre W => ∃ (a : Option Addr) (c : Nat), Ext w W ∧ SH W w.heap.size [aBox 37 bO [.slice a (f pre).length c], aOwn fChange 25 a c (f pre), aBox 37 bS [.slice a0' list_0.length c0']]) ?_ ?_
    (fun x env' W => ∃ (bC : Nat) (v : Value), env' = [(4, .pointer (some ⟨bO, 0, none⟩)), (6, .pointer (some ⟨bC, 0, none⟩))] ∧ W.heap[bO]? = some (.cells #[v] 37 (0, 0)) ∧ W.heap[bC]? = some (.cells #[.int .i64 x.2.Kind, .int .i64 x.2.Amount] 25 (0, 0)) ∧
      w.heap.size ≤ bC ∧ bC ≠ bO ∧ bC ≠ bS ∧ v.ownBlock ≠ some bC) ?_ rfl rfl ?_ ?_ ?_
  · rintro pre X Y row ⟨a, c, hE, hS⟩ hg hr
    exact ⟨a, c, hE.grown hg hE.size (fun k e => Nat.le_trans hL3 (hr k e).1), SH.grownBy hS (allCons .boxN (allCons .ownN (allCons .boxN allNil))) hg (fun r e => (hr r e).2)⟩
  · refine ⟨a17, c18, hb3, ?_⟩
    rw [hf0]
    exact SH.front 1 (SH.front 2 (SH.front 1 hS3))
  · rintro x e s X Y row ⟨bC, v, rfl, hO, hC, hq⟩ hg hr
    exact ⟨bC, v, rfl, (grownBy_keeps_cells hg (fun r e => (hr r e).2) hO rfl).trans hO, (grownBy_keeps_cells hg (fun r e => (hr r e).2) hC rfl).trans hC, hq⟩
  · rintro l pre x W Q ⟨a, c, hE, hS⟩ hQ hK
    have hL : w.heap.size ≤ W.heap.size := hE.size
    have hSk := SH.keep hS (allCons .boxN (allCons .ownN (allCons .boxN allNil)))
    refine WI.region ?_
    refine WLI.of 2 (.inr ⟨l, rfl⟩) hQ (by kernel_rfl) ?_
    refine WL.box 25 [.int .i64 0, .int .i64 0] 6 (by kernel_rfl) rfl rfl rfl rfl ?_
    intro bC w4 hE4 hR4
    have hL4 : w.heap.size ≤ w4.heap.size := Nat.le_trans hL hE4.size
    have hS4 := SH.add hSk hE4 hL hR4
    refine WL.boxStore 0 [.int .i64 x.2.Kind, .int .i64 x.2.Amount] [.int .i64 x.2.Kind, .int .i64 x.2.Amount] hS4 hL4 rfl rfl rfl rfl rfl rfl rfl (info25).1 (info25).2.1 rfl rfl rfl ?_
    intro w5 hB5 hS5
    have hB : Below w.heap.size W w5 := Below.trans (Below.mono hE4 hL) hB5
    refine WL.sub [(4, .pointer (some ⟨bO, 0, none⟩)), (6, .pointer (some ⟨bC, 0, none⟩))] ⟨rfl, rfl, trivial⟩ ?_
    refine WL.nil ?_
    refine WLI.back ?_
    refine WLI.nil ?_
    refine hK _ w5 (SH.kept (SH.front 1 hS5) hB.size hL3) ⟨hB, ?_⟩ ⟨a, c, Below.trans hE hB, SH.drop (SH.drop hS5)⟩ ⟨bC, _, rfl, (SH.boxHeap (SH.front 2 hS5)).2.2, (SH.boxHeap hS5).2.2, (SH.boxHeap hS5).1, ?_, ?_, ?_⟩
    · exact (SH.boxHeap (SH.front 4 hS5)).2.2.trans (SH.boxHeap (SH.front 2 hS)).2.2.symm
    · exact (SH.boxNe (SH.front 2 hS5)).symm
    · exact SH.boxNe (SH.front 1 (SH.front 4 hS5))
    · exact SH.boxOff (SH.front 1 (SH.front 3 hS5))
  · rintro l pre x _ W ⟨a, c, hE, hS⟩ ⟨bC, v, rfl, hO, hC, hBC, hn1, hn2, hn3⟩ hlt
    have hL : w.heap.size ≤ W.heap.size := hE.size
    obtain rfl : v = .slice a (f pre).length c := by
      have := (SH.boxHeap hS).2.2
      rw [hO] at this
      simpa using this
    have hS1 : SH W w.heap.size [aBox 25 bC [.int .i64 x.2.Kind, .int .i64 x.2.Amount], aBox 37 bO [.slice a (f pre).length c], aOwn fChange 25 a c (f pre), aBox 37 bS [.slice a0' list_0.length c0']] :=
      SH.insBox hS (allCons (.box fun _ e => hn1 e.symm) (allCons (.own fun g cur ea _ e => hn3 (by rw [ea, ← e]; rfl)) (allCons (.box fun _ e => hn2 e.symm) allNil))) hBC hC
    have hS2 := SH.keep hS1 (allCons .boxN (allCons .boxN (allCons .ownN (allCons .boxN allNil))))
    refine WI.block (WI.region ?_)
    refine WLI.of 10 (.inr ⟨l, rfl⟩) (fun _ _ h => h) (by kernel_rfl) ?_
    refine WL.st (.slice a (f pre).length c) (ST.load (cell_ext (SH.boxAt (SH.front 2 hS2) 0 _ rfl)) rfl rfl Tryd.underlying37 rfl) rfl rfl rfl ?_
    refine WL.runk 1 [4, 6, 15, 16] [(4, .pointer (some ⟨bO, 0, none⟩)), (6, .pointer (some ⟨bC, 0, none⟩)), (15, .slice a (f pre).length c), (16, .pointer (some ⟨bC, 0, none⟩))] (by kernel_rfl) ?_
    refine WL.st (.int .i64 x.2.Kind) (ST.load (cell_ext (SH.boxAt (SH.front 1 hS2) 0 _ rfl)) rfl rfl Tryd.underlying2 rfl) rfl rfl rfl ?_
    refine WL.runk 1 [4, 15, 17, 18] [(4, .pointer (some ⟨bO, 0, none⟩)), (15, .slice a (f pre).length c), (17, .int .i64 x.2.Kind), (18, .pointer (some ⟨bC, 1, none⟩))] (by kernel_rfl) ?_
    refine WL.st (.int .i64 x.2.Amount) (ST.load (cell_ext (SH.boxAt (SH.front 1 hS2) 1 _ rfl)) rfl rfl Tryd.underlying2 rfl) rfl rfl rfl ?_
    refine WL.runk 2 [4, 15, 21] [(4, .pointer (some ⟨bO, 0, none⟩)), (15, .slice a (f pre).length c), (21, .agg #[.int .i64 x.2.Kind, .int .i64 (wI64 (0 - x.2.Amount))])] (by kernel_rfl) ?_
    refine WL.row fChange 25 ([SChange.mk x.2.Kind (wI64 (0 - x.2.Amount))] : List SChange) 1 #[.int .i64 x.2.Kind, .int .i64 (wI64 (0 - x.2.Amount))] 22 (by kernel_rfl) rfl rfl rfl rfl rfl rfl rfl ?_
    intro a2 c2 w4 hE4 hR4
    have hL4 : w.heap.size ≤ w4.heap.size := Nat.le_trans hL hE4.size
    have hS4 := SH.add hS2 hE4 hL hR4
    have happ : app (f pre) [SChange.mk x.2.Kind (wI64 (0 - x.2.Amount))] = some (f (pre ++ [x])) := by
      unfold app big; rw [if_pos (by rw [hfl]; simp; omega), hf1]
    refine WL.append (F := fChange) (xs := f pre) (ys := [SChange.mk x.2.Kind (wI64 (0 - x.2.Amount))]) 23 (SH.front 4 hS4) hL4 (SH.rd hS4) happ rfl rfl rfl Tryd.underlying37 (info25).1 (info25).2.2.1 (info25).2.1 (info25).2.2.2 rfl rfl rfl rfl rfl ?_
    intro a5 c5 w5 hB5 hS5
    have hL5 : w.heap.size ≤ w5.heap.size := Nat.le_trans hL4 hB5.size
    refine WL.boxStore 0 [.slice a5 (f (pre ++ [x])).length c5] [.slice a5 (f (pre ++ [x])).length c5] (SH.front 4 hS5) hL5 rfl rfl rfl rfl rfl rfl rfl (info37).1 (info37).2.1 rfl rfl rfl ?_
    intro w6 hB6 hS6
    have hB : Below w.heap.size W w6 := Below.trans (Below.trans (Below.mono hE4 hL) hB5) hB6
    refine WL.nil ?_
    refine WLI.back ?_
    refine WLI.nil ?_
    intro fr hs
    refine ⟨SH.kept (SH.front 3 hS6) hB.size hL3, ⟨hB, ?_⟩, a5, c5, Below.trans hE hB, SH.cutOut 2 3 hS6⟩
    exact (SH.boxHeap (SH.front 5 hS6)).2.2.trans (SH.boxHeap (SH.front 2 hS)).2.2.symm
  · rintro D ys W fr hD hys ⟨a, c, hE, hS⟩ hd hs
    refine hK26 _ _ _ ((?_ : WPd Tryd.prog _ _ _ _ [(4, .pointer (some ⟨bO, 0, none⟩)), (12, .func (.func 61) #[] #[.pointer (some ⟨bS, 0, none⟩)])] W) fr hs)
    refine WPd.seqR ?_
    refine WL.st (.slice a (f ys).length c) (ST.load (cell_ext (SH.boxAt hS 0 _ rfl)) rfl rfl Tryd.underlying37 rfl) rfl rfl rfl ?_
    refine WL.runk 2 [2, 3] [(2, .slice a (f ys).length c), (3, .int .i64 0)] (by kernel_rfl) ?_
    refine WL.nil ?_
    refine WPd.back ?_
    refine WPd.ret (fun fr hs => ?_)
    have hfy : f ys = list_0.reverse.map fun c => SChange.mk c.Kind (wI64 (0 - c.Amount)) := by rw [hf, ← hys, List.map_map]; rfl
    have hg := grownBy_putObj' W D (.deferred none)
    have hS2 := SH.grownBy hS (allCons .boxN (allCons .ownN (allCons .boxN allNil))) hg (fun r e => by cases e; exact ⟨_, hd, rfl⟩)
    refine ret2_mark hs (.slice a (f ys).length c) (.int .i64 0) rfl rfl rfl hd ⟨a, c, by rw [hfy], hE.grown hg hE.size (fun k e => by cases e; omega), ?_⟩
    rw [hfy] at hS2
    exact SH.one (SH.front 1 hS2)

theorem c_40 (n : Nat) (amounts_0 : List Int) (a0' : Option Addr) (c0' : Nat) (w : World) {r : List SChange × Int} (hm : m_impl_changesOf n amounts_0 = some r) (h0 : Rd fInt.ty w a0' amounts_0) (_hle0 : amounts_0.length ≤ c0') :
    CallV Tryd.prog 40 #[.slice a0' amounts_0.length c0'] w (fun v w' => ∃ (ra0 : Option Addr) (rc0 : Nat), v = .tuple #[.slice ra0 r.1.length rc0, .int .i64 r.2] ∧ Ext w w' ∧ SH w' w.heap.size [aOwn fChange 25 ra0 rc0 r.1]) := by
  unfold m_impl_changesOf at hm
  refine CallV.enter Tryd.func40 rfl (by kernel_rfl) Tryd.ntmps40 (env := [(0, .slice a0' amounts_0.length c0')]) ⟨rfl, trivial⟩ ?_
  refine WP.seq (fun K1 hK1 => ?_)
  refine WP.region ?_
  refine WL.runk 2 [0] [(0, .slice a0' amounts_0.length c0')] (by kernel_rfl) ?_
  refine WL.nil ?_
  refine WQ.then_normal (hK1 _ _ _ ?_)
  refine WP.seq (fun K2 hK2 => ?_)
  refine WP.region ?_
  refine WL.row fChange 25 ([] : List SChange) 0 #[] 7 (by kernel_rfl) rfl rfl rfl rfl rfl rfl rfl ?_
  intro a3 c4 w5 hE6 hR7
  have hb9 : Ext w w5 := Ext.trans (Ext.refl w) hE6
  have hL10 : w.heap.size ≤ w5.heap.size := Nat.le_trans (Nat.le_refl _) hE6.size
  have hS11 : SH w5 w.heap.size [aOwn fChange 25 a3 c4 ([] : List SChange)] := SH.add (SH.nil _ _) hE6 (Nat.le_refl _) hR7
  refine WL.runk 1 [0, 4] [(0, .slice a0' amounts_0.length c0'), (4, .slice a3 (([] : List SChange).length) c4)] (by kernel_rfl) ?_
  refine WL.nil ?_
  refine WQ.then_normal (hK2 _ _ _ ?_)
  refine WP.seq (fun K12 hK12 => ?_)
  refine WP.seq (fun K13 hK13 => ?_)
  refine WP.region ?_
  refine WL.runk 3 [4, 8, 9, 10] [(4, .slice a3 (([] : List SChange).length) c4), (8, .slice a0' amounts_0.length c0'), (9, .int .i64 (amounts_0.length : Int)), (10, .int .i64 0)] (by kernel_rfl) ?_
  refine WL.nil ?_
  refine WQ.then_normal (hK13 _ _ _ ?_)
  refine WP.block ?_
  obtain ⟨t28, ht29, hm⟩ := bindE hm
  have hmo23 := hm; clear hm
  refine WP.sub [(4, .slice a3 (([] : List SChange).length) c4), (8, .slice a0' amounts_0.length c0'), (9, .int .i64 (amounts_0.length : Int)), (10, .int .i64 0)] ⟨rfl, rfl, rfl, rfl, trivial⟩ ?_
  refine WP.loop (fun n' env' w' => ∃ (st14 : List SChange × Int) (a15 : Option Addr) (c16 : Nat), env' = [(4, .slice a15 st14.1.length c16), (8, .slice a0' amounts_0.length c0'), (9, .int .i64 (amounts_0.length : Int)), (10, .int .i64 st14.2)] ∧ Ext w w' ∧ w.heap.size ≤ w'.heap.size ∧ SH w' w.heap.size [aOwn fChange 25 a15 c16 st14.1] ∧ loopN (m_impl_changesOf_l1 n amounts_0) n' st14 = some t28) n ⟨(([] : List SChange), 0), _, _, rfl, hb9, hL10, hS11, ht29⟩ ?_
  rintro n25 _ w18 ⟨st14, a15, c16, rfl, hb19, hL20, hS21, hl22⟩ K24 hK24
  obtain ⟨n26, s27, rfl, hm, hl22⟩ := loopN_some hl22
  unfold m_impl_changesOf_l1 at hm
  refine WP.seq (fun K30 hK30 => ?_)
  refine WP.region ?_
  refine WL.runk 1 [4, 8, 9, 10, 11] [(4, .slice a15 st14.1.length c16), (8, .slice a0' amounts_0.length c0'), (9, .int .i64 (amounts_0.length : Int)), (10, .int .i64 st14.2), (11, .bool (decide (st14.2 < (amounts_0.length : Int))))] (by kernel_rfl) ?_
  refine WL.nil ?_
  refine WQ.then_normal (hK30 _ _ _ ?_)
  refine WP.seq (fun K31 hK31 => ?_)
  refine WP.cond (decide (st14.2 < (amounts_0.length : Int))) rfl rfl (fun hc32 => ?_) (fun hc32 => ?_)
  rotate_left
  · have hm := iteF hm hc32
    refine WP.exit ?_
    refine WQ.then_exit ?_
    refine WQ.then_exit ?_
    refine WQ.block_here ?_
    obtain rfl := Option.some.inj hm
    obtain rfl := afterN_done hl22
    have hm := hmo23
    refine WQ.then_normal (hK12 _ _ _ ?_)
    refine WP.seq (fun K84 hK84 => ?_)
    refine WP.seq (fun K85 hK85 => ?_)
    refine WP.region ?_
    refine WL.runk 1 [4, 25] [(4, .slice a15 st14.1.length c16), (25, .slice a15 st14.1.length c16)] (by kernel_rfl) ?_
    obtain ⟨x86, hx87, hm⟩ := bindE hm
    refine WL.call 37 #[.slice a15 st14.1.length c16] rfl rfl (by kernel_rfl) (c_37 n st14.1 a15 c16 w18 hx87 (SH.rd (SH.front 0 hS21)) (SH.le (SH.front 0 hS21)).1) ?_
    rintro _ w88 ⟨rfl, hE89⟩
    refine ⟨_, rfl, ?_⟩
    have hb91 : Ext w w88 := Ext.trans hb19 hE89
    have hL92 : w.heap.size ≤ w88.heap.size := Nat.le_trans hL20 hE89.size
    have hS93 : SH w88 w.heap.size [aOwn fChange 25 a15 c16 st14.1] := SH.ext hS21 hE89
    refine WL.runk 1 [4, 27] [(4, .slice a15 st14.1.length c16), (27, .bool (!x86))] (by kernel_rfl) ?_
    refine WL.nil ?_
    refine WQ.then_normal (hK85 _ _ _ ?_)
    refine WP.cond (!x86) rfl rfl (fun hc94 => ?_) (fun hc94 => ?_)
    · have hm := iteT hm hc94
      refine WP.seq (fun K95 hK95 => ?_)
      refine WP.region ?_
      refine WL.runk 2 [2, 3] [(2, .slice none 0 0), (3, .int .i64 5)] (by kernel_rfl) ?_
      refine WL.nil ?_
      refine WQ.then_normal (hK95 _ _ _ ?_)
      refine WP.ret ?_
      refine WQ.then_ret ?_
      obtain rfl := Option.some.inj hm
      have hS97 : SH w88 w.heap.size [aOwn fChange 25 none 0 ([] : List SChange), aOwn fChange 25 a15 c16 st14.1] := SH.nilOwn hS93
      exact WQ.ret2 _ _ rfl rfl rfl ⟨_, _, rfl, hb91, (SH.take 1 hS97)⟩
    have hm := iteF hm hc94
    refine WP.skip ?_
    refine WQ.then_normal (hK84 _ _ _ ?_)
    refine WP.seq (fun K98 hK98 => ?_)
    refine WP.region ?_
    refine WL.runk 3 [2, 3] [(2, .slice a15 st14.1.length c16), (3, .int .i64 0)] (by kernel_rfl) ?_
    refine WL.nil ?_
    refine WQ.then_normal (hK98 _ _ _ ?_)
    refine WP.ret ?_
    obtain rfl := Option.some.inj hm
    exact WQ.ret2 _ _ rfl rfl rfl ⟨_, _, rfl, hb91, hS93⟩
  have hm := iteT hm hc32
  refine WP.skip ?_
  refine WQ.then_normal (hK31 _ _ _ ?_)
  refine WP.seq (fun K33 hK33 => ?_)
  refine WP.block ?_
  refine WP.seq (fun K34 hK34 => ?_)
  refine WP.region ?_
  refine WL.runk 1 [4, 8, 9, 10, 12] [(4, .slice a15 st14.1.length c16), (8, .slice a0' amounts_0.length c0'), (9, .int .i64 (amounts_0.length : Int)), (10, .int .i64 st14.2), (12, .int .i64 st14.2)] (by kernel_rfl) ?_
  obtain ⟨x35, hx36, hm⟩ := bindE hm
  refine WL.st (.pointer (some (at_ a0' (Int.toNat st14.2 * 1)))) (ST.index (T := fInt.ty) (xs := amounts_0) (Rd.below h0 hb19) hx36 rfl rfl rfl Tryd.underlying71 (info2).1 (info2).2.1) rfl rfl rfl ?_
  refine WL.st (.int .i64 x35) (ST.load (cell_ext (Rd.flat (F := fInt) (Rd.below h0 hb19) hx36 0 rfl)) rfl rfl Tryd.underlying2 rfl) rfl rfl rfl ?_
  refine WL.runk 2 [4, 5, 6, 8, 9, 10] [(4, .slice a15 st14.1.length c16), (8, .slice a0' amounts_0.length c0'), (9, .int .i64 (amounts_0.length : Int)), (10, .int .i64 st14.2), (5, .int .i64 st14.2), (6, .int .i64 x35)] (by kernel_rfl) ?_
  refine WL.nil ?_
  refine WQ.then_normal (hK34 _ _ _ ?_)
  refine WP.seq (fun K37 hK37 => ?_)
  refine WP.region ?_
  refine WL.runk 2 [4, 5, 6, 8, 9, 10, 16] [(4, .slice a15 st14.1.length c16), (8, .slice a0' amounts_0.length c0'), (9, .int .i64 (amounts_0.length : Int)), (10, .int .i64 st14.2), (5, .int .i64 st14.2), (6, .int .i64 x35), (16, .bool (x35 != 0))] (by kernel_rfl) ?_
  refine WL.nil ?_
  refine WQ.then_normal (hK37 _ _ _ ?_)
  obtain ⟨x57, hx58, hm⟩ := bindE hm
  refine WP.cut (fun env' w' => ∃ (a59 : Option Addr) (c60 : Nat), env' = [(4, .slice a59 x57.length c60), (8, .slice a0' amounts_0.length c0'), (9, .int .i64 (amounts_0.length : Int)), (10, .int .i64 st14.2)] ∧ Ext w w' ∧ w.heap.size ≤ w'.heap.size ∧ SH w' w.heap.size [aOwn fChange 25 a59 c60 x57]) ?_ ?_
  rotate_left
  · clear hx58
    rintro _ w80 ⟨a59, c60, rfl, hb81, hL82, hS83⟩
    refine WQ.block_normal ?_
    refine WQ.then_normal (hK33 _ _ _ ?_)
    refine WP.region ?_
    refine WL.runk 2 [4, 8, 9, 10] [(4, .slice a59 x57.length c60), (8, .slice a0' amounts_0.length c0'), (9, .int .i64 (amounts_0.length : Int)), (10, .int .i64 (wI64 (st14.2 + 1)))] (by kernel_rfl) ?_
    refine WL.nil ?_
    obtain rfl := Option.some.inj hm
    exact WQ.round hK24 ⟨(x57, (wI64 (st14.2 + 1))), _, _, rfl, hb81, hL82, hS83, hl22⟩ (Nat.lt_succ_self _) ⟨rfl, rfl, rfl, rfl, trivial⟩
  have hm := hx58; clear hx58
  refine WP.cond (x35 != 0) rfl rfl (fun hc38 => ?_) (fun hc38 => ?_)
  rotate_left
  · have hm := iteF hm hc38
    refine WP.skip ?_
    obtain rfl := Option.some.inj hm
    exact WQ.post' ⟨_, _, rfl, hb19, hL20, hS21⟩ ⟨rfl, rfl, rfl, rfl, trivial⟩
  have hm := iteT hm hc38
  refine WP.region ?_
  refine WL.runk 5 [8, 9, 10, 17, 21] [(8, .slice a0' amounts_0.length c0'), (9, .int .i64 (amounts_0.length : Int)), (10, .int .i64 st14.2), (17, .slice a15 st14.1.length c16), (21, .agg #[.int .i64 (wI64 (st14.2 + 1)), .int .i64 x35])] (by kernel_rfl) ?_
  refine WL.row fChange 25 ([(SChange.mk (wI64 (st14.2 + 1)) x35)] : List SChange) 1 #[.int .i64 (wI64 (st14.2 + 1)), .int .i64 x35] 22 (by kernel_rfl) rfl rfl rfl rfl rfl rfl rfl ?_
  intro a62 c63 w64 hE65 hR66
  have hb68 : Ext w w64 := Ext.trans hb19 hE65
  have hL69 : w.heap.size ≤ w64.heap.size := Nat.le_trans hL20 hE65.size
  have hS70 : SH w64 w.heap.size [aOwn fChange 25 a62 c63 ([(SChange.mk (wI64 (st14.2 + 1)) x35)] : List SChange), aOwn fChange 25 a15 c16 st14.1] := SH.add hS21 hE65 hL20 hR66
  obtain ⟨x71, hx72, hm⟩ := bindE hm
  refine WL.append (F := fChange) (xs := st14.1) (ys := ([(SChange.mk (wI64 (st14.2 + 1)) x35)] : List SChange)) 23 (SH.front 1 hS70) hL69 (SH.rd (SH.front 0 hS70)) hx72 rfl rfl rfl Tryd.underlying37 (info25).1 (info25).2.2.1 (info25).2.1 (info25).2.2.2 rfl rfl rfl rfl rfl ?_
  intro a73 c74 w75 hB76 hS77
  have hb78 : Ext w w75 := Below.trans hb68 hB76
  have hL79 : w.heap.size ≤ w75.heap.size := Nat.le_trans hL69 hB76.size
  refine WL.runk 1 [4, 8, 9, 10] [(8, .slice a0' amounts_0.length c0'), (9, .int .i64 (amounts_0.length : Int)), (10, .int .i64 st14.2), (4, .slice a73 x71.length c74)] (by kernel_rfl) ?_
  refine WL.nil ?_
  obtain rfl := Option.some.inj hm
  exact WQ.post' ⟨_, _, rfl, hb78, hL79, (SH.take 1 hS77)⟩ ⟨rfl, rfl, rfl, rfl, trivial⟩

theorem c_17 (n : Nat) (list_0 : List SChange) (a0' : Option Addr) (c0' : Nat) (w : World) {r : List SChange × Int} (hm : m_impl_MergeChanges n list_0 = some r) (h0 : Rd fChange.ty w a0' list_0) (hle0 : list_0.length ≤ c0') :
    CallV Tryd.prog 17 #[.slice a0' list_0.length c0'] w (fun v w' => ∃ (ra0 : Option Addr) (rc0 : Nat), v = .tuple #[.slice ra0 r.1.length rc0, .int .i64 r.2] ∧ Ext w w' ∧ SH w' w.heap.size [aOwn fChange 25 ra0 rc0 r.1]) := by
  unfold m_impl_MergeChanges at hm
  refine CallV.enter Tryd.func17 rfl (by kernel_rfl) Tryd.ntmps17 (env := [(0, .slice a0' list_0.length c0')]) ⟨rfl, trivial⟩ ?_
  refine WP.seq (fun K1 hK1 => ?_)
  refine WP.region ?_
  refine WL.runk 2 [0] [(0, .slice a0' list_0.length c0')] (by kernel_rfl) ?_
  refine WL.nil ?_
  refine WQ.then_normal (hK1 _ _ _ ?_)
  refine WP.seq (fun K2 hK2 => ?_)
  refine WP.seq (fun K3 hK3 => ?_)
  refine WP.region ?_
  refine WL.runk 1 [0, 7] [(0, .slice a0' list_0.length c0'), (7, .slice a0' list_0.length c0')] (by kernel_rfl) ?_
  obtain ⟨x4, hx5, hm⟩ := bindE hm
  refine WL.call 37 #[.slice a0' list_0.length c0'] rfl rfl (by kernel_rfl) (c_37 n list_0 a0' c0' w hx5 (Rd.below h0 (Ext.refl w)) hle0) ?_
  rintro _ w6 ⟨rfl, hE7⟩
  refine ⟨_, rfl, ?_⟩
  have hb9 : Ext w w6 := Ext.trans (Ext.refl w) hE7
  have hL10 : w.heap.size ≤ w6.heap.size := Nat.le_trans (Nat.le_refl _) hE7.size
  have hS11 : SH w6 w.heap.size [] := SH.ext (SH.nil _ _) hE7
  refine WL.runk 1 [0, 9] [(0, .slice a0' list_0.length c0'), (9, .bool (!x4))] (by kernel_rfl) ?_
  refine WL.nil ?_
  refine WQ.then_normal (hK3 _ _ _ ?_)
  refine WP.cond (!x4) rfl rfl (fun hc12 => ?_) (fun hc12 => ?_)
  · have hm := iteT hm hc12
    refine WP.seq (fun K13 hK13 => ?_)
    refine WP.region ?_
    refine WL.runk 2 [2, 3] [(2, .slice none 0 0), (3, .int .i64 1)] (by kernel_rfl) ?_
    refine WL.nil ?_
    refine WQ.then_normal (hK13 _ _ _ ?_)
    refine WP.ret ?_
    refine WQ.then_ret ?_
    obtain rfl := Option.some.inj hm
    have hS15 : SH w6 w.heap.size [aOwn fChange 25 none 0 ([] : List SChange)] := SH.nilOwn hS11
    exact WQ.ret2 _ _ rfl rfl rfl ⟨_, _, rfl, hb9, hS15⟩
  have hm := iteF hm hc12
  refine WP.skip ?_
  refine WQ.then_normal (hK2 _ _ _ ?_)
  refine WP.seq (fun K16 hK16 => ?_)
  refine WP.region ?_
  obtain ⟨x17, hx18, hm⟩ := bindE hm
  refine WL.make fInt 10 hx18 rfl rfl rfl Tryd.underlying71 (info2).1 (info2).2.2.1 (info2).2.1 (info2).2.2.2 rfl rfl rfl rfl rfl ?_
  intro a19 c20 w21 hE22 hR23
  have hb25 : Ext w w21 := Ext.trans hb9 hE22
  have hL26 : w.heap.size ≤ w21.heap.size := Nat.le_trans hL10 hE22.size
  have hS27 : SH w21 w.heap.size [aOwn fInt 2 a19 c20 x17] := SH.add hS11 hE22 hL10 hR23
  refine WL.runk 1 [0, 4] [(0, .slice a0' list_0.length c0'), (4, .slice a19 x17.length c20)] (by kernel_rfl) ?_
  refine WL.nil ?_
  refine WQ.then_normal (hK16 _ _ _ ?_)
  refine WP.seq (fun K28 hK28 => ?_)
  refine WP.seq (fun K29 hK29 => ?_)
  refine WP.region ?_
  refine WL.runk 3 [4, 11, 12, 13] [(4, .slice a19 x17.length c20), (11, .slice a0' list_0.length c0'), (12, .int .i64 (list_0.length : Int)), (13, .int .i64 0)] (by kernel_rfl) ?_
  refine WL.nil ?_
  refine WQ.then_normal (hK29 _ _ _ ?_)
  refine WP.block ?_
  obtain ⟨t105, ht106, hm⟩ := bindE hm
  have hmo100 := hm; clear hm
  refine WP.sub [(4, .slice a19 x17.length c20), (11, .slice a0' list_0.length c0'), (12, .int .i64 (list_0.length : Int)), (13, .int .i64 0)] ⟨rfl, rfl, rfl, rfl, trivial⟩ ?_
  refine WP.loop (fun n' env' w' => ∃ (st94 : Int × List Int) , env' = [(4, .slice a19 st94.2.length c20), (11, .slice a0' list_0.length c0'), (12, .int .i64 (list_0.length : Int)), (13, .int .i64 st94.1)] ∧ Ext w w' ∧ w.heap.size ≤ w'.heap.size ∧ SH w' w.heap.size [aOwn fInt 2 a19 c20 st94.2] ∧ loopN (m_impl_MergeChanges_l1 n list_0) n' st94 = some t105) n ⟨(0, x17), rfl, hb25, hL26, hS27, ht106⟩ ?_
  rintro n102 _ w95 ⟨st94, rfl, hb96, hL97, hS98, hl99⟩ K101 hK101
  obtain ⟨n103, s104, rfl, hm, hl99⟩ := loopN_some hl99
  unfold m_impl_MergeChanges_l1 at hm
  refine WP.seq (fun K107 hK107 => ?_)
  refine WP.region ?_
  refine WL.runk 1 [4, 11, 12, 13, 14] [(4, .slice a19 st94.2.length c20), (11, .slice a0' list_0.length c0'), (12, .int .i64 (list_0.length : Int)), (13, .int .i64 st94.1), (14, .bool (decide (st94.1 < (list_0.length : Int))))] (by kernel_rfl) ?_
  refine WL.nil ?_
  refine WQ.then_normal (hK107 _ _ _ ?_)
  refine WP.seq (fun K108 hK108 => ?_)
  refine WP.cond (decide (st94.1 < (list_0.length : Int))) rfl rfl (fun hc109 => ?_) (fun hc109 => ?_)
  rotate_left
  · have hm := iteF hm hc109
    refine WP.exit ?_
    refine WQ.then_exit ?_
    refine WQ.then_exit ?_
    refine WQ.block_here ?_
    obtain rfl := Option.some.inj hm
    obtain rfl := afterN_done hl99
    have hm := hmo100
    refine WQ.then_normal (hK28 _ _ _ ?_)
    refine WP.seq (fun K146 hK146 => ?_)
    refine WP.region ?_
    refine WL.runk 1 [28] [(28, .slice a19 st94.2.length c20)] (by kernel_rfl) ?_
    obtain ⟨x147, hx148, hm⟩ := bindE hm
    refine WL.call 40 #[.slice a19 st94.2.length c20] rfl rfl (by kernel_rfl) (c_40 n st94.2 a19 c20 w95 hx148 (SH.rd (SH.front 0 hS98)) (SH.le (SH.front 0 hS98)).1) ?_
    rintro _ w152 ⟨a149, c150, rfl, hE153, hR154⟩
    refine ⟨_, rfl, ?_⟩
    have hb155 : Ext w w152 := Ext.trans hb96 hE153
    have hL156 : w.heap.size ≤ w152.heap.size := Nat.le_trans hL97 hE153.size
    have hS157 : SH w152 w.heap.size [aOwn fChange 25 a149 c150 x147.1, aOwn fInt 2 a19 c20 st94.2] := SH.add hS98 hE153 hL97 hR154
    refine WL.runk 4 [2, 3] [(2, .slice a149 x147.1.length c150), (3, .int .i64 x147.2)] (by kernel_rfl) ?_
    refine WL.nil ?_
    refine WQ.then_normal (hK146 _ _ _ ?_)
    refine WP.ret ?_
    obtain rfl := Option.some.inj hm
    exact WQ.ret2 _ _ rfl rfl rfl ⟨_, _, rfl, hb155, (SH.take 1 hS157)⟩
  have hm := iteT hm hc109
  refine WP.skip ?_
  refine WQ.then_normal (hK108 _ _ _ ?_)
  refine WP.seq (fun K110 hK110 => ?_)
  refine WP.block ?_
  refine WP.seq (fun K111 hK111 => ?_)
  refine WP.region ?_
  obtain ⟨x112, hx113, hm⟩ := bindE hm
  refine WL.st (.pointer (some (at_ a0' (Int.toNat st94.1 * 2)))) (ST.index (T := fChange.ty) (xs := list_0) (Rd.below h0 hb96) hx113 rfl rfl rfl Tryd.underlying37 (info25).1 (info25).2.1) rfl rfl rfl ?_
  refine WL.st (.agg #[.int .i64 x112.Kind, .int .i64 x112.Amount]) (ST.loadAgg (vs := fChange.leaf x112) (fun j v hv => Rd.flatA (F := fChange) (Rd.below h0 hb96) hx113 j hv) rfl rfl rfl Tryd.underlying25 rfl (info25).1 (info25).2.1) rfl rfl rfl ?_
  refine WL.box 25 [.int .i64 0, .int .i64 0] 6 (by kernel_rfl) rfl rfl rfl rfl ?_
  intro b114 w115 hE116 hR117
  have hb119 : Ext w w115 := Ext.trans hb96 hE116
  have hL120 : w.heap.size ≤ w115.heap.size := Nat.le_trans hL97 hE116.size
  have hS121 : SH w115 w.heap.size [aBox 25 b114 [.int .i64 0, .int .i64 0], aOwn fInt 2 a19 c20 st94.2] := SH.add hS98 hE116 hL97 hR117
  refine WL.boxStore 0 [.int .i64 x112.Kind, .int .i64 x112.Amount] [.int .i64 x112.Kind, .int .i64 x112.Amount] (SH.front 0 hS121) hL120 rfl rfl rfl rfl rfl rfl rfl (info25).1 (info25).2.1 rfl rfl rfl ?_
  intro w122 hB123 hS124
  have hb125 : Ext w w122 := Below.trans hb119 hB123
  have hL126 : w.heap.size ≤ w122.heap.size := Nat.le_trans hL120 hB123.size
  refine WL.sub [(4, .slice a19 st94.2.length c20), (11, .slice a0' list_0.length c0'), (12, .int .i64 (list_0.length : Int)), (13, .int .i64 st94.1), (6, .pointer (some ⟨b114, 0, none⟩))] ⟨rfl, rfl, rfl, rfl, rfl, trivial⟩ ?_
  refine WL.nil ?_
  refine WQ.then_normal (hK111 _ _ _ ?_)
  refine WP.open (n := 11) (by kernel_rfl) rfl (fun w127 hE128 => ?_)
  have hb129 : Ext w w127 := Ext.trans hb125 hE128
  have hL130 : w.heap.size ≤ w127.heap.size := Nat.le_trans hL126 hE128.size
  have hS131 : SH w127 w.heap.size [aBox 25 b114 [.int .i64 x112.Kind, .int .i64 x112.Amount], aOwn fInt 2 a19 c20 st94.2] := SH.ext hS124 hE128
  refine WA.quiet (f' := 1) (D' := [0, 1, 2, 3, 4, 5, 6, 7, 8, 9]) [0, 1, 2, 3, 4, 5, 6, 7, 8, 9] rfl rfl (by kernel_rfl) ?_
  refine QL.step1v 17 (.slice a19 st94.2.length c20) rfl (fun _ => by kernel_rfl) ?_
  refine QL.step1v 18 (.pointer (some ⟨b114, 0, none⟩)) rfl (fun _ => by kernel_rfl) ?_
  refine QL.subk [4, 11, 12, 13, 6, 17, 18] [(4, .slice a19 st94.2.length c20), (11, .slice a0' list_0.length c0'), (12, .int .i64 (list_0.length : Int)), (13, .int .i64 st94.1), (6, .pointer (some ⟨b114, 0, none⟩)), (17, .slice a19 st94.2.length c20), (18, .pointer (some ⟨b114, 0, none⟩))] (by kernel_rfl) ?_
  refine QL.st (.int .i64 x112.Kind) (ST.load (cell_ext (SH.boxAt (SH.front 0 hS131) 0 _ rfl)) rfl rfl Tryd.underlying2 rfl) rfl rfl rfl ?_
  refine QL.step1v 20 (.int .i64 (wI64 (x112.Kind - 1))) rfl (fun _ => by kernel_rfl) ?_
  refine QL.subk [4, 11, 12, 13, 6, 17, 20] [(4, .slice a19 st94.2.length c20), (11, .slice a0' list_0.length c0'), (12, .int .i64 (list_0.length : Int)), (13, .int .i64 st94.1), (6, .pointer (some ⟨b114, 0, none⟩)), (17, .slice a19 st94.2.length c20), (20, .int .i64 (wI64 (x112.Kind - 1)))] (by kernel_rfl) ?_
  obtain ⟨x132, hx133, hm⟩ := bindE hm
  refine QL.st (.pointer (some (at_ a19 (Int.toNat (wI64 (x112.Kind - 1)) * 1)))) (ST.index (T := fInt.ty) (xs := st94.2) (SH.rd (SH.front 1 hS131)) hx133 rfl rfl rfl Tryd.underlying71 (info2).1 (info2).2.1) rfl rfl rfl ?_
  refine QL.st (.int .i64 x132) (ST.load (cell_ext (Rd.flat (F := fInt) (SH.rd (SH.front 1 hS131)) hx133 0 rfl)) rfl rfl Tryd.underlying2 rfl) rfl rfl rfl ?_
  refine QL.step1v 23 (.pointer (some ⟨b114, 1, none⟩)) rfl (fun _ => by kernel_rfl) ?_
  refine QL.subk [4, 11, 12, 13, 17, 20, 22, 23] [(4, .slice a19 st94.2.length c20), (11, .slice a0' list_0.length c0'), (12, .int .i64 (list_0.length : Int)), (13, .int .i64 st94.1), (17, .slice a19 st94.2.length c20), (20, .int .i64 (wI64 (x112.Kind - 1))), (22, .int .i64 x132), (23, .pointer (some ⟨b114, 1, none⟩))] (by kernel_rfl) ?_
  refine QL.st (.int .i64 x112.Amount) (ST.load (cell_ext (SH.boxAt (SH.front 0 hS131) 1 _ rfl)) rfl rfl Tryd.underlying2 rfl) rfl rfl rfl ?_
  refine QL.step1v 25 (.int .i64 (wI64 (x132 + x112.Amount))) rfl (fun _ => by kernel_rfl) ?_
  refine QL.subk [4, 11, 12, 13, 17, 20, 25] [(4, .slice a19 st94.2.length c20), (11, .slice a0' list_0.length c0'), (12, .int .i64 (list_0.length : Int)), (13, .int .i64 st94.1), (17, .slice a19 st94.2.length c20), (20, .int .i64 (wI64 (x112.Kind - 1))), (25, .int .i64 (wI64 (x132 + x112.Amount)))] (by kernel_rfl) ?_
  obtain ⟨x134, hx135, hm⟩ := bindE hm
  refine QL.st (.pointer (some (at_ a19 (Int.toNat (wI64 (x112.Kind - 1)) * 1)))) (ST.index (T := fInt.ty) (xs := st94.2) (SH.rd (SH.front 1 hS131)) hx135 rfl rfl rfl Tryd.underlying71 (info2).1 (info2).2.1) rfl rfl rfl ?_
  refine QL.subk [4, 11, 12, 13, 25, 26] [(4, .slice a19 st94.2.length c20), (11, .slice a0' list_0.length c0'), (12, .int .i64 (list_0.length : Int)), (13, .int .i64 st94.1), (25, .int .i64 (wI64 (x132 + x112.Amount))), (26, .pointer (some (at_ a19 (Int.toNat (wI64 (x112.Kind - 1)) * 1))))] (by kernel_rfl) ?_
  refine QL.nil ?_
  intro w136 hE137
  have hb138 : Ext w w136 := Ext.trans hb129 hE137
  have hL139 : w.heap.size ≤ w136.heap.size := Nat.le_trans hL130 hE137.size
  have hS140 : SH w136 w.heap.size [aBox 25 b114 [.int .i64 x112.Kind, .int .i64 x112.Amount], aOwn fInt 2 a19 c20 st94.2] := SH.ext hS131 hE137
  refine WA.one (i := 10) (D' := [0, 1, 2, 3, 4, 5, 6, 7, 8, 9, 10]) rfl rfl (by kernel_rfl) ?_
  refine WL.store (F := fInt) (wI64 (x132 + x112.Amount)) 0 [.int .i64 (wI64 (x132 + x112.Amount))] (SH.front 1 hS140) hL139 hx135 rfl rfl rfl rfl rfl rfl rfl (info2).1 (info2).2.1 rfl rfl rfl ?_
  intro w141 hB142 hS143
  have hb144 : Ext w w141 := Below.trans hb138 hB142
  have hL145 : w.heap.size ≤ w141.heap.size := Nat.le_trans hL139 hB142.size
  refine WL.sub [(4, .slice a19 ((st94.2.set (Int.toNat (wI64 (x112.Kind - 1))) (wI64 (x132 + x112.Amount))).length) c20), (11, .slice a0' list_0.length c0'), (12, .int .i64 (list_0.length : Int)), (13, .int .i64 st94.1), (25, .int .i64 (wI64 (x132 + x112.Amount)))] ⟨by first | (simp only [List.length_set]; done) | (simp only [List.length_set]; rfl), rfl, rfl, rfl, rfl, trivial⟩ ?_
  refine WL.sub [(4, .slice a19 ((st94.2.set (Int.toNat (wI64 (x112.Kind - 1))) (wI64 (x132 + x112.Amount))).length) c20), (11, .slice a0' list_0.length c0'), (12, .int .i64 (list_0.length : Int)), (13, .int .i64 st94.1)] ⟨rfl, rfl, rfl, rfl, trivial⟩ ?_
  refine WL.nil ?_
  refine WA.done (by kernel_rfl) ?_
  refine WQ.block_normal ?_
  refine WQ.then_normal (hK110 _ _ _ ?_)
  refine WP.region ?_
  refine WL.runk 2 [4, 11, 12, 13] [(4, .slice a19 ((st94.2.set (Int.toNat (wI64 (x112.Kind - 1))) (wI64 (x132 + x112.Amount))).length) c20), (11, .slice a0' list_0.length c0'), (12, .int .i64 (list_0.length : Int)), (13, .int .i64 (wI64 (st94.1 + 1)))] (by kernel_rfl) ?_
  refine WL.nil ?_
  obtain rfl := Option.some.inj hm
  exact WQ.round hK101 ⟨((wI64 (st94.1 + 1)), (st94.2.set (Int.toNat (wI64 (x112.Kind - 1))) (wI64 (x132 + x112.Amount)))), rfl, hb144, hL145, (SH.take 1 hS143), hl99⟩ (Nat.lt_succ_self _) ⟨rfl, rfl, rfl, rfl, trivial⟩

theorem c_18 (n : Nat) (a_0 : SLast) (b_1 : SLast) (w : World) {r : List SChange × Int} (hm : m_impl_ChangesBetween n a_0 b_1 = some r)  :
    CallV Tryd.prog 18 #[.agg #[.string (bs a_0.Name), .int .i64 a_0.Length, .int .i64 a_0.Ball, .int .i64 a_0.Instep, .int .i64 a_0.Heel, .int .i64 a_0.Pitch], .agg #[.string (bs b_1.Name), .int .i64 b_1.Length, .int .i64 b_1.Ball, .int .i64 b_1.Instep, .int .i64 b_1.Heel, .int .i64 b_1.Pitch]] w (fun v w' => ∃ (ra0 : Option Addr) (rc0 : Nat), v = .tuple #[.slice ra0 r.1.length rc0, .int .i64 r.2] ∧ Ext w w' ∧ SH w' w.heap.size [aOwn fChange 25 ra0 rc0 r.1]) := by
  unfold m_impl_ChangesBetween at hm
  refine CallV.enter Tryd.func18 rfl (by kernel_rfl) Tryd.ntmps18 (env := [(0, .agg #[.string (bs a_0.Name), .int .i64 a_0.Length, .int .i64 a_0.Ball, .int .i64 a_0.Instep, .int .i64 a_0.Heel, .int .i64 a_0.Pitch]), (1, .agg #[.string (bs b_1.Name), .int .i64 b_1.Length, .int .i64 b_1.Ball, .int .i64 b_1.Instep, .int .i64 b_1.Heel, .int .i64 b_1.Pitch])]) ⟨rfl, rfl, trivial⟩ ?_
  refine WP.seq (fun K1 hK1 => ?_)
  refine WP.region ?_
  refine WL.box 35 [.string (bs a_0.Name), .int .i64 a_0.Length, .int .i64 a_0.Ball, .int .i64 a_0.Instep, .int .i64 a_0.Heel, .int .i64 a_0.Pitch] 2 (by kernel_rfl) rfl rfl rfl rfl ?_
  intro b2 w3 hE4 hR5
  have hb7 : Ext w w3 := Ext.trans (Ext.refl w) hE4
  have hL8 : w.heap.size ≤ w3.heap.size := Nat.le_trans (Nat.le_refl _) hE4.size
  have hS9 : SH w3 w.heap.size [aBox 35 b2 [.string (bs a_0.Name), .int .i64 a_0.Length, .int .i64 a_0.Ball, .int .i64 a_0.Instep, .int .i64 a_0.Heel, .int .i64 a_0.Pitch]] := SH.add (SH.nil _ _) hE4 (Nat.le_refl _) hR5
  refine WL.box 35 [.string (bs b_1.Name), .int .i64 b_1.Length, .int .i64 b_1.Ball, .int .i64 b_1.Instep, .int .i64 b_1.Heel, .int .i64 b_1.Pitch] 3 (by kernel_rfl) rfl rfl rfl rfl ?_
  intro b10 w11 hE12 hR13
  have hb15 : Ext w w11 := Ext.trans hb7 hE12
  have hL16 : w.heap.size ≤ w11.heap.size := Nat.le_trans hL8 hE12.size
  have hS17 : SH w11 w.heap.size [aBox 35 b10 [.string (bs b_1.Name), .int .i64 b_1.Length, .int .i64 b_1.Ball, .int .i64 b_1.Instep, .int .i64 b_1.Heel, .int .i64 b_1.Pitch], aBox 35 b2 [.string (bs a_0.Name), .int .i64 a_0.Length, .int .i64 a_0.Ball, .int .i64 a_0.Instep, .int .i64 a_0.Heel, .int .i64 a_0.Pitch]] := SH.add hS9 hE12 hL8 hR13
  refine WL.runk 2 [2, 3] [(2, .pointer (some ⟨b2, 0, none⟩)), (3, .pointer (some ⟨b10, 0, none⟩))] (by kernel_rfl) ?_
  refine WL.nil ?_
  refine WQ.then_normal (hK1 _ _ _ ?_)
  refine WP.seq (fun K18 hK18 => ?_)
  refine WP.seq (fun K19 hK19 => ?_)
  obtain ⟨x37, hx38, hm⟩ := bindE hm
  refine WP.cut (fun env' w' => env' = [(2, .pointer (some ⟨b2, 0, none⟩)), (3, .pointer (some ⟨b10, 0, none⟩)), (16, .bool x37)] ∧ Ext w w' ∧ w.heap.size ≤ w'.heap.size ∧ SH w' w.heap.size [aBox 35 b10 [.string (bs b_1.Name), .int .i64 b_1.Length, .int .i64 b_1.Ball, .int .i64 b_1.Instep, .int .i64 b_1.Heel, .int .i64 b_1.Pitch], aBox 35 b2 [.string (bs a_0.Name), .int .i64 a_0.Length, .int .i64 a_0.Ball, .int .i64 a_0.Instep, .int .i64 a_0.Heel, .int .i64 a_0.Pitch]]) ?_ ?_
  · have hm := hx38; clear hx38
    refine WP.region ?_
    refine WL.st (.agg #[.string (bs a_0.Name), .int .i64 a_0.Length, .int .i64 a_0.Ball, .int .i64 a_0.Instep, .int .i64 a_0.Heel, .int .i64 a_0.Pitch]) (ST.loadAgg (vs := [.string (bs a_0.Name), .int .i64 a_0.Length, .int .i64 a_0.Ball, .int .i64 a_0.Instep, .int .i64 a_0.Heel, .int .i64 a_0.Pitch]) (fun j v hv => SH.boxPart (us := [.string (bs a_0.Name), .int .i64 a_0.Length, .int .i64 a_0.Ball, .int .i64 a_0.Instep, .int .i64 a_0.Heel, .int .i64 a_0.Pitch]) (SH.front 1 hS17) 0 rfl j v hv) rfl rfl rfl Tryd.underlying35 rfl (info35).1 (info35).2.1) rfl rfl rfl ?_
    obtain ⟨x39, hx40, hm⟩ := bindE hm
    refine WL.call 36 #[.agg #[.string (bs a_0.Name), .int .i64 a_0.Length, .int .i64 a_0.Ball, .int .i64 a_0.Instep, .int .i64 a_0.Heel, .int .i64 a_0.Pitch]] rfl rfl (by kernel_rfl) (c_36 n a_0 w11 hx40 ) ?_
    rintro _ w41 ⟨rfl, hE42⟩
    refine ⟨_, rfl, ?_⟩
    have hb44 : Ext w w41 := Ext.trans hb15 hE42
    have hL45 : w.heap.size ≤ w41.heap.size := Nat.le_trans hL16 hE42.size
    have hS46 : SH w41 w.heap.size [aBox 35 b10 [.string (bs b_1.Name), .int .i64 b_1.Length, .int .i64 b_1.Ball, .int .i64 b_1.Instep, .int .i64 b_1.Heel, .int .i64 b_1.Pitch], aBox 35 b2 [.string (bs a_0.Name), .int .i64 a_0.Length, .int .i64 a_0.Ball, .int .i64 a_0.Instep, .int .i64 a_0.Heel, .int .i64 a_0.Pitch]] := SH.ext hS17 hE42
    refine WL.runk 2 [2, 3, 12] [(2, .pointer (some ⟨b2, 0, none⟩)), (3, .pointer (some ⟨b10, 0, none⟩)), (12, .bool (!x39))] (by kernel_rfl) ?_
    refine WL.case (!x39) [12] ⟨rfl, trivial⟩ (fun hc47 => ?_) (fun hc47 => ?_)
    · have hm := iteT hm hc47
      refine WL.runk 4 [2, 3, 16] [(2, .pointer (some ⟨b2, 0, none⟩)), (3, .pointer (some ⟨b10, 0, none⟩)), (16, .bool true)] (by kernel_rfl) ?_
      refine WL.nil ?_
      obtain rfl := Option.some.inj hm
      exact WQ.post' ⟨rfl, hb44, hL45, hS46⟩ ⟨rfl, rfl, rfl, trivial⟩
    have hm := iteF hm hc47
    refine WL.st (.agg #[.string (bs b_1.Name), .int .i64 b_1.Length, .int .i64 b_1.Ball, .int .i64 b_1.Instep, .int .i64 b_1.Heel, .int .i64 b_1.Pitch]) (ST.loadAgg (vs := [.string (bs b_1.Name), .int .i64 b_1.Length, .int .i64 b_1.Ball, .int .i64 b_1.Instep, .int .i64 b_1.Heel, .int .i64 b_1.Pitch]) (fun j v hv => SH.boxPart (us := [.string (bs b_1.Name), .int .i64 b_1.Length, .int .i64 b_1.Ball, .int .i64 b_1.Instep, .int .i64 b_1.Heel, .int .i64 b_1.Pitch]) (SH.front 0 hS46) 0 rfl j v hv) rfl rfl rfl Tryd.underlying35 rfl (info35).1 (info35).2.1) rfl rfl rfl ?_
    obtain ⟨x48, hx49, hm⟩ := bindE hm
    refine WL.call 36 #[.agg #[.string (bs b_1.Name), .int .i64 b_1.Length, .int .i64 b_1.Ball, .int .i64 b_1.Instep, .int .i64 b_1.Heel, .int .i64 b_1.Pitch]] rfl rfl (by kernel_rfl) (c_36 n b_1 w41 hx49 ) ?_
    rintro _ w50 ⟨rfl, hE51⟩
    refine ⟨_, rfl, ?_⟩
    have hb53 : Ext w w50 := Ext.trans hb44 hE51
    have hL54 : w.heap.size ≤ w50.heap.size := Nat.le_trans hL45 hE51.size
    have hS55 : SH w50 w.heap.size [aBox 35 b10 [.string (bs b_1.Name), .int .i64 b_1.Length, .int .i64 b_1.Ball, .int .i64 b_1.Instep, .int .i64 b_1.Heel, .int .i64 b_1.Pitch], aBox 35 b2 [.string (bs a_0.Name), .int .i64 a_0.Length, .int .i64 a_0.Ball, .int .i64 a_0.Instep, .int .i64 a_0.Heel, .int .i64 a_0.Pitch]] := SH.ext hS46 hE51
    refine WL.runk 2 [2, 3, 16] [(2, .pointer (some ⟨b2, 0, none⟩)), (3, .pointer (some ⟨b10, 0, none⟩)), (16, .bool (!x48))] (by kernel_rfl) ?_
    refine WL.nil ?_
    obtain rfl := Option.some.inj hm
    exact WQ.post' ⟨rfl, hb53, hL54, hS55⟩ ⟨rfl, rfl, rfl, trivial⟩
  clear hx38
  rintro _ w56 ⟨rfl, hb57, hL58, hS59⟩
  refine WQ.then_normal (hK19 _ _ _ ?_)
  refine WP.cond x37 rfl rfl (fun hc60 => ?_) (fun hc60 => ?_)
  · have hm := iteT hm hc60
    refine WP.seq (fun K61 hK61 => ?_)
    refine WP.region ?_
    refine WL.runk 2 [4, 5] [(4, .slice none 0 0), (5, .int .i64 1)] (by kernel_rfl) ?_
    refine WL.nil ?_
    refine WQ.then_normal (hK61 _ _ _ ?_)
    refine WP.ret ?_
    refine WQ.then_ret ?_
    obtain rfl := Option.some.inj hm
    have hS63 : SH w56 w.heap.size [aOwn fChange 25 none 0 ([] : List SChange), aBox 35 b10 [.string (bs b_1.Name), .int .i64 b_1.Length, .int .i64 b_1.Ball, .int .i64 b_1.Instep, .int .i64 b_1.Heel, .int .i64 b_1.Pitch], aBox 35 b2 [.string (bs a_0.Name), .int .i64 a_0.Length, .int .i64 a_0.Ball, .int .i64 a_0.Instep, .int .i64 a_0.Heel, .int .i64 a_0.Pitch]] := SH.nilOwn hS59
    exact WQ.ret2 _ _ rfl rfl rfl ⟨_, _, rfl, hb57, (SH.take 1 hS63)⟩
  have hm := iteF hm hc60
  refine WP.skip ?_
  refine WQ.then_normal (hK18 _ _ _ ?_)
  refine WP.seq (fun K64 hK64 => ?_)
  refine WP.region ?_
  refine WL.st (.agg #[.string (bs b_1.Name), .int .i64 b_1.Length, .int .i64 b_1.Ball, .int .i64 b_1.Instep, .int .i64 b_1.Heel, .int .i64 b_1.Pitch]) (ST.loadAgg (vs := [.string (bs b_1.Name), .int .i64 b_1.Length, .int .i64 b_1.Ball, .int .i64 b_1.Instep, .int .i64 b_1.Heel, .int .i64 b_1.Pitch]) (fun j v hv => SH.boxPart (us := [.string (bs b_1.Name), .int .i64 b_1.Length, .int .i64 b_1.Ball, .int .i64 b_1.Instep, .int .i64 b_1.Heel, .int .i64 b_1.Pitch]) (SH.front 0 hS59) 0 rfl j v hv) rfl rfl rfl Tryd.underlying35 rfl (info35).1 (info35).2.1) rfl rfl rfl ?_
  obtain ⟨x65, hx66, hm⟩ := bindE hm
  refine WL.call 41 #[.agg #[.string (bs b_1.Name), .int .i64 b_1.Length, .int .i64 b_1.Ball, .int .i64 b_1.Instep, .int .i64 b_1.Heel, .int .i64 b_1.Pitch]] rfl rfl (by kernel_rfl) (c_41 n b_1 w56 hx66 ) ?_
  rintro _ w70 ⟨a67, c68, rfl, hE71, hR72⟩
  refine ⟨_, rfl, ?_⟩
  have hb73 : Ext w w70 := Ext.trans hb57 hE71
  have hL74 : w.heap.size ≤ w70.heap.size := Nat.le_trans hL58 hE71.size
  have hS75 : SH w70 w.heap.size [aOwn fInt 2 a67 c68 x65, aBox 35 b10 [.string (bs b_1.Name), .int .i64 b_1.Length, .int .i64 b_1.Ball, .int .i64 b_1.Instep, .int .i64 b_1.Heel, .int .i64 b_1.Pitch], aBox 35 b2 [.string (bs a_0.Name), .int .i64 a_0.Length, .int .i64 a_0.Ball, .int .i64 a_0.Instep, .int .i64 a_0.Heel, .int .i64 a_0.Pitch]] := SH.add hS59 hE71 hL58 hR72
  refine WL.runk 1 [2, 6] [(2, .pointer (some ⟨b2, 0, none⟩)), (6, .slice a67 x65.length c68)] (by kernel_rfl) ?_
  refine WL.nil ?_
  refine WQ.then_normal (hK64 _ _ _ ?_)
  refine WP.seq (fun K76 hK76 => ?_)
  refine WP.seq (fun K77 hK77 => ?_)
  refine WP.region ?_
  refine WL.st (.agg #[.string (bs a_0.Name), .int .i64 a_0.Length, .int .i64 a_0.Ball, .int .i64 a_0.Instep, .int .i64 a_0.Heel, .int .i64 a_0.Pitch]) (ST.loadAgg (vs := [.string (bs a_0.Name), .int .i64 a_0.Length, .int .i64 a_0.Ball, .int .i64 a_0.Instep, .int .i64 a_0.Heel, .int .i64 a_0.Pitch]) (fun j v hv => SH.boxPart (us := [.string (bs a_0.Name), .int .i64 a_0.Length, .int .i64 a_0.Ball, .int .i64 a_0.Instep, .int .i64 a_0.Heel, .int .i64 a_0.Pitch]) (SH.front 2 hS75) 0 rfl j v hv) rfl rfl rfl Tryd.underlying35 rfl (info35).1 (info35).2.1) rfl rfl rfl ?_
  obtain ⟨x78, hx79, hm⟩ := bindE hm
  refine WL.call 41 #[.agg #[.string (bs a_0.Name), .int .i64 a_0.Length, .int .i64 a_0.Ball, .int .i64 a_0.Instep, .int .i64 a_0.Heel, .int .i64 a_0.Pitch]] rfl rfl (by kernel_rfl) (c_41 n a_0 w70 hx79 ) ?_
  rintro _ w83 ⟨a80, c81, rfl, hE84, hR85⟩
  refine ⟨_, rfl, ?_⟩
  have hb86 : Ext w w83 := Ext.trans hb73 hE84
  have hL87 : w.heap.size ≤ w83.heap.size := Nat.le_trans hL74 hE84.size
  have hS88 : SH w83 w.heap.size [aOwn fInt 2 a80 c81 x78, aOwn fInt 2 a67 c68 x65, aBox 35 b10 [.string (bs b_1.Name), .int .i64 b_1.Length, .int .i64 b_1.Ball, .int .i64 b_1.Instep, .int .i64 b_1.Heel, .int .i64 b_1.Pitch], aBox 35 b2 [.string (bs a_0.Name), .int .i64 a_0.Length, .int .i64 a_0.Ball, .int .i64 a_0.Instep, .int .i64 a_0.Heel, .int .i64 a_0.Pitch]] := SH.add hS75 hE84 hL74 hR85
  refine WL.runk 2 [6, 20, 21, 22] [(6, .slice a67 x65.length c68), (20, .slice a80 x78.length c81), (21, .int .i64 (x78.length : Int)), (22, .int .i64 0)] (by kernel_rfl) ?_
  refine WL.nil ?_
  refine WQ.then_normal (hK77 _ _ _ ?_)
  refine WP.block ?_
  obtain ⟨t141, ht142, hm⟩ := bindE hm
  have hmo136 := hm; clear hm
  refine WP.sub [(6, .slice a67 x65.length c68), (20, .slice a80 x78.length c81), (21, .int .i64 (x78.length : Int)), (22, .int .i64 0)] ⟨rfl, rfl, rfl, rfl, trivial⟩ ?_
  refine WP.loop (fun n' env' w' => ∃ (st130 : Int × List Int) , env' = [(6, .slice a67 st130.2.length c68), (20, .slice a80 x78.length c81), (21, .int .i64 (x78.length : Int)), (22, .int .i64 st130.1)] ∧ Ext w w' ∧ w.heap.size ≤ w'.heap.size ∧ SH w' w.heap.size [aOwn fInt 2 a80 c81 x78, aOwn fInt 2 a67 c68 st130.2, aBox 35 b10 [.string (bs b_1.Name), .int .i64 b_1.Length, .int .i64 b_1.Ball, .int .i64 b_1.Instep, .int .i64 b_1.Heel, .int .i64 b_1.Pitch], aBox 35 b2 [.string (bs a_0.Name), .int .i64 a_0.Length, .int .i64 a_0.Ball, .int .i64 a_0.Instep, .int .i64 a_0.Heel, .int .i64 a_0.Pitch]] ∧ loopN (m_impl_ChangesBetween_l1 n x78) n' st130 = some t141) n ⟨(0, x65), rfl, hb86, hL87, hS88, ht142⟩ ?_
  rintro n138 _ w131 ⟨st130, rfl, hb132, hL133, hS134, hl135⟩ K137 hK137
  obtain ⟨n139, s140, rfl, hm, hl135⟩ := loopN_some hl135
  unfold m_impl_ChangesBetween_l1 at hm
  refine WP.seq (fun K143 hK143 => ?_)
  refine WP.region ?_
  refine WL.runk 1 [6, 20, 21, 22, 23] [(6, .slice a67 st130.2.length c68), (20, .slice a80 x78.length c81), (21, .int .i64 (x78.length : Int)), (22, .int .i64 st130.1), (23, .bool (decide (st130.1 < (x78.length : Int))))] (by kernel_rfl) ?_
  refine WL.nil ?_
  refine WQ.then_normal (hK143 _ _ _ ?_)
  refine WP.seq (fun K144 hK144 => ?_)
  refine WP.cond (decide (st130.1 < (x78.length : Int))) rfl rfl (fun hc145 => ?_) (fun hc145 => ?_)
  rotate_left
  · have hm := iteF hm hc145
    refine WP.exit ?_
    refine WQ.then_exit ?_
    refine WQ.then_exit ?_
    refine WQ.block_here ?_
    obtain rfl := Option.some.inj hm
    obtain rfl := afterN_done hl135
    have hm := hmo136
    refine WQ.then_normal (hK76 _ _ _ ?_)
    refine WP.seq (fun K159 hK159 => ?_)
    refine WP.region ?_
    refine WL.runk 1 [35] [(35, .slice a67 st130.2.length c68)] (by kernel_rfl) ?_
    obtain ⟨x160, hx161, hm⟩ := bindE hm
    refine WL.call 40 #[.slice a67 st130.2.length c68] rfl rfl (by kernel_rfl) (c_40 n st130.2 a67 c68 w131 hx161 (SH.rd (SH.front 1 hS134)) (SH.le (SH.front 1 hS134)).1) ?_
    rintro _ w165 ⟨a162, c163, rfl, hE166, hR167⟩
    refine ⟨_, rfl, ?_⟩
    have hb168 : Ext w w165 := Ext.trans hb132 hE166
    have hL169 : w.heap.size ≤ w165.heap.size := Nat.le_trans hL133 hE166.size
    have hS170 : SH w165 w.heap.size [aOwn fChange 25 a162 c163 x160.1, aOwn fInt 2 a80 c81 x78, aOwn fInt 2 a67 c68 st130.2, aBox 35 b10 [.string (bs b_1.Name), .int .i64 b_1.Length, .int .i64 b_1.Ball, .int .i64 b_1.Instep, .int .i64 b_1.Heel, .int .i64 b_1.Pitch], aBox 35 b2 [.string (bs a_0.Name), .int .i64 a_0.Length, .int .i64 a_0.Ball, .int .i64 a_0.Instep, .int .i64 a_0.Heel, .int .i64 a_0.Pitch]] := SH.add hS134 hE166 hL133 hR167
    refine WL.runk 4 [4, 5] [(4, .slice a162 x160.1.length c163), (5, .int .i64 x160.2)] (by kernel_rfl) ?_
    refine WL.nil ?_
    refine WQ.then_normal (hK159 _ _ _ ?_)
    refine WP.ret ?_
    obtain rfl := Option.some.inj hm
    exact WQ.ret2 _ _ rfl rfl rfl ⟨_, _, rfl, hb168, (SH.take 1 hS170)⟩
  have hm := iteT hm hc145
  refine WP.skip ?_
  refine WQ.then_normal (hK144 _ _ _ ?_)
  refine WP.seq (fun K146 hK146 => ?_)
  refine WP.block ?_
  refine WP.seq (fun K147 hK147 => ?_)
  refine WP.region ?_
  refine WL.runk 1 [6, 20, 21, 22, 24] [(6, .slice a67 st130.2.length c68), (20, .slice a80 x78.length c81), (21, .int .i64 (x78.length : Int)), (22, .int .i64 st130.1), (24, .int .i64 st130.1)] (by kernel_rfl) ?_
  obtain ⟨x148, hx149, hm⟩ := bindE hm
  refine WL.st (.pointer (some (at_ a80 (Int.toNat st130.1 * 1)))) (ST.index (T := fInt.ty) (xs := x78) (SH.rd (SH.front 0 hS134)) hx149 rfl rfl rfl Tryd.underlying71 (info2).1 (info2).2.1) rfl rfl rfl ?_
  refine WL.st (.int .i64 x148) (ST.load (cell_ext (Rd.flat (F := fInt) (SH.rd (SH.front 0 hS134)) hx149 0 rfl)) rfl rfl Tryd.underlying2 rfl) rfl rfl rfl ?_
  refine WL.runk 2 [6, 7, 8, 20, 21, 22] [(6, .slice a67 st130.2.length c68), (20, .slice a80 x78.length c81), (21, .int .i64 (x78.length : Int)), (22, .int .i64 st130.1), (7, .int .i64 st130.1), (8, .int .i64 x148)] (by kernel_rfl) ?_
  refine WL.nil ?_
  refine WQ.then_normal (hK147 _ _ _ ?_)
  refine WP.region ?_
  refine WL.runk 2 [6, 8, 20, 21, 22, 27, 28] [(6, .slice a67 st130.2.length c68), (20, .slice a80 x78.length c81), (21, .int .i64 (x78.length : Int)), (22, .int .i64 st130.1), (8, .int .i64 x148), (27, .slice a67 st130.2.length c68), (28, .int .i64 st130.1)] (by kernel_rfl) ?_
  obtain ⟨x150, hx151, hm⟩ := bindE hm
  refine WL.st (.pointer (some (at_ a67 (Int.toNat st130.1 * 1)))) (ST.index (T := fInt.ty) (xs := st130.2) (SH.rd (SH.front 1 hS134)) hx151 rfl rfl rfl Tryd.underlying71 (info2).1 (info2).2.1) rfl rfl rfl ?_
  refine WL.st (.int .i64 x150) (ST.load (cell_ext (Rd.flat (F := fInt) (SH.rd (SH.front 1 hS134)) hx151 0 rfl)) rfl rfl Tryd.underlying2 rfl) rfl rfl rfl ?_
  refine WL.runk 2 [6, 20, 21, 22, 27, 28, 32] [(6, .slice a67 st130.2.length c68), (20, .slice a80 x78.length c81), (21, .int .i64 (x78.length : Int)), (22, .int .i64 st130.1), (27, .slice a67 st130.2.length c68), (28, .int .i64 st130.1), (32, .int .i64 (wI64 (x150 - x148)))] (by kernel_rfl) ?_
  obtain ⟨x152, hx153, hm⟩ := bindE hm
  refine WL.st (.pointer (some (at_ a67 (Int.toNat st130.1 * 1)))) (ST.index (T := fInt.ty) (xs := st130.2) (SH.rd (SH.front 1 hS134)) hx153 rfl rfl rfl Tryd.underlying71 (info2).1 (info2).2.1) rfl rfl rfl ?_
  refine WL.store (F := fInt) (wI64 (x150 - x148)) 0 [.int .i64 (wI64 (x150 - x148))] (SH.front 1 hS134) hL133 hx153 rfl rfl rfl rfl rfl rfl rfl (info2).1 (info2).2.1 rfl rfl rfl ?_
  intro w154 hB155 hS156
  have hb157 : Ext w w154 := Below.trans hb132 hB155
  have hL158 : w.heap.size ≤ w154.heap.size := Nat.le_trans hL133 hB155.size
  refine WL.sub [(6, .slice a67 ((st130.2.set (Int.toNat st130.1) (wI64 (x150 - x148))).length) c68), (20, .slice a80 x78.length c81), (21, .int .i64 (x78.length : Int)), (22, .int .i64 st130.1), (27, .slice a67 ((st130.2.set (Int.toNat st130.1) (wI64 (x150 - x148))).length) c68), (28, .int .i64 st130.1), (32, .int .i64 (wI64 (x150 - x148)))] ⟨by first | (simp only [List.length_set]; done) | (simp only [List.length_set]; rfl), rfl, rfl, rfl, by first | (simp only [List.length_set]; done) | (simp only [List.length_set]; rfl), rfl, rfl, trivial⟩ ?_
  refine WL.sub [(6, .slice a67 ((st130.2.set (Int.toNat st130.1) (wI64 (x150 - x148))).length) c68), (20, .slice a80 x78.length c81), (21, .int .i64 (x78.length : Int)), (22, .int .i64 st130.1)] ⟨rfl, rfl, rfl, rfl, trivial⟩ ?_
  refine WL.nil ?_
  refine WQ.block_normal ?_
  refine WQ.then_normal (hK146 _ _ _ ?_)
  refine WP.region ?_
  refine WL.runk 2 [6, 20, 21, 22] [(6, .slice a67 ((st130.2.set (Int.toNat st130.1) (wI64 (x150 - x148))).length) c68), (20, .slice a80 x78.length c81), (21, .int .i64 (x78.length : Int)), (22, .int .i64 (wI64 (st130.1 + 1)))] (by kernel_rfl) ?_
  refine WL.nil ?_
  obtain rfl := Option.some.inj hm
  exact WQ.round hK137 ⟨((wI64 (st130.1 + 1)), (st130.2.set (Int.toNat st130.1) (wI64 (x150 - x148)))), rfl, hb157, hL158, (SH.front 3 (SH.front 2 (SH.front 3 (SH.front 3 hS156)))), hl135⟩ (Nat.lt_succ_self _) ⟨rfl, rfl, rfl, rfl, trivial⟩

theorem c_19 (n : Nat) (a_0 : List SChange) (a0' : Option Addr) (c0' : Nat) (b_1 : List SChange) (a1' : Option Addr) (c1' : Nat) (w : World) {r : Bool} (hm : m_spec_SameChanges n a_0 b_1 = some r) (h0 : Rd fChange.ty w a0' a_0) (_hle0 : a_0.length ≤ c0') (h1 : Rd fChange.ty w a1' b_1) (_hle1 : b_1.length ≤ c1') :
    CallV Tryd.prog 19 #[.slice a0' a_0.length c0', .slice a1' b_1.length c1'] w (fun v w' => v = .bool r ∧ Ext w w') := by
  unfold m_spec_SameChanges at hm
  refine CallV.enter Tryd.func19 rfl (by kernel_rfl) Tryd.ntmps19 (env := [(0, .slice a0' a_0.length c0'), (1, .slice a1' b_1.length c1')]) ⟨rfl, rfl, trivial⟩ ?_
  refine WP.seq (fun K1 hK1 => ?_)
  refine WP.region ?_
  refine WL.runk 1 [0, 1] [(0, .slice a0' a_0.length c0'), (1, .slice a1' b_1.length c1')] (by kernel_rfl) ?_
  refine WL.nil ?_
  refine WQ.then_normal (hK1 _ _ _ ?_)
  refine WP.seq (fun K2 hK2 => ?_)
  refine WP.seq (fun K3 hK3 => ?_)
  refine WP.region ?_
  refine WL.runk 5 [0, 1, 10] [(0, .slice a0' a_0.length c0'), (1, .slice a1' b_1.length c1'), (10, .bool ((a_0.length : Int) != (b_1.length : Int)))] (by kernel_rfl) ?_
  refine WL.nil ?_
  refine WQ.then_normal (hK3 _ _ _ ?_)
  refine WP.cond ((a_0.length : Int) != (b_1.length : Int)) rfl rfl (fun hc4 => ?_) (fun hc4 => ?_)
  · have hm := iteT hm hc4
    refine WP.seq (fun K5 hK5 => ?_)
    refine WP.region ?_
    refine WL.runk 1 [4] [(4, .bool false)] (by kernel_rfl) ?_
    refine WL.nil ?_
    refine WQ.then_normal (hK5 _ _ _ ?_)
    refine WP.ret ?_
    refine WQ.then_ret ?_
    obtain rfl := Option.some.inj hm
    exact WQ.ret1 _ rfl rfl ⟨rfl, (Ext.refl w)⟩
  have hm := iteF hm hc4
  refine WP.skip ?_
  refine WQ.then_normal (hK2 _ _ _ ?_)
  refine WP.seq (fun K6 hK6 => ?_)
  refine WP.seq (fun K7 hK7 => ?_)
  refine WP.region ?_
  refine WL.runk 1 [0, 1, 5] [(0, .slice a0' a_0.length c0'), (1, .slice a1' b_1.length c1'), (5, .int .i64 0)] (by kernel_rfl) ?_
  refine WL.nil ?_
  refine WQ.then_normal (hK7 _ _ _ ?_)
  refine WP.block ?_
  obtain ⟨t19, ht20, hm⟩ := bindE hm
  have hmo14 := hm; clear hm
  refine WP.sub [(0, .slice a0' a_0.length c0'), (1, .slice a1' b_1.length c1'), (5, .int .i64 0)] ⟨rfl, rfl, rfl, trivial⟩ ?_
  refine WP.loop (fun n' env' w' => ∃ (st8 : Int) , env' = [(0, .slice a0' a_0.length c0'), (1, .slice a1' b_1.length c1'), (5, .int .i64 st8)] ∧ Ext w w' ∧ w.heap.size ≤ w'.heap.size ∧ SH w' w.heap.size [] ∧ loopN (m_spec_SameChanges_l1 n a_0 b_1) n' st8 = some t19) n ⟨0, rfl, (Ext.refl w), (Nat.le_refl _), (SH.nil _ _), ht20⟩ ?_
  rintro n16 _ w9 ⟨st8, rfl, hb10, hL11, hS12, hl13⟩ K15 hK15
  obtain ⟨n17, s18, rfl, hm, hl13⟩ := loopN_some hl13
  unfold m_spec_SameChanges_l1 at hm
  refine WP.seq (fun K21 hK21 => ?_)
  refine WP.seq (fun K22 hK22 => ?_)
  refine WP.region ?_
  refine WL.runk 4 [0, 1, 5, 14] [(0, .slice a0' a_0.length c0'), (1, .slice a1' b_1.length c1'), (5, .int .i64 st8), (14, .bool (decide (st8 < (a_0.length : Int))))] (by kernel_rfl) ?_
  refine WL.nil ?_
  refine WQ.then_normal (hK22 _ _ _ ?_)
  refine WP.cond (decide (st8 < (a_0.length : Int))) rfl rfl (fun hc23 => ?_) (fun hc23 => ?_)
  rotate_left
  · have hm := iteF hm hc23
    refine WP.exit ?_
    refine WQ.then_exit ?_
    refine WQ.then_exit ?_
    refine WQ.block_here ?_
    obtain rfl := Option.some.inj hm
    obtain rfl := afterN_done hl13
    have hm := hmo14
    refine WQ.then_normal (hK6 _ _ _ ?_)
    refine WP.seq (fun K37 hK37 => ?_)
    refine WP.region ?_
    refine WL.runk 1 [4] [(4, .bool true)] (by kernel_rfl) ?_
    refine WL.nil ?_
    refine WQ.then_normal (hK37 _ _ _ ?_)
    refine WP.ret ?_
    obtain rfl := Option.some.inj hm
    exact WQ.ret1 _ rfl rfl ⟨rfl, hb10⟩
  have hm := iteT hm hc23
  refine WP.skip ?_
  refine WQ.then_normal (hK21 _ _ _ ?_)
  refine WP.seq (fun K24 hK24 => ?_)
  refine WP.block ?_
  refine WP.seq (fun K25 hK25 => ?_)
  refine WP.quiet (by kernel_rfl) (by kernel_rfl) ?_
  refine QL.step1v 17 (.slice a0' a_0.length c0') rfl (fun _ => by kernel_rfl) ?_
  refine QL.step1v 18 (.int .i64 st8) rfl (fun _ => by kernel_rfl) ?_
  refine QL.subk [0, 1, 5, 17, 18] [(0, .slice a0' a_0.length c0'), (1, .slice a1' b_1.length c1'), (5, .int .i64 st8), (17, .slice a0' a_0.length c0'), (18, .int .i64 st8)] (by kernel_rfl) ?_
  obtain ⟨x26, hx27, hm⟩ := bindE hm
  refine QL.st (.pointer (some (at_ a0' (Int.toNat st8 * 2)))) (ST.index (T := fChange.ty) (xs := a_0) (Rd.below h0 hb10) hx27 rfl rfl rfl Tryd.underlying37 (info25).1 (info25).2.1) rfl rfl rfl ?_
  refine QL.st (.agg #[.int .i64 x26.Kind, .int .i64 x26.Amount]) (ST.loadAgg (vs := fChange.leaf x26) (fun j v hv => Rd.flatA (F := fChange) (Rd.below h0 hb10) hx27 j hv) rfl rfl rfl Tryd.underlying25 rfl (info25).1 (info25).2.1) rfl rfl rfl ?_
  refine QL.step1v 21 (.slice a1' b_1.length c1') rfl (fun _ => by kernel_rfl) ?_
  refine QL.step1v 22 (.int .i64 st8) rfl (fun _ => by kernel_rfl) ?_
  refine QL.subk [0, 1, 5, 20, 21, 22] [(0, .slice a0' a_0.length c0'), (1, .slice a1' b_1.length c1'), (5, .int .i64 st8), (20, .agg #[.int .i64 x26.Kind, .int .i64 x26.Amount]), (21, .slice a1' b_1.length c1'), (22, .int .i64 st8)] (by kernel_rfl) ?_
  obtain ⟨x28, hx29, hm⟩ := bindE hm
  refine QL.st (.pointer (some (at_ a1' (Int.toNat st8 * 2)))) (ST.index (T := fChange.ty) (xs := b_1) (Rd.below h1 hb10) hx29 rfl rfl rfl Tryd.underlying37 (info25).1 (info25).2.1) rfl rfl rfl ?_
  refine QL.st (.agg #[.int .i64 x28.Kind, .int .i64 x28.Amount]) (ST.loadAgg (vs := fChange.leaf x28) (fun j v hv => Rd.flatA (F := fChange) (Rd.below h1 hb10) hx29 j hv) rfl rfl rfl Tryd.underlying25 rfl (info25).1 (info25).2.1) rfl rfl rfl ?_
  refine QL.st (.bool (!(decide (x26 = x28)))) (ST.aggne (F := fChange) (x := x26) (y := x28) (eqs_25 x26 x28) (by kernel_rfl) rfl rfl rfl) rfl rfl rfl ?_
  refine QL.subk [0, 1, 5, 25] [(0, .slice a0' a_0.length c0'), (1, .slice a1' b_1.length c1'), (5, .int .i64 st8), (25, .bool (!(decide (x26 = x28))))] (by kernel_rfl) ?_
  refine QL.nil ?_
  intro w30 hE31
  have hb32 : Ext w w30 := Ext.trans hb10 hE31
  have hL33 : w.heap.size ≤ w30.heap.size := Nat.le_trans hL11 hE31.size
  have hS34 : SH w30 w.heap.size [] := SH.ext hS12 hE31
  refine WQ.then_normal (hK25 _ _ _ ?_)
  refine WP.cond (!(decide (x26 = x28))) rfl rfl (fun hc35 => ?_) (fun hc35 => ?_)
  rotate_left
  · have hm := iteF hm hc35
    refine WP.skip ?_
    refine WQ.block_normal ?_
    refine WQ.then_normal (hK24 _ _ _ ?_)
    refine WP.region ?_
    refine WL.runk 3 [0, 1, 5] [(0, .slice a0' a_0.length c0'), (1, .slice a1' b_1.length c1'), (5, .int .i64 (wI64 (st8 + 1)))] (by kernel_rfl) ?_
    refine WL.nil ?_
    obtain rfl := Option.some.inj hm
    exact WQ.round hK15 ⟨(wI64 (st8 + 1)), rfl, hb32, hL33, hS34, hl13⟩ (Nat.lt_succ_self _) ⟨rfl, rfl, rfl, trivial⟩
  have hm := iteT hm hc35
  refine WP.seq (fun K36 hK36 => ?_)
  refine WP.region ?_
  refine WL.runk 1 [4] [(4, .bool false)] (by kernel_rfl) ?_
  refine WL.nil ?_
  refine WQ.then_normal (hK36 _ _ _ ?_)
  refine WP.ret ?_
  refine WQ.block_ret ?_
  refine WQ.then_ret ?_
  refine WQ.then_ret ?_
  refine WQ.block_ret ?_
  refine WQ.then_ret ?_
  obtain rfl := Option.some.inj hm
  obtain rfl := afterN_done hl13
  have hm := hmo14
  obtain rfl := Option.some.inj hm
  exact WQ.ret1 _ rfl rfl ⟨rfl, hb32⟩

theorem c_5 (n : Nat) (code_0 : List Int) (a0' : Option Addr) (c0' : Nat) (more_1 : List Int) (a1' : Option Addr) (c1' : Nat) (w : World) {r : Bool} (hm : m_laws_FnChanges n code_0 more_1 = some r) (hG : GL 4 w) (h0 : Rd fU8.ty w a0' code_0) (hle0 : code_0.length ≤ c0') (h1 : Rd fU8.ty w a1' more_1) (hle1 : more_1.length ≤ c1') :
    CallV Tryd.prog 5 #[.slice a0' code_0.length c0', .slice a1' more_1.length c1'] w (fun v w' => v = .bool r ∧ Ext w w') := by
  unfold m_laws_FnChanges at hm
  refine CallV.enter Tryd.func5 rfl (by kernel_rfl) Tryd.ntmps5 (env := [(0, .slice a0' code_0.length c0'), (1, .slice a1' more_1.length c1')]) ⟨rfl, rfl, trivial⟩ ?_
  refine WP.seq (fun K1 hK1 => ?_)
  refine WP.region ?_
  refine WL.runk 1 [0, 1] [(0, .slice a0' code_0.length c0'), (1, .slice a1' more_1.length c1')] (by kernel_rfl) ?_
  refine WL.nil ?_
  refine WQ.then_normal (hK1 _ _ _ ?_)
  refine WP.seq (fun K2 hK2 => ?_)
  refine WP.seq (fun K3 hK3 => ?_)
  refine WP.region ?_
  refine WL.runk 2 [0, 1, 23, 24] [(0, .slice a0' code_0.length c0'), (1, .slice a1' more_1.length c1'), (23, .slice a0' code_0.length c0'), (24, .slice a1' more_1.length c1')] (by kernel_rfl) ?_
  obtain ⟨x4, hx5, hm⟩ := bindE hm
  refine WL.call 12 #[.slice a0' code_0.length c0', .slice a1' more_1.length c1'] rfl rfl (by kernel_rfl) (c_12 n code_0 a0' c0' more_1 a1' c1' w hx5 (Rd.below h0 (Ext.refl w)) hle0 (Rd.below h1 (Ext.refl w)) hle1) ?_
  rintro _ w6 ⟨rfl, hE7⟩
  refine ⟨_, rfl, ?_⟩
  have hb9 : Ext w w6 := Ext.trans (Ext.refl w) hE7
  have hL10 : w.heap.size ≤ w6.heap.size := Nat.le_trans (Nat.le_refl _) hE7.size
  have hS11 : SH w6 w.heap.size [] := SH.ext (SH.nil _ _) hE7
  refine WL.sub [(0, .slice a0' code_0.length c0'), (1, .slice a1' more_1.length c1'), (25, .bool x4)] ⟨rfl, rfl, rfl, trivial⟩ ?_
  refine WL.nil ?_
  refine WQ.then_normal (hK3 _ _ _ ?_)
  refine WP.cond x4 rfl rfl (fun hc12 => ?_) (fun hc12 => ?_)
  · have hm := iteT hm hc12
    refine WP.seq (fun K13 hK13 => ?_)
    refine WP.region ?_
    refine WL.runk 1 [4] [(4, .bool true)] (by kernel_rfl) ?_
    refine WL.nil ?_
    refine WQ.then_normal (hK13 _ _ _ ?_)
    refine WP.ret ?_
    refine WQ.then_ret ?_
    obtain rfl := Option.some.inj hm
    exact WQ.ret1 _ rfl rfl ⟨rfl, hb9⟩
  have hm := iteF hm hc12
  refine WP.skip ?_
  refine WQ.then_normal (hK2 _ _ _ ?_)
  refine WP.seq (fun K14 hK14 => ?_)
  refine WP.region ?_
  refine WL.runk 1 [1, 26] [(1, .slice a1' more_1.length c1'), (26, .slice a0' code_0.length c0')] (by kernel_rfl) ?_
  obtain ⟨x15, hx16, hm⟩ := bindE hm
  refine WL.call 13 #[.slice a0' code_0.length c0'] rfl rfl (by kernel_rfl) (c_13 n code_0 a0' c0' w6 hx16 (Rd.below h0 hb9) hle0) ?_
  rintro _ w17 ⟨rfl, hE18⟩
  refine ⟨_, rfl, ?_⟩
  have hb20 : Ext w w17 := Ext.trans hb9 hE18
  have hL21 : w.heap.size ≤ w17.heap.size := Nat.le_trans hL10 hE18.size
  have hS22 : SH w17 w.heap.size [] := SH.ext hS11 hE18
  refine WL.box 35 [.string (bs []), .int .i64 0, .int .i64 0, .int .i64 0, .int .i64 0, .int .i64 0] 5 (by kernel_rfl) rfl rfl rfl rfl ?_
  intro b23 w24 hE25 hR26
  have hb28 : Ext w w24 := Ext.trans hb20 hE25
  have hL29 : w.heap.size ≤ w24.heap.size := Nat.le_trans hL21 hE25.size
  have hS30 : SH w24 w.heap.size [aBox 35 b23 [.string (bs []), .int .i64 0, .int .i64 0, .int .i64 0, .int .i64 0, .int .i64 0]] := SH.add hS22 hE25 hL21 hR26
  refine WL.boxStore 0 [.string (bs x15.Name), .int .i64 x15.Length, .int .i64 x15.Ball, .int .i64 x15.Instep, .int .i64 x15.Heel, .int .i64 x15.Pitch] [.string (bs x15.Name), .int .i64 x15.Length, .int .i64 x15.Ball, .int .i64 x15.Instep, .int .i64 x15.Heel, .int .i64 x15.Pitch] (SH.front 0 hS30) hL29 rfl rfl rfl rfl rfl rfl rfl (info35).1 (info35).2.1 rfl rfl rfl ?_
  intro w31 hB32 hS33
  have hb34 : Ext w w31 := Below.trans hb28 hB32
  have hL35 : w.heap.size ≤ w31.heap.size := Nat.le_trans hL29 hB32.size
  refine WL.sub [(1, .slice a1' more_1.length c1'), (5, .pointer (some ⟨b23, 0, none⟩))] ⟨rfl, rfl, trivial⟩ ?_
  refine WL.nil ?_
  refine WQ.then_normal (hK14 _ _ _ ?_)
  refine WP.seq (fun K36 hK36 => ?_)
  refine WP.region ?_
  refine WL.runk 1 [5, 28] [(5, .pointer (some ⟨b23, 0, none⟩)), (28, .slice a1' more_1.length c1')] (by kernel_rfl) ?_
  obtain ⟨x37, hx38, hm⟩ := bindE hm
  refine WL.call 14 #[.slice a1' more_1.length c1'] rfl rfl (by kernel_rfl) (c_14 n more_1 a1' c1' w31 hx38 (Rd.below h1 hb34) hle1) ?_
  rintro _ w42 ⟨a39, c40, rfl, hE43, hR44⟩
  refine ⟨_, rfl, ?_⟩
  have hb45 : Ext w w42 := Ext.trans hb34 hE43
  have hL46 : w.heap.size ≤ w42.heap.size := Nat.le_trans hL35 hE43.size
  have hS47 : SH w42 w.heap.size [aOwn fChange 25 a39 c40 x37, aBox 35 b23 [.string (bs x15.Name), .int .i64 x15.Length, .int .i64 x15.Ball, .int .i64 x15.Instep, .int .i64 x15.Heel, .int .i64 x15.Pitch]] := SH.add hS33 hE43 hL35 hR44
  refine WL.runk 1 [5, 6] [(5, .pointer (some ⟨b23, 0, none⟩)), (6, .slice a39 x37.length c40)] (by kernel_rfl) ?_
  refine WL.nil ?_
  refine WQ.then_normal (hK36 _ _ _ ?_)
  refine WP.seq (fun K48 hK48 => ?_)
  refine WP.region ?_
  refine WL.st (.agg #[.string (bs x15.Name), .int .i64 x15.Length, .int .i64 x15.Ball, .int .i64 x15.Instep, .int .i64 x15.Heel, .int .i64 x15.Pitch]) (ST.loadAgg (vs := [.string (bs x15.Name), .int .i64 x15.Length, .int .i64 x15.Ball, .int .i64 x15.Instep, .int .i64 x15.Heel, .int .i64 x15.Pitch]) (fun j v hv => SH.boxPart (us := [.string (bs x15.Name), .int .i64 x15.Length, .int .i64 x15.Ball, .int .i64 x15.Instep, .int .i64 x15.Heel, .int .i64 x15.Pitch]) (SH.front 1 hS47) 0 rfl j v hv) rfl rfl rfl Tryd.underlying35 rfl (info35).1 (info35).2.1) rfl rfl rfl ?_
  refine WL.runk 1 [5, 6, 31, 32] [(5, .pointer (some ⟨b23, 0, none⟩)), (6, .slice a39 x37.length c40), (31, .agg #[.string (bs x15.Name), .int .i64 x15.Length, .int .i64 x15.Ball, .int .i64 x15.Instep, .int .i64 x15.Heel, .int .i64 x15.Pitch]), (32, .slice a39 x37.length c40)] (by kernel_rfl) ?_
  obtain ⟨x49, hx50, hm⟩ := bindE hm
  refine WL.call 15 #[.agg #[.string (bs x15.Name), .int .i64 x15.Length, .int .i64 x15.Ball, .int .i64 x15.Instep, .int .i64 x15.Heel, .int .i64 x15.Pitch], .slice a39 x37.length c40] rfl rfl (by kernel_rfl) (c_15 n x15 x37 a39 c40 w42 hx50 (SH.rd (SH.front 0 hS47)) (SH.le (SH.front 0 hS47)).1) ?_
  rintro _ w51 ⟨rfl, hE52⟩
  refine ⟨_, rfl, ?_⟩
  have hb54 : Ext w w51 := Ext.trans hb45 hE52
  have hL55 : w.heap.size ≤ w51.heap.size := Nat.le_trans hL46 hE52.size
  have hS56 : SH w51 w.heap.size [aOwn fChange 25 a39 c40 x37, aBox 35 b23 [.string (bs x15.Name), .int .i64 x15.Length, .int .i64 x15.Ball, .int .i64 x15.Instep, .int .i64 x15.Heel, .int .i64 x15.Pitch]] := SH.ext hS47 hE52
  refine WL.runk 3 [5, 6, 34, 35] [(5, .pointer (some ⟨b23, 0, none⟩)), (6, .slice a39 x37.length c40), (34, .agg #[.string (bs x49.1.Name), .int .i64 x49.1.Length, .int .i64 x49.1.Ball, .int .i64 x49.1.Instep, .int .i64 x49.1.Heel, .int .i64 x49.1.Pitch]), (35, .int .i64 x49.2)] (by kernel_rfl) ?_
  refine WL.box 35 [.string (bs []), .int .i64 0, .int .i64 0, .int .i64 0, .int .i64 0, .int .i64 0] 7 (by kernel_rfl) rfl rfl rfl rfl ?_
  intro b57 w58 hE59 hR60
  have hb62 : Ext w w58 := Ext.trans hb54 hE59
  have hL63 : w.heap.size ≤ w58.heap.size := Nat.le_trans hL55 hE59.size
  have hS64 : SH w58 w.heap.size [aBox 35 b57 [.string (bs []), .int .i64 0, .int .i64 0, .int .i64 0, .int .i64 0, .int .i64 0], aOwn fChange 25 a39 c40 x37, aBox 35 b23 [.string (bs x15.Name), .int .i64 x15.Length, .int .i64 x15.Ball, .int .i64 x15.Instep, .int .i64 x15.Heel, .int .i64 x15.Pitch]] := SH.add hS56 hE59 hL55 hR60
  refine WL.boxStore 0 [.string (bs x49.1.Name), .int .i64 x49.1.Length, .int .i64 x49.1.Ball, .int .i64 x49.1.Instep, .int .i64 x49.1.Heel, .int .i64 x49.1.Pitch] [.string (bs x49.1.Name), .int .i64 x49.1.Length, .int .i64 x49.1.Ball, .int .i64 x49.1.Instep, .int .i64 x49.1.Heel, .int .i64 x49.1.Pitch] (SH.front 0 hS64) hL63 rfl rfl rfl rfl rfl rfl rfl (info35).1 (info35).2.1 rfl rfl rfl ?_
  intro w65 hB66 hS67
  have hb68 : Ext w w65 := Below.trans hb62 hB66
  have hL69 : w.heap.size ≤ w65.heap.size := Nat.le_trans hL63 hB66.size
  refine WL.runk 1 [5, 6, 7, 8] [(5, .pointer (some ⟨b23, 0, none⟩)), (6, .slice a39 x37.length c40), (7, .pointer (some ⟨b57, 0, none⟩)), (8, .int .i64 x49.2)] (by kernel_rfl) ?_
  refine WL.nil ?_
  refine WQ.then_normal (hK48 _ _ _ ?_)
  refine WP.seq (fun K70 hK70 => ?_)
  refine WP.region ?_
  refine WL.runk 1 [5, 6, 7, 8, 37] [(5, .pointer (some ⟨b23, 0, none⟩)), (6, .slice a39 x37.length c40), (7, .pointer (some ⟨b57, 0, none⟩)), (8, .int .i64 x49.2), (37, .slice a39 x37.length c40)] (by kernel_rfl) ?_
  obtain ⟨x71, hx72, hm⟩ := bindE hm
  refine WL.call 16 #[.slice a39 x37.length c40] rfl rfl (by kernel_rfl) (c_16 n x37 a39 c40 w65 hx72 (SH.rd (SH.front 1 hS67)) (SH.le (SH.front 1 hS67)).1) ?_
  rintro _ w76 ⟨a73, c74, rfl, hE77, hR78⟩
  refine ⟨_, rfl, ?_⟩
  have hb79 : Ext w w76 := Ext.trans hb68 hE77
  have hL80 : w.heap.size ≤ w76.heap.size := Nat.le_trans hL69 hE77.size
  have hS81 : SH w76 w.heap.size [aOwn fChange 25 a73 c74 x71.1, aBox 35 b57 [.string (bs x49.1.Name), .int .i64 x49.1.Length, .int .i64 x49.1.Ball, .int .i64 x49.1.Instep, .int .i64 x49.1.Heel, .int .i64 x49.1.Pitch], aOwn fChange 25 a39 c40 x37, aBox 35 b23 [.string (bs x15.Name), .int .i64 x15.Length, .int .i64 x15.Ball, .int .i64 x15.Instep, .int .i64 x15.Heel, .int .i64 x15.Pitch]] := SH.add hS67 hE77 hL69 hR78
  refine WL.runk 5 [5, 6, 7, 8, 9, 10] [(5, .pointer (some ⟨b23, 0, none⟩)), (6, .slice a39 x37.length c40), (7, .pointer (some ⟨b57, 0, none⟩)), (8, .int .i64 x49.2), (9, .slice a73 x71.1.length c74), (10, .int .i64 x71.2)] (by kernel_rfl) ?_
  refine WL.nil ?_
  refine WQ.then_normal (hK70 _ _ _ ?_)
  refine WP.seq (fun K82 hK82 => ?_)
  refine WP.region ?_
  refine WL.runk 1 [5, 6, 7, 8, 9, 10, 42] [(5, .pointer (some ⟨b23, 0, none⟩)), (6, .slice a39 x37.length c40), (7, .pointer (some ⟨b57, 0, none⟩)), (8, .int .i64 x49.2), (9, .slice a73 x71.1.length c74), (10, .int .i64 x71.2), (42, .slice a39 x37.length c40)] (by kernel_rfl) ?_
  obtain ⟨x83, hx84, hm⟩ := bindE hm
  refine WL.call 17 #[.slice a39 x37.length c40] rfl rfl (by kernel_rfl) (c_17 n x37 a39 c40 w76 hx84 (SH.rd (SH.front 2 hS81)) (SH.le (SH.front 2 hS81)).1) ?_
  rintro _ w88 ⟨a85, c86, rfl, hE89, hR90⟩
  refine ⟨_, rfl, ?_⟩
  have hb91 : Ext w w88 := Ext.trans hb79 hE89
  have hL92 : w.heap.size ≤ w88.heap.size := Nat.le_trans hL80 hE89.size
  have hS93 : SH w88 w.heap.size [aOwn fChange 25 a85 c86 x83.1, aOwn fChange 25 a73 c74 x71.1, aBox 35 b57 [.string (bs x49.1.Name), .int .i64 x49.1.Length, .int .i64 x49.1.Ball, .int .i64 x49.1.Instep, .int .i64 x49.1.Heel, .int .i64 x49.1.Pitch], aOwn fChange 25 a39 c40 x37, aBox 35 b23 [.string (bs x15.Name), .int .i64 x15.Length, .int .i64 x15.Ball, .int .i64 x15.Instep, .int .i64 x15.Heel, .int .i64 x15.Pitch]] := SH.add hS81 hE89 hL80 hR90
  refine WL.runk 5 [5, 6, 7, 8, 9, 10, 11, 12] [(5, .pointer (some ⟨b23, 0, none⟩)), (6, .slice a39 x37.length c40), (7, .pointer (some ⟨b57, 0, none⟩)), (8, .int .i64 x49.2), (9, .slice a73 x71.1.length c74), (10, .int .i64 x71.2), (11, .slice a85 x83.1.length c86), (12, .int .i64 x83.2)] (by kernel_rfl) ?_
  refine WL.nil ?_
  refine WQ.then_normal (hK82 _ _ _ ?_)
  refine WP.seq (fun K94 hK94 => ?_)
  refine WP.seq (fun K95 hK95 => ?_)
  obtain ⟨x102, hx103, hm⟩ := bindE hm
  refine WP.cut (fun env' w' => env' = [(5, .pointer (some ⟨b23, 0, none⟩)), (6, .slice a39 x37.length c40), (7, .pointer (some ⟨b57, 0, none⟩)), (8, .int .i64 x49.2), (9, .slice a73 x71.1.length c74), (11, .slice a85 x83.1.length c86), (12, .int .i64 x83.2), (70, .bool x102)] ∧ Ext w w' ∧ w.heap.size ≤ w'.heap.size ∧ SH w' w.heap.size [aOwn fChange 25 a85 c86 x83.1, aOwn fChange 25 a73 c74 x71.1, aBox 35 b57 [.string (bs x49.1.Name), .int .i64 x49.1.Length, .int .i64 x49.1.Ball, .int .i64 x49.1.Instep, .int .i64 x49.1.Heel, .int .i64 x49.1.Pitch], aOwn fChange 25 a39 c40 x37, aBox 35 b23 [.string (bs x15.Name), .int .i64 x15.Length, .int .i64 x15.Ball, .int .i64 x15.Instep, .int .i64 x15.Heel, .int .i64 x15.Pitch]]) ?_ ?_
  · have hm := hx103; clear hx103
    refine WP.region ?_
    refine WL.runk 3 [5, 6, 7, 8, 9, 11, 12, 48] [(5, .pointer (some ⟨b23, 0, none⟩)), (6, .slice a39 x37.length c40), (7, .pointer (some ⟨b57, 0, none⟩)), (8, .int .i64 x49.2), (9, .slice a73 x71.1.length c74), (11, .slice a85 x83.1.length c86), (12, .int .i64 x83.2), (48, .bool (x71.2 != 0))] (by kernel_rfl) ?_
    refine WL.case (x71.2 != 0) [48] ⟨rfl, trivial⟩ (fun hc104 => ?_) (fun hc104 => ?_)
    · have hm := iteT hm hc104
      refine WL.runk 22 [5, 6, 7, 8, 9, 11, 12, 70] [(5, .pointer (some ⟨b23, 0, none⟩)), (6, .slice a39 x37.length c40), (7, .pointer (some ⟨b57, 0, none⟩)), (8, .int .i64 x49.2), (9, .slice a73 x71.1.length c74), (11, .slice a85 x83.1.length c86), (12, .int .i64 x83.2), (70, .bool true)] (by kernel_rfl) ?_
      refine WL.nil ?_
      obtain rfl := Option.some.inj hm
      exact WQ.post' ⟨rfl, hb91, hL92, hS93⟩ ⟨rfl, rfl, rfl, rfl, rfl, rfl, rfl, rfl, trivial⟩
    have hm := iteF hm hc104
    refine WL.runk 7 [5, 6, 7, 8, 9, 11, 12, 55] [(5, .pointer (some ⟨b23, 0, none⟩)), (6, .slice a39 x37.length c40), (7, .pointer (some ⟨b57, 0, none⟩)), (8, .int .i64 x49.2), (9, .slice a73 x71.1.length c74), (11, .slice a85 x83.1.length c86), (12, .int .i64 x83.2), (55, .bool ((x71.1.length : Int) != (x37.length : Int)))] (by kernel_rfl) ?_
    refine WL.case ((x71.1.length : Int) != (x37.length : Int)) [55] ⟨rfl, trivial⟩ (fun hc105 => ?_) (fun hc105 => ?_)
    · have hm := iteT hm hc105
      refine WL.runk 15 [5, 6, 7, 8, 9, 11, 12, 70] [(5, .pointer (some ⟨b23, 0, none⟩)), (6, .slice a39 x37.length c40), (7, .pointer (some ⟨b57, 0, none⟩)), (8, .int .i64 x49.2), (9, .slice a73 x71.1.length c74), (11, .slice a85 x83.1.length c86), (12, .int .i64 x83.2), (70, .bool true)] (by kernel_rfl) ?_
      refine WL.nil ?_
      obtain rfl := Option.some.inj hm
      exact WQ.post' ⟨rfl, hb91, hL92, hS93⟩ ⟨rfl, rfl, rfl, rfl, rfl, rfl, rfl, rfl, trivial⟩
    have hm := iteF hm hc105
    refine WL.runk 3 [5, 6, 7, 8, 9, 11, 12, 55, 58] [(5, .pointer (some ⟨b23, 0, none⟩)), (6, .slice a39 x37.length c40), (7, .pointer (some ⟨b57, 0, none⟩)), (8, .int .i64 x49.2), (9, .slice a73 x71.1.length c74), (11, .slice a85 x83.1.length c86), (12, .int .i64 x83.2), (55, .bool false), (58, .bool (x83.2 != 0))] (by kernel_rfl) ?_
    refine WL.case (x83.2 != 0) [58] ⟨rfl, trivial⟩ (fun hc106 => ?_) (fun hc106 => ?_)
    rotate_left
    · have hm := iteF hm hc106
      refine WL.runk 8 [5, 6, 7, 8, 9, 11, 12, 63, 66] [(5, .pointer (some ⟨b23, 0, none⟩)), (6, .slice a39 x37.length c40), (7, .pointer (some ⟨b57, 0, none⟩)), (8, .int .i64 x49.2), (9, .slice a73 x71.1.length c74), (11, .slice a85 x83.1.length c86), (12, .int .i64 x83.2), (63, .bool false), (66, .bool (x49.2 != 0))] (by kernel_rfl) ?_
      refine WL.case (x49.2 != 0) [66] ⟨rfl, trivial⟩ (fun hc109 => ?_) (fun hc109 => ?_)
      · have hm := iteT hm hc109
        refine WL.runk 4 [5, 6, 7, 8, 9, 11, 12, 70] [(5, .pointer (some ⟨b23, 0, none⟩)), (6, .slice a39 x37.length c40), (7, .pointer (some ⟨b57, 0, none⟩)), (8, .int .i64 x49.2), (9, .slice a73 x71.1.length c74), (11, .slice a85 x83.1.length c86), (12, .int .i64 x83.2), (70, .bool (x49.2 != 10))] (by kernel_rfl) ?_
        refine WL.nil ?_
        obtain rfl := Option.some.inj hm
        exact WQ.post' ⟨rfl, hb91, hL92, hS93⟩ ⟨rfl, rfl, rfl, rfl, rfl, rfl, rfl, rfl, trivial⟩
      have hm := iteF hm hc109
      refine WL.runk 4 [5, 6, 7, 8, 9, 11, 12, 70] [(5, .pointer (some ⟨b23, 0, none⟩)), (6, .slice a39 x37.length c40), (7, .pointer (some ⟨b57, 0, none⟩)), (8, .int .i64 x49.2), (9, .slice a73 x71.1.length c74), (11, .slice a85 x83.1.length c86), (12, .int .i64 x83.2), (70, .bool false)] (by kernel_rfl) ?_
      refine WL.nil ?_
      obtain rfl := Option.some.inj hm
      exact WQ.post' ⟨rfl, hb91, hL92, hS93⟩ ⟨rfl, rfl, rfl, rfl, rfl, rfl, rfl, rfl, trivial⟩
    have hm := iteT hm hc106
    refine WL.runk 5 [5, 6, 7, 8, 9, 11, 12, 63] [(5, .pointer (some ⟨b23, 0, none⟩)), (6, .slice a39 x37.length c40), (7, .pointer (some ⟨b57, 0, none⟩)), (8, .int .i64 x49.2), (9, .slice a73 x71.1.length c74), (11, .slice a85 x83.1.length c86), (12, .int .i64 x83.2), (63, .bool (x83.2 != 5))] (by kernel_rfl) ?_
    refine WL.case (x83.2 != 5) [63] ⟨rfl, trivial⟩ (fun hc107 => ?_) (fun hc107 => ?_)
    · have hm := iteT hm hc107
      refine WL.runk 7 [5, 6, 7, 8, 9, 11, 12, 70] [(5, .pointer (some ⟨b23, 0, none⟩)), (6, .slice a39 x37.length c40), (7, .pointer (some ⟨b57, 0, none⟩)), (8, .int .i64 x49.2), (9, .slice a73 x71.1.length c74), (11, .slice a85 x83.1.length c86), (12, .int .i64 x83.2), (70, .bool true)] (by kernel_rfl) ?_
      refine WL.nil ?_
      obtain rfl := Option.some.inj hm
      exact WQ.post' ⟨rfl, hb91, hL92, hS93⟩ ⟨rfl, rfl, rfl, rfl, rfl, rfl, rfl, rfl, trivial⟩
    have hm := iteF hm hc107
    refine WL.runk 3 [5, 6, 7, 8, 9, 11, 12, 63, 66] [(5, .pointer (some ⟨b23, 0, none⟩)), (6, .slice a39 x37.length c40), (7, .pointer (some ⟨b57, 0, none⟩)), (8, .int .i64 x49.2), (9, .slice a73 x71.1.length c74), (11, .slice a85 x83.1.length c86), (12, .int .i64 x83.2), (63, .bool false), (66, .bool (x49.2 != 0))] (by kernel_rfl) ?_
    refine WL.case (x49.2 != 0) [66] ⟨rfl, trivial⟩ (fun hc108 => ?_) (fun hc108 => ?_)
    · have hm := iteT hm hc108
      refine WL.runk 4 [5, 6, 7, 8, 9, 11, 12, 70] [(5, .pointer (some ⟨b23, 0, none⟩)), (6, .slice a39 x37.length c40), (7, .pointer (some ⟨b57, 0, none⟩)), (8, .int .i64 x49.2), (9, .slice a73 x71.1.length c74), (11, .slice a85 x83.1.length c86), (12, .int .i64 x83.2), (70, .bool (x49.2 != 10))] (by kernel_rfl) ?_
      refine WL.nil ?_
      obtain rfl := Option.some.inj hm
      exact WQ.post' ⟨rfl, hb91, hL92, hS93⟩ ⟨rfl, rfl, rfl, rfl, rfl, rfl, rfl, rfl, trivial⟩
    have hm := iteF hm hc108
    refine WL.runk 4 [5, 6, 7, 8, 9, 11, 12, 70] [(5, .pointer (some ⟨b23, 0, none⟩)), (6, .slice a39 x37.length c40), (7, .pointer (some ⟨b57, 0, none⟩)), (8, .int .i64 x49.2), (9, .slice a73 x71.1.length c74), (11, .slice a85 x83.1.length c86), (12, .int .i64 x83.2), (70, .bool false)] (by kernel_rfl) ?_
    refine WL.nil ?_
    obtain rfl := Option.some.inj hm
    exact WQ.post' ⟨rfl, hb91, hL92, hS93⟩ ⟨rfl, rfl, rfl, rfl, rfl, rfl, rfl, rfl, trivial⟩
  clear hx103
  rintro _ w110 ⟨rfl, hb111, hL112, hS113⟩
  refine WQ.then_normal (hK95 _ _ _ ?_)
  refine WP.cond x102 rfl rfl (fun hc114 => ?_) (fun hc114 => ?_)
  · have hm := iteT hm hc114
    refine WP.seq (fun K115 hK115 => ?_)
    refine WP.region ?_
    refine WL.runk 1 [4] [(4, .bool false)] (by kernel_rfl) ?_
    refine WL.nil ?_
    refine WQ.then_normal (hK115 _ _ _ ?_)
    refine WP.ret ?_
    refine WQ.then_ret ?_
    obtain rfl := Option.some.inj hm
    exact WQ.ret1 _ rfl rfl ⟨rfl, hb111⟩
  have hm := iteF hm hc114
  refine WP.skip ?_
  refine WQ.then_normal (hK94 _ _ _ ?_)
  refine WP.seq (fun K116 hK116 => ?_)
  refine WP.seq (fun K117 hK117 => ?_)
  refine WP.region ?_
  refine WL.runk 1 [5, 6, 7, 8, 9, 11, 12, 13] [(5, .pointer (some ⟨b23, 0, none⟩)), (6, .slice a39 x37.length c40), (7, .pointer (some ⟨b57, 0, none⟩)), (8, .int .i64 x49.2), (9, .slice a73 x71.1.length c74), (11, .slice a85 x83.1.length c86), (12, .int .i64 x83.2), (13, .int .i64 0)] (by kernel_rfl) ?_
  refine WL.nil ?_
  refine WQ.then_normal (hK117 _ _ _ ?_)
  refine WP.block ?_
  obtain ⟨t129, ht130, hm⟩ := bindE hm
  have hmo124 := hm; clear hm
  refine WP.sub [(5, .pointer (some ⟨b23, 0, none⟩)), (6, .slice a39 x37.length c40), (7, .pointer (some ⟨b57, 0, none⟩)), (8, .int .i64 x49.2), (9, .slice a73 x71.1.length c74), (11, .slice a85 x83.1.length c86), (12, .int .i64 x83.2), (13, .int .i64 0)] ⟨rfl, rfl, rfl, rfl, rfl, rfl, rfl, rfl, trivial⟩ ?_
  refine WP.loop (fun n' env' w' => ∃ (st118 : Int) , env' = [(5, .pointer (some ⟨b23, 0, none⟩)), (6, .slice a39 x37.length c40), (7, .pointer (some ⟨b57, 0, none⟩)), (8, .int .i64 x49.2), (9, .slice a73 x71.1.length c74), (11, .slice a85 x83.1.length c86), (12, .int .i64 x83.2), (13, .int .i64 st118)] ∧ Ext w w' ∧ w.heap.size ≤ w'.heap.size ∧ SH w' w.heap.size [aOwn fChange 25 a85 c86 x83.1, aOwn fChange 25 a73 c74 x71.1, aBox 35 b57 [.string (bs x49.1.Name), .int .i64 x49.1.Length, .int .i64 x49.1.Ball, .int .i64 x49.1.Instep, .int .i64 x49.1.Heel, .int .i64 x49.1.Pitch], aOwn fChange 25 a39 c40 x37, aBox 35 b23 [.string (bs x15.Name), .int .i64 x15.Length, .int .i64 x15.Ball, .int .i64 x15.Instep, .int .i64 x15.Heel, .int .i64 x15.Pitch]] ∧ loopN (m_laws_FnChanges_l1 n x37 x71) n' st118 = some t129) n ⟨0, rfl, hb111, hL112, hS113, ht130⟩ ?_
  rintro n126 _ w119 ⟨st118, rfl, hb120, hL121, hS122, hl123⟩ K125 hK125
  obtain ⟨n127, s128, rfl, hm, hl123⟩ := loopN_some hl123
  unfold m_laws_FnChanges_l1 at hm
  refine WP.seq (fun K131 hK131 => ?_)
  refine WP.seq (fun K132 hK132 => ?_)
  refine WP.region ?_
  refine WL.runk 4 [5, 6, 7, 8, 9, 11, 12, 13, 74] [(5, .pointer (some ⟨b23, 0, none⟩)), (6, .slice a39 x37.length c40), (7, .pointer (some ⟨b57, 0, none⟩)), (8, .int .i64 x49.2), (9, .slice a73 x71.1.length c74), (11, .slice a85 x83.1.length c86), (12, .int .i64 x83.2), (13, .int .i64 st118), (74, .bool (decide (st118 < (x37.length : Int))))] (by kernel_rfl) ?_
  refine WL.nil ?_
  refine WQ.then_normal (hK132 _ _ _ ?_)
  refine WP.cond (decide (st118 < (x37.length : Int))) rfl rfl (fun hc133 => ?_) (fun hc133 => ?_)
  rotate_left
  · have hm := iteF hm hc133
    refine WP.exit ?_
    refine WQ.then_exit ?_
    refine WQ.then_exit ?_
    refine WQ.block_here ?_
    obtain rfl := Option.some.inj hm
    obtain rfl := afterN_done hl123
    have hm := hmo124
    refine WQ.then_normal (hK116 _ _ _ ?_)
    refine WP.seq (fun K250 hK250 => ?_)
    refine WP.seq (fun K251 hK251 => ?_)
    refine WP.region ?_
    refine WL.runk 2 [5, 7, 9, 11, 12, 126] [(5, .pointer (some ⟨b23, 0, none⟩)), (7, .pointer (some ⟨b57, 0, none⟩)), (9, .slice a73 x71.1.length c74), (11, .slice a85 x83.1.length c86), (12, .int .i64 x83.2), (126, .bool (x49.2 != 0))] (by kernel_rfl) ?_
    refine WL.nil ?_
    refine WQ.then_normal (hK251 _ _ _ ?_)
    refine WP.cond (x49.2 != 0) rfl rfl (fun hc252 => ?_) (fun hc252 => ?_)
    · have hm := iteT hm hc252
      refine WP.seq (fun K253 hK253 => ?_)
      refine WP.region ?_
      refine WL.runk 1 [4] [(4, .bool true)] (by kernel_rfl) ?_
      refine WL.nil ?_
      refine WQ.then_normal (hK253 _ _ _ ?_)
      refine WP.ret ?_
      refine WQ.then_ret ?_
      obtain rfl := Option.some.inj hm
      exact WQ.ret1 _ rfl rfl ⟨rfl, hb120⟩
    have hm := iteF hm hc252
    refine WP.skip ?_
    refine WQ.then_normal (hK250 _ _ _ ?_)
    refine WP.seq (fun K254 hK254 => ?_)
    refine WP.region ?_
    refine WL.st (.agg #[.string (bs x49.1.Name), .int .i64 x49.1.Length, .int .i64 x49.1.Ball, .int .i64 x49.1.Instep, .int .i64 x49.1.Heel, .int .i64 x49.1.Pitch]) (ST.loadAgg (vs := [.string (bs x49.1.Name), .int .i64 x49.1.Length, .int .i64 x49.1.Ball, .int .i64 x49.1.Instep, .int .i64 x49.1.Heel, .int .i64 x49.1.Pitch]) (fun j v hv => SH.boxPart (us := [.string (bs x49.1.Name), .int .i64 x49.1.Length, .int .i64 x49.1.Ball, .int .i64 x49.1.Instep, .int .i64 x49.1.Heel, .int .i64 x49.1.Pitch]) (SH.front 2 hS122) 0 rfl j v hv) rfl rfl rfl Tryd.underlying35 rfl (info35).1 (info35).2.1) rfl rfl rfl ?_
    refine WL.runk 1 [5, 7, 11, 12, 128, 129] [(5, .pointer (some ⟨b23, 0, none⟩)), (7, .pointer (some ⟨b57, 0, none⟩)), (11, .slice a85 x83.1.length c86), (12, .int .i64 x83.2), (128, .agg #[.string (bs x49.1.Name), .int .i64 x49.1.Length, .int .i64 x49.1.Ball, .int .i64 x49.1.Instep, .int .i64 x49.1.Heel, .int .i64 x49.1.Pitch]), (129, .slice a73 x71.1.length c74)] (by kernel_rfl) ?_
    obtain ⟨x255, hx256, hm⟩ := bindE hm
    refine WL.call 15 #[.agg #[.string (bs x49.1.Name), .int .i64 x49.1.Length, .int .i64 x49.1.Ball, .int .i64 x49.1.Instep, .int .i64 x49.1.Heel, .int .i64 x49.1.Pitch], .slice a73 x71.1.length c74] rfl rfl (by kernel_rfl) (c_15 n x49.1 x71.1 a73 c74 w119 hx256 (SH.rd (SH.front 1 hS122)) (SH.le (SH.front 1 hS122)).1) ?_
    rintro _ w257 ⟨rfl, hE258⟩
    refine ⟨_, rfl, ?_⟩
    have hb260 : Ext w w257 := Ext.trans hb120 hE258
    have hL261 : w.heap.size ≤ w257.heap.size := Nat.le_trans hL121 hE258.size
    have hS262 : SH w257 w.heap.size [aOwn fChange 25 a85 c86 x83.1, aOwn fChange 25 a73 c74 x71.1, aBox 35 b57 [.string (bs x49.1.Name), .int .i64 x49.1.Length, .int .i64 x49.1.Ball, .int .i64 x49.1.Instep, .int .i64 x49.1.Heel, .int .i64 x49.1.Pitch], aOwn fChange 25 a39 c40 x37, aBox 35 b23 [.string (bs x15.Name), .int .i64 x15.Length, .int .i64 x15.Ball, .int .i64 x15.Instep, .int .i64 x15.Heel, .int .i64 x15.Pitch]] := SH.ext hS122 hE258
    refine WL.runk 3 [5, 7, 11, 12, 131, 132] [(5, .pointer (some ⟨b23, 0, none⟩)), (7, .pointer (some ⟨b57, 0, none⟩)), (11, .slice a85 x83.1.length c86), (12, .int .i64 x83.2), (131, .agg #[.string (bs x255.1.Name), .int .i64 x255.1.Length, .int .i64 x255.1.Ball, .int .i64 x255.1.Instep, .int .i64 x255.1.Heel, .int .i64 x255.1.Pitch]), (132, .int .i64 x255.2)] (by kernel_rfl) ?_
    refine WL.box 35 [.string (bs []), .int .i64 0, .int .i64 0, .int .i64 0, .int .i64 0, .int .i64 0] 17 (by kernel_rfl) rfl rfl rfl rfl ?_
    intro b263 w264 hE265 hR266
    have hb268 : Ext w w264 := Ext.trans hb260 hE265
    have hL269 : w.heap.size ≤ w264.heap.size := Nat.le_trans hL261 hE265.size
    have hS270 : SH w264 w.heap.size [aBox 35 b263 [.string (bs []), .int .i64 0, .int .i64 0, .int .i64 0, .int .i64 0, .int .i64 0], aOwn fChange 25 a85 c86 x83.1, aOwn fChange 25 a73 c74 x71.1, aBox 35 b57 [.string (bs x49.1.Name), .int .i64 x49.1.Length, .int .i64 x49.1.Ball, .int .i64 x49.1.Instep, .int .i64 x49.1.Heel, .int .i64 x49.1.Pitch], aOwn fChange 25 a39 c40 x37, aBox 35 b23 [.string (bs x15.Name), .int .i64 x15.Length, .int .i64 x15.Ball, .int .i64 x15.Instep, .int .i64 x15.Heel, .int .i64 x15.Pitch]] := SH.add hS262 hE265 hL261 hR266
    refine WL.boxStore 0 [.string (bs x255.1.Name), .int .i64 x255.1.Length, .int .i64 x255.1.Ball, .int .i64 x255.1.Instep, .int .i64 x255.1.Heel, .int .i64 x255.1.Pitch] [.string (bs x255.1.Name), .int .i64 x255.1.Length, .int .i64 x255.1.Ball, .int .i64 x255.1.Instep, .int .i64 x255.1.Heel, .int .i64 x255.1.Pitch] (SH.front 0 hS270) hL269 rfl rfl rfl rfl rfl rfl rfl (info35).1 (info35).2.1 rfl rfl rfl ?_
    intro w271 hB272 hS273
    have hb274 : Ext w w271 := Below.trans hb268 hB272
    have hL275 : w.heap.size ≤ w271.heap.size := Nat.le_trans hL269 hB272.size
    refine WL.runk 1 [5, 7, 11, 12, 17, 18] [(5, .pointer (some ⟨b23, 0, none⟩)), (7, .pointer (some ⟨b57, 0, none⟩)), (11, .slice a85 x83.1.length c86), (12, .int .i64 x83.2), (17, .pointer (some ⟨b263, 0, none⟩)), (18, .int .i64 x255.2)] (by kernel_rfl) ?_
    refine WL.nil ?_
    refine WQ.then_normal (hK254 _ _ _ ?_)
    refine WP.seq (fun K276 hK276 => ?_)
    refine WP.region ?_
    refine WL.st (.agg #[.string (bs x15.Name), .int .i64 x15.Length, .int .i64 x15.Ball, .int .i64 x15.Instep, .int .i64 x15.Heel, .int .i64 x15.Pitch]) (ST.loadAgg (vs := [.string (bs x15.Name), .int .i64 x15.Length, .int .i64 x15.Ball, .int .i64 x15.Instep, .int .i64 x15.Heel, .int .i64 x15.Pitch]) (fun j v hv => SH.boxPart (us := [.string (bs x15.Name), .int .i64 x15.Length, .int .i64 x15.Ball, .int .i64 x15.Instep, .int .i64 x15.Heel, .int .i64 x15.Pitch]) (SH.front 5 hS273) 0 rfl j v hv) rfl rfl rfl Tryd.underlying35 rfl (info35).1 (info35).2.1) rfl rfl rfl ?_
    refine WL.st (.agg #[.string (bs x49.1.Name), .int .i64 x49.1.Length, .int .i64 x49.1.Ball, .int .i64 x49.1.Instep, .int .i64 x49.1.Heel, .int .i64 x49.1.Pitch]) (ST.loadAgg (vs := [.string (bs x49.1.Name), .int .i64 x49.1.Length, .int .i64 x49.1.Ball, .int .i64 x49.1.Instep, .int .i64 x49.1.Heel, .int .i64 x49.1.Pitch]) (fun j v hv => SH.boxPart (us := [.string (bs x49.1.Name), .int .i64 x49.1.Length, .int .i64 x49.1.Ball, .int .i64 x49.1.Instep, .int .i64 x49.1.Heel, .int .i64 x49.1.Pitch]) (SH.front 3 hS273) 0 rfl j v hv) rfl rfl rfl Tryd.underlying35 rfl (info35).1 (info35).2.1) rfl rfl rfl ?_
    obtain ⟨x277, hx278, hm⟩ := bindE hm
    refine WL.call 18 #[.agg #[.string (bs x15.Name), .int .i64 x15.Length, .int .i64 x15.Ball, .int .i64 x15.Instep, .int .i64 x15.Heel, .int .i64 x15.Pitch], .agg #[.string (bs x49.1.Name), .int .i64 x49.1.Length, .int .i64 x49.1.Ball, .int .i64 x49.1.Instep, .int .i64 x49.1.Heel, .int .i64 x49.1.Pitch]] rfl rfl (by kernel_rfl) (c_18 n x15 x49.1 w271 hx278 ) ?_
    rintro _ w282 ⟨a279, c280, rfl, hE283, hR284⟩
    refine ⟨_, rfl, ?_⟩
    have hb285 : Ext w w282 := Ext.trans hb274 hE283
    have hL286 : w.heap.size ≤ w282.heap.size := Nat.le_trans hL275 hE283.size
    have hS287 : SH w282 w.heap.size [aOwn fChange 25 a279 c280 x277.1, aBox 35 b263 [.string (bs x255.1.Name), .int .i64 x255.1.Length, .int .i64 x255.1.Ball, .int .i64 x255.1.Instep, .int .i64 x255.1.Heel, .int .i64 x255.1.Pitch], aOwn fChange 25 a85 c86 x83.1, aOwn fChange 25 a73 c74 x71.1, aBox 35 b57 [.string (bs x49.1.Name), .int .i64 x49.1.Length, .int .i64 x49.1.Ball, .int .i64 x49.1.Instep, .int .i64 x49.1.Heel, .int .i64 x49.1.Pitch], aOwn fChange 25 a39 c40 x37, aBox 35 b23 [.string (bs x15.Name), .int .i64 x15.Length, .int .i64 x15.Ball, .int .i64 x15.Instep, .int .i64 x15.Heel, .int .i64 x15.Pitch]] := SH.add hS273 hE283 hL275 hR284
    refine WL.runk 5 [5, 7, 11, 12, 17, 18, 19, 20] [(5, .pointer (some ⟨b23, 0, none⟩)), (7, .pointer (some ⟨b57, 0, none⟩)), (11, .slice a85 x83.1.length c86), (12, .int .i64 x83.2), (17, .pointer (some ⟨b263, 0, none⟩)), (18, .int .i64 x255.2), (19, .slice a279 x277.1.length c280), (20, .int .i64 x277.2)] (by kernel_rfl) ?_
    refine WL.nil ?_
    refine WQ.then_normal (hK276 _ _ _ ?_)
    refine WP.seq (fun K288 hK288 => ?_)
    refine WP.seq (fun K289 hK289 => ?_)
    obtain ⟨x292, hx293, hm⟩ := bindE hm
    refine WP.cut (fun env' w' => env' = [(5, .pointer (some ⟨b23, 0, none⟩)), (7, .pointer (some ⟨b57, 0, none⟩)), (11, .slice a85 x83.1.length c86), (12, .int .i64 x83.2), (19, .slice a279 x277.1.length c280), (150, .bool x292)] ∧ Ext w w' ∧ w.heap.size ≤ w'.heap.size ∧ SH w' w.heap.size [aOwn fChange 25 a279 c280 x277.1, aBox 35 b263 [.string (bs x255.1.Name), .int .i64 x255.1.Length, .int .i64 x255.1.Ball, .int .i64 x255.1.Instep, .int .i64 x255.1.Heel, .int .i64 x255.1.Pitch], aOwn fChange 25 a85 c86 x83.1, aBox 35 b57 [.string (bs x49.1.Name), .int .i64 x49.1.Length, .int .i64 x49.1.Ball, .int .i64 x49.1.Instep, .int .i64 x49.1.Heel, .int .i64 x49.1.Pitch], aBox 35 b23 [.string (bs x15.Name), .int .i64 x15.Length, .int .i64 x15.Ball, .int .i64 x15.Instep, .int .i64 x15.Heel, .int .i64 x15.Pitch]]) ?_ ?_
    · have hm := hx293; clear hx293
      refine WP.region ?_
      refine WL.runk 3 [5, 7, 11, 12, 17, 19, 20, 141] [(5, .pointer (some ⟨b23, 0, none⟩)), (7, .pointer (some ⟨b57, 0, none⟩)), (11, .slice a85 x83.1.length c86), (12, .int .i64 x83.2), (17, .pointer (some ⟨b263, 0, none⟩)), (19, .slice a279 x277.1.length c280), (20, .int .i64 x277.2), (141, .bool (x255.2 != 0))] (by kernel_rfl) ?_
      refine WL.case (x255.2 != 0) [141] ⟨rfl, trivial⟩ (fun hc294 => ?_) (fun hc294 => ?_)
      · have hm := iteT hm hc294
        refine WL.runk 9 [5, 7, 11, 12, 19, 150] [(5, .pointer (some ⟨b23, 0, none⟩)), (7, .pointer (some ⟨b57, 0, none⟩)), (11, .slice a85 x83.1.length c86), (12, .int .i64 x83.2), (19, .slice a279 x277.1.length c280), (150, .bool true)] (by kernel_rfl) ?_
        refine WL.nil ?_
        obtain rfl := Option.some.inj hm
        exact WQ.post' ⟨rfl, hb285, hL286, (SH.take 5 (SH.front 4 (SH.front 4 (SH.front 4 (SH.front 5 (SH.front 6 hS287))))))⟩ ⟨rfl, rfl, rfl, rfl, rfl, rfl, trivial⟩
      have hm := iteF hm hc294
      refine WL.st (.agg #[.string (bs x255.1.Name), .int .i64 x255.1.Length, .int .i64 x255.1.Ball, .int .i64 x255.1.Instep, .int .i64 x255.1.Heel, .int .i64 x255.1.Pitch]) (ST.loadAgg (vs := [.string (bs x255.1.Name), .int .i64 x255.1.Length, .int .i64 x255.1.Ball, .int .i64 x255.1.Instep, .int .i64 x255.1.Heel, .int .i64 x255.1.Pitch]) (fun j v hv => SH.boxPart (us := [.string (bs x255.1.Name), .int .i64 x255.1.Length, .int .i64 x255.1.Ball, .int .i64 x255.1.Instep, .int .i64 x255.1.Heel, .int .i64 x255.1.Pitch]) (SH.front 1 hS287) 0 rfl j v hv) rfl rfl rfl Tryd.underlying35 rfl (info35).1 (info35).2.1) rfl rfl rfl ?_
      refine WL.st (.agg #[.string (bs x15.Name), .int .i64 x15.Length, .int .i64 x15.Ball, .int .i64 x15.Instep, .int .i64 x15.Heel, .int .i64 x15.Pitch]) (ST.loadAgg (vs := [.string (bs x15.Name), .int .i64 x15.Length, .int .i64 x15.Ball, .int .i64 x15.Instep, .int .i64 x15.Heel, .int .i64 x15.Pitch]) (fun j v hv => SH.boxPart (us := [.string (bs x15.Name), .int .i64 x15.Length, .int .i64 x15.Ball, .int .i64 x15.Instep, .int .i64 x15.Heel, .int .i64 x15.Pitch]) (SH.front 6 hS287) 0 rfl j v hv) rfl rfl rfl Tryd.underlying35 rfl (info35).1 (info35).2.1) rfl rfl rfl ?_
      refine WL.st (.bool (!(decide (x255.1 = x15)))) (ST.aggne (F := fLast) (x := x255.1) (y := x15) (eqs_35 x255.1 x15) (by kernel_rfl) rfl rfl rfl) rfl rfl rfl ?_
      refine WL.runk 2 [5, 7, 11, 12, 19, 20, 146] [(5, .pointer (some ⟨b23, 0, none⟩)), (7, .pointer (some ⟨b57, 0, none⟩)), (11, .slice a85 x83.1.length c86), (12, .int .i64 x83.2), (19, .slice a279 x277.1.length c280), (20, .int .i64 x277.2), (146, .bool (!(decide (x255.1 = x15))))] (by kernel_rfl) ?_
      refine WL.case (!(decide (x255.1 = x15))) [146] ⟨rfl, trivial⟩ (fun hc295 => ?_) (fun hc295 => ?_)
      · have hm := iteT hm hc295
        refine WL.runk 4 [5, 7, 11, 12, 19, 150] [(5, .pointer (some ⟨b23, 0, none⟩)), (7, .pointer (some ⟨b57, 0, none⟩)), (11, .slice a85 x83.1.length c86), (12, .int .i64 x83.2), (19, .slice a279 x277.1.length c280), (150, .bool true)] (by kernel_rfl) ?_
        refine WL.nil ?_
        obtain rfl := Option.some.inj hm
        exact WQ.post' ⟨rfl, hb285, hL286, (SH.take 5 (SH.front 4 (SH.front 4 (SH.front 4 (SH.front 5 (SH.front 6 hS287))))))⟩ ⟨rfl, rfl, rfl, rfl, rfl, rfl, trivial⟩
      have hm := iteF hm hc295
      refine WL.runk 4 [5, 7, 11, 12, 19, 150] [(5, .pointer (some ⟨b23, 0, none⟩)), (7, .pointer (some ⟨b57, 0, none⟩)), (11, .slice a85 x83.1.length c86), (12, .int .i64 x83.2), (19, .slice a279 x277.1.length c280), (150, .bool (x277.2 != x83.2))] (by kernel_rfl) ?_
      refine WL.nil ?_
      obtain rfl := Option.some.inj hm
      exact WQ.post' ⟨rfl, hb285, hL286, (SH.take 5 (SH.front 4 (SH.front 4 (SH.front 4 (SH.front 5 (SH.front 6 hS287))))))⟩ ⟨rfl, rfl, rfl, rfl, rfl, rfl, trivial⟩
    clear hx293
    rintro _ w296 ⟨rfl, hb297, hL298, hS299⟩
    refine WQ.then_normal (hK289 _ _ _ ?_)
    refine WP.cond x292 rfl rfl (fun hc300 => ?_) (fun hc300 => ?_)
    · have hm := iteT hm hc300
      refine WP.seq (fun K301 hK301 => ?_)
      refine WP.region ?_
      refine WL.runk 1 [4] [(4, .bool false)] (by kernel_rfl) ?_
      refine WL.nil ?_
      refine WQ.then_normal (hK301 _ _ _ ?_)
      refine WP.ret ?_
      refine WQ.then_ret ?_
      obtain rfl := Option.some.inj hm
      exact WQ.ret1 _ rfl rfl ⟨rfl, hb297⟩
    have hm := iteF hm hc300
    refine WP.skip ?_
    refine WQ.then_normal (hK288 _ _ _ ?_)
    refine WP.seq (fun K302 hK302 => ?_)
    refine WP.seq (fun K303 hK303 => ?_)
    refine WP.region ?_
    refine WL.runk 2 [5, 7, 11, 19, 152] [(5, .pointer (some ⟨b23, 0, none⟩)), (7, .pointer (some ⟨b57, 0, none⟩)), (11, .slice a85 x83.1.length c86), (19, .slice a279 x277.1.length c280), (152, .bool (x83.2 != 0))] (by kernel_rfl) ?_
    refine WL.nil ?_
    refine WQ.then_normal (hK303 _ _ _ ?_)
    refine WP.cond (x83.2 != 0) rfl rfl (fun hc304 => ?_) (fun hc304 => ?_)
    · have hm := iteT hm hc304
      refine WP.seq (fun K305 hK305 => ?_)
      refine WP.region ?_
      refine WL.runk 1 [4] [(4, .bool true)] (by kernel_rfl) ?_
      refine WL.nil ?_
      refine WQ.then_normal (hK305 _ _ _ ?_)
      refine WP.ret ?_
      refine WQ.then_ret ?_
      obtain rfl := Option.some.inj hm
      exact WQ.ret1 _ rfl rfl ⟨rfl, hb297⟩
    have hm := iteF hm hc304
    refine WP.skip ?_
    refine WQ.then_normal (hK302 _ _ _ ?_)
    refine WP.seq (fun K306 hK306 => ?_)
    refine WP.region ?_
    refine WL.st (.agg #[.string (bs x15.Name), .int .i64 x15.Length, .int .i64 x15.Ball, .int .i64 x15.Instep, .int .i64 x15.Heel, .int .i64 x15.Pitch]) (ST.loadAgg (vs := [.string (bs x15.Name), .int .i64 x15.Length, .int .i64 x15.Ball, .int .i64 x15.Instep, .int .i64 x15.Heel, .int .i64 x15.Pitch]) (fun j v hv => SH.boxPart (us := [.string (bs x15.Name), .int .i64 x15.Length, .int .i64 x15.Ball, .int .i64 x15.Instep, .int .i64 x15.Heel, .int .i64 x15.Pitch]) (SH.front 4 hS299) 0 rfl j v hv) rfl rfl rfl Tryd.underlying35 rfl (info35).1 (info35).2.1) rfl rfl rfl ?_
    refine WL.runk 1 [7, 11, 19, 154, 155] [(7, .pointer (some ⟨b57, 0, none⟩)), (11, .slice a85 x83.1.length c86), (19, .slice a279 x277.1.length c280), (154, .agg #[.string (bs x15.Name), .int .i64 x15.Length, .int .i64 x15.Ball, .int .i64 x15.Instep, .int .i64 x15.Heel, .int .i64 x15.Pitch]), (155, .slice a85 x83.1.length c86)] (by kernel_rfl) ?_
    obtain ⟨x307, hx308, hm⟩ := bindE hm
    refine WL.call 15 #[.agg #[.string (bs x15.Name), .int .i64 x15.Length, .int .i64 x15.Ball, .int .i64 x15.Instep, .int .i64 x15.Heel, .int .i64 x15.Pitch], .slice a85 x83.1.length c86] rfl rfl (by kernel_rfl) (c_15 n x15 x83.1 a85 c86 w296 hx308 (SH.rd (SH.front 2 hS299)) (SH.le (SH.front 2 hS299)).1) ?_
    rintro _ w309 ⟨rfl, hE310⟩
    refine ⟨_, rfl, ?_⟩
    have hb312 : Ext w w309 := Ext.trans hb297 hE310
    have hL313 : w.heap.size ≤ w309.heap.size := Nat.le_trans hL298 hE310.size
    have hS314 : SH w309 w.heap.size [aOwn fChange 25 a279 c280 x277.1, aBox 35 b263 [.string (bs x255.1.Name), .int .i64 x255.1.Length, .int .i64 x255.1.Ball, .int .i64 x255.1.Instep, .int .i64 x255.1.Heel, .int .i64 x255.1.Pitch], aOwn fChange 25 a85 c86 x83.1, aBox 35 b57 [.string (bs x49.1.Name), .int .i64 x49.1.Length, .int .i64 x49.1.Ball, .int .i64 x49.1.Instep, .int .i64 x49.1.Heel, .int .i64 x49.1.Pitch], aBox 35 b23 [.string (bs x15.Name), .int .i64 x15.Length, .int .i64 x15.Ball, .int .i64 x15.Instep, .int .i64 x15.Heel, .int .i64 x15.Pitch]] := SH.ext hS299 hE310
    refine WL.runk 3 [7, 11, 19, 157, 158] [(7, .pointer (some ⟨b57, 0, none⟩)), (11, .slice a85 x83.1.length c86), (19, .slice a279 x277.1.length c280), (157, .agg #[.string (bs x307.1.Name), .int .i64 x307.1.Length, .int .i64 x307.1.Ball, .int .i64 x307.1.Instep, .int .i64 x307.1.Heel, .int .i64 x307.1.Pitch]), (158, .int .i64 x307.2)] (by kernel_rfl) ?_
    refine WL.box 35 [.string (bs []), .int .i64 0, .int .i64 0, .int .i64 0, .int .i64 0, .int .i64 0] 21 (by kernel_rfl) rfl rfl rfl rfl ?_
    intro b315 w316 hE317 hR318
    have hb320 : Ext w w316 := Ext.trans hb312 hE317
    have hL321 : w.heap.size ≤ w316.heap.size := Nat.le_trans hL313 hE317.size
    have hS322 : SH w316 w.heap.size [aBox 35 b315 [.string (bs []), .int .i64 0, .int .i64 0, .int .i64 0, .int .i64 0, .int .i64 0], aOwn fChange 25 a279 c280 x277.1, aBox 35 b263 [.string (bs x255.1.Name), .int .i64 x255.1.Length, .int .i64 x255.1.Ball, .int .i64 x255.1.Instep, .int .i64 x255.1.Heel, .int .i64 x255.1.Pitch], aOwn fChange 25 a85 c86 x83.1, aBox 35 b57 [.string (bs x49.1.Name), .int .i64 x49.1.Length, .int .i64 x49.1.Ball, .int .i64 x49.1.Instep, .int .i64 x49.1.Heel, .int .i64 x49.1.Pitch], aBox 35 b23 [.string (bs x15.Name), .int .i64 x15.Length, .int .i64 x15.Ball, .int .i64 x15.Instep, .int .i64 x15.Heel, .int .i64 x15.Pitch]] := SH.add hS314 hE317 hL313 hR318
    refine WL.boxStore 0 [.string (bs x307.1.Name), .int .i64 x307.1.Length, .int .i64 x307.1.Ball, .int .i64 x307.1.Instep, .int .i64 x307.1.Heel, .int .i64 x307.1.Pitch] [.string (bs x307.1.Name), .int .i64 x307.1.Length, .int .i64 x307.1.Ball, .int .i64 x307.1.Instep, .int .i64 x307.1.Heel, .int .i64 x307.1.Pitch] (SH.front 0 hS322) hL321 rfl rfl rfl rfl rfl rfl rfl (info35).1 (info35).2.1 rfl rfl rfl ?_
    intro w323 hB324 hS325
    have hb326 : Ext w w323 := Below.trans hb320 hB324
    have hL327 : w.heap.size ≤ w323.heap.size := Nat.le_trans hL321 hB324.size
    refine WL.runk 1 [7, 11, 19, 21, 22] [(7, .pointer (some ⟨b57, 0, none⟩)), (11, .slice a85 x83.1.length c86), (19, .slice a279 x277.1.length c280), (21, .pointer (some ⟨b315, 0, none⟩)), (22, .int .i64 x307.2)] (by kernel_rfl) ?_
    refine WL.nil ?_
    refine WQ.then_normal (hK306 _ _ _ ?_)
    refine WP.seq (fun K328 hK328 => ?_)
    obtain ⟨x339, hx340, hm⟩ := bindE hm
    refine WP.cut (fun env' w' => env' = [(4, .bool x339)] ∧ Ext w w' ∧ w.heap.size ≤ w'.heap.size ∧ SH w' w.heap.size [aBox 35 b315 [.string (bs x307.1.Name), .int .i64 x307.1.Length, .int .i64 x307.1.Ball, .int .i64 x307.1.Instep, .int .i64 x307.1.Heel, .int .i64 x307.1.Pitch], aBox 35 b263 [.string (bs x255.1.Name), .int .i64 x255.1.Length, .int .i64 x255.1.Ball, .int .i64 x255.1.Instep, .int .i64 x255.1.Heel, .int .i64 x255.1.Pitch], aBox 35 b57 [.string (bs x49.1.Name), .int .i64 x49.1.Length, .int .i64 x49.1.Ball, .int .i64 x49.1.Instep, .int .i64 x49.1.Heel, .int .i64 x49.1.Pitch], aBox 35 b23 [.string (bs x15.Name), .int .i64 x15.Length, .int .i64 x15.Ball, .int .i64 x15.Instep, .int .i64 x15.Heel, .int .i64 x15.Pitch]]) ?_ ?_
    rotate_left
    · clear hx340
      rintro _ w351 ⟨rfl, hb352, hL353, hS354⟩
      refine WQ.then_normal (hK328 _ _ _ ?_)
      refine WP.ret ?_
      obtain rfl := Option.some.inj hm
      exact WQ.ret1 _ rfl rfl ⟨rfl, hb352⟩
    have hm := hx340; clear hx340
    refine WP.region ?_
    refine WL.runk 3 [7, 11, 19, 21, 161] [(7, .pointer (some ⟨b57, 0, none⟩)), (11, .slice a85 x83.1.length c86), (19, .slice a279 x277.1.length c280), (21, .pointer (some ⟨b315, 0, none⟩)), (161, .bool (x307.2 == 0))] (by kernel_rfl) ?_
    refine WL.case (x307.2 == 0) [161] ⟨rfl, trivial⟩ (fun hc341 => ?_) (fun hc341 => ?_)
    rotate_left
    · have hm := iteF hm hc341
      refine WL.runk 10 [4] [(4, .bool false)] (by kernel_rfl) ?_
      refine WL.nil ?_
      obtain rfl := Option.some.inj hm
      exact WQ.post' ⟨rfl, hb326, hL327, (SH.take 4 (SH.front 3 (SH.front 4 (SH.front 5 (SH.front 5 hS325)))))⟩ ⟨rfl, trivial⟩
    have hm := iteT hm hc341
    refine WL.st (.agg #[.string (bs x307.1.Name), .int .i64 x307.1.Length, .int .i64 x307.1.Ball, .int .i64 x307.1.Instep, .int .i64 x307.1.Heel, .int .i64 x307.1.Pitch]) (ST.loadAgg (vs := [.string (bs x307.1.Name), .int .i64 x307.1.Length, .int .i64 x307.1.Ball, .int .i64 x307.1.Instep, .int .i64 x307.1.Heel, .int .i64 x307.1.Pitch]) (fun j v hv => SH.boxPart (us := [.string (bs x307.1.Name), .int .i64 x307.1.Length, .int .i64 x307.1.Ball, .int .i64 x307.1.Instep, .int .i64 x307.1.Heel, .int .i64 x307.1.Pitch]) (SH.front 0 hS325) 0 rfl j v hv) rfl rfl rfl Tryd.underlying35 rfl (info35).1 (info35).2.1) rfl rfl rfl ?_
    refine WL.st (.agg #[.string (bs x49.1.Name), .int .i64 x49.1.Length, .int .i64 x49.1.Ball, .int .i64 x49.1.Instep, .int .i64 x49.1.Heel, .int .i64 x49.1.Pitch]) (ST.loadAgg (vs := [.string (bs x49.1.Name), .int .i64 x49.1.Length, .int .i64 x49.1.Ball, .int .i64 x49.1.Instep, .int .i64 x49.1.Heel, .int .i64 x49.1.Pitch]) (fun j v hv => SH.boxPart (us := [.string (bs x49.1.Name), .int .i64 x49.1.Length, .int .i64 x49.1.Ball, .int .i64 x49.1.Instep, .int .i64 x49.1.Heel, .int .i64 x49.1.Pitch]) (SH.front 4 hS325) 0 rfl j v hv) rfl rfl rfl Tryd.underlying35 rfl (info35).1 (info35).2.1) rfl rfl rfl ?_
    refine WL.st (.bool (decide (x307.1 = x49.1))) (ST.aggeq (F := fLast) (x := x307.1) (y := x49.1) (eqs_35 x307.1 x49.1) (by kernel_rfl) rfl rfl rfl) rfl rfl rfl ?_
    refine WL.runk 2 [11, 19, 166] [(11, .slice a85 x83.1.length c86), (19, .slice a279 x277.1.length c280), (166, .bool (decide (x307.1 = x49.1)))] (by kernel_rfl) ?_
    refine WL.case (decide (x307.1 = x49.1)) [166] ⟨rfl, trivial⟩ (fun hc342 => ?_) (fun hc342 => ?_)
    rotate_left
    · have hm := iteF hm hc342
      refine WL.runk 5 [4] [(4, .bool false)] (by kernel_rfl) ?_
      refine WL.nil ?_
      obtain rfl := Option.some.inj hm
      exact WQ.post' ⟨rfl, hb326, hL327, (SH.take 4 (SH.front 3 (SH.front 4 (SH.front 5 (SH.front 5 hS325)))))⟩ ⟨rfl, trivial⟩
    have hm := iteT hm hc342
    refine WL.runk 2 [166, 167, 168] [(166, .bool true), (167, .slice a279 x277.1.length c280), (168, .slice a85 x83.1.length c86)] (by kernel_rfl) ?_
    obtain ⟨x343, hx344, hm⟩ := bindE hm
    refine WL.call 19 #[.slice a279 x277.1.length c280, .slice a85 x83.1.length c86] rfl rfl (by kernel_rfl) (c_19 n x277.1 a279 c280 x83.1 a85 c86 w323 hx344 (SH.rd (SH.front 1 hS325)) (SH.le (SH.front 1 hS325)).1 (SH.rd (SH.front 3 hS325)) (SH.le (SH.front 3 hS325)).1) ?_
    rintro _ w345 ⟨rfl, hE346⟩
    refine ⟨_, rfl, ?_⟩
    have hb348 : Ext w w345 := Ext.trans hb326 hE346
    have hL349 : w.heap.size ≤ w345.heap.size := Nat.le_trans hL327 hE346.size
    have hS350 : SH w345 w.heap.size [aBox 35 b315 [.string (bs x307.1.Name), .int .i64 x307.1.Length, .int .i64 x307.1.Ball, .int .i64 x307.1.Instep, .int .i64 x307.1.Heel, .int .i64 x307.1.Pitch], aOwn fChange 25 a279 c280 x277.1, aBox 35 b263 [.string (bs x255.1.Name), .int .i64 x255.1.Length, .int .i64 x255.1.Ball, .int .i64 x255.1.Instep, .int .i64 x255.1.Heel, .int .i64 x255.1.Pitch], aOwn fChange 25 a85 c86 x83.1, aBox 35 b57 [.string (bs x49.1.Name), .int .i64 x49.1.Length, .int .i64 x49.1.Ball, .int .i64 x49.1.Instep, .int .i64 x49.1.Heel, .int .i64 x49.1.Pitch], aBox 35 b23 [.string (bs x15.Name), .int .i64 x15.Length, .int .i64 x15.Ball, .int .i64 x15.Instep, .int .i64 x15.Heel, .int .i64 x15.Pitch]] := SH.ext hS325 hE346
    refine WL.runk 2 [4] [(4, .bool x343)] (by kernel_rfl) ?_
    refine WL.nil ?_
    obtain rfl := Option.some.inj hm
    exact WQ.post' ⟨rfl, hb348, hL349, (SH.take 4 (SH.front 3 (SH.front 4 (SH.front 5 (SH.front 5 hS350)))))⟩ ⟨rfl, trivial⟩
  have hm := iteT hm hc133
  refine WP.skip ?_
  refine WQ.then_normal (hK131 _ _ _ ?_)
  refine WP.seq (fun K134 hK134 => ?_)
  refine WP.block ?_
  refine WP.seq (fun K135 hK135 => ?_)
  refine WP.region ?_
  refine WL.runk 6 [5, 6, 7, 8, 9, 11, 12, 13, 77, 82] [(5, .pointer (some ⟨b23, 0, none⟩)), (6, .slice a39 x37.length c40), (7, .pointer (some ⟨b57, 0, none⟩)), (8, .int .i64 x49.2), (9, .slice a73 x71.1.length c74), (11, .slice a85 x83.1.length c86), (12, .int .i64 x83.2), (13, .int .i64 st118), (77, .slice a73 x71.1.length c74), (82, .int .i64 (wI64 ((wI64 ((x37.length : Int) - 1)) - st118)))] (by kernel_rfl) ?_
  obtain ⟨x136, hx137, hm⟩ := bindE hm
  refine WL.st (.pointer (some (at_ a73 (Int.toNat (wI64 ((wI64 ((x37.length : Int) - 1)) - st118)) * 2)))) (ST.index (T := fChange.ty) (xs := x71.1) (SH.rd (SH.front 1 hS122)) hx137 rfl rfl rfl Tryd.underlying37 (info25).1 (info25).2.1) rfl rfl rfl ?_
  refine WL.st (.agg #[.int .i64 x136.Kind, .int .i64 x136.Amount]) (ST.loadAgg (vs := fChange.leaf x136) (fun j v hv => Rd.flatA (F := fChange) (SH.rd (SH.front 1 hS122)) hx137 j hv) rfl rfl rfl Tryd.underlying25 rfl (info25).1 (info25).2.1) rfl rfl rfl ?_
  refine WL.box 25 [.int .i64 0, .int .i64 0] 14 (by kernel_rfl) rfl rfl rfl rfl ?_
  intro b138 w139 hE140 hR141
  have hb143 : Ext w w139 := Ext.trans hb120 hE140
  have hL144 : w.heap.size ≤ w139.heap.size := Nat.le_trans hL121 hE140.size
  have hS145 : SH w139 w.heap.size [aBox 25 b138 [.int .i64 0, .int .i64 0], aOwn fChange 25 a85 c86 x83.1, aOwn fChange 25 a73 c74 x71.1, aBox 35 b57 [.string (bs x49.1.Name), .int .i64 x49.1.Length, .int .i64 x49.1.Ball, .int .i64 x49.1.Instep, .int .i64 x49.1.Heel, .int .i64 x49.1.Pitch], aOwn fChange 25 a39 c40 x37, aBox 35 b23 [.string (bs x15.Name), .int .i64 x15.Length, .int .i64 x15.Ball, .int .i64 x15.Instep, .int .i64 x15.Heel, .int .i64 x15.Pitch]] := SH.add hS122 hE140 hL121 hR141
  refine WL.boxStore 0 [.int .i64 x136.Kind, .int .i64 x136.Amount] [.int .i64 x136.Kind, .int .i64 x136.Amount] (SH.front 0 hS145) hL144 rfl rfl rfl rfl rfl rfl rfl (info25).1 (info25).2.1 rfl rfl rfl ?_
  intro w146 hB147 hS148
  have hb149 : Ext w w146 := Below.trans hb143 hB147
  have hL150 : w.heap.size ≤ w146.heap.size := Nat.le_trans hL144 hB147.size
  refine WL.sub [(5, .pointer (some ⟨b23, 0, none⟩)), (6, .slice a39 x37.length c40), (7, .pointer (some ⟨b57, 0, none⟩)), (8, .int .i64 x49.2), (9, .slice a73 x71.1.length c74), (11, .slice a85 x83.1.length c86), (12, .int .i64 x83.2), (13, .int .i64 st118), (14, .pointer (some ⟨b138, 0, none⟩))] ⟨rfl, rfl, rfl, rfl, rfl, rfl, rfl, rfl, rfl, trivial⟩ ?_
  refine WL.nil ?_
  refine WQ.then_normal (hK135 _ _ _ ?_)
  refine WP.seq (fun K151 hK151 => ?_)
  refine WP.region ?_
  refine WL.runk 2 [5, 6, 7, 8, 9, 11, 12, 13, 14, 86, 87] [(5, .pointer (some ⟨b23, 0, none⟩)), (6, .slice a39 x37.length c40), (7, .pointer (some ⟨b57, 0, none⟩)), (8, .int .i64 x49.2), (9, .slice a73 x71.1.length c74), (11, .slice a85 x83.1.length c86), (12, .int .i64 x83.2), (13, .int .i64 st118), (14, .pointer (some ⟨b138, 0, none⟩)), (86, .slice a39 x37.length c40), (87, .int .i64 st118)] (by kernel_rfl) ?_
  obtain ⟨x152, hx153, hm⟩ := bindE hm
  refine WL.st (.pointer (some (at_ a39 (Int.toNat st118 * 2)))) (ST.index (T := fChange.ty) (xs := x37) (SH.rd (SH.front 4 hS148)) hx153 rfl rfl rfl Tryd.underlying37 (info25).1 (info25).2.1) rfl rfl rfl ?_
  refine WL.st (.agg #[.int .i64 x152.Kind, .int .i64 x152.Amount]) (ST.loadAgg (vs := fChange.leaf x152) (fun j v hv => Rd.flatA (F := fChange) (SH.rd (SH.front 4 hS148)) hx153 j hv) rfl rfl rfl Tryd.underlying25 rfl (info25).1 (info25).2.1) rfl rfl rfl ?_
  obtain ⟨x154, hx155, hm⟩ := bindE hm
  refine WL.call 8 #[.agg #[.int .i64 x152.Kind, .int .i64 x152.Amount]] rfl rfl (by kernel_rfl) (c_8 n x152 w146 hx155 (GL.below (GL.low (j := 3) hG rfl) hb149)) ?_
  rintro _ w156 ⟨rfl, hE157⟩
  refine ⟨_, rfl, ?_⟩
  have hb159 : Ext w w156 := Ext.trans hb149 hE157
  have hL160 : w.heap.size ≤ w156.heap.size := Nat.le_trans hL150 hE157.size
  have hS161 : SH w156 w.heap.size [aBox 25 b138 [.int .i64 x136.Kind, .int .i64 x136.Amount], aOwn fChange 25 a85 c86 x83.1, aOwn fChange 25 a73 c74 x71.1, aBox 35 b57 [.string (bs x49.1.Name), .int .i64 x49.1.Length, .int .i64 x49.1.Ball, .int .i64 x49.1.Instep, .int .i64 x49.1.Heel, .int .i64 x49.1.Pitch], aOwn fChange 25 a39 c40 x37, aBox 35 b23 [.string (bs x15.Name), .int .i64 x15.Length, .int .i64 x15.Ball, .int .i64 x15.Instep, .int .i64 x15.Heel, .int .i64 x15.Pitch]] := SH.ext hS148 hE157
  obtain ⟨x162, hx163, hm⟩ := bindE hm
  refine WL.call 10 #[.string (bs x154)] rfl rfl (by kernel_rfl) (c_10 n x154 w156 hx163 (GL.below hG hb159)) ?_
  rintro _ w164 ⟨rfl, hE165⟩
  refine ⟨_, rfl, ?_⟩
  have hb167 : Ext w w164 := Ext.trans hb159 hE165
  have hL168 : w.heap.size ≤ w164.heap.size := Nat.le_trans hL160 hE165.size
  have hS169 : SH w164 w.heap.size [aBox 25 b138 [.int .i64 x136.Kind, .int .i64 x136.Amount], aOwn fChange 25 a85 c86 x83.1, aOwn fChange 25 a73 c74 x71.1, aBox 35 b57 [.string (bs x49.1.Name), .int .i64 x49.1.Length, .int .i64 x49.1.Ball, .int .i64 x49.1.Instep, .int .i64 x49.1.Heel, .int .i64 x49.1.Pitch], aOwn fChange 25 a39 c40 x37, aBox 35 b23 [.string (bs x15.Name), .int .i64 x15.Length, .int .i64 x15.Ball, .int .i64 x15.Instep, .int .i64 x15.Heel, .int .i64 x15.Pitch]] := SH.ext hS161 hE165
  refine WL.runk 3 [5, 6, 7, 8, 9, 11, 12, 13, 14, 92, 93] [(5, .pointer (some ⟨b23, 0, none⟩)), (6, .slice a39 x37.length c40), (7, .pointer (some ⟨b57, 0, none⟩)), (8, .int .i64 x49.2), (9, .slice a73 x71.1.length c74), (11, .slice a85 x83.1.length c86), (12, .int .i64 x83.2), (13, .int .i64 st118), (14, .pointer (some ⟨b138, 0, none⟩)), (92, .agg #[.int .i64 x162.1.Kind, .int .i64 x162.1.Amount]), (93, .bool x162.2)] (by kernel_rfl) ?_
  refine WL.box 25 [.int .i64 0, .int .i64 0] 15 (by kernel_rfl) rfl rfl rfl rfl ?_
  intro b170 w171 hE172 hR173
  have hb175 : Ext w w171 := Ext.trans hb167 hE172
  have hL176 : w.heap.size ≤ w171.heap.size := Nat.le_trans hL168 hE172.size
  have hS177 : SH w171 w.heap.size [aBox 25 b170 [.int .i64 0, .int .i64 0], aBox 25 b138 [.int .i64 x136.Kind, .int .i64 x136.Amount], aOwn fChange 25 a85 c86 x83.1, aOwn fChange 25 a73 c74 x71.1, aBox 35 b57 [.string (bs x49.1.Name), .int .i64 x49.1.Length, .int .i64 x49.1.Ball, .int .i64 x49.1.Instep, .int .i64 x49.1.Heel, .int .i64 x49.1.Pitch], aOwn fChange 25 a39 c40 x37, aBox 35 b23 [.string (bs x15.Name), .int .i64 x15.Length, .int .i64 x15.Ball, .int .i64 x15.Instep, .int .i64 x15.Heel, .int .i64 x15.Pitch]] := SH.add hS169 hE172 hL168 hR173
  refine WL.boxStore 0 [.int .i64 x162.1.Kind, .int .i64 x162.1.Amount] [.int .i64 x162.1.Kind, .int .i64 x162.1.Amount] (SH.front 0 hS177) hL176 rfl rfl rfl rfl rfl rfl rfl (info25).1 (info25).2.1 rfl rfl rfl ?_
  intro w178 hB179 hS180
  have hb181 : Ext w w178 := Below.trans hb175 hB179
  have hL182 : w.heap.size ≤ w178.heap.size := Nat.le_trans hL176 hB179.size
  refine WL.runk 1 [5, 6, 7, 8, 9, 11, 12, 13, 14, 15, 16] [(5, .pointer (some ⟨b23, 0, none⟩)), (6, .slice a39 x37.length c40), (7, .pointer (some ⟨b57, 0, none⟩)), (8, .int .i64 x49.2), (9, .slice a73 x71.1.length c74), (11, .slice a85 x83.1.length c86), (12, .int .i64 x83.2), (13, .int .i64 st118), (14, .pointer (some ⟨b138, 0, none⟩)), (15, .pointer (some ⟨b170, 0, none⟩)), (16, .bool x162.2)] (by kernel_rfl) ?_
  refine WL.nil ?_
  refine WQ.then_normal (hK151 _ _ _ ?_)
  refine WP.seq (fun K183 hK183 => ?_)
  obtain ⟨x213, hx214, hm⟩ := bindE hm
  refine WP.cut (fun env' w' => env' = [(5, .pointer (some ⟨b23, 0, none⟩)), (6, .slice a39 x37.length c40), (7, .pointer (some ⟨b57, 0, none⟩)), (8, .int .i64 x49.2), (9, .slice a73 x71.1.length c74), (11, .slice a85 x83.1.length c86), (12, .int .i64 x83.2), (13, .int .i64 st118), (124, .bool x213)] ∧ Ext w w' ∧ w.heap.size ≤ w'.heap.size ∧ SH w' w.heap.size [aBox 25 b170 [.int .i64 x162.1.Kind, .int .i64 x162.1.Amount], aBox 25 b138 [.int .i64 x136.Kind, .int .i64 x136.Amount], aOwn fChange 25 a85 c86 x83.1, aOwn fChange 25 a73 c74 x71.1, aBox 35 b57 [.string (bs x49.1.Name), .int .i64 x49.1.Length, .int .i64 x49.1.Ball, .int .i64 x49.1.Instep, .int .i64 x49.1.Heel, .int .i64 x49.1.Pitch], aOwn fChange 25 a39 c40 x37, aBox 35 b23 [.string (bs x15.Name), .int .i64 x15.Length, .int .i64 x15.Ball, .int .i64 x15.Instep, .int .i64 x15.Heel, .int .i64 x15.Pitch]]) ?_ ?_
  rotate_left
  · clear hx214
    rintro _ w244 ⟨rfl, hb245, hL246, hS247⟩
    refine WQ.then_normal (hK183 _ _ _ ?_)
    refine WP.cond x213 rfl rfl (fun hc248 => ?_) (fun hc248 => ?_)
    rotate_left
    · have hm := iteF hm hc248
      refine WP.skip ?_
      refine WQ.block_normal ?_
      refine WQ.then_normal (hK134 _ _ _ ?_)
      refine WP.region ?_
      refine WL.runk 3 [5, 6, 7, 8, 9, 11, 12, 13] [(5, .pointer (some ⟨b23, 0, none⟩)), (6, .slice a39 x37.length c40), (7, .pointer (some ⟨b57, 0, none⟩)), (8, .int .i64 x49.2), (9, .slice a73 x71.1.length c74), (11, .slice a85 x83.1.length c86), (12, .int .i64 x83.2), (13, .int .i64 (wI64 (st118 + 1)))] (by kernel_rfl) ?_
      refine WL.nil ?_
      obtain rfl := Option.some.inj hm
      exact WQ.round hK125 ⟨(wI64 (st118 + 1)), rfl, hb245, hL246, (SH.take 5 (SH.front 6 (SH.front 6 (SH.front 6 (SH.front 6 (SH.front 6 hS247)))))), hl123⟩ (Nat.lt_succ_self _) ⟨rfl, rfl, rfl, rfl, rfl, rfl, rfl, rfl, trivial⟩
    have hm := iteT hm hc248
    refine WP.seq (fun K249 hK249 => ?_)
    refine WP.region ?_
    refine WL.runk 1 [4] [(4, .bool false)] (by kernel_rfl) ?_
    refine WL.nil ?_
    refine WQ.then_normal (hK249 _ _ _ ?_)
    refine WP.ret ?_
    refine WQ.block_ret ?_
    refine WQ.then_ret ?_
    refine WQ.then_ret ?_
    refine WQ.block_ret ?_
    refine WQ.then_ret ?_
    obtain rfl := Option.some.inj hm
    obtain rfl := afterN_done hl123
    have hm := hmo124
    obtain rfl := Option.some.inj hm
    exact WQ.ret1 _ rfl rfl ⟨rfl, hb245⟩
  have hm := hx214; clear hx214
  refine WP.quiet (by kernel_rfl) (by kernel_rfl) ?_
  refine QL.step1v 94 (.pointer (some ⟨b138, 0, none⟩)) rfl (fun _ => by kernel_rfl) ?_
  refine QL.subk [5, 6, 7, 8, 9, 11, 12, 13, 14, 15, 16, 94] [(5, .pointer (some ⟨b23, 0, none⟩)), (6, .slice a39 x37.length c40), (7, .pointer (some ⟨b57, 0, none⟩)), (8, .int .i64 x49.2), (9, .slice a73 x71.1.length c74), (11, .slice a85 x83.1.length c86), (12, .int .i64 x83.2), (13, .int .i64 st118), (14, .pointer (some ⟨b138, 0, none⟩)), (15, .pointer (some ⟨b170, 0, none⟩)), (16, .bool x162.2), (94, .pointer (some ⟨b138, 0, none⟩))] (by kernel_rfl) ?_
  refine QL.st (.int .i64 x136.Kind) (ST.load (cell_ext (SH.boxAt (SH.front 1 hS180) 0 _ rfl)) rfl rfl Tryd.underlying2 rfl) rfl rfl rfl ?_
  refine QL.step1v 96 (.slice a39 x37.length c40) rfl (fun _ => by kernel_rfl) ?_
  refine QL.step1v 97 (.int .i64 st118) rfl (fun _ => by kernel_rfl) ?_
  refine QL.subk [5, 6, 7, 8, 9, 11, 12, 13, 14, 15, 16, 95, 96, 97] [(5, .pointer (some ⟨b23, 0, none⟩)), (6, .slice a39 x37.length c40), (7, .pointer (some ⟨b57, 0, none⟩)), (8, .int .i64 x49.2), (9, .slice a73 x71.1.length c74), (11, .slice a85 x83.1.length c86), (12, .int .i64 x83.2), (13, .int .i64 st118), (14, .pointer (some ⟨b138, 0, none⟩)), (15, .pointer (some ⟨b170, 0, none⟩)), (16, .bool x162.2), (95, .int .i64 x136.Kind), (96, .slice a39 x37.length c40), (97, .int .i64 st118)] (by kernel_rfl) ?_
  obtain ⟨x215, hx216, hm⟩ := bindE hm
  refine QL.st (.pointer (some (at_ a39 (Int.toNat st118 * 2)))) (ST.index (T := fChange.ty) (xs := x37) (SH.rd (SH.front 5 hS180)) hx216 rfl rfl rfl Tryd.underlying37 (info25).1 (info25).2.1) rfl rfl rfl ?_
  refine QL.step1v 99 (.pointer (some (at_ a39 (Int.toNat st118 * 2)))) rfl (fun _ => by kernel_rfl) ?_
  refine QL.subk [5, 6, 7, 8, 9, 11, 12, 13, 14, 15, 16, 95, 99] [(5, .pointer (some ⟨b23, 0, none⟩)), (6, .slice a39 x37.length c40), (7, .pointer (some ⟨b57, 0, none⟩)), (8, .int .i64 x49.2), (9, .slice a73 x71.1.length c74), (11, .slice a85 x83.1.length c86), (12, .int .i64 x83.2), (13, .int .i64 st118), (14, .pointer (some ⟨b138, 0, none⟩)), (15, .pointer (some ⟨b170, 0, none⟩)), (16, .bool x162.2), (95, .int .i64 x136.Kind), (99, .pointer (some (at_ a39 (Int.toNat st118 * 2))))] (by kernel_rfl) ?_
  refine QL.st (.int .i64 x215.Kind) (ST.load (cell_ext (Rd.flat (F := fChange) (SH.rd (SH.front 5 hS180)) hx216 0 rfl)) rfl rfl Tryd.underlying2 rfl) rfl rfl rfl ?_
  refine QL.step1v 101 (.bool (x136.Kind != x215.Kind)) rfl (fun _ => by kernel_rfl) ?_
  refine QL.step1v 102 (.bool (x136.Kind != x215.Kind)) rfl (fun _ => by kernel_rfl) ?_
  refine QL.subk [5, 6, 7, 8, 9, 11, 12, 13, 14, 15, 16, 102] [(5, .pointer (some ⟨b23, 0, none⟩)), (6, .slice a39 x37.length c40), (7, .pointer (some ⟨b57, 0, none⟩)), (8, .int .i64 x49.2), (9, .slice a73 x71.1.length c74), (11, .slice a85 x83.1.length c86), (12, .int .i64 x83.2), (13, .int .i64 st118), (14, .pointer (some ⟨b138, 0, none⟩)), (15, .pointer (some ⟨b170, 0, none⟩)), (16, .bool x162.2), (102, .bool (x136.Kind != x215.Kind))] (by kernel_rfl) ?_
  refine QL.case (x136.Kind != x215.Kind) [102] ⟨rfl, trivial⟩ (fun hc217 => ?_) (fun hc217 => ?_)
  · have hm := iteT hm hc217
    refine QL.step1v 103 undef rfl (fun _ => by kernel_rfl) ?_
    refine QL.step1v 104 undef rfl (fun _ => by kernel_rfl) ?_
    refine QL.step1v 105 undef rfl (fun _ => by kernel_rfl) ?_
    refine QL.step1v 106 undef rfl (fun _ => by kernel_rfl) ?_
    refine QL.step1v 107 undef rfl (fun _ => by kernel_rfl) ?_
    refine QL.step1v 108 undef rfl (fun _ => by kernel_rfl) ?_
    refine QL.step1v 109 undef rfl (fun _ => by kernel_rfl) ?_
    refine QL.step1v 110 undef rfl (fun _ => by kernel_rfl) ?_
    refine QL.step1v 111 undef rfl (fun _ => by kernel_rfl) ?_
    refine QL.step1v 112 (.bool true) rfl (fun _ => by kernel_rfl) ?_
    refine QL.step1v 113 (.bool true) rfl (fun _ => by kernel_rfl) ?_
    refine QL.step1v 114 undef rfl (fun _ => by kernel_rfl) ?_
    refine QL.step1v 115 undef rfl (fun _ => by kernel_rfl) ?_
    refine QL.step1v 116 (.bool true) rfl (fun _ => by kernel_rfl) ?_
    refine QL.step1v 117 (.bool true) rfl (fun _ => by kernel_rfl) ?_
    refine QL.step1v 118 undef rfl (fun _ => by kernel_rfl) ?_
    refine QL.step1v 119 undef rfl (fun _ => by kernel_rfl) ?_
    refine QL.step1v 120 undef rfl (fun _ => by kernel_rfl) ?_
    refine QL.step1v 121 undef rfl (fun _ => by kernel_rfl) ?_
    refine QL.step1v 122 undef rfl (fun _ => by kernel_rfl) ?_
    refine QL.step1v 123 undef rfl (fun _ => by kernel_rfl) ?_
    refine QL.step1v 124 (.bool true) rfl (fun _ => by kernel_rfl) ?_
    refine QL.subk [5, 6, 7, 8, 9, 11, 12, 13, 124] [(5, .pointer (some ⟨b23, 0, none⟩)), (6, .slice a39 x37.length c40), (7, .pointer (some ⟨b57, 0, none⟩)), (8, .int .i64 x49.2), (9, .slice a73 x71.1.length c74), (11, .slice a85 x83.1.length c86), (12, .int .i64 x83.2), (13, .int .i64 st118), (124, .bool true)] (by kernel_rfl) ?_
    refine QL.nil ?_
    intro w218 hE219
    have hb220 : Ext w w218 := Ext.trans hb181 hE219
    have hL221 : w.heap.size ≤ w218.heap.size := Nat.le_trans hL182 hE219.size
    have hS222 : SH w218 w.heap.size [aBox 25 b170 [.int .i64 x162.1.Kind, .int .i64 x162.1.Amount], aBox 25 b138 [.int .i64 x136.Kind, .int .i64 x136.Amount], aOwn fChange 25 a85 c86 x83.1, aOwn fChange 25 a73 c74 x71.1, aBox 35 b57 [.string (bs x49.1.Name), .int .i64 x49.1.Length, .int .i64 x49.1.Ball, .int .i64 x49.1.Instep, .int .i64 x49.1.Heel, .int .i64 x49.1.Pitch], aOwn fChange 25 a39 c40 x37, aBox 35 b23 [.string (bs x15.Name), .int .i64 x15.Length, .int .i64 x15.Ball, .int .i64 x15.Instep, .int .i64 x15.Heel, .int .i64 x15.Pitch]] := SH.ext hS180 hE219
    obtain rfl := Option.some.inj hm
    exact WQ.post' ⟨rfl, hb220, hL221, hS222⟩ ⟨rfl, rfl, rfl, rfl, rfl, rfl, rfl, rfl, rfl, trivial⟩
  have hm := iteF hm hc217
  refine QL.step1v 103 (.pointer (some ⟨b138, 1, none⟩)) rfl (fun _ => by kernel_rfl) ?_
  refine QL.subk [5, 6, 7, 8, 9, 11, 12, 13, 15, 16, 102, 103] [(5, .pointer (some ⟨b23, 0, none⟩)), (6, .slice a39 x37.length c40), (7, .pointer (some ⟨b57, 0, none⟩)), (8, .int .i64 x49.2), (9, .slice a73 x71.1.length c74), (11, .slice a85 x83.1.length c86), (12, .int .i64 x83.2), (13, .int .i64 st118), (15, .pointer (some ⟨b170, 0, none⟩)), (16, .bool x162.2), (102, .bool false), (103, .pointer (some ⟨b138, 1, none⟩))] (by kernel_rfl) ?_
  refine QL.st (.int .i64 x136.Amount) (ST.load (cell_ext (SH.boxAt (SH.front 1 hS180) 1 _ rfl)) rfl rfl Tryd.underlying2 rfl) rfl rfl rfl ?_
  refine QL.step1v 105 (.slice a39 x37.length c40) rfl (fun _ => by kernel_rfl) ?_
  refine QL.step1v 106 (.int .i64 st118) rfl (fun _ => by kernel_rfl) ?_
  refine QL.subk [5, 6, 7, 8, 9, 11, 12, 13, 15, 16, 102, 104, 105, 106] [(5, .pointer (some ⟨b23, 0, none⟩)), (6, .slice a39 x37.length c40), (7, .pointer (some ⟨b57, 0, none⟩)), (8, .int .i64 x49.2), (9, .slice a73 x71.1.length c74), (11, .slice a85 x83.1.length c86), (12, .int .i64 x83.2), (13, .int .i64 st118), (15, .pointer (some ⟨b170, 0, none⟩)), (16, .bool x162.2), (102, .bool false), (104, .int .i64 x136.Amount), (105, .slice a39 x37.length c40), (106, .int .i64 st118)] (by kernel_rfl) ?_
  obtain ⟨x223, hx224, hm⟩ := bindE hm
  refine QL.st (.pointer (some (at_ a39 (Int.toNat st118 * 2)))) (ST.index (T := fChange.ty) (xs := x37) (SH.rd (SH.front 5 hS180)) hx224 rfl rfl rfl Tryd.underlying37 (info25).1 (info25).2.1) rfl rfl rfl ?_
  refine QL.step1v 108 (.pointer (some (at_ a39 (Int.toNat st118 * 2 + 1)))) rfl (fun _ => by kernel_rfl) ?_
  refine QL.subk [5, 6, 7, 8, 9, 11, 12, 13, 15, 16, 102, 104, 108] [(5, .pointer (some ⟨b23, 0, none⟩)), (6, .slice a39 x37.length c40), (7, .pointer (some ⟨b57, 0, none⟩)), (8, .int .i64 x49.2), (9, .slice a73 x71.1.length c74), (11, .slice a85 x83.1.length c86), (12, .int .i64 x83.2), (13, .int .i64 st118), (15, .pointer (some ⟨b170, 0, none⟩)), (16, .bool x162.2), (102, .bool false), (104, .int .i64 x136.Amount), (108, .pointer (some (at_ a39 (Int.toNat st118 * 2 + 1))))] (by kernel_rfl) ?_
  refine QL.st (.int .i64 x223.Amount) (ST.load (cell_ext (Rd.flat (F := fChange) (SH.rd (SH.front 5 hS180)) hx224 1 rfl)) rfl rfl Tryd.underlying2 rfl) rfl rfl rfl ?_
  refine QL.step1v 110 (.int .i64 (wI64 (0 - x223.Amount))) rfl (fun _ => by kernel_rfl) ?_
  refine QL.step1v 111 (.bool (x136.Amount != (wI64 (0 - x223.Amount)))) rfl (fun _ => by kernel_rfl) ?_
  refine QL.step1v 112 (.bool (x136.Amount != (wI64 (0 - x223.Amount)))) rfl (fun _ => by kernel_rfl) ?_
  refine QL.step1v 113 (.bool (x136.Amount != (wI64 (0 - x223.Amount)))) rfl (fun _ => by kernel_rfl) ?_
  refine QL.subk [5, 6, 7, 8, 9, 11, 12, 13, 15, 16, 113] [(5, .pointer (some ⟨b23, 0, none⟩)), (6, .slice a39 x37.length c40), (7, .pointer (some ⟨b57, 0, none⟩)), (8, .int .i64 x49.2), (9, .slice a73 x71.1.length c74), (11, .slice a85 x83.1.length c86), (12, .int .i64 x83.2), (13, .int .i64 st118), (15, .pointer (some ⟨b170, 0, none⟩)), (16, .bool x162.2), (113, .bool (x136.Amount != (wI64 (0 - x223.Amount))))] (by kernel_rfl) ?_
  refine QL.case (x136.Amount != (wI64 (0 - x223.Amount))) [113] ⟨rfl, trivial⟩ (fun hc225 => ?_) (fun hc225 => ?_)
  · have hm := iteT hm hc225
    refine QL.step1v 114 undef rfl (fun _ => by kernel_rfl) ?_
    refine QL.step1v 115 undef rfl (fun _ => by kernel_rfl) ?_
    refine QL.step1v 116 (.bool true) rfl (fun _ => by kernel_rfl) ?_
    refine QL.step1v 117 (.bool true) rfl (fun _ => by kernel_rfl) ?_
    refine QL.step1v 118 undef rfl (fun _ => by kernel_rfl) ?_
    refine QL.step1v 119 undef rfl (fun _ => by kernel_rfl) ?_
    refine QL.step1v 120 undef rfl (fun _ => by kernel_rfl) ?_
    refine QL.step1v 121 undef rfl (fun _ => by kernel_rfl) ?_
    refine QL.step1v 122 undef rfl (fun _ => by kernel_rfl) ?_
    refine QL.step1v 123 undef rfl (fun _ => by kernel_rfl) ?_
    refine QL.step1v 124 (.bool true) rfl (fun _ => by kernel_rfl) ?_
    refine QL.subk [5, 6, 7, 8, 9, 11, 12, 13, 124] [(5, .pointer (some ⟨b23, 0, none⟩)), (6, .slice a39 x37.length c40), (7, .pointer (some ⟨b57, 0, none⟩)), (8, .int .i64 x49.2), (9, .slice a73 x71.1.length c74), (11, .slice a85 x83.1.length c86), (12, .int .i64 x83.2), (13, .int .i64 st118), (124, .bool true)] (by kernel_rfl) ?_
    refine QL.nil ?_
    intro w226 hE227
    have hb228 : Ext w w226 := Ext.trans hb181 hE227
    have hL229 : w.heap.size ≤ w226.heap.size := Nat.le_trans hL182 hE227.size
    have hS230 : SH w226 w.heap.size [aBox 25 b170 [.int .i64 x162.1.Kind, .int .i64 x162.1.Amount], aBox 25 b138 [.int .i64 x136.Kind, .int .i64 x136.Amount], aOwn fChange 25 a85 c86 x83.1, aOwn fChange 25 a73 c74 x71.1, aBox 35 b57 [.string (bs x49.1.Name), .int .i64 x49.1.Length, .int .i64 x49.1.Ball, .int .i64 x49.1.Instep, .int .i64 x49.1.Heel, .int .i64 x49.1.Pitch], aOwn fChange 25 a39 c40 x37, aBox 35 b23 [.string (bs x15.Name), .int .i64 x15.Length, .int .i64 x15.Ball, .int .i64 x15.Instep, .int .i64 x15.Heel, .int .i64 x15.Pitch]] := SH.ext hS180 hE227
    obtain rfl := Option.some.inj hm
    exact WQ.post' ⟨rfl, hb228, hL229, hS230⟩ ⟨rfl, rfl, rfl, rfl, rfl, rfl, rfl, rfl, rfl, trivial⟩
  have hm := iteF hm hc225
  refine QL.step1v 114 (.bool x162.2) rfl (fun _ => by kernel_rfl) ?_
  refine QL.step1v 115 (.bool (!x162.2)) rfl (fun _ => by kernel_rfl) ?_
  refine QL.step1v 116 (.bool (!x162.2)) rfl (fun _ => by kernel_rfl) ?_
  refine QL.step1v 117 (.bool (!x162.2)) rfl (fun _ => by kernel_rfl) ?_
  refine QL.subk [5, 6, 7, 8, 9, 11, 12, 13, 15, 117] [(5, .pointer (some ⟨b23, 0, none⟩)), (6, .slice a39 x37.length c40), (7, .pointer (some ⟨b57, 0, none⟩)), (8, .int .i64 x49.2), (9, .slice a73 x71.1.length c74), (11, .slice a85 x83.1.length c86), (12, .int .i64 x83.2), (13, .int .i64 st118), (15, .pointer (some ⟨b170, 0, none⟩)), (117, .bool (!x162.2))] (by kernel_rfl) ?_
  refine QL.case (!x162.2) [117] ⟨rfl, trivial⟩ (fun hc231 => ?_) (fun hc231 => ?_)
  · have hm := iteT hm hc231
    refine QL.step1v 118 undef rfl (fun _ => by kernel_rfl) ?_
    refine QL.step1v 119 undef rfl (fun _ => by kernel_rfl) ?_
    refine QL.step1v 120 undef rfl (fun _ => by kernel_rfl) ?_
    refine QL.step1v 121 undef rfl (fun _ => by kernel_rfl) ?_
    refine QL.step1v 122 undef rfl (fun _ => by kernel_rfl) ?_
    refine QL.step1v 123 undef rfl (fun _ => by kernel_rfl) ?_
    refine QL.step1v 124 (.bool true) rfl (fun _ => by kernel_rfl) ?_
    refine QL.subk [5, 6, 7, 8, 9, 11, 12, 13, 124] [(5, .pointer (some ⟨b23, 0, none⟩)), (6, .slice a39 x37.length c40), (7, .pointer (some ⟨b57, 0, none⟩)), (8, .int .i64 x49.2), (9, .slice a73 x71.1.length c74), (11, .slice a85 x83.1.length c86), (12, .int .i64 x83.2), (13, .int .i64 st118), (124, .bool true)] (by kernel_rfl) ?_
    refine QL.nil ?_
    intro w232 hE233
    have hb234 : Ext w w232 := Ext.trans hb181 hE233
    have hL235 : w.heap.size ≤ w232.heap.size := Nat.le_trans hL182 hE233.size
    have hS236 : SH w232 w.heap.size [aBox 25 b170 [.int .i64 x162.1.Kind, .int .i64 x162.1.Amount], aBox 25 b138 [.int .i64 x136.Kind, .int .i64 x136.Amount], aOwn fChange 25 a85 c86 x83.1, aOwn fChange 25 a73 c74 x71.1, aBox 35 b57 [.string (bs x49.1.Name), .int .i64 x49.1.Length, .int .i64 x49.1.Ball, .int .i64 x49.1.Instep, .int .i64 x49.1.Heel, .int .i64 x49.1.Pitch], aOwn fChange 25 a39 c40 x37, aBox 35 b23 [.string (bs x15.Name), .int .i64 x15.Length, .int .i64 x15.Ball, .int .i64 x15.Instep, .int .i64 x15.Heel, .int .i64 x15.Pitch]] := SH.ext hS180 hE233
    obtain rfl := Option.some.inj hm
    exact WQ.post' ⟨rfl, hb234, hL235, hS236⟩ ⟨rfl, rfl, rfl, rfl, rfl, rfl, rfl, rfl, rfl, trivial⟩
  have hm := iteF hm hc231
  refine QL.st (.agg #[.int .i64 x162.1.Kind, .int .i64 x162.1.Amount]) (ST.loadAgg (vs := [.int .i64 x162.1.Kind, .int .i64 x162.1.Amount]) (fun j v hv => SH.boxPart (us := [.int .i64 x162.1.Kind, .int .i64 x162.1.Amount]) (SH.front 0 hS180) 0 rfl j v hv) rfl rfl rfl Tryd.underlying25 rfl (info25).1 (info25).2.1) rfl rfl rfl ?_
  refine QL.step1v 119 (.slice a39 x37.length c40) rfl (fun _ => by kernel_rfl) ?_
  refine QL.step1v 120 (.int .i64 st118) rfl (fun _ => by kernel_rfl) ?_
  refine QL.subk [5, 6, 7, 8, 9, 11, 12, 13, 117, 118, 119, 120] [(5, .pointer (some ⟨b23, 0, none⟩)), (6, .slice a39 x37.length c40), (7, .pointer (some ⟨b57, 0, none⟩)), (8, .int .i64 x49.2), (9, .slice a73 x71.1.length c74), (11, .slice a85 x83.1.length c86), (12, .int .i64 x83.2), (13, .int .i64 st118), (117, .bool false), (118, .agg #[.int .i64 x162.1.Kind, .int .i64 x162.1.Amount]), (119, .slice a39 x37.length c40), (120, .int .i64 st118)] (by kernel_rfl) ?_
  obtain ⟨x237, hx238, hm⟩ := bindE hm
  refine QL.st (.pointer (some (at_ a39 (Int.toNat st118 * 2)))) (ST.index (T := fChange.ty) (xs := x37) (SH.rd (SH.front 5 hS180)) hx238 rfl rfl rfl Tryd.underlying37 (info25).1 (info25).2.1) rfl rfl rfl ?_
  refine QL.st (.agg #[.int .i64 x237.Kind, .int .i64 x237.Amount]) (ST.loadAgg (vs := fChange.leaf x237) (fun j v hv => Rd.flatA (F := fChange) (SH.rd (SH.front 5 hS180)) hx238 j hv) rfl rfl rfl Tryd.underlying25 rfl (info25).1 (info25).2.1) rfl rfl rfl ?_
  refine QL.st (.bool (!(decide (x162.1 = x237)))) (ST.aggne (F := fChange) (x := x162.1) (y := x237) (eqs_25 x162.1 x237) (by kernel_rfl) rfl rfl rfl) rfl rfl rfl ?_
  refine QL.step1v 124 (.bool (!(decide (x162.1 = x237)))) rfl (fun _ => by kernel_rfl) ?_
  refine QL.subk [5, 6, 7, 8, 9, 11, 12, 13, 124] [(5, .pointer (some ⟨b23, 0, none⟩)), (6, .slice a39 x37.length c40), (7, .pointer (some ⟨b57, 0, none⟩)), (8, .int .i64 x49.2), (9, .slice a73 x71.1.length c74), (11, .slice a85 x83.1.length c86), (12, .int .i64 x83.2), (13, .int .i64 st118), (124, .bool (!(decide (x162.1 = x237))))] (by kernel_rfl) ?_
  refine QL.nil ?_
  intro w239 hE240
  have hb241 : Ext w w239 := Ext.trans hb181 hE240
  have hL242 : w.heap.size ≤ w239.heap.size := Nat.le_trans hL182 hE240.size
  have hS243 : SH w239 w.heap.size [aBox 25 b170 [.int .i64 x162.1.Kind, .int .i64 x162.1.Amount], aBox 25 b138 [.int .i64 x136.Kind, .int .i64 x136.Amount], aOwn fChange 25 a85 c86 x83.1, aOwn fChange 25 a73 c74 x71.1, aBox 35 b57 [.string (bs x49.1.Name), .int .i64 x49.1.Length, .int .i64 x49.1.Ball, .int .i64 x49.1.Instep, .int .i64 x49.1.Heel, .int .i64 x49.1.Pitch], aOwn fChange 25 a39 c40 x37, aBox 35 b23 [.string (bs x15.Name), .int .i64 x15.Length, .int .i64 x15.Ball, .int .i64 x15.Instep, .int .i64 x15.Heel, .int .i64 x15.Pitch]] := SH.ext hS180 hE240
  obtain rfl := Option.some.inj hm
  exact WQ.post' ⟨rfl, hb241, hL242, hS243⟩ ⟨rfl, rfl, rfl, rfl, rfl, rfl, rfl, rfl, rfl, trivial⟩

end Go.Proofs.YtlplbjeegkkilaaDoor
