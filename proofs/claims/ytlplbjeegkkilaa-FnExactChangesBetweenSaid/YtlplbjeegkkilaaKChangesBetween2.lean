/- Each call does what its Lean function says. -/
import Derived.Test.YtlplbjeegkkilaaKChangesBetween1
set_option maxRecDepth 20000
set_option maxHeartbeats 4000000
namespace Go.Proofs.Ytlplbjeegkkilaa
open Go Go.Gv Go.RowKit

theorem c_12 (n : Nat) (aA_0 : SLast) (aB_1 : SLast) (w : World) {r : Bool} (hm : m_laws_FnExactChangesBetween n aA_0 aB_1 = some r)  :
    CallV Try.prog 12 #[.agg #[.string (bs aA_0.Name), .int .i64 aA_0.Length, .int .i64 aA_0.Ball, .int .i64 aA_0.Instep, .int .i64 aA_0.Heel, .int .i64 aA_0.Pitch], .agg #[.string (bs aB_1.Name), .int .i64 aB_1.Length, .int .i64 aB_1.Ball, .int .i64 aB_1.Instep, .int .i64 aB_1.Heel, .int .i64 aB_1.Pitch]] w (fun v w' => v = .bool r ∧ Ext w w') := by
  unfold m_laws_FnExactChangesBetween at hm
  refine CallV.enter Try.func12 rfl (by kernel_rfl) Try.ntmps12 (env := [(0, .agg #[.string (bs aA_0.Name), .int .i64 aA_0.Length, .int .i64 aA_0.Ball, .int .i64 aA_0.Instep, .int .i64 aA_0.Heel, .int .i64 aA_0.Pitch]), (1, .agg #[.string (bs aB_1.Name), .int .i64 aB_1.Length, .int .i64 aB_1.Ball, .int .i64 aB_1.Instep, .int .i64 aB_1.Heel, .int .i64 aB_1.Pitch])]) ⟨rfl, rfl, trivial⟩ ?_
  refine WP.seq (fun K1 hK1 => ?_)
  refine WP.region ?_
  refine WL.box 58 [.string (bs aA_0.Name), .int .i64 aA_0.Length, .int .i64 aA_0.Ball, .int .i64 aA_0.Instep, .int .i64 aA_0.Heel, .int .i64 aA_0.Pitch] 2 (by kernel_rfl) rfl rfl rfl rfl ?_
  intro b2 w3 hE4 hR5
  have hb7 : Ext w w3 := Ext.trans (Ext.refl w) hE4
  have hL8 : w.heap.size ≤ w3.heap.size := Nat.le_trans (Nat.le_refl _) hE4.size
  have hS9 : SH w3 w.heap.size [aBox 58 b2 [.string (bs aA_0.Name), .int .i64 aA_0.Length, .int .i64 aA_0.Ball, .int .i64 aA_0.Instep, .int .i64 aA_0.Heel, .int .i64 aA_0.Pitch]] := SH.add (SH.nil _ _) hE4 (Nat.le_refl _) hR5
  refine WL.box 58 [.string (bs aB_1.Name), .int .i64 aB_1.Length, .int .i64 aB_1.Ball, .int .i64 aB_1.Instep, .int .i64 aB_1.Heel, .int .i64 aB_1.Pitch] 3 (by kernel_rfl) rfl rfl rfl rfl ?_
  intro b10 w11 hE12 hR13
  have hb15 : Ext w w11 := Ext.trans hb7 hE12
  have hL16 : w.heap.size ≤ w11.heap.size := Nat.le_trans hL8 hE12.size
  have hS17 : SH w11 w.heap.size [aBox 58 b10 [.string (bs aB_1.Name), .int .i64 aB_1.Length, .int .i64 aB_1.Ball, .int .i64 aB_1.Instep, .int .i64 aB_1.Heel, .int .i64 aB_1.Pitch], aBox 58 b2 [.string (bs aA_0.Name), .int .i64 aA_0.Length, .int .i64 aA_0.Ball, .int .i64 aA_0.Instep, .int .i64 aA_0.Heel, .int .i64 aA_0.Pitch]] := SH.add hS9 hE12 hL8 hR13
  refine WL.runk 1 [2, 3] [(2, .pointer (some ⟨b2, 0, none⟩)), (3, .pointer (some ⟨b10, 0, none⟩))] (by kernel_rfl) ?_
  refine WL.nil ?_
  refine WQ.then_normal (hK1 _ _ _ ?_)
  refine WP.seq (fun K18 hK18 => ?_)
  refine WP.region ?_
  refine WL.runk 1 [2, 3, 5] [(2, .pointer (some ⟨b2, 0, none⟩)), (3, .pointer (some ⟨b10, 0, none⟩)), (5, .int .i64 1048576)] (by kernel_rfl) ?_
  refine WL.nil ?_
  refine WQ.then_normal (hK18 _ _ _ ?_)
  refine WP.seq (fun K19 hK19 => ?_)
  refine WP.region ?_
  refine WL.st (.agg #[.string (bs aA_0.Name), .int .i64 aA_0.Length, .int .i64 aA_0.Ball, .int .i64 aA_0.Instep, .int .i64 aA_0.Heel, .int .i64 aA_0.Pitch]) (ST.loadAgg (vs := [.string (bs aA_0.Name), .int .i64 aA_0.Length, .int .i64 aA_0.Ball, .int .i64 aA_0.Instep, .int .i64 aA_0.Heel, .int .i64 aA_0.Pitch]) (fun j v hv => SH.boxPart (us := [.string (bs aA_0.Name), .int .i64 aA_0.Length, .int .i64 aA_0.Ball, .int .i64 aA_0.Instep, .int .i64 aA_0.Heel, .int .i64 aA_0.Pitch]) (SH.front 1 hS17) 0 rfl j v hv) rfl rfl rfl Try.underlying58 rfl (info58).1 (info58).2.1) rfl rfl rfl ?_
  refine WL.runk 1 [2, 3, 14, 15] [(2, .pointer (some ⟨b2, 0, none⟩)), (3, .pointer (some ⟨b10, 0, none⟩)), (14, .agg #[.string (bs aA_0.Name), .int .i64 aA_0.Length, .int .i64 aA_0.Ball, .int .i64 aA_0.Instep, .int .i64 aA_0.Heel, .int .i64 aA_0.Pitch]), (15, .int .i64 1048576)] (by kernel_rfl) ?_
  obtain ⟨x20, hx21, hm⟩ := bindE hm
  refine WL.call 45 #[.agg #[.string (bs aA_0.Name), .int .i64 aA_0.Length, .int .i64 aA_0.Ball, .int .i64 aA_0.Instep, .int .i64 aA_0.Heel, .int .i64 aA_0.Pitch], .int .i64 1048576] rfl rfl (by kernel_rfl) (c_45 n aA_0 1048576 w11 hx21 ) ?_
  rintro _ w22 ⟨rfl, hE23⟩
  refine ⟨_, rfl, ?_⟩
  have hb25 : Ext w w22 := Ext.trans hb15 hE23
  have hL26 : w.heap.size ≤ w22.heap.size := Nat.le_trans hL16 hE23.size
  have hS27 : SH w22 w.heap.size [aBox 58 b10 [.string (bs aB_1.Name), .int .i64 aB_1.Length, .int .i64 aB_1.Ball, .int .i64 aB_1.Instep, .int .i64 aB_1.Heel, .int .i64 aB_1.Pitch], aBox 58 b2 [.string (bs aA_0.Name), .int .i64 aA_0.Length, .int .i64 aA_0.Ball, .int .i64 aA_0.Instep, .int .i64 aA_0.Heel, .int .i64 aA_0.Pitch]] := SH.ext hS17 hE23
  refine WL.runk 1 [2, 3, 5] [(2, .pointer (some ⟨b2, 0, none⟩)), (3, .pointer (some ⟨b10, 0, none⟩)), (5, .int .i64 x20)] (by kernel_rfl) ?_
  refine WL.nil ?_
  refine WQ.then_normal (hK19 _ _ _ ?_)
  refine WP.seq (fun K28 hK28 => ?_)
  refine WP.seq (fun K29 hK29 => ?_)
  refine WP.region ?_
  refine WL.runk 2 [2, 3, 5, 18] [(2, .pointer (some ⟨b2, 0, none⟩)), (3, .pointer (some ⟨b10, 0, none⟩)), (5, .int .i64 x20), (18, .bool (decide (x20 < 0)))] (by kernel_rfl) ?_
  refine WL.nil ?_
  refine WQ.then_normal (hK29 _ _ _ ?_)
  refine WP.cond (decide (x20 < 0)) rfl rfl (fun hc30 => ?_) (fun hc30 => ?_)
  · have hm := iteT hm hc30
    refine WP.seq (fun K31 hK31 => ?_)
    refine WP.region ?_
    refine WL.runk 1 [4] [(4, .bool true)] (by kernel_rfl) ?_
    refine WL.nil ?_
    refine WQ.then_normal (hK31 _ _ _ ?_)
    refine WP.ret ?_
    refine WQ.then_ret ?_
    obtain rfl := Option.some.inj hm
    exact WQ.ret1 _ rfl rfl ⟨rfl, hb25⟩
  have hm := iteF hm hc30
  refine WP.skip ?_
  refine WQ.then_normal (hK28 _ _ _ ?_)
  refine WP.seq (fun K32 hK32 => ?_)
  refine WP.region ?_
  refine WL.st (.agg #[.string (bs aB_1.Name), .int .i64 aB_1.Length, .int .i64 aB_1.Ball, .int .i64 aB_1.Instep, .int .i64 aB_1.Heel, .int .i64 aB_1.Pitch]) (ST.loadAgg (vs := [.string (bs aB_1.Name), .int .i64 aB_1.Length, .int .i64 aB_1.Ball, .int .i64 aB_1.Instep, .int .i64 aB_1.Heel, .int .i64 aB_1.Pitch]) (fun j v hv => SH.boxPart (us := [.string (bs aB_1.Name), .int .i64 aB_1.Length, .int .i64 aB_1.Ball, .int .i64 aB_1.Instep, .int .i64 aB_1.Heel, .int .i64 aB_1.Pitch]) (SH.front 0 hS27) 0 rfl j v hv) rfl rfl rfl Try.underlying58 rfl (info58).1 (info58).2.1) rfl rfl rfl ?_
  refine WL.runk 1 [2, 3, 19, 20] [(2, .pointer (some ⟨b2, 0, none⟩)), (3, .pointer (some ⟨b10, 0, none⟩)), (19, .agg #[.string (bs aB_1.Name), .int .i64 aB_1.Length, .int .i64 aB_1.Ball, .int .i64 aB_1.Instep, .int .i64 aB_1.Heel, .int .i64 aB_1.Pitch]), (20, .int .i64 x20)] (by kernel_rfl) ?_
  obtain ⟨x33, hx34, hm⟩ := bindE hm
  refine WL.call 45 #[.agg #[.string (bs aB_1.Name), .int .i64 aB_1.Length, .int .i64 aB_1.Ball, .int .i64 aB_1.Instep, .int .i64 aB_1.Heel, .int .i64 aB_1.Pitch], .int .i64 x20] rfl rfl (by kernel_rfl) (c_45 n aB_1 x20 w22 hx34 ) ?_
  rintro _ w35 ⟨rfl, hE36⟩
  refine ⟨_, rfl, ?_⟩
  have hb38 : Ext w w35 := Ext.trans hb25 hE36
  have hL39 : w.heap.size ≤ w35.heap.size := Nat.le_trans hL26 hE36.size
  have hS40 : SH w35 w.heap.size [aBox 58 b10 [.string (bs aB_1.Name), .int .i64 aB_1.Length, .int .i64 aB_1.Ball, .int .i64 aB_1.Instep, .int .i64 aB_1.Heel, .int .i64 aB_1.Pitch], aBox 58 b2 [.string (bs aA_0.Name), .int .i64 aA_0.Length, .int .i64 aA_0.Ball, .int .i64 aA_0.Instep, .int .i64 aA_0.Heel, .int .i64 aA_0.Pitch]] := SH.ext hS27 hE36
  refine WL.runk 1 [2, 3, 5] [(2, .pointer (some ⟨b2, 0, none⟩)), (3, .pointer (some ⟨b10, 0, none⟩)), (5, .int .i64 x33)] (by kernel_rfl) ?_
  refine WL.nil ?_
  refine WQ.then_normal (hK32 _ _ _ ?_)
  refine WP.seq (fun K41 hK41 => ?_)
  refine WP.seq (fun K42 hK42 => ?_)
  refine WP.region ?_
  refine WL.runk 2 [2, 3, 23] [(2, .pointer (some ⟨b2, 0, none⟩)), (3, .pointer (some ⟨b10, 0, none⟩)), (23, .bool (decide (x33 < 0)))] (by kernel_rfl) ?_
  refine WL.nil ?_
  refine WQ.then_normal (hK42 _ _ _ ?_)
  refine WP.cond (decide (x33 < 0)) rfl rfl (fun hc43 => ?_) (fun hc43 => ?_)
  · have hm := iteT hm hc43
    refine WP.seq (fun K44 hK44 => ?_)
    refine WP.region ?_
    refine WL.runk 1 [4] [(4, .bool true)] (by kernel_rfl) ?_
    refine WL.nil ?_
    refine WQ.then_normal (hK44 _ _ _ ?_)
    refine WP.ret ?_
    refine WQ.then_ret ?_
    obtain rfl := Option.some.inj hm
    exact WQ.ret1 _ rfl rfl ⟨rfl, hb38⟩
  have hm := iteF hm hc43
  refine WP.skip ?_
  refine WQ.then_normal (hK41 _ _ _ ?_)
  refine WP.seq (fun K45 hK45 => ?_)
  refine WP.open (n := 10) (by kernel_rfl) rfl (fun w46 hE47 => ?_)
  have hb48 : Ext w w46 := Ext.trans hb38 hE47
  have hL49 : w.heap.size ≤ w46.heap.size := Nat.le_trans hL39 hE47.size
  have hS50 : SH w46 w.heap.size [aBox 58 b10 [.string (bs aB_1.Name), .int .i64 aB_1.Length, .int .i64 aB_1.Ball, .int .i64 aB_1.Instep, .int .i64 aB_1.Heel, .int .i64 aB_1.Pitch], aBox 58 b2 [.string (bs aA_0.Name), .int .i64 aA_0.Length, .int .i64 aA_0.Ball, .int .i64 aA_0.Instep, .int .i64 aA_0.Heel, .int .i64 aA_0.Pitch]] := SH.ext hS40 hE47
  refine WA.quiet (f' := 6) (D' := [0, 1, 2, 3]) [0, 1, 2, 3] rfl rfl (by kernel_rfl) ?_
  refine QL.st (.agg #[.string (bs aA_0.Name), .int .i64 aA_0.Length, .int .i64 aA_0.Ball, .int .i64 aA_0.Instep, .int .i64 aA_0.Heel, .int .i64 aA_0.Pitch]) (ST.loadAgg (vs := [.string (bs aA_0.Name), .int .i64 aA_0.Length, .int .i64 aA_0.Ball, .int .i64 aA_0.Instep, .int .i64 aA_0.Heel, .int .i64 aA_0.Pitch]) (fun j v hv => SH.boxPart (us := [.string (bs aA_0.Name), .int .i64 aA_0.Length, .int .i64 aA_0.Ball, .int .i64 aA_0.Instep, .int .i64 aA_0.Heel, .int .i64 aA_0.Pitch]) (SH.front 1 hS50) 0 rfl j v hv) rfl rfl rfl Try.underlying58 rfl (info58).1 (info58).2.1) rfl rfl rfl ?_
  obtain ⟨x51, hx52, hm⟩ := bindE hm
  refine QL.call 47 #[.agg #[.string (bs aA_0.Name), .int .i64 aA_0.Length, .int .i64 aA_0.Ball, .int .i64 aA_0.Instep, .int .i64 aA_0.Heel, .int .i64 aA_0.Pitch]] (.agg #[.string (bs x51.Name), .int .i64 x51.Length, .int .i64 x51.Ball, .int .i64 x51.Instep, .int .i64 x51.Heel, .int .i64 x51.Pitch]) (fun _ => by kernel_rfl) (fun w53 hE54 => c_47 n aA_0 w53 hx52 ) rfl rfl rfl ?_
  refine QL.st (.agg #[.string (bs aB_1.Name), .int .i64 aB_1.Length, .int .i64 aB_1.Ball, .int .i64 aB_1.Instep, .int .i64 aB_1.Heel, .int .i64 aB_1.Pitch]) (ST.loadAgg (vs := [.string (bs aB_1.Name), .int .i64 aB_1.Length, .int .i64 aB_1.Ball, .int .i64 aB_1.Instep, .int .i64 aB_1.Heel, .int .i64 aB_1.Pitch]) (fun j v hv => SH.boxPart (us := [.string (bs aB_1.Name), .int .i64 aB_1.Length, .int .i64 aB_1.Ball, .int .i64 aB_1.Instep, .int .i64 aB_1.Heel, .int .i64 aB_1.Pitch]) (SH.front 0 hS50) 0 rfl j v hv) rfl rfl rfl Try.underlying58 rfl (info58).1 (info58).2.1) rfl rfl rfl ?_
  obtain ⟨x55, hx56, hm⟩ := bindE hm
  refine QL.call 47 #[.agg #[.string (bs aB_1.Name), .int .i64 aB_1.Length, .int .i64 aB_1.Ball, .int .i64 aB_1.Instep, .int .i64 aB_1.Heel, .int .i64 aB_1.Pitch]] (.agg #[.string (bs x55.Name), .int .i64 x55.Length, .int .i64 x55.Ball, .int .i64 x55.Instep, .int .i64 x55.Heel, .int .i64 x55.Pitch]) (fun _ => by kernel_rfl) (fun w57 hE58 => c_47 n aB_1 w57 hx56 ) rfl rfl rfl ?_
  refine QL.sub [(2, .pointer (some ⟨b2, 0, none⟩)), (3, .pointer (some ⟨b10, 0, none⟩)), (26, .agg #[.string (bs x51.Name), .int .i64 x51.Length, .int .i64 x51.Ball, .int .i64 x51.Instep, .int .i64 x51.Heel, .int .i64 x51.Pitch]), (28, .agg #[.string (bs x55.Name), .int .i64 x55.Length, .int .i64 x55.Ball, .int .i64 x55.Instep, .int .i64 x55.Heel, .int .i64 x55.Pitch])] ⟨rfl, rfl, rfl, rfl, trivial⟩ ?_
  refine QL.nil ?_
  intro w59 hE60
  have hb61 : Ext w w59 := Ext.trans hb48 hE60
  have hL62 : w.heap.size ≤ w59.heap.size := Nat.le_trans hL49 hE60.size
  have hS63 : SH w59 w.heap.size [aBox 58 b10 [.string (bs aB_1.Name), .int .i64 aB_1.Length, .int .i64 aB_1.Ball, .int .i64 aB_1.Instep, .int .i64 aB_1.Heel, .int .i64 aB_1.Pitch], aBox 58 b2 [.string (bs aA_0.Name), .int .i64 aA_0.Length, .int .i64 aA_0.Ball, .int .i64 aA_0.Instep, .int .i64 aA_0.Heel, .int .i64 aA_0.Pitch]] := SH.ext hS50 hE60
  refine WA.one (i := 4) (D' := [0, 1, 2, 3, 4]) rfl rfl (by kernel_rfl) ?_
  obtain ⟨x64, hx65, hm⟩ := bindE hm
  refine WL.call 46 #[.agg #[.string (bs x51.Name), .int .i64 x51.Length, .int .i64 x51.Ball, .int .i64 x51.Instep, .int .i64 x51.Heel, .int .i64 x51.Pitch], .agg #[.string (bs x55.Name), .int .i64 x55.Length, .int .i64 x55.Ball, .int .i64 x55.Instep, .int .i64 x55.Heel, .int .i64 x55.Pitch]] rfl rfl (by kernel_rfl) (c_46 n x51 x55 w59 hx65 ) ?_
  rintro _ w69 ⟨a66, c67, rfl, hE70, hR71⟩
  refine ⟨_, rfl, ?_⟩
  have hb72 : Ext w w69 := Ext.trans hb61 hE70
  have hL73 : w.heap.size ≤ w69.heap.size := Nat.le_trans hL62 hE70.size
  have hS74 : SH w69 w.heap.size [aOwn fChange 42 a66 c67 x64.1, aBox 58 b10 [.string (bs aB_1.Name), .int .i64 aB_1.Length, .int .i64 aB_1.Ball, .int .i64 aB_1.Instep, .int .i64 aB_1.Heel, .int .i64 aB_1.Pitch], aBox 58 b2 [.string (bs aA_0.Name), .int .i64 aA_0.Length, .int .i64 aA_0.Ball, .int .i64 aA_0.Instep, .int .i64 aA_0.Heel, .int .i64 aA_0.Pitch]] := SH.add hS63 hE70 hL62 hR71
  refine WL.sub [(2, .pointer (some ⟨b2, 0, none⟩)), (3, .pointer (some ⟨b10, 0, none⟩)), (29, .tuple #[.slice a66 x64.1.length c67, .int .i64 x64.2])] ⟨rfl, rfl, rfl, trivial⟩ ?_
  refine WL.nil ?_
  refine WA.one (i := 5) (D' := [0, 1, 2, 3, 4, 5]) rfl rfl (by kernel_rfl) ?_
  refine WL.runk 1 [2, 3, 6, 7, 24, 30, 31] [(2, .pointer (some ⟨b2, 0, none⟩)), (3, .pointer (some ⟨b10, 0, none⟩)), (24, .tuple #[.slice a66 x64.1.length c67, .int .i64 x64.2])] (by kernel_rfl) ?_
  refine WL.nil ?_
  refine WA.quiet (f' := 0) (D' := [0, 1, 2, 3, 4, 5, 6, 7, 8, 9]) [6, 7, 8, 9] rfl rfl (by kernel_rfl) ?_
  refine QL.step1v 30 (.slice a66 x64.1.length c67) rfl (fun _ => by kernel_rfl) ?_
  refine QL.step1v 31 (.int .i64 x64.2) rfl (fun _ => by kernel_rfl) ?_
  refine QL.step1v 6 (.slice a66 x64.1.length c67) rfl (fun _ => by kernel_rfl) ?_
  refine QL.step1v 7 (.int .i64 x64.2) rfl (fun _ => by kernel_rfl) ?_
  refine QL.sub [(2, .pointer (some ⟨b2, 0, none⟩)), (3, .pointer (some ⟨b10, 0, none⟩)), (6, .slice a66 x64.1.length c67), (7, .int .i64 x64.2)] ⟨rfl, rfl, rfl, rfl, trivial⟩ ?_
  refine QL.nil ?_
  intro w75 hE76
  have hb77 : Ext w w75 := Ext.trans hb72 hE76
  have hL78 : w.heap.size ≤ w75.heap.size := Nat.le_trans hL73 hE76.size
  have hS79 : SH w75 w.heap.size [aOwn fChange 42 a66 c67 x64.1, aBox 58 b10 [.string (bs aB_1.Name), .int .i64 aB_1.Length, .int .i64 aB_1.Ball, .int .i64 aB_1.Instep, .int .i64 aB_1.Heel, .int .i64 aB_1.Pitch], aBox 58 b2 [.string (bs aA_0.Name), .int .i64 aA_0.Length, .int .i64 aA_0.Ball, .int .i64 aA_0.Instep, .int .i64 aA_0.Heel, .int .i64 aA_0.Pitch]] := SH.ext hS74 hE76
  refine WA.done (by kernel_rfl) ?_
  refine WQ.then_normal (hK45 _ _ _ ?_)
  refine WP.seq (fun K80 hK80 => ?_)
  refine WP.open (n := 10) (by kernel_rfl) rfl (fun w81 hE82 => ?_)
  have hb83 : Ext w w81 := Ext.trans hb77 hE82
  have hL84 : w.heap.size ≤ w81.heap.size := Nat.le_trans hL78 hE82.size
  have hS85 : SH w81 w.heap.size [aOwn fChange 42 a66 c67 x64.1, aBox 58 b10 [.string (bs aB_1.Name), .int .i64 aB_1.Length, .int .i64 aB_1.Ball, .int .i64 aB_1.Instep, .int .i64 aB_1.Heel, .int .i64 aB_1.Pitch], aBox 58 b2 [.string (bs aA_0.Name), .int .i64 aA_0.Length, .int .i64 aA_0.Ball, .int .i64 aA_0.Instep, .int .i64 aA_0.Heel, .int .i64 aA_0.Pitch]] := SH.ext hS79 hE82
  refine WA.quiet (f' := 6) (D' := [0, 1, 2, 3]) [0, 1, 2, 3] rfl rfl (by kernel_rfl) ?_
  refine QL.st (.agg #[.string (bs aA_0.Name), .int .i64 aA_0.Length, .int .i64 aA_0.Ball, .int .i64 aA_0.Instep, .int .i64 aA_0.Heel, .int .i64 aA_0.Pitch]) (ST.loadAgg (vs := [.string (bs aA_0.Name), .int .i64 aA_0.Length, .int .i64 aA_0.Ball, .int .i64 aA_0.Instep, .int .i64 aA_0.Heel, .int .i64 aA_0.Pitch]) (fun j v hv => SH.boxPart (us := [.string (bs aA_0.Name), .int .i64 aA_0.Length, .int .i64 aA_0.Ball, .int .i64 aA_0.Instep, .int .i64 aA_0.Heel, .int .i64 aA_0.Pitch]) (SH.front 2 hS85) 0 rfl j v hv) rfl rfl rfl Try.underlying58 rfl (info58).1 (info58).2.1) rfl rfl rfl ?_
  obtain ⟨x86, hx87, hm⟩ := bindE hm
  refine QL.call 47 #[.agg #[.string (bs aA_0.Name), .int .i64 aA_0.Length, .int .i64 aA_0.Ball, .int .i64 aA_0.Instep, .int .i64 aA_0.Heel, .int .i64 aA_0.Pitch]] (.agg #[.string (bs x86.Name), .int .i64 x86.Length, .int .i64 x86.Ball, .int .i64 x86.Instep, .int .i64 x86.Heel, .int .i64 x86.Pitch]) (fun _ => by kernel_rfl) (fun w88 hE89 => c_47 n aA_0 w88 hx87 ) rfl rfl rfl ?_
  refine QL.st (.agg #[.string (bs aB_1.Name), .int .i64 aB_1.Length, .int .i64 aB_1.Ball, .int .i64 aB_1.Instep, .int .i64 aB_1.Heel, .int .i64 aB_1.Pitch]) (ST.loadAgg (vs := [.string (bs aB_1.Name), .int .i64 aB_1.Length, .int .i64 aB_1.Ball, .int .i64 aB_1.Instep, .int .i64 aB_1.Heel, .int .i64 aB_1.Pitch]) (fun j v hv => SH.boxPart (us := [.string (bs aB_1.Name), .int .i64 aB_1.Length, .int .i64 aB_1.Ball, .int .i64 aB_1.Instep, .int .i64 aB_1.Heel, .int .i64 aB_1.Pitch]) (SH.front 1 hS85) 0 rfl j v hv) rfl rfl rfl Try.underlying58 rfl (info58).1 (info58).2.1) rfl rfl rfl ?_
  obtain ⟨x90, hx91, hm⟩ := bindE hm
  refine QL.call 47 #[.agg #[.string (bs aB_1.Name), .int .i64 aB_1.Length, .int .i64 aB_1.Ball, .int .i64 aB_1.Instep, .int .i64 aB_1.Heel, .int .i64 aB_1.Pitch]] (.agg #[.string (bs x90.Name), .int .i64 x90.Length, .int .i64 x90.Ball, .int .i64 x90.Instep, .int .i64 x90.Heel, .int .i64 x90.Pitch]) (fun _ => by kernel_rfl) (fun w92 hE93 => c_47 n aB_1 w92 hx91 ) rfl rfl rfl ?_
  refine QL.sub [(2, .pointer (some ⟨b2, 0, none⟩)), (3, .pointer (some ⟨b10, 0, none⟩)), (6, .slice a66 x64.1.length c67), (7, .int .i64 x64.2), (34, .agg #[.string (bs x86.Name), .int .i64 x86.Length, .int .i64 x86.Ball, .int .i64 x86.Instep, .int .i64 x86.Heel, .int .i64 x86.Pitch]), (36, .agg #[.string (bs x90.Name), .int .i64 x90.Length, .int .i64 x90.Ball, .int .i64 x90.Instep, .int .i64 x90.Heel, .int .i64 x90.Pitch])] ⟨rfl, rfl, rfl, rfl, rfl, rfl, trivial⟩ ?_
  refine QL.nil ?_
  intro w94 hE95
  have hb96 : Ext w w94 := Ext.trans hb83 hE95
  have hL97 : w.heap.size ≤ w94.heap.size := Nat.le_trans hL84 hE95.size
  have hS98 : SH w94 w.heap.size [aOwn fChange 42 a66 c67 x64.1, aBox 58 b10 [.string (bs aB_1.Name), .int .i64 aB_1.Length, .int .i64 aB_1.Ball, .int .i64 aB_1.Instep, .int .i64 aB_1.Heel, .int .i64 aB_1.Pitch], aBox 58 b2 [.string (bs aA_0.Name), .int .i64 aA_0.Length, .int .i64 aA_0.Ball, .int .i64 aA_0.Instep, .int .i64 aA_0.Heel, .int .i64 aA_0.Pitch]] := SH.ext hS85 hE95
  refine WA.one (i := 4) (D' := [0, 1, 2, 3, 4]) rfl rfl (by kernel_rfl) ?_
  obtain ⟨x99, hx100, hm⟩ := bindE hm
  refine WL.call 48 #[.agg #[.string (bs x86.Name), .int .i64 x86.Length, .int .i64 x86.Ball, .int .i64 x86.Instep, .int .i64 x86.Heel, .int .i64 x86.Pitch], .agg #[.string (bs x90.Name), .int .i64 x90.Length, .int .i64 x90.Ball, .int .i64 x90.Instep, .int .i64 x90.Heel, .int .i64 x90.Pitch]] rfl rfl (by kernel_rfl) (c_48 n x86 x90 w94 hx100 ) ?_
  rintro _ w104 ⟨a101, c102, rfl, hE105, hR106⟩
  refine ⟨_, rfl, ?_⟩
  have hb107 : Ext w w104 := Ext.trans hb96 hE105
  have hL108 : w.heap.size ≤ w104.heap.size := Nat.le_trans hL97 hE105.size
  have hS109 : SH w104 w.heap.size [aOwn fChange 42 a101 c102 x99.1, aOwn fChange 42 a66 c67 x64.1, aBox 58 b10 [.string (bs aB_1.Name), .int .i64 aB_1.Length, .int .i64 aB_1.Ball, .int .i64 aB_1.Instep, .int .i64 aB_1.Heel, .int .i64 aB_1.Pitch], aBox 58 b2 [.string (bs aA_0.Name), .int .i64 aA_0.Length, .int .i64 aA_0.Ball, .int .i64 aA_0.Instep, .int .i64 aA_0.Heel, .int .i64 aA_0.Pitch]] := SH.add hS98 hE105 hL97 hR106
  refine WL.sub [(2, .pointer (some ⟨b2, 0, none⟩)), (3, .pointer (some ⟨b10, 0, none⟩)), (6, .slice a66 x64.1.length c67), (7, .int .i64 x64.2), (37, .tuple #[.slice a101 x99.1.length c102, .int .i64 x99.2])] ⟨rfl, rfl, rfl, rfl, rfl, trivial⟩ ?_
  refine WL.nil ?_
  refine WA.one (i := 5) (D' := [0, 1, 2, 3, 4, 5]) rfl rfl (by kernel_rfl) ?_
  refine WL.runk 1 [2, 3, 6, 7, 8, 9, 32, 38, 39] [(2, .pointer (some ⟨b2, 0, none⟩)), (3, .pointer (some ⟨b10, 0, none⟩)), (6, .slice a66 x64.1.length c67), (7, .int .i64 x64.2), (32, .tuple #[.slice a101 x99.1.length c102, .int .i64 x99.2])] (by kernel_rfl) ?_
  refine WL.nil ?_
  refine WA.quiet (f' := 0) (D' := [0, 1, 2, 3, 4, 5, 6, 7, 8, 9]) [6, 7, 8, 9] rfl rfl (by kernel_rfl) ?_
  refine QL.step1v 38 (.slice a101 x99.1.length c102) rfl (fun _ => by kernel_rfl) ?_
  refine QL.step1v 39 (.int .i64 x99.2) rfl (fun _ => by kernel_rfl) ?_
  refine QL.step1v 8 (.slice a101 x99.1.length c102) rfl (fun _ => by kernel_rfl) ?_
  refine QL.step1v 9 (.int .i64 x99.2) rfl (fun _ => by kernel_rfl) ?_
  refine QL.sub [(2, .pointer (some ⟨b2, 0, none⟩)), (3, .pointer (some ⟨b10, 0, none⟩)), (6, .slice a66 x64.1.length c67), (7, .int .i64 x64.2), (8, .slice a101 x99.1.length c102), (9, .int .i64 x99.2)] ⟨rfl, rfl, rfl, rfl, rfl, rfl, trivial⟩ ?_
  refine QL.nil ?_
  intro w110 hE111
  have hb112 : Ext w w110 := Ext.trans hb107 hE111
  have hL113 : w.heap.size ≤ w110.heap.size := Nat.le_trans hL108 hE111.size
  have hS114 : SH w110 w.heap.size [aOwn fChange 42 a101 c102 x99.1, aOwn fChange 42 a66 c67 x64.1, aBox 58 b10 [.string (bs aB_1.Name), .int .i64 aB_1.Length, .int .i64 aB_1.Ball, .int .i64 aB_1.Instep, .int .i64 aB_1.Heel, .int .i64 aB_1.Pitch], aBox 58 b2 [.string (bs aA_0.Name), .int .i64 aA_0.Length, .int .i64 aA_0.Ball, .int .i64 aA_0.Instep, .int .i64 aA_0.Heel, .int .i64 aA_0.Pitch]] := SH.ext hS109 hE111
  refine WA.done (by kernel_rfl) ?_
  refine WQ.then_normal (hK80 _ _ _ ?_)
  refine WP.seq (fun K115 hK115 => ?_)
  refine WP.seq (fun K116 hK116 => ?_)
  obtain ⟨x126, hx127, hm⟩ := bindE hm
  refine WP.cut (fun env' w' => env' = [(2, .pointer (some ⟨b2, 0, none⟩)), (3, .pointer (some ⟨b10, 0, none⟩)), (6, .slice a66 x64.1.length c67), (7, .int .i64 x64.2), (8, .slice a101 x99.1.length c102), (48, .bool x126)] ∧ Ext w w' ∧ w.heap.size ≤ w'.heap.size ∧ SH w' w.heap.size [aOwn fChange 42 a101 c102 x99.1, aOwn fChange 42 a66 c67 x64.1, aBox 58 b10 [.string (bs aB_1.Name), .int .i64 aB_1.Length, .int .i64 aB_1.Ball, .int .i64 aB_1.Instep, .int .i64 aB_1.Heel, .int .i64 aB_1.Pitch], aBox 58 b2 [.string (bs aA_0.Name), .int .i64 aA_0.Length, .int .i64 aA_0.Ball, .int .i64 aA_0.Instep, .int .i64 aA_0.Heel, .int .i64 aA_0.Pitch]]) ?_ ?_
  · have hm := hx127; clear hx127
    refine WP.region ?_
    refine WL.runk 2 [2, 3, 6, 7, 8, 9, 40, 41] [(2, .pointer (some ⟨b2, 0, none⟩)), (3, .pointer (some ⟨b10, 0, none⟩)), (6, .slice a66 x64.1.length c67), (7, .int .i64 x64.2), (8, .slice a101 x99.1.length c102), (9, .int .i64 x99.2), (40, .slice a101 x99.1.length c102), (41, .slice a66 x64.1.length c67)] (by kernel_rfl) ?_
    obtain ⟨x128, hx129, hm⟩ := bindE hm
    refine WL.call 20 #[.slice a101 x99.1.length c102, .slice a66 x64.1.length c67] rfl rfl (by kernel_rfl) (c_20 n x99.1 a101 c102 x64.1 a66 c67 w110 hx129 (SH.rd (SH.front 0 hS114)) (SH.le (SH.front 0 hS114)).1 (SH.rd (SH.front 1 hS114)) (SH.le (SH.front 1 hS114)).1) ?_
    rintro _ w130 ⟨rfl, hE131⟩
    refine ⟨_, rfl, ?_⟩
    have hb133 : Ext w w130 := Ext.trans hb112 hE131
    have hL134 : w.heap.size ≤ w130.heap.size := Nat.le_trans hL113 hE131.size
    have hS135 : SH w130 w.heap.size [aOwn fChange 42 a101 c102 x99.1, aOwn fChange 42 a66 c67 x64.1, aBox 58 b10 [.string (bs aB_1.Name), .int .i64 aB_1.Length, .int .i64 aB_1.Ball, .int .i64 aB_1.Instep, .int .i64 aB_1.Heel, .int .i64 aB_1.Pitch], aBox 58 b2 [.string (bs aA_0.Name), .int .i64 aA_0.Length, .int .i64 aA_0.Ball, .int .i64 aA_0.Instep, .int .i64 aA_0.Heel, .int .i64 aA_0.Pitch]] := SH.ext hS114 hE131
    refine WL.runk 2 [2, 3, 6, 7, 8, 9, 44] [(2, .pointer (some ⟨b2, 0, none⟩)), (3, .pointer (some ⟨b10, 0, none⟩)), (6, .slice a66 x64.1.length c67), (7, .int .i64 x64.2), (8, .slice a101 x99.1.length c102), (9, .int .i64 x99.2), (44, .bool (!x128))] (by kernel_rfl) ?_
    refine WL.case (!x128) [44] ⟨rfl, trivial⟩ (fun hc136 => ?_) (fun hc136 => ?_)
    · have hm := iteT hm hc136
      refine WL.runk 4 [2, 3, 6, 7, 8, 48] [(2, .pointer (some ⟨b2, 0, none⟩)), (3, .pointer (some ⟨b10, 0, none⟩)), (6, .slice a66 x64.1.length c67), (7, .int .i64 x64.2), (8, .slice a101 x99.1.length c102), (48, .bool true)] (by kernel_rfl) ?_
      refine WL.nil ?_
      obtain rfl := Option.some.inj hm
      exact WQ.post' ⟨rfl, hb133, hL134, hS135⟩ ⟨rfl, rfl, rfl, rfl, rfl, rfl, trivial⟩
    have hm := iteF hm hc136
    refine WL.runk 4 [2, 3, 6, 7, 8, 48] [(2, .pointer (some ⟨b2, 0, none⟩)), (3, .pointer (some ⟨b10, 0, none⟩)), (6, .slice a66 x64.1.length c67), (7, .int .i64 x64.2), (8, .slice a101 x99.1.length c102), (48, .bool (x99.2 != x64.2))] (by kernel_rfl) ?_
    refine WL.nil ?_
    obtain rfl := Option.some.inj hm
    exact WQ.post' ⟨rfl, hb133, hL134, hS135⟩ ⟨rfl, rfl, rfl, rfl, rfl, rfl, trivial⟩
  clear hx127
  rintro _ w137 ⟨rfl, hb138, hL139, hS140⟩
  refine WQ.then_normal (hK116 _ _ _ ?_)
  refine WP.cond x126 rfl rfl (fun hc141 => ?_) (fun hc141 => ?_)
  · have hm := iteT hm hc141
    refine WP.seq (fun K142 hK142 => ?_)
    refine WP.region ?_
    refine WL.runk 1 [4] [(4, .bool false)] (by kernel_rfl) ?_
    refine WL.nil ?_
    refine WQ.then_normal (hK142 _ _ _ ?_)
    refine WP.ret ?_
    refine WQ.then_ret ?_
    obtain rfl := Option.some.inj hm
    exact WQ.ret1 _ rfl rfl ⟨rfl, hb138⟩
  have hm := iteF hm hc141
  refine WP.skip ?_
  refine WQ.then_normal (hK115 _ _ _ ?_)
  refine WP.seq (fun K143 hK143 => ?_)
  refine WP.region ?_
  refine WL.runk 1 [2, 3, 6, 7, 8, 10] [(2, .pointer (some ⟨b2, 0, none⟩)), (3, .pointer (some ⟨b10, 0, none⟩)), (6, .slice a66 x64.1.length c67), (7, .int .i64 x64.2), (8, .slice a101 x99.1.length c102), (10, .int .i64 1)] (by kernel_rfl) ?_
  refine WL.nil ?_
  refine WQ.then_normal (hK143 _ _ _ ?_)
  refine WP.seq (fun K144 hK144 => ?_)
  refine WP.region ?_
  refine WL.runk 2 [2, 3, 6, 7, 8, 49, 50] [(2, .pointer (some ⟨b2, 0, none⟩)), (3, .pointer (some ⟨b10, 0, none⟩)), (6, .slice a66 x64.1.length c67), (7, .int .i64 x64.2), (8, .slice a101 x99.1.length c102), (49, .slice a101 x99.1.length c102), (50, .int .i64 1)] (by kernel_rfl) ?_
  obtain ⟨x145, hx146, hm⟩ := bindE hm
  refine WL.call 41 #[.slice a101 x99.1.length c102, .int .i64 1] rfl rfl (by kernel_rfl) (c_41 n x99.1 a101 c102 1 w137 w w.heap.size [aOwn fChange 42 a66 c67 x64.1, aBox 58 b10 [.string (bs aB_1.Name), .int .i64 aB_1.Length, .int .i64 aB_1.Ball, .int .i64 aB_1.Instep, .int .i64 aB_1.Heel, .int .i64 aB_1.Pitch], aBox 58 b2 [.string (bs aA_0.Name), .int .i64 aA_0.Length, .int .i64 aA_0.Ball, .int .i64 aA_0.Instep, .int .i64 aA_0.Heel, .int .i64 aA_0.Pitch]] hx146 hb138 (Nat.le_refl _) hL139  hS140) ?_
  rintro _ w147 ⟨rfl, hB151, hS150, hlen152⟩
  refine ⟨_, rfl, ?_⟩
  have hb153 : Ext w w147 := Below.trans hb138 hB151
  have hL154 : w.heap.size ≤ w147.heap.size := Nat.le_trans hL139 hB151.size
  refine WL.sub [(2, .pointer (some ⟨b2, 0, none⟩)), (3, .pointer (some ⟨b10, 0, none⟩)), (6, .slice a66 x64.1.length c67), (7, .int .i64 x64.2), (8, .slice a101 x145.2.length c102), (49, .slice a101 x145.2.length c102), (50, .int .i64 1), (51, .int .i64 x145.1)] ⟨rfl, rfl, rfl, rfl, by rw [hlen152]; rfl, by rw [hlen152]; rfl, rfl, rfl, trivial⟩ ?_
  refine WL.runk 1 [2, 3, 6, 7, 8, 10] [(2, .pointer (some ⟨b2, 0, none⟩)), (3, .pointer (some ⟨b10, 0, none⟩)), (6, .slice a66 x64.1.length c67), (7, .int .i64 x64.2), (8, .slice a101 x145.2.length c102), (10, .int .i64 x145.1)] (by kernel_rfl) ?_
  refine WL.nil ?_
  refine WQ.then_normal (hK144 _ _ _ ?_)
  refine WP.seq (fun K155 hK155 => ?_)
  refine WP.region ?_
  refine WL.runk 1 [2, 3, 6, 7, 8, 10, 11] [(2, .pointer (some ⟨b2, 0, none⟩)), (3, .pointer (some ⟨b10, 0, none⟩)), (6, .slice a66 x64.1.length c67), (7, .int .i64 x64.2), (8, .slice a101 x145.2.length c102), (10, .int .i64 x145.1), (11, .int .i64 1)] (by kernel_rfl) ?_
  refine WL.nil ?_
  refine WQ.then_normal (hK155 _ _ _ ?_)
  refine WP.seq (fun K156 hK156 => ?_)
  refine WP.region ?_
  refine WL.runk 2 [2, 3, 6, 7, 8, 10, 52, 53] [(2, .pointer (some ⟨b2, 0, none⟩)), (3, .pointer (some ⟨b10, 0, none⟩)), (6, .slice a66 x64.1.length c67), (7, .int .i64 x64.2), (8, .slice a101 x145.2.length c102), (10, .int .i64 x145.1), (52, .slice a101 x145.2.length c102), (53, .int .i64 1)] (by kernel_rfl) ?_
  obtain ⟨x157, hx158, hm⟩ := bindE hm
  refine WL.call 42 #[.slice a101 x145.2.length c102, .int .i64 1] rfl rfl (by kernel_rfl) (c_42 n x145.2 a101 c102 1 w147 hx158 (SH.rd (SH.front 0 hS150)) (SH.le (SH.front 0 hS150)).1) ?_
  rintro _ w159 ⟨rfl, hE160⟩
  refine ⟨_, rfl, ?_⟩
  have hb162 : Ext w w159 := Ext.trans hb153 hE160
  have hL163 : w.heap.size ≤ w159.heap.size := Nat.le_trans hL154 hE160.size
  have hS164 : SH w159 w.heap.size [aOwn fChange 42 a101 c102 x145.2, aOwn fChange 42 a66 c67 x64.1, aBox 58 b10 [.string (bs aB_1.Name), .int .i64 aB_1.Length, .int .i64 aB_1.Ball, .int .i64 aB_1.Instep, .int .i64 aB_1.Heel, .int .i64 aB_1.Pitch], aBox 58 b2 [.string (bs aA_0.Name), .int .i64 aA_0.Length, .int .i64 aA_0.Ball, .int .i64 aA_0.Instep, .int .i64 aA_0.Heel, .int .i64 aA_0.Pitch]] := SH.ext hS150 hE160
  refine WL.runk 1 [2, 3, 6, 7, 8, 10, 11] [(2, .pointer (some ⟨b2, 0, none⟩)), (3, .pointer (some ⟨b10, 0, none⟩)), (6, .slice a66 x64.1.length c67), (7, .int .i64 x64.2), (8, .slice a101 x145.2.length c102), (10, .int .i64 x145.1), (11, .int .i64 x157)] (by kernel_rfl) ?_
  refine WL.nil ?_
  refine WQ.then_normal (hK156 _ _ _ ?_)
  refine WP.seq (fun K165 hK165 => ?_)
  refine WP.seq (fun K166 hK166 => ?_)
  refine WP.region ?_
  refine WL.runk 2 [2, 3, 6, 7, 8, 10, 11, 56] [(2, .pointer (some ⟨b2, 0, none⟩)), (3, .pointer (some ⟨b10, 0, none⟩)), (6, .slice a66 x64.1.length c67), (7, .int .i64 x64.2), (8, .slice a101 x145.2.length c102), (10, .int .i64 x145.1), (11, .int .i64 x157), (56, .bool (decide (x157 < 0)))] (by kernel_rfl) ?_
  refine WL.nil ?_
  refine WQ.then_normal (hK166 _ _ _ ?_)
  refine WP.cond (decide (x157 < 0)) rfl rfl (fun hc167 => ?_) (fun hc167 => ?_)
  · have hm := iteT hm hc167
    refine WP.seq (fun K168 hK168 => ?_)
    refine WP.region ?_
    refine WL.runk 1 [4] [(4, .bool false)] (by kernel_rfl) ?_
    refine WL.nil ?_
    refine WQ.then_normal (hK168 _ _ _ ?_)
    refine WP.ret ?_
    refine WQ.then_ret ?_
    obtain rfl := Option.some.inj hm
    exact WQ.ret1 _ rfl rfl ⟨rfl, hb162⟩
  have hm := iteF hm hc167
  refine WP.skip ?_
  refine WQ.then_normal (hK165 _ _ _ ?_)
  refine WP.seq (fun K169 hK169 => ?_)
  refine WP.seq (fun K170 hK170 => ?_)
  refine WP.region ?_
  refine WL.runk 3 [2, 3, 6, 7, 8, 10, 59] [(2, .pointer (some ⟨b2, 0, none⟩)), (3, .pointer (some ⟨b10, 0, none⟩)), (6, .slice a66 x64.1.length c67), (7, .int .i64 x64.2), (8, .slice a101 x145.2.length c102), (10, .int .i64 x145.1), (59, .bool (x157 != x145.1))] (by kernel_rfl) ?_
  refine WL.nil ?_
  refine WQ.then_normal (hK170 _ _ _ ?_)
  refine WP.cond (x157 != x145.1) rfl rfl (fun hc171 => ?_) (fun hc171 => ?_)
  · have hm := iteT hm hc171
    refine WP.seq (fun K172 hK172 => ?_)
    refine WP.region ?_
    refine WL.runk 1 [4] [(4, .bool false)] (by kernel_rfl) ?_
    refine WL.nil ?_
    refine WQ.then_normal (hK172 _ _ _ ?_)
    refine WP.ret ?_
    refine WQ.then_ret ?_
    obtain rfl := Option.some.inj hm
    exact WQ.ret1 _ rfl rfl ⟨rfl, hb162⟩
  have hm := iteF hm hc171
  refine WP.skip ?_
  refine WQ.then_normal (hK169 _ _ _ ?_)
  refine WP.seq (fun K173 hK173 => ?_)
  refine WP.open (n := 10) (by kernel_rfl) rfl (fun w174 hE175 => ?_)
  have hb176 : Ext w w174 := Ext.trans hb162 hE175
  have hL177 : w.heap.size ≤ w174.heap.size := Nat.le_trans hL163 hE175.size
  have hS178 : SH w174 w.heap.size [aOwn fChange 42 a101 c102 x145.2, aOwn fChange 42 a66 c67 x64.1, aBox 58 b10 [.string (bs aB_1.Name), .int .i64 aB_1.Length, .int .i64 aB_1.Ball, .int .i64 aB_1.Instep, .int .i64 aB_1.Heel, .int .i64 aB_1.Pitch], aBox 58 b2 [.string (bs aA_0.Name), .int .i64 aA_0.Length, .int .i64 aA_0.Ball, .int .i64 aA_0.Instep, .int .i64 aA_0.Heel, .int .i64 aA_0.Pitch]] := SH.ext hS164 hE175
  refine WA.quiet (f' := 6) (D' := [0, 1, 2, 3]) [0, 1, 2, 3] rfl rfl (by kernel_rfl) ?_
  refine QL.st (.agg #[.string (bs aA_0.Name), .int .i64 aA_0.Length, .int .i64 aA_0.Ball, .int .i64 aA_0.Instep, .int .i64 aA_0.Heel, .int .i64 aA_0.Pitch]) (ST.loadAgg (vs := [.string (bs aA_0.Name), .int .i64 aA_0.Length, .int .i64 aA_0.Ball, .int .i64 aA_0.Instep, .int .i64 aA_0.Heel, .int .i64 aA_0.Pitch]) (fun j v hv => SH.boxPart (us := [.string (bs aA_0.Name), .int .i64 aA_0.Length, .int .i64 aA_0.Ball, .int .i64 aA_0.Instep, .int .i64 aA_0.Heel, .int .i64 aA_0.Pitch]) (SH.front 3 hS178) 0 rfl j v hv) rfl rfl rfl Try.underlying58 rfl (info58).1 (info58).2.1) rfl rfl rfl ?_
  obtain ⟨x179, hx180, hm⟩ := bindE hm
  refine QL.call 47 #[.agg #[.string (bs aA_0.Name), .int .i64 aA_0.Length, .int .i64 aA_0.Ball, .int .i64 aA_0.Instep, .int .i64 aA_0.Heel, .int .i64 aA_0.Pitch]] (.agg #[.string (bs x179.Name), .int .i64 x179.Length, .int .i64 x179.Ball, .int .i64 x179.Instep, .int .i64 x179.Heel, .int .i64 x179.Pitch]) (fun _ => by kernel_rfl) (fun w181 hE182 => c_47 n aA_0 w181 hx180 ) rfl rfl rfl ?_
  refine QL.st (.agg #[.string (bs aB_1.Name), .int .i64 aB_1.Length, .int .i64 aB_1.Ball, .int .i64 aB_1.Instep, .int .i64 aB_1.Heel, .int .i64 aB_1.Pitch]) (ST.loadAgg (vs := [.string (bs aB_1.Name), .int .i64 aB_1.Length, .int .i64 aB_1.Ball, .int .i64 aB_1.Instep, .int .i64 aB_1.Heel, .int .i64 aB_1.Pitch]) (fun j v hv => SH.boxPart (us := [.string (bs aB_1.Name), .int .i64 aB_1.Length, .int .i64 aB_1.Ball, .int .i64 aB_1.Instep, .int .i64 aB_1.Heel, .int .i64 aB_1.Pitch]) (SH.front 2 hS178) 0 rfl j v hv) rfl rfl rfl Try.underlying58 rfl (info58).1 (info58).2.1) rfl rfl rfl ?_
  obtain ⟨x183, hx184, hm⟩ := bindE hm
  refine QL.call 47 #[.agg #[.string (bs aB_1.Name), .int .i64 aB_1.Length, .int .i64 aB_1.Ball, .int .i64 aB_1.Instep, .int .i64 aB_1.Heel, .int .i64 aB_1.Pitch]] (.agg #[.string (bs x183.Name), .int .i64 x183.Length, .int .i64 x183.Ball, .int .i64 x183.Instep, .int .i64 x183.Heel, .int .i64 x183.Pitch]) (fun _ => by kernel_rfl) (fun w185 hE186 => c_47 n aB_1 w185 hx184 ) rfl rfl rfl ?_
  refine QL.sub [(6, .slice a66 x64.1.length c67), (7, .int .i64 x64.2), (8, .slice a101 x145.2.length c102), (10, .int .i64 x145.1), (62, .agg #[.string (bs x179.Name), .int .i64 x179.Length, .int .i64 x179.Ball, .int .i64 x179.Instep, .int .i64 x179.Heel, .int .i64 x179.Pitch]), (64, .agg #[.string (bs x183.Name), .int .i64 x183.Length, .int .i64 x183.Ball, .int .i64 x183.Instep, .int .i64 x183.Heel, .int .i64 x183.Pitch])] ⟨rfl, rfl, rfl, rfl, rfl, rfl, trivial⟩ ?_
  refine QL.nil ?_
  intro w187 hE188
  have hb189 : Ext w w187 := Ext.trans hb176 hE188
  have hL190 : w.heap.size ≤ w187.heap.size := Nat.le_trans hL177 hE188.size
  have hS191 : SH w187 w.heap.size [aOwn fChange 42 a101 c102 x145.2, aOwn fChange 42 a66 c67 x64.1, aBox 58 b10 [.string (bs aB_1.Name), .int .i64 aB_1.Length, .int .i64 aB_1.Ball, .int .i64 aB_1.Instep, .int .i64 aB_1.Heel, .int .i64 aB_1.Pitch], aBox 58 b2 [.string (bs aA_0.Name), .int .i64 aA_0.Length, .int .i64 aA_0.Ball, .int .i64 aA_0.Instep, .int .i64 aA_0.Heel, .int .i64 aA_0.Pitch]] := SH.ext hS178 hE188
  refine WA.one (i := 4) (D' := [0, 1, 2, 3, 4]) rfl rfl (by kernel_rfl) ?_
  obtain ⟨x192, hx193, hm⟩ := bindE hm
  refine WL.call 48 #[.agg #[.string (bs x179.Name), .int .i64 x179.Length, .int .i64 x179.Ball, .int .i64 x179.Instep, .int .i64 x179.Heel, .int .i64 x179.Pitch], .agg #[.string (bs x183.Name), .int .i64 x183.Length, .int .i64 x183.Ball, .int .i64 x183.Instep, .int .i64 x183.Heel, .int .i64 x183.Pitch]] rfl rfl (by kernel_rfl) (c_48 n x179 x183 w187 hx193 ) ?_
  rintro _ w197 ⟨a194, c195, rfl, hE198, hR199⟩
  refine ⟨_, rfl, ?_⟩
  have hb200 : Ext w w197 := Ext.trans hb189 hE198
  have hL201 : w.heap.size ≤ w197.heap.size := Nat.le_trans hL190 hE198.size
  have hS202 : SH w197 w.heap.size [aOwn fChange 42 a194 c195 x192.1, aOwn fChange 42 a101 c102 x145.2, aOwn fChange 42 a66 c67 x64.1, aBox 58 b10 [.string (bs aB_1.Name), .int .i64 aB_1.Length, .int .i64 aB_1.Ball, .int .i64 aB_1.Instep, .int .i64 aB_1.Heel, .int .i64 aB_1.Pitch], aBox 58 b2 [.string (bs aA_0.Name), .int .i64 aA_0.Length, .int .i64 aA_0.Ball, .int .i64 aA_0.Instep, .int .i64 aA_0.Heel, .int .i64 aA_0.Pitch]] := SH.add hS191 hE198 hL190 hR199
  refine WL.sub [(6, .slice a66 x64.1.length c67), (7, .int .i64 x64.2), (8, .slice a101 x145.2.length c102), (10, .int .i64 x145.1), (65, .tuple #[.slice a194 x192.1.length c195, .int .i64 x192.2])] ⟨rfl, rfl, rfl, rfl, rfl, trivial⟩ ?_
  refine WL.nil ?_
  refine WA.one (i := 5) (D' := [0, 1, 2, 3, 4, 5]) rfl rfl (by kernel_rfl) ?_
  refine WL.runk 1 [6, 7, 8, 10, 12, 13, 60, 66, 67] [(6, .slice a66 x64.1.length c67), (7, .int .i64 x64.2), (8, .slice a101 x145.2.length c102), (10, .int .i64 x145.1), (60, .tuple #[.slice a194 x192.1.length c195, .int .i64 x192.2])] (by kernel_rfl) ?_
  refine WL.nil ?_
  refine WA.quiet (f' := 0) (D' := [0, 1, 2, 3, 4, 5, 6, 7, 8, 9]) [6, 7, 8, 9] rfl rfl (by kernel_rfl) ?_
  refine QL.step1v 66 (.slice a194 x192.1.length c195) rfl (fun _ => by kernel_rfl) ?_
  refine QL.step1v 67 (.int .i64 x192.2) rfl (fun _ => by kernel_rfl) ?_
  refine QL.step1v 12 (.slice a194 x192.1.length c195) rfl (fun _ => by kernel_rfl) ?_
  refine QL.step1v 13 (.int .i64 x192.2) rfl (fun _ => by kernel_rfl) ?_
  refine QL.sub [(6, .slice a66 x64.1.length c67), (7, .int .i64 x64.2), (8, .slice a101 x145.2.length c102), (10, .int .i64 x145.1), (12, .slice a194 x192.1.length c195), (13, .int .i64 x192.2)] ⟨rfl, rfl, rfl, rfl, rfl, rfl, trivial⟩ ?_
  refine QL.nil ?_
  intro w203 hE204
  have hb205 : Ext w w203 := Ext.trans hb200 hE204
  have hL206 : w.heap.size ≤ w203.heap.size := Nat.le_trans hL201 hE204.size
  have hS207 : SH w203 w.heap.size [aOwn fChange 42 a194 c195 x192.1, aOwn fChange 42 a101 c102 x145.2, aOwn fChange 42 a66 c67 x64.1, aBox 58 b10 [.string (bs aB_1.Name), .int .i64 aB_1.Length, .int .i64 aB_1.Ball, .int .i64 aB_1.Instep, .int .i64 aB_1.Heel, .int .i64 aB_1.Pitch], aBox 58 b2 [.string (bs aA_0.Name), .int .i64 aA_0.Length, .int .i64 aA_0.Ball, .int .i64 aA_0.Instep, .int .i64 aA_0.Heel, .int .i64 aA_0.Pitch]] := SH.ext hS202 hE204
  refine WA.done (by kernel_rfl) ?_
  refine WQ.then_normal (hK173 _ _ _ ?_)
  refine WP.seq (fun K208 hK208 => ?_)
  refine WP.seq (fun K209 hK209 => ?_)
  obtain ⟨x219, hx220, hm⟩ := bindE hm
  refine WP.cut (fun env' w' => env' = [(8, .slice a101 x145.2.length c102), (10, .int .i64 x145.1), (76, .bool x219)] ∧ Ext w w' ∧ w.heap.size ≤ w'.heap.size ∧ SH w' w.heap.size [aOwn fChange 42 a194 c195 x192.1, aOwn fChange 42 a101 c102 x145.2, aOwn fChange 42 a66 c67 x64.1, aBox 58 b10 [.string (bs aB_1.Name), .int .i64 aB_1.Length, .int .i64 aB_1.Ball, .int .i64 aB_1.Instep, .int .i64 aB_1.Heel, .int .i64 aB_1.Pitch], aBox 58 b2 [.string (bs aA_0.Name), .int .i64 aA_0.Length, .int .i64 aA_0.Ball, .int .i64 aA_0.Instep, .int .i64 aA_0.Heel, .int .i64 aA_0.Pitch]]) ?_ ?_
  · have hm := hx220; clear hx220
    refine WP.region ?_
    refine WL.runk 2 [7, 8, 10, 13, 68, 69] [(7, .int .i64 x64.2), (8, .slice a101 x145.2.length c102), (10, .int .i64 x145.1), (13, .int .i64 x192.2), (68, .slice a194 x192.1.length c195), (69, .slice a66 x64.1.length c67)] (by kernel_rfl) ?_
    obtain ⟨x221, hx222, hm⟩ := bindE hm
    refine WL.call 20 #[.slice a194 x192.1.length c195, .slice a66 x64.1.length c67] rfl rfl (by kernel_rfl) (c_20 n x192.1 a194 c195 x64.1 a66 c67 w203 hx222 (SH.rd (SH.front 0 hS207)) (SH.le (SH.front 0 hS207)).1 (SH.rd (SH.front 2 hS207)) (SH.le (SH.front 2 hS207)).1) ?_
    rintro _ w223 ⟨rfl, hE224⟩
    refine ⟨_, rfl, ?_⟩
    have hb226 : Ext w w223 := Ext.trans hb205 hE224
    have hL227 : w.heap.size ≤ w223.heap.size := Nat.le_trans hL206 hE224.size
    have hS228 : SH w223 w.heap.size [aOwn fChange 42 a194 c195 x192.1, aOwn fChange 42 a101 c102 x145.2, aOwn fChange 42 a66 c67 x64.1, aBox 58 b10 [.string (bs aB_1.Name), .int .i64 aB_1.Length, .int .i64 aB_1.Ball, .int .i64 aB_1.Instep, .int .i64 aB_1.Heel, .int .i64 aB_1.Pitch], aBox 58 b2 [.string (bs aA_0.Name), .int .i64 aA_0.Length, .int .i64 aA_0.Ball, .int .i64 aA_0.Instep, .int .i64 aA_0.Heel, .int .i64 aA_0.Pitch]] := SH.ext hS207 hE224
    refine WL.runk 2 [7, 8, 10, 13, 72] [(7, .int .i64 x64.2), (8, .slice a101 x145.2.length c102), (10, .int .i64 x145.1), (13, .int .i64 x192.2), (72, .bool (!x221))] (by kernel_rfl) ?_
    refine WL.case (!x221) [72] ⟨rfl, trivial⟩ (fun hc229 => ?_) (fun hc229 => ?_)
    · have hm := iteT hm hc229
      refine WL.runk 4 [8, 10, 76] [(8, .slice a101 x145.2.length c102), (10, .int .i64 x145.1), (76, .bool true)] (by kernel_rfl) ?_
      refine WL.nil ?_
      obtain rfl := Option.some.inj hm
      exact WQ.post' ⟨rfl, hb226, hL227, hS228⟩ ⟨rfl, rfl, rfl, trivial⟩
    have hm := iteF hm hc229
    refine WL.runk 4 [8, 10, 76] [(8, .slice a101 x145.2.length c102), (10, .int .i64 x145.1), (76, .bool (x192.2 != x64.2))] (by kernel_rfl) ?_
    refine WL.nil ?_
    obtain rfl := Option.some.inj hm
    exact WQ.post' ⟨rfl, hb226, hL227, hS228⟩ ⟨rfl, rfl, rfl, trivial⟩
  clear hx220
  rintro _ w230 ⟨rfl, hb231, hL232, hS233⟩
  refine WQ.then_normal (hK209 _ _ _ ?_)
  refine WP.cond x219 rfl rfl (fun hc234 => ?_) (fun hc234 => ?_)
  · have hm := iteT hm hc234
    refine WP.seq (fun K235 hK235 => ?_)
    refine WP.region ?_
    refine WL.runk 1 [4] [(4, .bool false)] (by kernel_rfl) ?_
    refine WL.nil ?_
    refine WQ.then_normal (hK235 _ _ _ ?_)
    refine WP.ret ?_
    refine WQ.then_ret ?_
    obtain rfl := Option.some.inj hm
    exact WQ.ret1 _ rfl rfl ⟨rfl, hb231⟩
  have hm := iteF hm hc234
  refine WP.skip ?_
  refine WQ.then_normal (hK208 _ _ _ ?_)
  refine WP.seq (fun K236 hK236 => ?_)
  refine WP.region ?_
  refine WL.runk 1 [8, 10, 11] [(8, .slice a101 x145.2.length c102), (10, .int .i64 x145.1), (11, .int .i64 1)] (by kernel_rfl) ?_
  refine WL.nil ?_
  refine WQ.then_normal (hK236 _ _ _ ?_)
  refine WP.seq (fun K237 hK237 => ?_)
  refine WP.region ?_
  refine WL.runk 2 [10, 77, 78] [(10, .int .i64 x145.1), (77, .slice a101 x145.2.length c102), (78, .int .i64 1)] (by kernel_rfl) ?_
  obtain ⟨x238, hx239, hm⟩ := bindE hm
  refine WL.call 42 #[.slice a101 x145.2.length c102, .int .i64 1] rfl rfl (by kernel_rfl) (c_42 n x145.2 a101 c102 1 w230 hx239 (SH.rd (SH.front 1 hS233)) (SH.le (SH.front 1 hS233)).1) ?_
  rintro _ w240 ⟨rfl, hE241⟩
  refine ⟨_, rfl, ?_⟩
  have hb243 : Ext w w240 := Ext.trans hb231 hE241
  have hL244 : w.heap.size ≤ w240.heap.size := Nat.le_trans hL232 hE241.size
  have hS245 : SH w240 w.heap.size [aOwn fChange 42 a194 c195 x192.1, aOwn fChange 42 a101 c102 x145.2, aOwn fChange 42 a66 c67 x64.1, aBox 58 b10 [.string (bs aB_1.Name), .int .i64 aB_1.Length, .int .i64 aB_1.Ball, .int .i64 aB_1.Instep, .int .i64 aB_1.Heel, .int .i64 aB_1.Pitch], aBox 58 b2 [.string (bs aA_0.Name), .int .i64 aA_0.Length, .int .i64 aA_0.Ball, .int .i64 aA_0.Instep, .int .i64 aA_0.Heel, .int .i64 aA_0.Pitch]] := SH.ext hS233 hE241
  refine WL.runk 1 [10, 11] [(10, .int .i64 x145.1), (11, .int .i64 x238)] (by kernel_rfl) ?_
  refine WL.nil ?_
  refine WQ.then_normal (hK237 _ _ _ ?_)
  refine WP.seq (fun K246 hK246 => ?_)
  refine WP.seq (fun K247 hK247 => ?_)
  refine WP.region ?_
  refine WL.runk 2 [10, 11, 81] [(10, .int .i64 x145.1), (11, .int .i64 x238), (81, .bool (decide (x238 < 0)))] (by kernel_rfl) ?_
  refine WL.nil ?_
  refine WQ.then_normal (hK247 _ _ _ ?_)
  refine WP.cond (decide (x238 < 0)) rfl rfl (fun hc248 => ?_) (fun hc248 => ?_)
  · have hm := iteT hm hc248
    refine WP.seq (fun K249 hK249 => ?_)
    refine WP.region ?_
    refine WL.runk 1 [4] [(4, .bool false)] (by kernel_rfl) ?_
    refine WL.nil ?_
    refine WQ.then_normal (hK249 _ _ _ ?_)
    refine WP.ret ?_
    refine WQ.then_ret ?_
    obtain rfl := Option.some.inj hm
    exact WQ.ret1 _ rfl rfl ⟨rfl, hb243⟩
  have hm := iteF hm hc248
  refine WP.skip ?_
  refine WQ.then_normal (hK246 _ _ _ ?_)
  refine WP.seq (fun K250 hK250 => ?_)
  refine WP.seq (fun K251 hK251 => ?_)
  refine WP.region ?_
  refine WL.runk 3 [84] [(84, .bool (x238 != x145.1))] (by kernel_rfl) ?_
  refine WL.nil ?_
  refine WQ.then_normal (hK251 _ _ _ ?_)
  refine WP.cond (x238 != x145.1) rfl rfl (fun hc252 => ?_) (fun hc252 => ?_)
  · have hm := iteT hm hc252
    refine WP.seq (fun K253 hK253 => ?_)
    refine WP.region ?_
    refine WL.runk 1 [4] [(4, .bool false)] (by kernel_rfl) ?_
    refine WL.nil ?_
    refine WQ.then_normal (hK253 _ _ _ ?_)
    refine WP.ret ?_
    refine WQ.then_ret ?_
    obtain rfl := Option.some.inj hm
    exact WQ.ret1 _ rfl rfl ⟨rfl, hb243⟩
  have hm := iteF hm hc252
  refine WP.skip ?_
  refine WQ.then_normal (hK250 _ _ _ ?_)
  refine WP.seq (fun K254 hK254 => ?_)
  refine WP.region ?_
  refine WL.runk 1 [4] [(4, .bool true)] (by kernel_rfl) ?_
  refine WL.nil ?_
  refine WQ.then_normal (hK254 _ _ _ ?_)
  refine WP.ret ?_
  obtain rfl := Option.some.inj hm
  exact WQ.ret1 _ rfl rfl ⟨rfl, hb243⟩

end Go.Proofs.Ytlplbjeegkkilaa
