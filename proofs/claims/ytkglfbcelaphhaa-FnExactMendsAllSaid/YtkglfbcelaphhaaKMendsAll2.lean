/- Each call does what its Lean function says. -/
import Derived.Test.YtkglfbcelaphhaaKMendsAll1
set_option maxRecDepth 20000
set_option maxHeartbeats 40000000
namespace Go.Proofs.Ytkglfbcelaphhaa
open Go Go.Gv Go.RowKit

theorem c_69 (n : Nat) (a_0 : SRepair) (a0_1' : Option Addr) (c0_1' : Nat) (a0_2' : Option Addr) (c0_2' : Nat) (w : World) {r : SRepair} (hm : m_laws_toRepair n a_0 = some r) (hr0_1 : Rd fInt.ty w a0_1' a_0.Mends) (hle0_1 : a_0.Mends.length ≤ c0_1') (hr0_2 : Rd fInt.ty w a0_2' a_0.First) (hle0_2 : a_0.First.length ≤ c0_2') :
    CallV Try.prog 69 #[.agg #[.string (bs a_0.Name), .slice a0_1' a_0.Mends.length c0_1', .slice a0_2' a_0.First.length c0_2', .int .i64 a_0.Price, .int .i64 a_0.Hours]] w (fun v w' => ∃ (ra0_1 : Option Addr) (rc0_1 : Nat) (ra0_2 : Option Addr) (rc0_2 : Nat), v = .agg #[.string (bs r.Name), .slice ra0_1 r.Mends.length rc0_1, .slice ra0_2 r.First.length rc0_2, .int .i64 r.Price, .int .i64 r.Hours] ∧ Ext w w' ∧ SH w' w.heap.size [aOwn fInt 2 ra0_1 rc0_1 r.Mends, aOwn fInt 2 ra0_2 rc0_2 r.First]) := by
  unfold m_laws_toRepair at hm
  refine CallV.enter Try.func69 rfl (by kernel_rfl) Try.ntmps69 (env := [(0, .agg #[.string (bs a_0.Name), .slice a0_1' a_0.Mends.length c0_1', .slice a0_2' a_0.First.length c0_2', .int .i64 a_0.Price, .int .i64 a_0.Hours])]) ⟨rfl, trivial⟩ ?_
  refine WP.seq (fun K1 hK1 => ?_)
  refine WP.region ?_
  refine WL.box 72 [.string (bs a_0.Name), .slice a0_1' a_0.Mends.length c0_1', .slice a0_2' a_0.First.length c0_2', .int .i64 a_0.Price, .int .i64 a_0.Hours] 1 (by kernel_rfl) rfl rfl rfl rfl ?_
  intro b2 w3 hE4 hR5
  have hb7 : Ext w w3 := Ext.trans (Ext.refl w) hE4
  have hL8 : w.heap.size ≤ w3.heap.size := Nat.le_trans (Nat.le_refl _) hE4.size
  have hS9 : SH w3 w.heap.size [aBox 72 b2 [.string (bs a_0.Name), .slice a0_1' a_0.Mends.length c0_1', .slice a0_2' a_0.First.length c0_2', .int .i64 a_0.Price, .int .i64 a_0.Hours]] := SH.add (SH.nil _ _) hE4 (Nat.le_refl _) hR5
  refine WL.box 73 [.string (bs []), .slice none 0 0, .slice none 0 0, .int .i64 0, .int .i64 0] 2 (by kernel_rfl) rfl rfl rfl rfl ?_
  intro b10 w11 hE12 hR13
  have hb15 : Ext w w11 := Ext.trans hb7 hE12
  have hL16 : w.heap.size ≤ w11.heap.size := Nat.le_trans hL8 hE12.size
  have hS17 : SH w11 w.heap.size [aBox 73 b10 [.string (bs []), .slice none 0 0, .slice none 0 0, .int .i64 0, .int .i64 0], aBox 72 b2 [.string (bs a_0.Name), .slice a0_1' a_0.Mends.length c0_1', .slice a0_2' a_0.First.length c0_2', .int .i64 a_0.Price, .int .i64 a_0.Hours]] := SH.add hS9 hE12 hL8 hR13
  refine WL.sub [(1, .pointer (some ⟨b2, 0, none⟩)), (2, .pointer (some ⟨b10, 0, none⟩))] ⟨rfl, rfl, trivial⟩ ?_
  refine WL.nil ?_
  refine WQ.then_normal (hK1 _ _ _ ?_)
  refine WP.seq (fun K18 hK18 => ?_)
  refine WP.region ?_
  refine WL.box 73 [.string (bs []), .slice none 0 0, .slice none 0 0, .int .i64 0, .int .i64 0] 3 (by kernel_rfl) rfl rfl rfl rfl ?_
  intro b19 w20 hE21 hR22
  have hb24 : Ext w w20 := Ext.trans hb15 hE21
  have hL25 : w.heap.size ≤ w20.heap.size := Nat.le_trans hL16 hE21.size
  have hS26 : SH w20 w.heap.size [aBox 73 b19 [.string (bs []), .slice none 0 0, .slice none 0 0, .int .i64 0, .int .i64 0], aBox 73 b10 [.string (bs []), .slice none 0 0, .slice none 0 0, .int .i64 0, .int .i64 0], aBox 72 b2 [.string (bs a_0.Name), .slice a0_1' a_0.Mends.length c0_1', .slice a0_2' a_0.First.length c0_2', .int .i64 a_0.Price, .int .i64 a_0.Hours]] := SH.add hS17 hE21 hL16 hR22
  refine WL.sub [(1, .pointer (some ⟨b2, 0, none⟩)), (2, .pointer (some ⟨b10, 0, none⟩)), (3, .pointer (some ⟨b19, 0, none⟩))] ⟨rfl, rfl, rfl, trivial⟩ ?_
  refine WL.nil ?_
  refine WQ.then_normal (hK18 _ _ _ ?_)
  refine WP.seq (fun K27 hK27 => ?_)
  refine WP.region ?_
  refine WL.runk 1 [1, 2, 3, 4] [(1, .pointer (some ⟨b2, 0, none⟩)), (2, .pointer (some ⟨b10, 0, none⟩)), (3, .pointer (some ⟨b19, 0, none⟩)), (4, .pointer (some ⟨b2, 0, none⟩))] (by kernel_rfl) ?_
  refine WL.st (.string (bs a_0.Name)) (ST.load (cell_ext (SH.boxAt (SH.front 2 hS26) 0 _ rfl)) rfl rfl Try.underlying9 rfl) rfl rfl rfl ?_
  refine WL.runk 1 [1, 2, 3, 5, 6] [(1, .pointer (some ⟨b2, 0, none⟩)), (2, .pointer (some ⟨b10, 0, none⟩)), (3, .pointer (some ⟨b19, 0, none⟩)), (5, .string (bs a_0.Name)), (6, .pointer (some ⟨b19, 0, none⟩))] (by kernel_rfl) ?_
  refine WL.boxStore 0 [.string (bs a_0.Name)] [.string (bs a_0.Name), .slice none 0 0, .slice none 0 0, .int .i64 0, .int .i64 0] (SH.front 0 hS26) hL25 rfl rfl rfl rfl rfl rfl rfl (info9).1 (info9).2.1 rfl rfl rfl ?_
  intro w28 hB29 hS30
  have hb31 : Ext w w28 := Below.trans hb24 hB29
  have hL32 : w.heap.size ≤ w28.heap.size := Nat.le_trans hL25 hB29.size
  refine WL.sub [(1, .pointer (some ⟨b2, 0, none⟩)), (2, .pointer (some ⟨b10, 0, none⟩)), (3, .pointer (some ⟨b19, 0, none⟩))] ⟨rfl, rfl, rfl, trivial⟩ ?_
  refine WL.nil ?_
  refine WQ.then_normal (hK27 _ _ _ ?_)
  refine WP.seq (fun K33 hK33 => ?_)
  refine WP.region ?_
  refine WL.runk 1 [1, 2, 3, 7] [(1, .pointer (some ⟨b2, 0, none⟩)), (2, .pointer (some ⟨b10, 0, none⟩)), (3, .pointer (some ⟨b19, 0, none⟩)), (7, .pointer (some ⟨b2, 1, none⟩))] (by kernel_rfl) ?_
  refine WL.st (.slice a0_1' a_0.Mends.length c0_1') (ST.load (cell_ext (SH.boxAt (SH.front 2 hS30) 1 _ rfl)) rfl rfl Try.underlying25 rfl) rfl rfl rfl ?_
  obtain ⟨x34, hx35, hm⟩ := bindE hm
  refine WL.call 36 #[.slice a0_1' a_0.Mends.length c0_1'] rfl rfl (by kernel_rfl) (c_36 n a_0.Mends a0_1' c0_1' w28 hx35 (Rd.below hr0_1 hb31) hle0_1) ?_
  rintro _ w39 ⟨a36, c37, rfl, hE40, hR41⟩
  refine ⟨_, rfl, ?_⟩
  have hb42 : Ext w w39 := Ext.trans hb31 hE40
  have hL43 : w.heap.size ≤ w39.heap.size := Nat.le_trans hL32 hE40.size
  have hS44 : SH w39 w.heap.size [aOwn fInt 2 a36 c37 x34, aBox 73 b19 [.string (bs a_0.Name), .slice none 0 0, .slice none 0 0, .int .i64 0, .int .i64 0], aBox 73 b10 [.string (bs []), .slice none 0 0, .slice none 0 0, .int .i64 0, .int .i64 0], aBox 72 b2 [.string (bs a_0.Name), .slice a0_1' a_0.Mends.length c0_1', .slice a0_2' a_0.First.length c0_2', .int .i64 a_0.Price, .int .i64 a_0.Hours]] := SH.add hS30 hE40 hL32 hR41
  refine WL.runk 1 [1, 2, 3, 9, 10] [(1, .pointer (some ⟨b2, 0, none⟩)), (2, .pointer (some ⟨b10, 0, none⟩)), (3, .pointer (some ⟨b19, 0, none⟩)), (9, .slice a36 x34.length c37), (10, .pointer (some ⟨b19, 1, none⟩))] (by kernel_rfl) ?_
  refine WL.boxStore 1 [.slice a36 x34.length c37] [.string (bs a_0.Name), .slice a36 x34.length c37, .slice none 0 0, .int .i64 0, .int .i64 0] (SH.front 1 hS44) hL43 rfl rfl rfl rfl rfl rfl rfl (info25).1 (info25).2.1 rfl rfl rfl ?_
  intro w45 hB46 hS47
  have hb48 : Ext w w45 := Below.trans hb42 hB46
  have hL49 : w.heap.size ≤ w45.heap.size := Nat.le_trans hL43 hB46.size
  refine WL.sub [(1, .pointer (some ⟨b2, 0, none⟩)), (2, .pointer (some ⟨b10, 0, none⟩)), (3, .pointer (some ⟨b19, 0, none⟩))] ⟨rfl, rfl, rfl, trivial⟩ ?_
  refine WL.nil ?_
  refine WQ.then_normal (hK33 _ _ _ ?_)
  refine WP.seq (fun K50 hK50 => ?_)
  refine WP.region ?_
  refine WL.runk 1 [1, 2, 3, 11] [(1, .pointer (some ⟨b2, 0, none⟩)), (2, .pointer (some ⟨b10, 0, none⟩)), (3, .pointer (some ⟨b19, 0, none⟩)), (11, .pointer (some ⟨b2, 2, none⟩))] (by kernel_rfl) ?_
  refine WL.st (.slice a0_2' a_0.First.length c0_2') (ST.load (cell_ext (SH.boxAt (SH.front 3 hS47) 2 _ rfl)) rfl rfl Try.underlying25 rfl) rfl rfl rfl ?_
  obtain ⟨x51, hx52, hm⟩ := bindE hm
  refine WL.call 36 #[.slice a0_2' a_0.First.length c0_2'] rfl rfl (by kernel_rfl) (c_36 n a_0.First a0_2' c0_2' w45 hx52 (Rd.below hr0_2 hb48) hle0_2) ?_
  rintro _ w56 ⟨a53, c54, rfl, hE57, hR58⟩
  refine ⟨_, rfl, ?_⟩
  have hb59 : Ext w w56 := Ext.trans hb48 hE57
  have hL60 : w.heap.size ≤ w56.heap.size := Nat.le_trans hL49 hE57.size
  have hS61 : SH w56 w.heap.size [aOwn fInt 2 a53 c54 x51, aBox 73 b19 [.string (bs a_0.Name), .slice a36 x34.length c37, .slice none 0 0, .int .i64 0, .int .i64 0], aOwn fInt 2 a36 c37 x34, aBox 73 b10 [.string (bs []), .slice none 0 0, .slice none 0 0, .int .i64 0, .int .i64 0], aBox 72 b2 [.string (bs a_0.Name), .slice a0_1' a_0.Mends.length c0_1', .slice a0_2' a_0.First.length c0_2', .int .i64 a_0.Price, .int .i64 a_0.Hours]] := SH.add hS47 hE57 hL49 hR58
  refine WL.runk 1 [1, 2, 3, 13, 14] [(1, .pointer (some ⟨b2, 0, none⟩)), (2, .pointer (some ⟨b10, 0, none⟩)), (3, .pointer (some ⟨b19, 0, none⟩)), (13, .slice a53 x51.length c54), (14, .pointer (some ⟨b19, 2, none⟩))] (by kernel_rfl) ?_
  refine WL.boxStore 2 [.slice a53 x51.length c54] [.string (bs a_0.Name), .slice a36 x34.length c37, .slice a53 x51.length c54, .int .i64 0, .int .i64 0] (SH.front 1 hS61) hL60 rfl rfl rfl rfl rfl rfl rfl (info25).1 (info25).2.1 rfl rfl rfl ?_
  intro w62 hB63 hS64
  have hb65 : Ext w w62 := Below.trans hb59 hB63
  have hL66 : w.heap.size ≤ w62.heap.size := Nat.le_trans hL60 hB63.size
  refine WL.sub [(1, .pointer (some ⟨b2, 0, none⟩)), (2, .pointer (some ⟨b10, 0, none⟩)), (3, .pointer (some ⟨b19, 0, none⟩))] ⟨rfl, rfl, rfl, trivial⟩ ?_
  refine WL.nil ?_
  refine WQ.then_normal (hK50 _ _ _ ?_)
  refine WP.seq (fun K67 hK67 => ?_)
  refine WP.region ?_
  refine WL.runk 1 [1, 2, 3, 15] [(1, .pointer (some ⟨b2, 0, none⟩)), (2, .pointer (some ⟨b10, 0, none⟩)), (3, .pointer (some ⟨b19, 0, none⟩)), (15, .pointer (some ⟨b2, 3, none⟩))] (by kernel_rfl) ?_
  refine WL.st (.int .i64 a_0.Price) (ST.load (cell_ext (SH.boxAt (SH.front 4 hS64) 3 _ rfl)) rfl rfl Try.underlying2 rfl) rfl rfl rfl ?_
  refine WL.runk 1 [1, 2, 3, 16, 17] [(1, .pointer (some ⟨b2, 0, none⟩)), (2, .pointer (some ⟨b10, 0, none⟩)), (3, .pointer (some ⟨b19, 0, none⟩)), (16, .int .i64 a_0.Price), (17, .pointer (some ⟨b19, 3, none⟩))] (by kernel_rfl) ?_
  refine WL.boxStore 3 [.int .i64 a_0.Price] [.string (bs a_0.Name), .slice a36 x34.length c37, .slice a53 x51.length c54, .int .i64 a_0.Price, .int .i64 0] (SH.front 0 hS64) hL66 rfl rfl rfl rfl rfl rfl rfl (info2).1 (info2).2.1 rfl rfl rfl ?_
  intro w68 hB69 hS70
  have hb71 : Ext w w68 := Below.trans hb65 hB69
  have hL72 : w.heap.size ≤ w68.heap.size := Nat.le_trans hL66 hB69.size
  refine WL.sub [(1, .pointer (some ⟨b2, 0, none⟩)), (2, .pointer (some ⟨b10, 0, none⟩)), (3, .pointer (some ⟨b19, 0, none⟩))] ⟨rfl, rfl, rfl, trivial⟩ ?_
  refine WL.nil ?_
  refine WQ.then_normal (hK67 _ _ _ ?_)
  refine WP.seq (fun K73 hK73 => ?_)
  refine WP.region ?_
  refine WL.runk 1 [2, 3, 18] [(2, .pointer (some ⟨b10, 0, none⟩)), (3, .pointer (some ⟨b19, 0, none⟩)), (18, .pointer (some ⟨b2, 4, none⟩))] (by kernel_rfl) ?_
  refine WL.st (.int .i64 a_0.Hours) (ST.load (cell_ext (SH.boxAt (SH.front 4 hS70) 4 _ rfl)) rfl rfl Try.underlying2 rfl) rfl rfl rfl ?_
  refine WL.runk 1 [2, 3, 19, 20] [(2, .pointer (some ⟨b10, 0, none⟩)), (3, .pointer (some ⟨b19, 0, none⟩)), (19, .int .i64 a_0.Hours), (20, .pointer (some ⟨b19, 4, none⟩))] (by kernel_rfl) ?_
  refine WL.boxStore 4 [.int .i64 a_0.Hours] [.string (bs a_0.Name), .slice a36 x34.length c37, .slice a53 x51.length c54, .int .i64 a_0.Price, .int .i64 a_0.Hours] (SH.front 0 hS70) hL72 rfl rfl rfl rfl rfl rfl rfl (info2).1 (info2).2.1 rfl rfl rfl ?_
  intro w74 hB75 hS76
  have hb77 : Ext w w74 := Below.trans hb71 hB75
  have hL78 : w.heap.size ≤ w74.heap.size := Nat.le_trans hL72 hB75.size
  refine WL.sub [(2, .pointer (some ⟨b10, 0, none⟩)), (3, .pointer (some ⟨b19, 0, none⟩))] ⟨rfl, rfl, trivial⟩ ?_
  refine WL.nil ?_
  refine WQ.then_normal (hK73 _ _ _ ?_)
  refine WP.seq (fun K79 hK79 => ?_)
  refine WP.region ?_
  refine WL.st (.agg #[.string (bs a_0.Name), .slice a36 x34.length c37, .slice a53 x51.length c54, .int .i64 a_0.Price, .int .i64 a_0.Hours]) (ST.loadAgg (vs := [.string (bs a_0.Name), .slice a36 x34.length c37, .slice a53 x51.length c54, .int .i64 a_0.Price, .int .i64 a_0.Hours]) (fun j v hv => SH.boxPart (us := [.string (bs a_0.Name), .slice a36 x34.length c37, .slice a53 x51.length c54, .int .i64 a_0.Price, .int .i64 a_0.Hours]) (SH.front 0 hS76) 0 rfl j v hv) rfl rfl rfl Try.underlying73 rfl (info73).1 (info73).2.1) rfl rfl rfl ?_
  refine WL.boxStore 0 [.string (bs a_0.Name), .slice a36 x34.length c37, .slice a53 x51.length c54, .int .i64 a_0.Price, .int .i64 a_0.Hours] [.string (bs a_0.Name), .slice a36 x34.length c37, .slice a53 x51.length c54, .int .i64 a_0.Price, .int .i64 a_0.Hours] (SH.front 3 hS76) hL78 rfl rfl rfl rfl rfl rfl rfl (info73).1 (info73).2.1 rfl rfl rfl ?_
  intro w80 hB81 hS82
  have hb83 : Ext w w80 := Below.trans hb77 hB81
  have hL84 : w.heap.size ≤ w80.heap.size := Nat.le_trans hL78 hB81.size
  refine WL.sub [(2, .pointer (some ⟨b10, 0, none⟩))] ⟨rfl, trivial⟩ ?_
  refine WL.nil ?_
  refine WQ.then_normal (hK79 _ _ _ ?_)
  refine WP.ret ?_
  obtain rfl := Option.some.inj hm
  exact WQ.retv1 _ rfl (RVal.box (SH.front 0 hS82) rfl Try.underlying73 rfl (info73).1 (info73).2.1) ⟨_, _, _, _, rfl, hb83, (SH.take 2 (SH.front 3 (SH.front 2 hS82)))⟩

theorem c_30 (n : Nat) (a_0 : List SRepair) (a0' : Option Addr) (c0' : Nat) (w : World) {r : List SRepair} (hm : m_laws_toRepairS n a_0 = some r) (h0 : Rd fRepair.ty w a0' a_0) (_hle0 : a_0.length ≤ c0') :
    CallV Try.prog 30 #[.slice a0' a_0.length c0'] w (fun v w' => ∃ (ra0 : Option Addr) (rc0 : Nat), v = .slice ra0 r.length rc0 ∧ Ext w w' ∧ SH w' w.heap.size [aNest fRepair 73 2 ra0 rc0 r]) := by
  unfold m_laws_toRepairS at hm
  refine CallV.enter Try.func30 rfl (by kernel_rfl) Try.ntmps30 (env := [(0, .slice a0' a_0.length c0')]) ⟨rfl, trivial⟩ ?_
  refine WP.seq (fun K1 hK1 => ?_)
  refine WP.region ?_
  refine WL.runk 1 [0] [(0, .slice a0' a_0.length c0')] (by kernel_rfl) ?_
  refine WL.nil ?_
  refine WQ.then_normal (hK1 _ _ _ ?_)
  refine WP.seq (fun K2 hK2 => ?_)
  refine WP.region ?_
  refine WL.runk 2 [0, 6] [(0, .slice a0' a_0.length c0'), (6, .int .i64 (a_0.length : Int))] (by kernel_rfl) ?_
  obtain ⟨x3, hx4, hm⟩ := bindE hm
  refine WL.makeN (ei := 2) fRepair 7 hx4 (.val (Fit.row' rfl (Fit.row' rfl (.val (.val .nil))))) (Emp.row (Emp.row Emp.nil)) rfl rfl rfl Try.underlying24 (info73).1 (info73).2.2.1 (info73).2.1 (info73).2.2.2 rfl rfl rfl rfl ?_
  intro a5 c6 w7 hE8 hR9
  have hb11 : Ext w w7 := Ext.trans (Ext.refl w) hE8
  have hL12 : w.heap.size ≤ w7.heap.size := Nat.le_trans (Nat.le_refl _) hE8.size
  have hS13 : SH w7 w.heap.size [aNest fRepair 73 2 a5 c6 x3] := SH.add (SH.nil _ _) hE8 (Nat.le_refl _) hR9
  refine WL.runk 1 [0, 3] [(0, .slice a0' a_0.length c0'), (3, .slice a5 x3.length c6)] (by kernel_rfl) ?_
  refine WL.nil ?_
  refine WQ.then_normal (hK2 _ _ _ ?_)
  refine WP.seq (fun K14 hK14 => ?_)
  refine WP.seq (fun K15 hK15 => ?_)
  refine WP.region ?_
  refine WL.runk 1 [0, 3, 4] [(0, .slice a0' a_0.length c0'), (3, .slice a5 x3.length c6), (4, .int .i64 0)] (by kernel_rfl) ?_
  refine WL.nil ?_
  refine WQ.then_normal (hK15 _ _ _ ?_)
  refine WP.block ?_
  obtain ⟨t87, ht88, hm⟩ := bindE hm
  have hmo82 := hm; clear hm
  refine WP.sub [(0, .slice a0' a_0.length c0'), (3, .slice a5 x3.length c6), (4, .int .i64 0)] ⟨rfl, rfl, rfl, trivial⟩ ?_
  refine WP.loop (fun n' env' w' => ∃ (st76 : Int × List SRepair) , env' = [(0, .slice a0' a_0.length c0'), (3, .slice a5 st76.2.length c6), (4, .int .i64 st76.1)] ∧ Ext w w' ∧ w.heap.size ≤ w'.heap.size ∧ SH w' w.heap.size [aNest fRepair 73 2 a5 c6 st76.2] ∧ loopN (m_laws_toRepairS_l1 n a_0) n' st76 = some t87) n ⟨(0, x3), rfl, hb11, hL12, hS13, ht88⟩ ?_
  rintro n84 _ w77 ⟨st76, rfl, hb78, hL79, hS80, hl81⟩ K83 hK83
  obtain ⟨n85, s86, rfl, hm, hl81⟩ := loopN_some hl81
  unfold m_laws_toRepairS_l1 at hm
  refine WP.seq (fun K89 hK89 => ?_)
  refine WP.seq (fun K90 hK90 => ?_)
  refine WP.region ?_
  refine WL.runk 4 [0, 3, 4, 11] [(0, .slice a0' a_0.length c0'), (3, .slice a5 st76.2.length c6), (4, .int .i64 st76.1), (11, .bool (decide (st76.1 < (a_0.length : Int))))] (by kernel_rfl) ?_
  refine WL.nil ?_
  refine WQ.then_normal (hK90 _ _ _ ?_)
  refine WP.cond (decide (st76.1 < (a_0.length : Int))) rfl rfl (fun hc91 => ?_) (fun hc91 => ?_)
  rotate_left
  · have hm := iteF hm hc91
    refine WP.exit ?_
    refine WQ.then_exit ?_
    refine WQ.then_exit ?_
    refine WQ.block_here ?_
    obtain rfl := Option.some.inj hm
    obtain rfl := afterN_done hl81
    have hm := hmo82
    refine WQ.then_normal (hK14 _ _ _ ?_)
    refine WP.seq (fun K135 hK135 => ?_)
    refine WP.region ?_
    refine WL.runk 2 [2] [(2, .slice a5 st76.2.length c6)] (by kernel_rfl) ?_
    refine WL.nil ?_
    refine WQ.then_normal (hK135 _ _ _ ?_)
    refine WP.ret ?_
    obtain rfl := Option.some.inj hm
    exact WQ.ret1 _ rfl rfl ⟨_, _, rfl, hb78, hS80⟩
  have hm := iteT hm hc91
  refine WP.skip ?_
  refine WQ.then_normal (hK89 _ _ _ ?_)
  refine WP.seq (fun K92 hK92 => ?_)
  refine WP.block ?_
  refine WP.region ?_
  refine WL.runk 4 [0, 3, 4, 14, 15, 16, 17] [(0, .slice a0' a_0.length c0'), (3, .slice a5 st76.2.length c6), (4, .int .i64 st76.1), (14, .slice a5 st76.2.length c6), (15, .int .i64 st76.1), (16, .slice a0' a_0.length c0'), (17, .int .i64 st76.1)] (by kernel_rfl) ?_
  obtain ⟨x93, hx94, hm⟩ := bindE hm
  obtain ⟨a95, c96, a100, c101, hc105, hR97, hle98, hR102, hle103⟩ := nest_Repair h0 hx94
  refine WL.st (.pointer (some (at_ a0' (Int.toNat st76.1 * 5)))) (ST.index (T := fRepair.ty) (xs := a_0) (Rd.below h0 hb78) hx94 rfl rfl rfl Try.underlying39 (info72).1 (info72).2.1) rfl rfl rfl ?_
  refine WL.st (.agg #[.string (bs x93.Name), .slice a95 x93.Mends.length c96, .slice a100 x93.First.length c101, .int .i64 x93.Price, .int .i64 x93.Hours]) (ST.loadAgg (vs := [.string (bs x93.Name), .slice a95 x93.Mends.length c96, .slice a100 x93.First.length c101, .int .i64 x93.Price, .int .i64 x93.Hours]) (at_agg (cells_ext hc105 hb78)) rfl rfl rfl Try.underlying72 rfl (info72).1 (info72).2.1) rfl rfl rfl ?_
  obtain ⟨x106, hx107, hm⟩ := bindE hm
  refine WL.call 69 #[.agg #[.string (bs x93.Name), .slice a95 x93.Mends.length c96, .slice a100 x93.First.length c101, .int .i64 x93.Price, .int .i64 x93.Hours]] rfl rfl (by kernel_rfl) (c_69 n x93 a95 c96 a100 c101 w77 hx107 (Rd.below hR97 hb78) hle98 (Rd.below hR102 hb78) hle103) ?_
  rintro _ w114 ⟨a108, c109, a111, c112, rfl, hE115, hR116⟩
  refine ⟨_, rfl, ?_⟩
  have hb117 : Ext w w114 := Ext.trans hb78 hE115
  have hL118 : w.heap.size ≤ w114.heap.size := Nat.le_trans hL79 hE115.size
  have hS119 : SH w114 w.heap.size [aOwn fInt 2 a108 c109 x106.Mends, aOwn fInt 2 a111 c112 x106.First, aNest fRepair 73 2 a5 c6 st76.2] := SH.add hS80 hE115 hL79 hR116
  obtain ⟨x120, hx121, hm⟩ := bindE hm
  obtain ⟨a122, c123, a125, c126, hS128⟩ := elem_Repair (SH.front 2 hS119) hx121
  refine WL.st (.pointer (some (at_ a5 (Int.toNat st76.1 * 5)))) (ST.index (T := fRepair.ty) (xs := st76.2) (SH.rdN (SH.front 2 hS119)) hx121 rfl rfl rfl Try.underlying24 (info73).1 (info73).2.1) rfl rfl rfl ?_
  refine WL.holeStore 0 [.string (bs x106.Name), .slice a108 x106.Mends.length c109, .slice a111 x106.First.length c112, .int .i64 x106.Price, .int .i64 x106.Hours] [.string (bs x106.Name), .slice a108 x106.Mends.length c109, .slice a111 x106.First.length c112, .int .i64 x106.Price, .int .i64 x106.Hours] (SH.front 2 hS128) hL118 rfl rfl rfl rfl rfl rfl rfl (info73).1 (info73).2.1 rfl rfl rfl ?_
  intro w129 hB130 hS131
  have hb132 : Ext w w129 := Below.trans hb117 hB130
  have hL133 : w.heap.size ≤ w129.heap.size := Nat.le_trans hL118 hB130.size
  refine WL.sub [(0, .slice a0' a_0.length c0'), (3, .slice a5 st76.2.length c6), (4, .int .i64 st76.1)] ⟨rfl, rfl, rfl, trivial⟩ ?_
  have hS134 : SH w129 w.heap.size [aNest fRepair 73 2 a5 c6 (st76.2.set (Int.toNat st76.1) x106), aOwn fInt 2 a122 c123 x120.Mends, aOwn fInt 2 a125 c126 x120.First] := SH.elemBack (Ix := [aOwn fInt 2 a108 c109 x106.Mends, aOwn fInt 2 a111 c112 x106.First]) (x' := x106) (SH.front 4 (SH.front 4 (SH.front 2 (SH.front 2 (SH.front 2 hS131))))) (.val (Fit.row' rfl (Fit.row' rfl (.val (.val .nil)))))
  refine WL.sub [(0, .slice a0' a_0.length c0'), (3, .slice a5 ((st76.2.set (Int.toNat st76.1) x106).length) c6), (4, .int .i64 st76.1)] ⟨rfl, by first | (simp only [List.length_set]; done) | (simp only [List.length_set]; rfl), rfl, trivial⟩ ?_
  refine WL.nil ?_
  refine WQ.block_normal ?_
  refine WQ.then_normal (hK92 _ _ _ ?_)
  refine WP.region ?_
  refine WL.runk 3 [0, 3, 4] [(0, .slice a0' a_0.length c0'), (3, .slice a5 ((st76.2.set (Int.toNat st76.1) x106).length) c6), (4, .int .i64 (wI64 (st76.1 + 1)))] (by kernel_rfl) ?_
  refine WL.nil ?_
  obtain rfl := Option.some.inj hm
  exact WQ.round hK83 ⟨((wI64 (st76.1 + 1)), (st76.2.set (Int.toNat st76.1) x106)), rfl, hb132, hL133, (SH.take 1 hS134), hl81⟩ (Nat.lt_succ_self _) ⟨rfl, rfl, rfl, trivial⟩

theorem c_38 (n : Nat) (a_0 : List Int) (a0' : Option Addr) (c0' : Nat) (b_1 : List Int) (a1' : Option Addr) (c1' : Nat) (w : World) {r : Bool} (hm : m_laws_eqInt64S n a_0 b_1 = some r) (h0 : Rd fInt.ty w a0' a_0) (_hle0 : a_0.length ≤ c0') (h1 : Rd fInt.ty w a1' b_1) (_hle1 : b_1.length ≤ c1') :
    CallV Try.prog 38 #[.slice a0' a_0.length c0', .slice a1' b_1.length c1'] w (fun v w' => v = .bool r ∧ Ext w w') := by
  unfold m_laws_eqInt64S at hm
  refine CallV.enter Try.func38 rfl (by kernel_rfl) Try.ntmps38 (env := [(0, .slice a0' a_0.length c0'), (1, .slice a1' b_1.length c1')]) ⟨rfl, rfl, trivial⟩ ?_
  refine WP.seq (fun K1 hK1 => ?_)
  refine WP.region ?_
  refine WL.runk 1 [0, 1] [(0, .slice a0' a_0.length c0'), (1, .slice a1' b_1.length c1')] (by kernel_rfl) ?_
  refine WL.nil ?_
  refine WQ.then_normal (hK1 _ _ _ ?_)
  refine WP.seq (fun K2 hK2 => ?_)
  refine WP.seq (fun K3 hK3 => ?_)
  refine WP.region ?_
  refine WL.runk 5 [0, 1, 10] [(0, .slice a0' a_0.length c0'), (1, .slice a1' b_1.length c1'), (10, .bool ((a_0.length : Int) != (b_1.length : Int)))] (by kernel_rfl) ?_
  refine WL.nil ?_
  refine WQ.then_normal (hK3 _ _ _ ?_)
  refine WP.cond ((a_0.length : Int) != (b_1.length : Int)) rfl rfl (fun hc4 => ?_) (fun hc4 => ?_)
  · have hm := iteT hm hc4
    refine WP.seq (fun K5 hK5 => ?_)
    refine WP.region ?_
    refine WL.runk 1 [4] [(4, .bool false)] (by kernel_rfl) ?_
    refine WL.nil ?_
    refine WQ.then_normal (hK5 _ _ _ ?_)
    refine WP.ret ?_
    refine WQ.then_ret ?_
    obtain rfl := Option.some.inj hm
    exact WQ.ret1 _ rfl rfl ⟨rfl, (Ext.refl w)⟩
  have hm := iteF hm hc4
  refine WP.skip ?_
  refine WQ.then_normal (hK2 _ _ _ ?_)
  refine WP.seq (fun K6 hK6 => ?_)
  refine WP.seq (fun K7 hK7 => ?_)
  refine WP.region ?_
  refine WL.runk 1 [0, 1, 5] [(0, .slice a0' a_0.length c0'), (1, .slice a1' b_1.length c1'), (5, .int .i64 0)] (by kernel_rfl) ?_
  refine WL.nil ?_
  refine WQ.then_normal (hK7 _ _ _ ?_)
  refine WP.block ?_
  obtain ⟨t19, ht20, hm⟩ := bindE hm
  have hmo14 := hm; clear hm
  refine WP.sub [(0, .slice a0' a_0.length c0'), (1, .slice a1' b_1.length c1'), (5, .int .i64 0)] ⟨rfl, rfl, rfl, trivial⟩ ?_
  refine WP.loop (fun n' env' w' => ∃ (st8 : Int) , env' = [(0, .slice a0' a_0.length c0'), (1, .slice a1' b_1.length c1'), (5, .int .i64 st8)] ∧ Ext w w' ∧ w.heap.size ≤ w'.heap.size ∧ SH w' w.heap.size [] ∧ loopN (m_laws_eqInt64S_l1 n a_0 b_1) n' st8 = some t19) n ⟨0, rfl, (Ext.refl w), (Nat.le_refl _), (SH.nil _ _), ht20⟩ ?_
  rintro n16 _ w9 ⟨st8, rfl, hb10, hL11, hS12, hl13⟩ K15 hK15
  obtain ⟨n17, s18, rfl, hm, hl13⟩ := loopN_some hl13
  unfold m_laws_eqInt64S_l1 at hm
  refine WP.seq (fun K21 hK21 => ?_)
  refine WP.seq (fun K22 hK22 => ?_)
  refine WP.region ?_
  refine WL.runk 4 [0, 1, 5, 14] [(0, .slice a0' a_0.length c0'), (1, .slice a1' b_1.length c1'), (5, .int .i64 st8), (14, .bool (decide (st8 < (a_0.length : Int))))] (by kernel_rfl) ?_
  refine WL.nil ?_
  refine WQ.then_normal (hK22 _ _ _ ?_)
  refine WP.cond (decide (st8 < (a_0.length : Int))) rfl rfl (fun hc23 => ?_) (fun hc23 => ?_)
  rotate_left
  · have hm := iteF hm hc23
    refine WP.exit ?_
    refine WQ.then_exit ?_
    refine WQ.then_exit ?_
    refine WQ.block_here ?_
    obtain rfl := Option.some.inj hm
    obtain rfl := afterN_done hl13
    have hm := hmo14
    refine WQ.then_normal (hK6 _ _ _ ?_)
    refine WP.seq (fun K37 hK37 => ?_)
    refine WP.region ?_
    refine WL.runk 1 [4] [(4, .bool true)] (by kernel_rfl) ?_
    refine WL.nil ?_
    refine WQ.then_normal (hK37 _ _ _ ?_)
    refine WP.ret ?_
    obtain rfl := Option.some.inj hm
    exact WQ.ret1 _ rfl rfl ⟨rfl, hb10⟩
  have hm := iteT hm hc23
  refine WP.skip ?_
  refine WQ.then_normal (hK21 _ _ _ ?_)
  refine WP.seq (fun K24 hK24 => ?_)
  refine WP.block ?_
  refine WP.seq (fun K25 hK25 => ?_)
  refine WP.quiet (by kernel_rfl) (by kernel_rfl) ?_
  refine QL.step1v 17 (.slice a0' a_0.length c0') rfl (fun _ => by kernel_rfl) ?_
  refine QL.step1v 18 (.int .i64 st8) rfl (fun _ => by kernel_rfl) ?_
  refine QL.subk [0, 1, 5, 17, 18] [(0, .slice a0' a_0.length c0'), (1, .slice a1' b_1.length c1'), (5, .int .i64 st8), (17, .slice a0' a_0.length c0'), (18, .int .i64 st8)] (by kernel_rfl) ?_
  obtain ⟨x26, hx27, hm⟩ := bindE hm
  refine QL.st (.pointer (some (at_ a0' (Int.toNat st8 * 1)))) (ST.index (T := fInt.ty) (xs := a_0) (Rd.below h0 hb10) hx27 rfl rfl rfl Try.underlying25 (info2).1 (info2).2.1) rfl rfl rfl ?_
  refine QL.st (.int .i64 x26) (ST.load (cell_ext (Rd.flat (F := fInt) (Rd.below h0 hb10) hx27 0 rfl)) rfl rfl Try.underlying2 rfl) rfl rfl rfl ?_
  refine QL.step1v 21 (.slice a1' b_1.length c1') rfl (fun _ => by kernel_rfl) ?_
  refine QL.step1v 22 (.int .i64 st8) rfl (fun _ => by kernel_rfl) ?_
  refine QL.subk [0, 1, 5, 20, 21, 22] [(0, .slice a0' a_0.length c0'), (1, .slice a1' b_1.length c1'), (5, .int .i64 st8), (20, .int .i64 x26), (21, .slice a1' b_1.length c1'), (22, .int .i64 st8)] (by kernel_rfl) ?_
  obtain ⟨x28, hx29, hm⟩ := bindE hm
  refine QL.st (.pointer (some (at_ a1' (Int.toNat st8 * 1)))) (ST.index (T := fInt.ty) (xs := b_1) (Rd.below h1 hb10) hx29 rfl rfl rfl Try.underlying25 (info2).1 (info2).2.1) rfl rfl rfl ?_
  refine QL.st (.int .i64 x28) (ST.load (cell_ext (Rd.flat (F := fInt) (Rd.below h1 hb10) hx29 0 rfl)) rfl rfl Try.underlying2 rfl) rfl rfl rfl ?_
  refine QL.step1v 25 (.bool (x26 != x28)) rfl (fun _ => by kernel_rfl) ?_
  refine QL.subk [0, 1, 5, 25] [(0, .slice a0' a_0.length c0'), (1, .slice a1' b_1.length c1'), (5, .int .i64 st8), (25, .bool (x26 != x28))] (by kernel_rfl) ?_
  refine QL.nil ?_
  intro w30 hE31
  have hb32 : Ext w w30 := Ext.trans hb10 hE31
  have hL33 : w.heap.size ≤ w30.heap.size := Nat.le_trans hL11 hE31.size
  have hS34 : SH w30 w.heap.size [] := SH.ext hS12 hE31
  refine WQ.then_normal (hK25 _ _ _ ?_)
  refine WP.cond (x26 != x28) rfl rfl (fun hc35 => ?_) (fun hc35 => ?_)
  rotate_left
  · have hm := iteF hm hc35
    refine WP.skip ?_
    refine WQ.block_normal ?_
    refine WQ.then_normal (hK24 _ _ _ ?_)
    refine WP.region ?_
    refine WL.runk 3 [0, 1, 5] [(0, .slice a0' a_0.length c0'), (1, .slice a1' b_1.length c1'), (5, .int .i64 (wI64 (st8 + 1)))] (by kernel_rfl) ?_
    refine WL.nil ?_
    obtain rfl := Option.some.inj hm
    exact WQ.round hK15 ⟨(wI64 (st8 + 1)), rfl, hb32, hL33, hS34, hl13⟩ (Nat.lt_succ_self _) ⟨rfl, rfl, rfl, trivial⟩
  have hm := iteT hm hc35
  refine WP.seq (fun K36 hK36 => ?_)
  refine WP.region ?_
  refine WL.runk 1 [4] [(4, .bool false)] (by kernel_rfl) ?_
  refine WL.nil ?_
  refine WQ.then_normal (hK36 _ _ _ ?_)
  refine WP.ret ?_
  refine WQ.block_ret ?_
  refine WQ.then_ret ?_
  refine WQ.then_ret ?_
  refine WQ.block_ret ?_
  refine WQ.then_ret ?_
  obtain rfl := Option.some.inj hm
  obtain rfl := afterN_done hl13
  have hm := hmo14
  obtain rfl := Option.some.inj hm
  exact WQ.ret1 _ rfl rfl ⟨rfl, hb32⟩

theorem c_73 (n : Nat) (a_0 : SRepair) (a0_1' : Option Addr) (c0_1' : Nat) (a0_2' : Option Addr) (c0_2' : Nat) (b_1 : SRepair) (a1_1' : Option Addr) (c1_1' : Nat) (a1_2' : Option Addr) (c1_2' : Nat) (w : World) {r : Bool} (hm : m_laws_eqRepair n a_0 b_1 = some r) (hr0_1 : Rd fInt.ty w a0_1' a_0.Mends) (hle0_1 : a_0.Mends.length ≤ c0_1') (hr0_2 : Rd fInt.ty w a0_2' a_0.First) (hle0_2 : a_0.First.length ≤ c0_2') (hr1_1 : Rd fInt.ty w a1_1' b_1.Mends) (hle1_1 : b_1.Mends.length ≤ c1_1') (hr1_2 : Rd fInt.ty w a1_2' b_1.First) (hle1_2 : b_1.First.length ≤ c1_2') :
    CallV Try.prog 73 #[.agg #[.string (bs a_0.Name), .slice a0_1' a_0.Mends.length c0_1', .slice a0_2' a_0.First.length c0_2', .int .i64 a_0.Price, .int .i64 a_0.Hours], .agg #[.string (bs b_1.Name), .slice a1_1' b_1.Mends.length c1_1', .slice a1_2' b_1.First.length c1_2', .int .i64 b_1.Price, .int .i64 b_1.Hours]] w (fun v w' => v = .bool r ∧ Ext w w') := by
  unfold m_laws_eqRepair at hm
  refine CallV.enter Try.func73 rfl (by kernel_rfl) Try.ntmps73 (env := [(0, .agg #[.string (bs a_0.Name), .slice a0_1' a_0.Mends.length c0_1', .slice a0_2' a_0.First.length c0_2', .int .i64 a_0.Price, .int .i64 a_0.Hours]), (1, .agg #[.string (bs b_1.Name), .slice a1_1' b_1.Mends.length c1_1', .slice a1_2' b_1.First.length c1_2', .int .i64 b_1.Price, .int .i64 b_1.Hours])]) ⟨rfl, rfl, trivial⟩ ?_
  refine WP.seq (fun K1 hK1 => ?_)
  refine WP.region ?_
  refine WL.box 73 [.string (bs a_0.Name), .slice a0_1' a_0.Mends.length c0_1', .slice a0_2' a_0.First.length c0_2', .int .i64 a_0.Price, .int .i64 a_0.Hours] 2 (by kernel_rfl) rfl rfl rfl rfl ?_
  intro b2 w3 hE4 hR5
  have hb7 : Ext w w3 := Ext.trans (Ext.refl w) hE4
  have hL8 : w.heap.size ≤ w3.heap.size := Nat.le_trans (Nat.le_refl _) hE4.size
  have hS9 : SH w3 w.heap.size [aBox 73 b2 [.string (bs a_0.Name), .slice a0_1' a_0.Mends.length c0_1', .slice a0_2' a_0.First.length c0_2', .int .i64 a_0.Price, .int .i64 a_0.Hours]] := SH.add (SH.nil _ _) hE4 (Nat.le_refl _) hR5
  refine WL.box 73 [.string (bs b_1.Name), .slice a1_1' b_1.Mends.length c1_1', .slice a1_2' b_1.First.length c1_2', .int .i64 b_1.Price, .int .i64 b_1.Hours] 3 (by kernel_rfl) rfl rfl rfl rfl ?_
  intro b10 w11 hE12 hR13
  have hb15 : Ext w w11 := Ext.trans hb7 hE12
  have hL16 : w.heap.size ≤ w11.heap.size := Nat.le_trans hL8 hE12.size
  have hS17 : SH w11 w.heap.size [aBox 73 b10 [.string (bs b_1.Name), .slice a1_1' b_1.Mends.length c1_1', .slice a1_2' b_1.First.length c1_2', .int .i64 b_1.Price, .int .i64 b_1.Hours], aBox 73 b2 [.string (bs a_0.Name), .slice a0_1' a_0.Mends.length c0_1', .slice a0_2' a_0.First.length c0_2', .int .i64 a_0.Price, .int .i64 a_0.Hours]] := SH.add hS9 hE12 hL8 hR13
  refine WL.runk 1 [2, 3] [(2, .pointer (some ⟨b2, 0, none⟩)), (3, .pointer (some ⟨b10, 0, none⟩))] (by kernel_rfl) ?_
  refine WL.nil ?_
  refine WQ.then_normal (hK1 _ _ _ ?_)
  refine WP.seq (fun K18 hK18 => ?_)
  refine WP.seq (fun K19 hK19 => ?_)
  refine WP.region ?_
  refine WL.runk 1 [2, 3, 5] [(2, .pointer (some ⟨b2, 0, none⟩)), (3, .pointer (some ⟨b10, 0, none⟩)), (5, .pointer (some ⟨b2, 0, none⟩))] (by kernel_rfl) ?_
  refine WL.st (.string (bs a_0.Name)) (ST.load (cell_ext (SH.boxAt (SH.front 1 hS17) 0 _ rfl)) rfl rfl Try.underlying9 rfl) rfl rfl rfl ?_
  refine WL.runk 1 [2, 3, 6, 7] [(2, .pointer (some ⟨b2, 0, none⟩)), (3, .pointer (some ⟨b10, 0, none⟩)), (6, .string (bs a_0.Name)), (7, .pointer (some ⟨b10, 0, none⟩))] (by kernel_rfl) ?_
  refine WL.st (.string (bs b_1.Name)) (ST.load (cell_ext (SH.boxAt (SH.front 0 hS17) 0 _ rfl)) rfl rfl Try.underlying9 rfl) rfl rfl rfl ?_
  refine WL.st (.bool (!(a_0.Name == b_1.Name))) (ST.strne (x := a_0.Name) (y := b_1.Name) rfl rfl rfl) rfl rfl rfl ?_
  refine WL.sub [(2, .pointer (some ⟨b2, 0, none⟩)), (3, .pointer (some ⟨b10, 0, none⟩)), (9, .bool (!(a_0.Name == b_1.Name)))] ⟨rfl, rfl, rfl, trivial⟩ ?_
  refine WL.nil ?_
  refine WQ.then_normal (hK19 _ _ _ ?_)
  refine WP.cond (!(a_0.Name == b_1.Name)) rfl rfl (fun hc20 => ?_) (fun hc20 => ?_)
  · have hm := iteT hm hc20
    refine WP.seq (fun K21 hK21 => ?_)
    refine WP.region ?_
    refine WL.runk 1 [4] [(4, .bool false)] (by kernel_rfl) ?_
    refine WL.nil ?_
    refine WQ.then_normal (hK21 _ _ _ ?_)
    refine WP.ret ?_
    refine WQ.then_ret ?_
    obtain rfl := Option.some.inj hm
    exact WQ.ret1 _ rfl rfl ⟨rfl, hb15⟩
  have hm := iteF hm hc20
  refine WP.skip ?_
  refine WQ.then_normal (hK18 _ _ _ ?_)
  refine WP.seq (fun K22 hK22 => ?_)
  refine WP.seq (fun K23 hK23 => ?_)
  refine WP.region ?_
  refine WL.runk 1 [2, 3, 10] [(2, .pointer (some ⟨b2, 0, none⟩)), (3, .pointer (some ⟨b10, 0, none⟩)), (10, .pointer (some ⟨b2, 1, none⟩))] (by kernel_rfl) ?_
  refine WL.st (.slice a0_1' a_0.Mends.length c0_1') (ST.load (cell_ext (SH.boxAt (SH.front 1 hS17) 1 _ rfl)) rfl rfl Try.underlying25 rfl) rfl rfl rfl ?_
  refine WL.runk 1 [2, 3, 11, 12] [(2, .pointer (some ⟨b2, 0, none⟩)), (3, .pointer (some ⟨b10, 0, none⟩)), (11, .slice a0_1' a_0.Mends.length c0_1'), (12, .pointer (some ⟨b10, 1, none⟩))] (by kernel_rfl) ?_
  refine WL.st (.slice a1_1' b_1.Mends.length c1_1') (ST.load (cell_ext (SH.boxAt (SH.front 0 hS17) 1 _ rfl)) rfl rfl Try.underlying25 rfl) rfl rfl rfl ?_
  obtain ⟨x24, hx25, hm⟩ := bindE hm
  refine WL.call 38 #[.slice a0_1' a_0.Mends.length c0_1', .slice a1_1' b_1.Mends.length c1_1'] rfl rfl (by kernel_rfl) (c_38 n a_0.Mends a0_1' c0_1' b_1.Mends a1_1' c1_1' w11 hx25 (Rd.below hr0_1 hb15) hle0_1 (Rd.below hr1_1 hb15) hle1_1) ?_
  rintro _ w26 ⟨rfl, hE27⟩
  refine ⟨_, rfl, ?_⟩
  have hb29 : Ext w w26 := Ext.trans hb15 hE27
  have hL30 : w.heap.size ≤ w26.heap.size := Nat.le_trans hL16 hE27.size
  have hS31 : SH w26 w.heap.size [aBox 73 b10 [.string (bs b_1.Name), .slice a1_1' b_1.Mends.length c1_1', .slice a1_2' b_1.First.length c1_2', .int .i64 b_1.Price, .int .i64 b_1.Hours], aBox 73 b2 [.string (bs a_0.Name), .slice a0_1' a_0.Mends.length c0_1', .slice a0_2' a_0.First.length c0_2', .int .i64 a_0.Price, .int .i64 a_0.Hours]] := SH.ext hS17 hE27
  refine WL.runk 1 [2, 3, 15] [(2, .pointer (some ⟨b2, 0, none⟩)), (3, .pointer (some ⟨b10, 0, none⟩)), (15, .bool (!x24))] (by kernel_rfl) ?_
  refine WL.nil ?_
  refine WQ.then_normal (hK23 _ _ _ ?_)
  refine WP.cond (!x24) rfl rfl (fun hc32 => ?_) (fun hc32 => ?_)
  · have hm := iteT hm hc32
    refine WP.seq (fun K33 hK33 => ?_)
    refine WP.region ?_
    refine WL.runk 1 [4] [(4, .bool false)] (by kernel_rfl) ?_
    refine WL.nil ?_
    refine WQ.then_normal (hK33 _ _ _ ?_)
    refine WP.ret ?_
    refine WQ.then_ret ?_
    obtain rfl := Option.some.inj hm
    exact WQ.ret1 _ rfl rfl ⟨rfl, hb29⟩
  have hm := iteF hm hc32
  refine WP.skip ?_
  refine WQ.then_normal (hK22 _ _ _ ?_)
  refine WP.seq (fun K34 hK34 => ?_)
  refine WP.seq (fun K35 hK35 => ?_)
  refine WP.region ?_
  refine WL.runk 1 [2, 3, 16] [(2, .pointer (some ⟨b2, 0, none⟩)), (3, .pointer (some ⟨b10, 0, none⟩)), (16, .pointer (some ⟨b2, 2, none⟩))] (by kernel_rfl) ?_
  refine WL.st (.slice a0_2' a_0.First.length c0_2') (ST.load (cell_ext (SH.boxAt (SH.front 1 hS31) 2 _ rfl)) rfl rfl Try.underlying25 rfl) rfl rfl rfl ?_
  refine WL.runk 1 [2, 3, 17, 18] [(2, .pointer (some ⟨b2, 0, none⟩)), (3, .pointer (some ⟨b10, 0, none⟩)), (17, .slice a0_2' a_0.First.length c0_2'), (18, .pointer (some ⟨b10, 2, none⟩))] (by kernel_rfl) ?_
  refine WL.st (.slice a1_2' b_1.First.length c1_2') (ST.load (cell_ext (SH.boxAt (SH.front 0 hS31) 2 _ rfl)) rfl rfl Try.underlying25 rfl) rfl rfl rfl ?_
  obtain ⟨x36, hx37, hm⟩ := bindE hm
  refine WL.call 38 #[.slice a0_2' a_0.First.length c0_2', .slice a1_2' b_1.First.length c1_2'] rfl rfl (by kernel_rfl) (c_38 n a_0.First a0_2' c0_2' b_1.First a1_2' c1_2' w26 hx37 (Rd.below hr0_2 hb29) hle0_2 (Rd.below hr1_2 hb29) hle1_2) ?_
  rintro _ w38 ⟨rfl, hE39⟩
  refine ⟨_, rfl, ?_⟩
  have hb41 : Ext w w38 := Ext.trans hb29 hE39
  have hL42 : w.heap.size ≤ w38.heap.size := Nat.le_trans hL30 hE39.size
  have hS43 : SH w38 w.heap.size [aBox 73 b10 [.string (bs b_1.Name), .slice a1_1' b_1.Mends.length c1_1', .slice a1_2' b_1.First.length c1_2', .int .i64 b_1.Price, .int .i64 b_1.Hours], aBox 73 b2 [.string (bs a_0.Name), .slice a0_1' a_0.Mends.length c0_1', .slice a0_2' a_0.First.length c0_2', .int .i64 a_0.Price, .int .i64 a_0.Hours]] := SH.ext hS31 hE39
  refine WL.runk 1 [2, 3, 21] [(2, .pointer (some ⟨b2, 0, none⟩)), (3, .pointer (some ⟨b10, 0, none⟩)), (21, .bool (!x36))] (by kernel_rfl) ?_
  refine WL.nil ?_
  refine WQ.then_normal (hK35 _ _ _ ?_)
  refine WP.cond (!x36) rfl rfl (fun hc44 => ?_) (fun hc44 => ?_)
  · have hm := iteT hm hc44
    refine WP.seq (fun K45 hK45 => ?_)
    refine WP.region ?_
    refine WL.runk 1 [4] [(4, .bool false)] (by kernel_rfl) ?_
    refine WL.nil ?_
    refine WQ.then_normal (hK45 _ _ _ ?_)
    refine WP.ret ?_
    refine WQ.then_ret ?_
    obtain rfl := Option.some.inj hm
    exact WQ.ret1 _ rfl rfl ⟨rfl, hb41⟩
  have hm := iteF hm hc44
  refine WP.skip ?_
  refine WQ.then_normal (hK34 _ _ _ ?_)
  refine WP.seq (fun K46 hK46 => ?_)
  refine WP.seq (fun K47 hK47 => ?_)
  refine WP.region ?_
  refine WL.runk 1 [2, 3, 22] [(2, .pointer (some ⟨b2, 0, none⟩)), (3, .pointer (some ⟨b10, 0, none⟩)), (22, .pointer (some ⟨b2, 3, none⟩))] (by kernel_rfl) ?_
  refine WL.st (.int .i64 a_0.Price) (ST.load (cell_ext (SH.boxAt (SH.front 1 hS43) 3 _ rfl)) rfl rfl Try.underlying2 rfl) rfl rfl rfl ?_
  refine WL.runk 1 [2, 3, 23, 24] [(2, .pointer (some ⟨b2, 0, none⟩)), (3, .pointer (some ⟨b10, 0, none⟩)), (23, .int .i64 a_0.Price), (24, .pointer (some ⟨b10, 3, none⟩))] (by kernel_rfl) ?_
  refine WL.st (.int .i64 b_1.Price) (ST.load (cell_ext (SH.boxAt (SH.front 0 hS43) 3 _ rfl)) rfl rfl Try.underlying2 rfl) rfl rfl rfl ?_
  refine WL.runk 1 [2, 3, 26] [(2, .pointer (some ⟨b2, 0, none⟩)), (3, .pointer (some ⟨b10, 0, none⟩)), (26, .bool (a_0.Price != b_1.Price))] (by kernel_rfl) ?_
  refine WL.nil ?_
  refine WQ.then_normal (hK47 _ _ _ ?_)
  refine WP.cond (a_0.Price != b_1.Price) rfl rfl (fun hc48 => ?_) (fun hc48 => ?_)
  · have hm := iteT hm hc48
    refine WP.seq (fun K49 hK49 => ?_)
    refine WP.region ?_
    refine WL.runk 1 [4] [(4, .bool false)] (by kernel_rfl) ?_
    refine WL.nil ?_
    refine WQ.then_normal (hK49 _ _ _ ?_)
    refine WP.ret ?_
    refine WQ.then_ret ?_
    obtain rfl := Option.some.inj hm
    exact WQ.ret1 _ rfl rfl ⟨rfl, hb41⟩
  have hm := iteF hm hc48
  refine WP.skip ?_
  refine WQ.then_normal (hK46 _ _ _ ?_)
  refine WP.seq (fun K50 hK50 => ?_)
  refine WP.seq (fun K51 hK51 => ?_)
  refine WP.region ?_
  refine WL.runk 1 [3, 27] [(3, .pointer (some ⟨b10, 0, none⟩)), (27, .pointer (some ⟨b2, 4, none⟩))] (by kernel_rfl) ?_
  refine WL.st (.int .i64 a_0.Hours) (ST.load (cell_ext (SH.boxAt (SH.front 1 hS43) 4 _ rfl)) rfl rfl Try.underlying2 rfl) rfl rfl rfl ?_
  refine WL.runk 1 [28, 29] [(28, .int .i64 a_0.Hours), (29, .pointer (some ⟨b10, 4, none⟩))] (by kernel_rfl) ?_
  refine WL.st (.int .i64 b_1.Hours) (ST.load (cell_ext (SH.boxAt (SH.front 0 hS43) 4 _ rfl)) rfl rfl Try.underlying2 rfl) rfl rfl rfl ?_
  refine WL.runk 1 [31] [(31, .bool (a_0.Hours != b_1.Hours))] (by kernel_rfl) ?_
  refine WL.nil ?_
  refine WQ.then_normal (hK51 _ _ _ ?_)
  refine WP.cond (a_0.Hours != b_1.Hours) rfl rfl (fun hc52 => ?_) (fun hc52 => ?_)
  · have hm := iteT hm hc52
    refine WP.seq (fun K53 hK53 => ?_)
    refine WP.region ?_
    refine WL.runk 1 [4] [(4, .bool false)] (by kernel_rfl) ?_
    refine WL.nil ?_
    refine WQ.then_normal (hK53 _ _ _ ?_)
    refine WP.ret ?_
    refine WQ.then_ret ?_
    obtain rfl := Option.some.inj hm
    exact WQ.ret1 _ rfl rfl ⟨rfl, hb41⟩
  have hm := iteF hm hc52
  refine WP.skip ?_
  refine WQ.then_normal (hK50 _ _ _ ?_)
  refine WP.seq (fun K54 hK54 => ?_)
  refine WP.region ?_
  refine WL.runk 1 [4] [(4, .bool true)] (by kernel_rfl) ?_
  refine WL.nil ?_
  refine WQ.then_normal (hK54 _ _ _ ?_)
  refine WP.ret ?_
  obtain rfl := Option.some.inj hm
  exact WQ.ret1 _ rfl rfl ⟨rfl, hb41⟩

theorem c_32 (n : Nat) (a_0 : List SRepair) (a0' : Option Addr) (c0' : Nat) (b_1 : List SRepair) (a1' : Option Addr) (c1' : Nat) (w : World) {r : Bool} (hm : m_laws_eqRepairS n a_0 b_1 = some r) (h0 : Rd fRepair.ty w a0' a_0) (_hle0 : a_0.length ≤ c0') (h1 : Rd fRepair.ty w a1' b_1) (_hle1 : b_1.length ≤ c1') :
    CallV Try.prog 32 #[.slice a0' a_0.length c0', .slice a1' b_1.length c1'] w (fun v w' => v = .bool r ∧ Ext w w') := by
  unfold m_laws_eqRepairS at hm
  refine CallV.enter Try.func32 rfl (by kernel_rfl) Try.ntmps32 (env := [(0, .slice a0' a_0.length c0'), (1, .slice a1' b_1.length c1')]) ⟨rfl, rfl, trivial⟩ ?_
  refine WP.seq (fun K1 hK1 => ?_)
  refine WP.region ?_
  refine WL.runk 1 [0, 1] [(0, .slice a0' a_0.length c0'), (1, .slice a1' b_1.length c1')] (by kernel_rfl) ?_
  refine WL.nil ?_
  refine WQ.then_normal (hK1 _ _ _ ?_)
  refine WP.seq (fun K2 hK2 => ?_)
  refine WP.seq (fun K3 hK3 => ?_)
  refine WP.region ?_
  refine WL.runk 5 [0, 1, 10] [(0, .slice a0' a_0.length c0'), (1, .slice a1' b_1.length c1'), (10, .bool ((a_0.length : Int) != (b_1.length : Int)))] (by kernel_rfl) ?_
  refine WL.nil ?_
  refine WQ.then_normal (hK3 _ _ _ ?_)
  refine WP.cond ((a_0.length : Int) != (b_1.length : Int)) rfl rfl (fun hc4 => ?_) (fun hc4 => ?_)
  · have hm := iteT hm hc4
    refine WP.seq (fun K5 hK5 => ?_)
    refine WP.region ?_
    refine WL.runk 1 [4] [(4, .bool false)] (by kernel_rfl) ?_
    refine WL.nil ?_
    refine WQ.then_normal (hK5 _ _ _ ?_)
    refine WP.ret ?_
    refine WQ.then_ret ?_
    obtain rfl := Option.some.inj hm
    exact WQ.ret1 _ rfl rfl ⟨rfl, (Ext.refl w)⟩
  have hm := iteF hm hc4
  refine WP.skip ?_
  refine WQ.then_normal (hK2 _ _ _ ?_)
  refine WP.seq (fun K6 hK6 => ?_)
  refine WP.seq (fun K7 hK7 => ?_)
  refine WP.region ?_
  refine WL.runk 1 [0, 1, 5] [(0, .slice a0' a_0.length c0'), (1, .slice a1' b_1.length c1'), (5, .int .i64 0)] (by kernel_rfl) ?_
  refine WL.nil ?_
  refine WQ.then_normal (hK7 _ _ _ ?_)
  refine WP.block ?_
  obtain ⟨t19, ht20, hm⟩ := bindE hm
  have hmo14 := hm; clear hm
  refine WP.sub [(0, .slice a0' a_0.length c0'), (1, .slice a1' b_1.length c1'), (5, .int .i64 0)] ⟨rfl, rfl, rfl, trivial⟩ ?_
  refine WP.loop (fun n' env' w' => ∃ (st8 : Int) , env' = [(0, .slice a0' a_0.length c0'), (1, .slice a1' b_1.length c1'), (5, .int .i64 st8)] ∧ Ext w w' ∧ w.heap.size ≤ w'.heap.size ∧ SH w' w.heap.size [] ∧ loopN (m_laws_eqRepairS_l1 n a_0 b_1) n' st8 = some t19) n ⟨0, rfl, (Ext.refl w), (Nat.le_refl _), (SH.nil _ _), ht20⟩ ?_
  rintro n16 _ w9 ⟨st8, rfl, hb10, hL11, hS12, hl13⟩ K15 hK15
  obtain ⟨n17, s18, rfl, hm, hl13⟩ := loopN_some hl13
  unfold m_laws_eqRepairS_l1 at hm
  refine WP.seq (fun K21 hK21 => ?_)
  refine WP.seq (fun K22 hK22 => ?_)
  refine WP.region ?_
  refine WL.runk 4 [0, 1, 5, 14] [(0, .slice a0' a_0.length c0'), (1, .slice a1' b_1.length c1'), (5, .int .i64 st8), (14, .bool (decide (st8 < (a_0.length : Int))))] (by kernel_rfl) ?_
  refine WL.nil ?_
  refine WQ.then_normal (hK22 _ _ _ ?_)
  refine WP.cond (decide (st8 < (a_0.length : Int))) rfl rfl (fun hc23 => ?_) (fun hc23 => ?_)
  rotate_left
  · have hm := iteF hm hc23
    refine WP.exit ?_
    refine WQ.then_exit ?_
    refine WQ.then_exit ?_
    refine WQ.block_here ?_
    obtain rfl := Option.some.inj hm
    obtain rfl := afterN_done hl13
    have hm := hmo14
    refine WQ.then_normal (hK6 _ _ _ ?_)
    refine WP.seq (fun K63 hK63 => ?_)
    refine WP.region ?_
    refine WL.runk 1 [4] [(4, .bool true)] (by kernel_rfl) ?_
    refine WL.nil ?_
    refine WQ.then_normal (hK63 _ _ _ ?_)
    refine WP.ret ?_
    obtain rfl := Option.some.inj hm
    exact WQ.ret1 _ rfl rfl ⟨rfl, hb10⟩
  have hm := iteT hm hc23
  refine WP.skip ?_
  refine WQ.then_normal (hK21 _ _ _ ?_)
  refine WP.seq (fun K24 hK24 => ?_)
  refine WP.block ?_
  refine WP.seq (fun K25 hK25 => ?_)
  refine WP.quiet (by kernel_rfl) (by kernel_rfl) ?_
  refine QL.step1v 17 (.slice a0' a_0.length c0') rfl (fun _ => by kernel_rfl) ?_
  refine QL.step1v 18 (.int .i64 st8) rfl (fun _ => by kernel_rfl) ?_
  refine QL.subk [0, 1, 5, 17, 18] [(0, .slice a0' a_0.length c0'), (1, .slice a1' b_1.length c1'), (5, .int .i64 st8), (17, .slice a0' a_0.length c0'), (18, .int .i64 st8)] (by kernel_rfl) ?_
  obtain ⟨x26, hx27, hm⟩ := bindE hm
  obtain ⟨a28, c29, a33, c34, hc38, hR30, hle31, hR35, hle36⟩ := nest_Repair h0 hx27
  refine QL.st (.pointer (some (at_ a0' (Int.toNat st8 * 5)))) (ST.index (T := fRepair.ty) (xs := a_0) (Rd.below h0 hb10) hx27 rfl rfl rfl Try.underlying24 (info73).1 (info73).2.1) rfl rfl rfl ?_
  refine QL.st (.agg #[.string (bs x26.Name), .slice a28 x26.Mends.length c29, .slice a33 x26.First.length c34, .int .i64 x26.Price, .int .i64 x26.Hours]) (ST.loadAgg (vs := [.string (bs x26.Name), .slice a28 x26.Mends.length c29, .slice a33 x26.First.length c34, .int .i64 x26.Price, .int .i64 x26.Hours]) (at_agg (cells_ext hc38 hb10)) rfl rfl rfl Try.underlying73 rfl (info73).1 (info73).2.1) rfl rfl rfl ?_
  refine QL.step1v 21 (.slice a1' b_1.length c1') rfl (fun _ => by kernel_rfl) ?_
  refine QL.step1v 22 (.int .i64 st8) rfl (fun _ => by kernel_rfl) ?_
  refine QL.subk [0, 1, 5, 20, 21, 22] [(0, .slice a0' a_0.length c0'), (1, .slice a1' b_1.length c1'), (5, .int .i64 st8), (20, .agg #[.string (bs x26.Name), .slice a28 x26.Mends.length c29, .slice a33 x26.First.length c34, .int .i64 x26.Price, .int .i64 x26.Hours]), (21, .slice a1' b_1.length c1'), (22, .int .i64 st8)] (by kernel_rfl) ?_
  obtain ⟨x39, hx40, hm⟩ := bindE hm
  obtain ⟨a41, c42, a46, c47, hc51, hR43, hle44, hR48, hle49⟩ := nest_Repair h1 hx40
  refine QL.st (.pointer (some (at_ a1' (Int.toNat st8 * 5)))) (ST.index (T := fRepair.ty) (xs := b_1) (Rd.below h1 hb10) hx40 rfl rfl rfl Try.underlying24 (info73).1 (info73).2.1) rfl rfl rfl ?_
  refine QL.st (.agg #[.string (bs x39.Name), .slice a41 x39.Mends.length c42, .slice a46 x39.First.length c47, .int .i64 x39.Price, .int .i64 x39.Hours]) (ST.loadAgg (vs := [.string (bs x39.Name), .slice a41 x39.Mends.length c42, .slice a46 x39.First.length c47, .int .i64 x39.Price, .int .i64 x39.Hours]) (at_agg (cells_ext hc51 hb10)) rfl rfl rfl Try.underlying73 rfl (info73).1 (info73).2.1) rfl rfl rfl ?_
  obtain ⟨x52, hx53, hm⟩ := bindE hm
  refine QL.call 73 #[.agg #[.string (bs x26.Name), .slice a28 x26.Mends.length c29, .slice a33 x26.First.length c34, .int .i64 x26.Price, .int .i64 x26.Hours], .agg #[.string (bs x39.Name), .slice a41 x39.Mends.length c42, .slice a46 x39.First.length c47, .int .i64 x39.Price, .int .i64 x39.Hours]] (.bool x52) (fun _ => by kernel_rfl) (fun w54 hE55 => c_73 n x26 a28 c29 a33 c34 x39 a41 c42 a46 c47 w54 hx53 (Rd.below (Rd.below hR30 hb10) hE55) hle31 (Rd.below (Rd.below hR35 hb10) hE55) hle36 (Rd.below (Rd.below hR43 hb10) hE55) hle44 (Rd.below (Rd.below hR48 hb10) hE55) hle49) rfl rfl rfl ?_
  refine QL.step1v 26 (.bool (!x52)) rfl (fun _ => by kernel_rfl) ?_
  refine QL.subk [0, 1, 5, 26] [(0, .slice a0' a_0.length c0'), (1, .slice a1' b_1.length c1'), (5, .int .i64 st8), (26, .bool (!x52))] (by kernel_rfl) ?_
  refine QL.nil ?_
  intro w56 hE57
  have hb58 : Ext w w56 := Ext.trans hb10 hE57
  have hL59 : w.heap.size ≤ w56.heap.size := Nat.le_trans hL11 hE57.size
  have hS60 : SH w56 w.heap.size [] := SH.ext hS12 hE57
  refine WQ.then_normal (hK25 _ _ _ ?_)
  refine WP.cond (!x52) rfl rfl (fun hc61 => ?_) (fun hc61 => ?_)
  rotate_left
  · have hm := iteF hm hc61
    refine WP.skip ?_
    refine WQ.block_normal ?_
    refine WQ.then_normal (hK24 _ _ _ ?_)
    refine WP.region ?_
    refine WL.runk 3 [0, 1, 5] [(0, .slice a0' a_0.length c0'), (1, .slice a1' b_1.length c1'), (5, .int .i64 (wI64 (st8 + 1)))] (by kernel_rfl) ?_
    refine WL.nil ?_
    obtain rfl := Option.some.inj hm
    exact WQ.round hK15 ⟨(wI64 (st8 + 1)), rfl, hb58, hL59, hS60, hl13⟩ (Nat.lt_succ_self _) ⟨rfl, rfl, rfl, trivial⟩
  have hm := iteT hm hc61
  refine WP.seq (fun K62 hK62 => ?_)
  refine WP.region ?_
  refine WL.runk 1 [4] [(4, .bool false)] (by kernel_rfl) ?_
  refine WL.nil ?_
  refine WQ.then_normal (hK62 _ _ _ ?_)
  refine WP.ret ?_
  refine WQ.block_ret ?_
  refine WQ.then_ret ?_
  refine WQ.then_ret ?_
  refine WQ.block_ret ?_
  refine WQ.then_ret ?_
  obtain rfl := Option.some.inj hm
  obtain rfl := afterN_done hl13
  have hm := hmo14
  obtain rfl := Option.some.inj hm
  exact WQ.ret1 _ rfl rfl ⟨rfl, hb58⟩

theorem c_9 (n : Nat) (aList_0 : List SRepair) (a0' : Option Addr) (c0' : Nat) (aSome_1 : List Int) (a1' : Option Addr) (c1' : Nat) (aFaults_2 : List Int) (a2' : Option Addr) (c2' : Nat) (w : World) {r : Bool} (hm : m_laws_FnExactMendsAll n aList_0 aSome_1 aFaults_2 = some r) (h0 : Rd fRepair.ty w a0' aList_0) (hle0 : aList_0.length ≤ c0') (h1 : Rd fInt.ty w a1' aSome_1) (hle1 : aSome_1.length ≤ c1') (h2 : Rd fInt.ty w a2' aFaults_2) (hle2 : aFaults_2.length ≤ c2') :
    CallV Try.prog 9 #[.slice a0' aList_0.length c0', .slice a1' aSome_1.length c1', .slice a2' aFaults_2.length c2'] w (fun v w' => v = .bool r ∧ Ext w w') := by
  unfold m_laws_FnExactMendsAll at hm
  refine CallV.enter Try.func9 rfl (by kernel_rfl) Try.ntmps9 (env := [(0, .slice a0' aList_0.length c0'), (1, .slice a1' aSome_1.length c1'), (2, .slice a2' aFaults_2.length c2')]) ⟨rfl, rfl, rfl, trivial⟩ ?_
  refine WP.seq (fun K1 hK1 => ?_)
  refine WP.region ?_
  refine WL.runk 1 [0, 1, 2] [(0, .slice a0' aList_0.length c0'), (1, .slice a1' aSome_1.length c1'), (2, .slice a2' aFaults_2.length c2')] (by kernel_rfl) ?_
  refine WL.nil ?_
  refine WQ.then_normal (hK1 _ _ _ ?_)
  refine WP.seq (fun K2 hK2 => ?_)
  refine WP.seq (fun K3 hK3 => ?_)
  refine WP.region ?_
  refine WL.runk 3 [0, 1, 2, 17] [(0, .slice a0' aList_0.length c0'), (1, .slice a1' aSome_1.length c1'), (2, .slice a2' aFaults_2.length c2'), (17, .bool (decide ((aSome_1.length : Int) > 1048576)))] (by kernel_rfl) ?_
  refine WL.nil ?_
  refine WQ.then_normal (hK3 _ _ _ ?_)
  refine WP.cond (decide ((aSome_1.length : Int) > 1048576)) rfl rfl (fun hc4 => ?_) (fun hc4 => ?_)
  · have hm := iteT hm hc4
    refine WP.seq (fun K5 hK5 => ?_)
    refine WP.region ?_
    refine WL.runk 1 [6] [(6, .bool true)] (by kernel_rfl) ?_
    refine WL.nil ?_
    refine WQ.then_normal (hK5 _ _ _ ?_)
    refine WP.ret ?_
    refine WQ.then_ret ?_
    obtain rfl := Option.some.inj hm
    exact WQ.ret1 _ rfl rfl ⟨rfl, (Ext.refl w)⟩
  have hm := iteF hm hc4
  refine WP.skip ?_
  refine WQ.then_normal (hK2 _ _ _ ?_)
  refine WP.seq (fun K6 hK6 => ?_)
  refine WP.seq (fun K7 hK7 => ?_)
  refine WP.region ?_
  refine WL.runk 3 [0, 1, 2, 20] [(0, .slice a0' aList_0.length c0'), (1, .slice a1' aSome_1.length c1'), (2, .slice a2' aFaults_2.length c2'), (20, .bool (decide ((aFaults_2.length : Int) > 1048576)))] (by kernel_rfl) ?_
  refine WL.nil ?_
  refine WQ.then_normal (hK7 _ _ _ ?_)
  refine WP.cond (decide ((aFaults_2.length : Int) > 1048576)) rfl rfl (fun hc8 => ?_) (fun hc8 => ?_)
  · have hm := iteT hm hc8
    refine WP.seq (fun K9 hK9 => ?_)
    refine WP.region ?_
    refine WL.runk 1 [6] [(6, .bool true)] (by kernel_rfl) ?_
    refine WL.nil ?_
    refine WQ.then_normal (hK9 _ _ _ ?_)
    refine WP.ret ?_
    refine WQ.then_ret ?_
    obtain rfl := Option.some.inj hm
    exact WQ.ret1 _ rfl rfl ⟨rfl, (Ext.refl w)⟩
  have hm := iteF hm hc8
  refine WP.skip ?_
  refine WQ.then_normal (hK6 _ _ _ ?_)
  refine WP.seq (fun K10 hK10 => ?_)
  refine WP.region ?_
  refine WL.runk 1 [0, 1, 2, 7] [(0, .slice a0' aList_0.length c0'), (1, .slice a1' aSome_1.length c1'), (2, .slice a2' aFaults_2.length c2'), (7, .int .i64 1048576)] (by kernel_rfl) ?_
  refine WL.nil ?_
  refine WQ.then_normal (hK10 _ _ _ ?_)
  refine WP.seq (fun K11 hK11 => ?_)
  refine WP.region ?_
  refine WL.runk 2 [0, 1, 2, 21, 22] [(0, .slice a0' aList_0.length c0'), (1, .slice a1' aSome_1.length c1'), (2, .slice a2' aFaults_2.length c2'), (21, .slice a0' aList_0.length c0'), (22, .int .i64 1048576)] (by kernel_rfl) ?_
  obtain ⟨x12, hx13, hm⟩ := bindE hm
  refine WL.call 28 #[.slice a0' aList_0.length c0', .int .i64 1048576] rfl rfl (by kernel_rfl) (c_28 n aList_0 a0' c0' 1048576 w hx13 (Rd.below h0 (Ext.refl w)) hle0) ?_
  rintro _ w14 ⟨rfl, hE15⟩
  refine ⟨_, rfl, ?_⟩
  have hb17 : Ext w w14 := Ext.trans (Ext.refl w) hE15
  have hL18 : w.heap.size ≤ w14.heap.size := Nat.le_trans (Nat.le_refl _) hE15.size
  have hS19 : SH w14 w.heap.size [] := SH.ext (SH.nil _ _) hE15
  refine WL.runk 1 [0, 1, 2, 7] [(0, .slice a0' aList_0.length c0'), (1, .slice a1' aSome_1.length c1'), (2, .slice a2' aFaults_2.length c2'), (7, .int .i64 x12)] (by kernel_rfl) ?_
  refine WL.nil ?_
  refine WQ.then_normal (hK11 _ _ _ ?_)
  refine WP.seq (fun K20 hK20 => ?_)
  refine WP.seq (fun K21 hK21 => ?_)
  refine WP.region ?_
  refine WL.runk 2 [0, 1, 2, 25] [(0, .slice a0' aList_0.length c0'), (1, .slice a1' aSome_1.length c1'), (2, .slice a2' aFaults_2.length c2'), (25, .bool (decide (x12 < 0)))] (by kernel_rfl) ?_
  refine WL.nil ?_
  refine WQ.then_normal (hK21 _ _ _ ?_)
  refine WP.cond (decide (x12 < 0)) rfl rfl (fun hc22 => ?_) (fun hc22 => ?_)
  · have hm := iteT hm hc22
    refine WP.seq (fun K23 hK23 => ?_)
    refine WP.region ?_
    refine WL.runk 1 [6] [(6, .bool true)] (by kernel_rfl) ?_
    refine WL.nil ?_
    refine WQ.then_normal (hK23 _ _ _ ?_)
    refine WP.ret ?_
    refine WQ.then_ret ?_
    obtain rfl := Option.some.inj hm
    exact WQ.ret1 _ rfl rfl ⟨rfl, hb17⟩
  have hm := iteF hm hc22
  refine WP.skip ?_
  refine WQ.then_normal (hK20 _ _ _ ?_)
  refine WP.seq (fun K24 hK24 => ?_)
  refine WP.region ?_
  refine WL.runk 1 [0, 1, 2, 27] [(0, .slice a0' aList_0.length c0'), (1, .slice a1' aSome_1.length c1'), (2, .slice a2' aFaults_2.length c2'), (27, .slice a0' aList_0.length c0')] (by kernel_rfl) ?_
  obtain ⟨x25, hx26, hm⟩ := bindE hm
  refine WL.call 30 #[.slice a0' aList_0.length c0'] rfl rfl (by kernel_rfl) (c_30 n aList_0 a0' c0' w14 hx26 (Rd.below h0 hb17) hle0) ?_
  rintro _ w30 ⟨a27, c28, rfl, hE31, hR32⟩
  refine ⟨_, rfl, ?_⟩
  have hb33 : Ext w w30 := Ext.trans hb17 hE31
  have hL34 : w.heap.size ≤ w30.heap.size := Nat.le_trans hL18 hE31.size
  have hS35 : SH w30 w.heap.size [aNest fRepair 73 2 a27 c28 x25] := SH.add hS19 hE31 hL18 hR32
  refine WL.runk 1 [0, 1, 2, 28, 29] [(0, .slice a0' aList_0.length c0'), (1, .slice a1' aSome_1.length c1'), (2, .slice a2' aFaults_2.length c2'), (28, .slice a27 x25.length c28), (29, .slice a1' aSome_1.length c1')] (by kernel_rfl) ?_
  obtain ⟨x36, hx37, hm⟩ := bindE hm
  refine WL.call 36 #[.slice a1' aSome_1.length c1'] rfl rfl (by kernel_rfl) (c_36 n aSome_1 a1' c1' w30 hx37 (Rd.below h1 hb33) hle1) ?_
  rintro _ w41 ⟨a38, c39, rfl, hE42, hR43⟩
  refine ⟨_, rfl, ?_⟩
  have hb44 : Ext w w41 := Ext.trans hb33 hE42
  have hL45 : w.heap.size ≤ w41.heap.size := Nat.le_trans hL34 hE42.size
  have hS46 : SH w41 w.heap.size [aOwn fInt 2 a38 c39 x36, aNest fRepair 73 2 a27 c28 x25] := SH.add hS35 hE42 hL34 hR43
  refine WL.runk 1 [0, 1, 2, 28, 30, 31] [(0, .slice a0' aList_0.length c0'), (1, .slice a1' aSome_1.length c1'), (2, .slice a2' aFaults_2.length c2'), (28, .slice a27 x25.length c28), (30, .slice a38 x36.length c39), (31, .slice a2' aFaults_2.length c2')] (by kernel_rfl) ?_
  obtain ⟨x47, hx48, hm⟩ := bindE hm
  refine WL.call 36 #[.slice a2' aFaults_2.length c2'] rfl rfl (by kernel_rfl) (c_36 n aFaults_2 a2' c2' w41 hx48 (Rd.below h2 hb44) hle2) ?_
  rintro _ w52 ⟨a49, c50, rfl, hE53, hR54⟩
  refine ⟨_, rfl, ?_⟩
  have hb55 : Ext w w52 := Ext.trans hb44 hE53
  have hL56 : w.heap.size ≤ w52.heap.size := Nat.le_trans hL45 hE53.size
  have hS57 : SH w52 w.heap.size [aOwn fInt 2 a49 c50 x47, aOwn fInt 2 a38 c39 x36, aNest fRepair 73 2 a27 c28 x25] := SH.add hS46 hE53 hL45 hR54
  obtain ⟨x58, hx59, hm⟩ := bindE hm
  refine WL.call 18 #[.slice a27 x25.length c28, .slice a38 x36.length c39, .slice a49 x47.length c50] rfl rfl (by kernel_rfl) (c_18 n x25 a27 c28 x36 a38 c39 x47 a49 c50 w52 hx59 (SH.rdN (SH.front 2 hS57)) (SH.leN (SH.front 2 hS57)).1 (SH.rd (SH.front 1 hS57)) (SH.le (SH.front 1 hS57)).1 (SH.rd (SH.front 0 hS57)) (SH.le (SH.front 0 hS57)).1) ?_
  rintro _ w60 ⟨rfl, hE61⟩
  refine ⟨_, rfl, ?_⟩
  have hb63 : Ext w w60 := Ext.trans hb55 hE61
  have hL64 : w.heap.size ≤ w60.heap.size := Nat.le_trans hL56 hE61.size
  have hS65 : SH w60 w.heap.size [aOwn fInt 2 a49 c50 x47, aOwn fInt 2 a38 c39 x36, aNest fRepair 73 2 a27 c28 x25] := SH.ext hS57 hE61
  refine WL.runk 5 [0, 1, 2, 8, 9] [(0, .slice a0' aList_0.length c0'), (1, .slice a1' aSome_1.length c1'), (2, .slice a2' aFaults_2.length c2'), (8, .bool x58.1), (9, .int .i64 x58.2)] (by kernel_rfl) ?_
  refine WL.nil ?_
  refine WQ.then_normal (hK24 _ _ _ ?_)
  refine WP.seq (fun K66 hK66 => ?_)
  refine WP.region ?_
  refine WL.runk 1 [0, 1, 2, 8, 9, 36] [(0, .slice a0' aList_0.length c0'), (1, .slice a1' aSome_1.length c1'), (2, .slice a2' aFaults_2.length c2'), (8, .bool x58.1), (9, .int .i64 x58.2), (36, .slice a0' aList_0.length c0')] (by kernel_rfl) ?_
  obtain ⟨x67, hx68, hm⟩ := bindE hm
  refine WL.call 30 #[.slice a0' aList_0.length c0'] rfl rfl (by kernel_rfl) (c_30 n aList_0 a0' c0' w60 hx68 (Rd.below h0 hb63) hle0) ?_
  rintro _ w72 ⟨a69, c70, rfl, hE73, hR74⟩
  refine ⟨_, rfl, ?_⟩
  have hb75 : Ext w w72 := Ext.trans hb63 hE73
  have hL76 : w.heap.size ≤ w72.heap.size := Nat.le_trans hL64 hE73.size
  have hS77 : SH w72 w.heap.size [aNest fRepair 73 2 a69 c70 x67, aOwn fInt 2 a49 c50 x47, aOwn fInt 2 a38 c39 x36, aNest fRepair 73 2 a27 c28 x25] := SH.add hS65 hE73 hL64 hR74
  refine WL.runk 1 [0, 1, 2, 8, 9, 10] [(0, .slice a0' aList_0.length c0'), (1, .slice a1' aSome_1.length c1'), (2, .slice a2' aFaults_2.length c2'), (8, .bool x58.1), (9, .int .i64 x58.2), (10, .slice a69 x67.length c70)] (by kernel_rfl) ?_
  refine WL.nil ?_
  refine WQ.then_normal (hK66 _ _ _ ?_)
  refine WP.seq (fun K78 hK78 => ?_)
  refine WP.region ?_
  refine WL.runk 1 [0, 1, 2, 8, 9, 10, 38] [(0, .slice a0' aList_0.length c0'), (1, .slice a1' aSome_1.length c1'), (2, .slice a2' aFaults_2.length c2'), (8, .bool x58.1), (9, .int .i64 x58.2), (10, .slice a69 x67.length c70), (38, .slice a1' aSome_1.length c1')] (by kernel_rfl) ?_
  obtain ⟨x79, hx80, hm⟩ := bindE hm
  refine WL.call 36 #[.slice a1' aSome_1.length c1'] rfl rfl (by kernel_rfl) (c_36 n aSome_1 a1' c1' w72 hx80 (Rd.below h1 hb75) hle1) ?_
  rintro _ w84 ⟨a81, c82, rfl, hE85, hR86⟩
  refine ⟨_, rfl, ?_⟩
  have hb87 : Ext w w84 := Ext.trans hb75 hE85
  have hL88 : w.heap.size ≤ w84.heap.size := Nat.le_trans hL76 hE85.size
  have hS89 : SH w84 w.heap.size [aOwn fInt 2 a81 c82 x79, aNest fRepair 73 2 a69 c70 x67, aOwn fInt 2 a49 c50 x47, aOwn fInt 2 a38 c39 x36, aNest fRepair 73 2 a27 c28 x25] := SH.add hS77 hE85 hL76 hR86
  refine WL.runk 1 [0, 1, 2, 8, 9, 10, 11] [(0, .slice a0' aList_0.length c0'), (1, .slice a1' aSome_1.length c1'), (2, .slice a2' aFaults_2.length c2'), (8, .bool x58.1), (9, .int .i64 x58.2), (10, .slice a69 x67.length c70), (11, .slice a81 x79.length c82)] (by kernel_rfl) ?_
  refine WL.nil ?_
  refine WQ.then_normal (hK78 _ _ _ ?_)
  refine WP.seq (fun K90 hK90 => ?_)
  refine WP.region ?_
  refine WL.runk 1 [0, 1, 2, 8, 9, 10, 11, 40] [(0, .slice a0' aList_0.length c0'), (1, .slice a1' aSome_1.length c1'), (2, .slice a2' aFaults_2.length c2'), (8, .bool x58.1), (9, .int .i64 x58.2), (10, .slice a69 x67.length c70), (11, .slice a81 x79.length c82), (40, .slice a2' aFaults_2.length c2')] (by kernel_rfl) ?_
  obtain ⟨x91, hx92, hm⟩ := bindE hm
  refine WL.call 36 #[.slice a2' aFaults_2.length c2'] rfl rfl (by kernel_rfl) (c_36 n aFaults_2 a2' c2' w84 hx92 (Rd.below h2 hb87) hle2) ?_
  rintro _ w96 ⟨a93, c94, rfl, hE97, hR98⟩
  refine ⟨_, rfl, ?_⟩
  have hb99 : Ext w w96 := Ext.trans hb87 hE97
  have hL100 : w.heap.size ≤ w96.heap.size := Nat.le_trans hL88 hE97.size
  have hS101 : SH w96 w.heap.size [aOwn fInt 2 a93 c94 x91, aOwn fInt 2 a81 c82 x79, aNest fRepair 73 2 a69 c70 x67, aOwn fInt 2 a49 c50 x47, aOwn fInt 2 a38 c39 x36, aNest fRepair 73 2 a27 c28 x25] := SH.add hS89 hE97 hL88 hR98
  refine WL.runk 1 [0, 1, 2, 8, 9, 10, 11, 12] [(0, .slice a0' aList_0.length c0'), (1, .slice a1' aSome_1.length c1'), (2, .slice a2' aFaults_2.length c2'), (8, .bool x58.1), (9, .int .i64 x58.2), (10, .slice a69 x67.length c70), (11, .slice a81 x79.length c82), (12, .slice a93 x91.length c94)] (by kernel_rfl) ?_
  refine WL.nil ?_
  refine WQ.then_normal (hK90 _ _ _ ?_)
  refine WP.seq (fun K102 hK102 => ?_)
  refine WP.region ?_
  refine WL.runk 3 [0, 1, 2, 8, 9, 10, 11, 12, 43, 44, 45] [(0, .slice a0' aList_0.length c0'), (1, .slice a1' aSome_1.length c1'), (2, .slice a2' aFaults_2.length c2'), (8, .bool x58.1), (9, .int .i64 x58.2), (10, .slice a69 x67.length c70), (11, .slice a81 x79.length c82), (12, .slice a93 x91.length c94), (43, .slice a69 x67.length c70), (44, .slice a81 x79.length c82), (45, .slice a93 x91.length c94)] (by kernel_rfl) ?_
  obtain ⟨x103, hx104, hm⟩ := bindE hm
  refine WL.call 17 #[.slice a69 x67.length c70, .slice a81 x79.length c82, .slice a93 x91.length c94] rfl rfl (by kernel_rfl) (c_17 n x67 a69 c70 x79 a81 c82 x91 a93 c94 w96 hx104 (SH.rdN (SH.front 2 hS101)) (SH.leN (SH.front 2 hS101)).1 (SH.rd (SH.front 1 hS101)) (SH.le (SH.front 1 hS101)).1 (SH.rd (SH.front 0 hS101)) (SH.le (SH.front 0 hS101)).1) ?_
  rintro _ w105 ⟨rfl, hE106⟩
  refine ⟨_, rfl, ?_⟩
  have hb108 : Ext w w105 := Ext.trans hb99 hE106
  have hL109 : w.heap.size ≤ w105.heap.size := Nat.le_trans hL100 hE106.size
  have hS110 : SH w105 w.heap.size [aOwn fInt 2 a93 c94 x91, aOwn fInt 2 a81 c82 x79, aNest fRepair 73 2 a69 c70 x67, aOwn fInt 2 a49 c50 x47, aOwn fInt 2 a38 c39 x36, aNest fRepair 73 2 a27 c28 x25] := SH.ext hS101 hE106
  refine WL.runk 5 [0, 1, 2, 8, 9, 10, 11, 12, 13, 14] [(0, .slice a0' aList_0.length c0'), (1, .slice a1' aSome_1.length c1'), (2, .slice a2' aFaults_2.length c2'), (8, .bool x58.1), (9, .int .i64 x58.2), (10, .slice a69 x67.length c70), (11, .slice a81 x79.length c82), (12, .slice a93 x91.length c94), (13, .bool x103.1), (14, .int .i64 x103.2)] (by kernel_rfl) ?_
  refine WL.nil ?_
  refine WQ.then_normal (hK102 _ _ _ ?_)
  refine WP.seq (fun K111 hK111 => ?_)
  refine WP.seq (fun K112 hK112 => ?_)
  obtain ⟨x114, hx115, hm⟩ := bindE hm
  refine WP.cut (fun env' w' => env' = [(0, .slice a0' aList_0.length c0'), (1, .slice a1' aSome_1.length c1'), (2, .slice a2' aFaults_2.length c2'), (10, .slice a69 x67.length c70), (11, .slice a81 x79.length c82), (12, .slice a93 x91.length c94), (56, .bool x114)] ∧ Ext w w' ∧ w.heap.size ≤ w'.heap.size ∧ SH w' w.heap.size [aOwn fInt 2 a93 c94 x91, aOwn fInt 2 a81 c82 x79, aNest fRepair 73 2 a69 c70 x67]) ?_ ?_
  · have hm := hx115; clear hx115
    refine WP.region ?_
    refine WL.runk 4 [0, 1, 2, 9, 10, 11, 12, 14, 52] [(0, .slice a0' aList_0.length c0'), (1, .slice a1' aSome_1.length c1'), (2, .slice a2' aFaults_2.length c2'), (9, .int .i64 x58.2), (10, .slice a69 x67.length c70), (11, .slice a81 x79.length c82), (12, .slice a93 x91.length c94), (14, .int .i64 x103.2), (52, .bool (!(x103.1 == x58.1)))] (by kernel_rfl) ?_
    refine WL.case (!(x103.1 == x58.1)) [52] ⟨rfl, trivial⟩ (fun hc116 => ?_) (fun hc116 => ?_)
    · have hm := iteT hm hc116
      refine WL.runk 4 [0, 1, 2, 10, 11, 12, 56] [(0, .slice a0' aList_0.length c0'), (1, .slice a1' aSome_1.length c1'), (2, .slice a2' aFaults_2.length c2'), (10, .slice a69 x67.length c70), (11, .slice a81 x79.length c82), (12, .slice a93 x91.length c94), (56, .bool true)] (by kernel_rfl) ?_
      refine WL.nil ?_
      obtain rfl := Option.some.inj hm
      exact WQ.post' ⟨rfl, hb108, hL109, (SH.take 3 (SH.front 2 (SH.front 2 (SH.front 2 hS110))))⟩ ⟨rfl, rfl, rfl, rfl, rfl, rfl, rfl, trivial⟩
    have hm := iteF hm hc116
    refine WL.runk 4 [0, 1, 2, 10, 11, 12, 56] [(0, .slice a0' aList_0.length c0'), (1, .slice a1' aSome_1.length c1'), (2, .slice a2' aFaults_2.length c2'), (10, .slice a69 x67.length c70), (11, .slice a81 x79.length c82), (12, .slice a93 x91.length c94), (56, .bool (x103.2 != x58.2))] (by kernel_rfl) ?_
    refine WL.nil ?_
    obtain rfl := Option.some.inj hm
    exact WQ.post' ⟨rfl, hb108, hL109, (SH.take 3 (SH.front 2 (SH.front 2 (SH.front 2 hS110))))⟩ ⟨rfl, rfl, rfl, rfl, rfl, rfl, rfl, trivial⟩
  clear hx115
  rintro _ w117 ⟨rfl, hb118, hL119, hS120⟩
  refine WQ.then_normal (hK112 _ _ _ ?_)
  refine WP.cond x114 rfl rfl (fun hc121 => ?_) (fun hc121 => ?_)
  · have hm := iteT hm hc121
    refine WP.seq (fun K122 hK122 => ?_)
    refine WP.region ?_
    refine WL.runk 1 [6] [(6, .bool false)] (by kernel_rfl) ?_
    refine WL.nil ?_
    refine WQ.then_normal (hK122 _ _ _ ?_)
    refine WP.ret ?_
    refine WQ.then_ret ?_
    obtain rfl := Option.some.inj hm
    exact WQ.ret1 _ rfl rfl ⟨rfl, hb118⟩
  have hm := iteF hm hc121
  refine WP.skip ?_
  refine WQ.then_normal (hK111 _ _ _ ?_)
  refine WP.seq (fun K123 hK123 => ?_)
  refine WP.seq (fun K124 hK124 => ?_)
  refine WP.region ?_
  refine WL.runk 2 [1, 2, 11, 12, 57, 58] [(1, .slice a1' aSome_1.length c1'), (2, .slice a2' aFaults_2.length c2'), (11, .slice a81 x79.length c82), (12, .slice a93 x91.length c94), (57, .slice a69 x67.length c70), (58, .slice a0' aList_0.length c0')] (by kernel_rfl) ?_
  obtain ⟨x125, hx126, hm⟩ := bindE hm
  refine WL.call 30 #[.slice a0' aList_0.length c0'] rfl rfl (by kernel_rfl) (c_30 n aList_0 a0' c0' w117 hx126 (Rd.below h0 hb118) hle0) ?_
  rintro _ w130 ⟨a127, c128, rfl, hE131, hR132⟩
  refine ⟨_, rfl, ?_⟩
  have hb133 : Ext w w130 := Ext.trans hb118 hE131
  have hL134 : w.heap.size ≤ w130.heap.size := Nat.le_trans hL119 hE131.size
  have hS135 : SH w130 w.heap.size [aNest fRepair 73 2 a127 c128 x125, aOwn fInt 2 a93 c94 x91, aOwn fInt 2 a81 c82 x79, aNest fRepair 73 2 a69 c70 x67] := SH.add hS120 hE131 hL119 hR132
  obtain ⟨x136, hx137, hm⟩ := bindE hm
  refine WL.call 32 #[.slice a69 x67.length c70, .slice a127 x125.length c128] rfl rfl (by kernel_rfl) (c_32 n x67 a69 c70 x125 a127 c128 w130 hx137 (SH.rdN (SH.front 3 hS135)) (SH.leN (SH.front 3 hS135)).1 (SH.rdN (SH.front 0 hS135)) (SH.leN (SH.front 0 hS135)).1) ?_
  rintro _ w138 ⟨rfl, hE139⟩
  refine ⟨_, rfl, ?_⟩
  have hb141 : Ext w w138 := Ext.trans hb133 hE139
  have hL142 : w.heap.size ≤ w138.heap.size := Nat.le_trans hL134 hE139.size
  have hS143 : SH w138 w.heap.size [aNest fRepair 73 2 a127 c128 x125, aOwn fInt 2 a93 c94 x91, aOwn fInt 2 a81 c82 x79, aNest fRepair 73 2 a69 c70 x67] := SH.ext hS135 hE139
  refine WL.runk 1 [1, 2, 11, 12, 61] [(1, .slice a1' aSome_1.length c1'), (2, .slice a2' aFaults_2.length c2'), (11, .slice a81 x79.length c82), (12, .slice a93 x91.length c94), (61, .bool (!x136))] (by kernel_rfl) ?_
  refine WL.nil ?_
  refine WQ.then_normal (hK124 _ _ _ ?_)
  refine WP.cond (!x136) rfl rfl (fun hc144 => ?_) (fun hc144 => ?_)
  · have hm := iteT hm hc144
    refine WP.seq (fun K145 hK145 => ?_)
    refine WP.region ?_
    refine WL.runk 1 [6] [(6, .bool false)] (by kernel_rfl) ?_
    refine WL.nil ?_
    refine WQ.then_normal (hK145 _ _ _ ?_)
    refine WP.ret ?_
    refine WQ.then_ret ?_
    obtain rfl := Option.some.inj hm
    exact WQ.ret1 _ rfl rfl ⟨rfl, hb141⟩
  have hm := iteF hm hc144
  refine WP.skip ?_
  refine WQ.then_normal (hK123 _ _ _ ?_)
  refine WP.seq (fun K146 hK146 => ?_)
  refine WP.seq (fun K147 hK147 => ?_)
  refine WP.region ?_
  refine WL.runk 2 [2, 12, 62, 63] [(2, .slice a2' aFaults_2.length c2'), (12, .slice a93 x91.length c94), (62, .slice a81 x79.length c82), (63, .slice a1' aSome_1.length c1')] (by kernel_rfl) ?_
  obtain ⟨x148, hx149, hm⟩ := bindE hm
  refine WL.call 36 #[.slice a1' aSome_1.length c1'] rfl rfl (by kernel_rfl) (c_36 n aSome_1 a1' c1' w138 hx149 (Rd.below h1 hb141) hle1) ?_
  rintro _ w153 ⟨a150, c151, rfl, hE154, hR155⟩
  refine ⟨_, rfl, ?_⟩
  have hb156 : Ext w w153 := Ext.trans hb141 hE154
  have hL157 : w.heap.size ≤ w153.heap.size := Nat.le_trans hL142 hE154.size
  have hS158 : SH w153 w.heap.size [aOwn fInt 2 a150 c151 x148, aNest fRepair 73 2 a127 c128 x125, aOwn fInt 2 a93 c94 x91, aOwn fInt 2 a81 c82 x79, aNest fRepair 73 2 a69 c70 x67] := SH.add hS143 hE154 hL142 hR155
  obtain ⟨x159, hx160, hm⟩ := bindE hm
  refine WL.call 38 #[.slice a81 x79.length c82, .slice a150 x148.length c151] rfl rfl (by kernel_rfl) (c_38 n x79 a81 c82 x148 a150 c151 w153 hx160 (SH.rd (SH.front 3 hS158)) (SH.le (SH.front 3 hS158)).1 (SH.rd (SH.front 0 hS158)) (SH.le (SH.front 0 hS158)).1) ?_
  rintro _ w161 ⟨rfl, hE162⟩
  refine ⟨_, rfl, ?_⟩
  have hb164 : Ext w w161 := Ext.trans hb156 hE162
  have hL165 : w.heap.size ≤ w161.heap.size := Nat.le_trans hL157 hE162.size
  have hS166 : SH w161 w.heap.size [aOwn fInt 2 a150 c151 x148, aNest fRepair 73 2 a127 c128 x125, aOwn fInt 2 a93 c94 x91, aOwn fInt 2 a81 c82 x79, aNest fRepair 73 2 a69 c70 x67] := SH.ext hS158 hE162
  refine WL.runk 1 [2, 12, 66] [(2, .slice a2' aFaults_2.length c2'), (12, .slice a93 x91.length c94), (66, .bool (!x159))] (by kernel_rfl) ?_
  refine WL.nil ?_
  refine WQ.then_normal (hK147 _ _ _ ?_)
  refine WP.cond (!x159) rfl rfl (fun hc167 => ?_) (fun hc167 => ?_)
  · have hm := iteT hm hc167
    refine WP.seq (fun K168 hK168 => ?_)
    refine WP.region ?_
    refine WL.runk 1 [6] [(6, .bool false)] (by kernel_rfl) ?_
    refine WL.nil ?_
    refine WQ.then_normal (hK168 _ _ _ ?_)
    refine WP.ret ?_
    refine WQ.then_ret ?_
    obtain rfl := Option.some.inj hm
    exact WQ.ret1 _ rfl rfl ⟨rfl, hb164⟩
  have hm := iteF hm hc167
  refine WP.skip ?_
  refine WQ.then_normal (hK146 _ _ _ ?_)
  refine WP.seq (fun K169 hK169 => ?_)
  refine WP.seq (fun K170 hK170 => ?_)
  refine WP.region ?_
  refine WL.runk 2 [67, 68] [(67, .slice a93 x91.length c94), (68, .slice a2' aFaults_2.length c2')] (by kernel_rfl) ?_
  obtain ⟨x171, hx172, hm⟩ := bindE hm
  refine WL.call 36 #[.slice a2' aFaults_2.length c2'] rfl rfl (by kernel_rfl) (c_36 n aFaults_2 a2' c2' w161 hx172 (Rd.below h2 hb164) hle2) ?_
  rintro _ w176 ⟨a173, c174, rfl, hE177, hR178⟩
  refine ⟨_, rfl, ?_⟩
  have hb179 : Ext w w176 := Ext.trans hb164 hE177
  have hL180 : w.heap.size ≤ w176.heap.size := Nat.le_trans hL165 hE177.size
  have hS181 : SH w176 w.heap.size [aOwn fInt 2 a173 c174 x171, aOwn fInt 2 a150 c151 x148, aNest fRepair 73 2 a127 c128 x125, aOwn fInt 2 a93 c94 x91, aOwn fInt 2 a81 c82 x79, aNest fRepair 73 2 a69 c70 x67] := SH.add hS166 hE177 hL165 hR178
  obtain ⟨x182, hx183, hm⟩ := bindE hm
  refine WL.call 38 #[.slice a93 x91.length c94, .slice a173 x171.length c174] rfl rfl (by kernel_rfl) (c_38 n x91 a93 c94 x171 a173 c174 w176 hx183 (SH.rd (SH.front 3 hS181)) (SH.le (SH.front 3 hS181)).1 (SH.rd (SH.front 0 hS181)) (SH.le (SH.front 0 hS181)).1) ?_
  rintro _ w184 ⟨rfl, hE185⟩
  refine ⟨_, rfl, ?_⟩
  have hb187 : Ext w w184 := Ext.trans hb179 hE185
  have hL188 : w.heap.size ≤ w184.heap.size := Nat.le_trans hL180 hE185.size
  have hS189 : SH w184 w.heap.size [aOwn fInt 2 a173 c174 x171, aOwn fInt 2 a150 c151 x148, aNest fRepair 73 2 a127 c128 x125, aOwn fInt 2 a93 c94 x91, aOwn fInt 2 a81 c82 x79, aNest fRepair 73 2 a69 c70 x67] := SH.ext hS181 hE185
  refine WL.runk 1 [71] [(71, .bool (!x182))] (by kernel_rfl) ?_
  refine WL.nil ?_
  refine WQ.then_normal (hK170 _ _ _ ?_)
  refine WP.cond (!x182) rfl rfl (fun hc190 => ?_) (fun hc190 => ?_)
  · have hm := iteT hm hc190
    refine WP.seq (fun K191 hK191 => ?_)
    refine WP.region ?_
    refine WL.runk 1 [6] [(6, .bool false)] (by kernel_rfl) ?_
    refine WL.nil ?_
    refine WQ.then_normal (hK191 _ _ _ ?_)
    refine WP.ret ?_
    refine WQ.then_ret ?_
    obtain rfl := Option.some.inj hm
    exact WQ.ret1 _ rfl rfl ⟨rfl, hb187⟩
  have hm := iteF hm hc190
  refine WP.skip ?_
  refine WQ.then_normal (hK169 _ _ _ ?_)
  refine WP.seq (fun K192 hK192 => ?_)
  refine WP.region ?_
  refine WL.runk 1 [6] [(6, .bool true)] (by kernel_rfl) ?_
  refine WL.nil ?_
  refine WQ.then_normal (hK192 _ _ _ ?_)
  refine WP.ret ?_
  obtain rfl := Option.some.inj hm
  exact WQ.ret1 _ rfl rfl ⟨rfl, hb187⟩

end Go.Proofs.Ytkglfbcelaphhaa
