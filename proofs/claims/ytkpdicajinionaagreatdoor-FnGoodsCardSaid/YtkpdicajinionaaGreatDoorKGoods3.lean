/- Each call does what its Lean function says. -/
import Derived.Test.YtkpdicajinionaaGreatDoorKGoods2
set_option maxRecDepth 20000
set_option maxHeartbeats 40000000
namespace Go.Proofs.YtkpdicajinionaaGreatDoor
open Go Go.Gv Go.RowKit

theorem c_53 (n : Nat) (s_0_code : List Int) (a0_code' : Option Addr) (c0_code' : Nat) (s_0_at_ : Int) (s_0_seed : Int) (b0' : Nat) (t_1 : List UInt8) (w : World) (w0 : World) (B : Nat) (L : List Asrt) {r : List UInt8 × Int × Int} (hm : m_spec_l01Spoil n s_0_code s_0_at_ s_0_seed t_1 = some r) (hE0 : Ext w0 w) (hW : w0.heap.size ≤ B) (hL : B ≤ w.heap.size) (h0_code : Rd fU8.ty w0 a0_code' s_0_code) (hle0_code : s_0_code.length ≤ c0_code') (hS : SH w B (aBox 87 b0' [.slice a0_code' s_0_code.length c0_code', .int .i64 s_0_at_, .int .u64 s_0_seed] :: L)) :
    CallV Tryz.prog 53 #[.pointer (some ⟨b0', 0, none⟩), .string (bs t_1)] w (fun v w' => v = .string (bs r.1) ∧ Below B w w' ∧ SH w' B (aBox 87 b0' [.slice a0_code' s_0_code.length c0_code', .int .i64 r.2.1, .int .u64 r.2.2] :: L)) := by
  unfold m_spec_l01Spoil at hm
  refine CallV.enter Tryz.func53 rfl (by kernel_rfl) Tryz.ntmps53 (env := [(0, .pointer (some ⟨b0', 0, none⟩)), (1, .string (bs t_1))]) ⟨rfl, rfl, trivial⟩ ?_
  refine WP.seq (fun K1 hK1 => ?_)
  refine WP.region ?_
  refine WL.runk 1 [0, 1] [(0, .pointer (some ⟨b0', 0, none⟩)), (1, .string (bs t_1))] (by kernel_rfl) ?_
  refine WL.nil ?_
  refine WQ.then_normal (hK1 _ _ _ ?_)
  refine WP.seq (fun K2 hK2 => ?_)
  refine WP.seq (fun K3 hK3 => ?_)
  refine WP.region ?_
  refine WL.runk 1 [0, 1, 7] [(0, .pointer (some ⟨b0', 0, none⟩)), (1, .string (bs t_1)), (7, .pointer (some ⟨b0', 0, none⟩))] (by kernel_rfl) ?_
  obtain ⟨x4, hx5, hm⟩ := bindE hm
  refine WL.call 27 #[.pointer (some ⟨b0', 0, none⟩), .int .i64 5] rfl rfl (by kernel_rfl) (c_27 n s_0_code a0_code' c0_code' s_0_at_ s_0_seed b0' 5 w w0 B (L) hx5 (Below.trans hE0 (Below.mono (Below.refl _ _) hW)) hW hL h0_code hle0_code hS) ?_
  rintro _ w6 ⟨rfl, hB10, hS9⟩
  refine ⟨_, rfl, ?_⟩
  have hb11 : Below B w w6 := Below.trans (Below.refl _ _) hB10
  have hL12 : B ≤ w6.heap.size := Nat.le_trans hL hB10.size
  refine WL.sub [(0, .pointer (some ⟨b0', 0, none⟩)), (1, .string (bs t_1)), (8, .int .i64 x4.1)] ⟨rfl, rfl, rfl, trivial⟩ ?_
  refine WL.nil ?_
  refine WQ.then_normal (hK3 _ _ _ ?_)
  refine WP.block ?_
  refine WP.seq (fun K13 hK13 => ?_)
  refine WP.region ?_
  refine WL.runk 2 [0, 1, 8, 9] [(0, .pointer (some ⟨b0', 0, none⟩)), (1, .string (bs t_1)), (8, .int .i64 x4.1), (9, .bool (x4.1 == 0))] (by kernel_rfl) ?_
  refine WL.nil ?_
  refine WQ.then_normal (hK13 _ _ _ ?_)
  obtain ⟨x1502, hx1503, hm⟩ := bindE hm
  refine WP.cut (fun env' w' => env' = [(1, .string (bs x1502.1))] ∧ Below B w w' ∧ B ≤ w'.heap.size ∧ SH w' B (aBox 87 b0' [.slice a0_code' s_0_code.length c0_code', .int .i64 x1502.2.1, .int .u64 x1502.2.2] :: L)) ?_ ?_
  rotate_left
  · clear hx1503
    rintro _ w1999 ⟨rfl, hb2000, hL2001, hS2002⟩
    refine WQ.block_normal ?_
    refine WQ.then_normal (hK2 _ _ _ ?_)
    refine WP.seq (fun K2003 hK2003 => ?_)
    refine WP.region ?_
    refine WL.runk 2 [4] [(4, .string (bs x1502.1))] (by kernel_rfl) ?_
    refine WL.nil ?_
    refine WQ.then_normal (hK2003 _ _ _ ?_)
    refine WP.ret ?_
    obtain rfl := Option.some.inj hm
    exact WQ.ret1 _ rfl rfl ⟨rfl, hb2000, hS2002⟩
  have hm := hx1503; clear hx1503
  refine WP.cond (x4.1 == 0) rfl rfl (fun hc14 => ?_) (fun hc14 => ?_)
  rotate_left
  · have hm := iteF hm hc14
    refine WP.seq (fun K1613 hK1613 => ?_)
    refine WP.region ?_
    refine WL.runk 2 [0, 1, 27] [(0, .pointer (some ⟨b0', 0, none⟩)), (1, .string (bs t_1)), (27, .bool (x4.1 == 1))] (by kernel_rfl) ?_
    refine WL.nil ?_
    refine WQ.then_normal (hK1613 _ _ _ ?_)
    obtain ⟨x1899, hx1900, hm⟩ := bindE hm
    refine WP.cut (fun env' w' => env' = [(1, .string (bs x1899.1))] ∧ Below B w w' ∧ B ≤ w'.heap.size ∧ SH w' B (aBox 87 b0' [.slice a0_code' s_0_code.length c0_code', .int .i64 x1899.2.1, .int .u64 x1899.2.2] :: L)) ?_ ?_
    rotate_left
    · clear hx1900
      rintro _ w1995 ⟨rfl, hb1996, hL1997, hS1998⟩
      obtain rfl := Option.some.inj hm
      exact WQ.post' ⟨rfl, hb1996, hL1997, hS1998⟩ ⟨rfl, trivial⟩
    have hm := hx1900; clear hx1900
    refine WP.cond (x4.1 == 1) rfl rfl (fun hc1614 => ?_) (fun hc1614 => ?_)
    rotate_left
    · have hm := iteF hm hc1614
      refine WP.skip ?_
      obtain rfl := Option.some.inj hm
      exact WQ.post' ⟨rfl, hb11, hL12, hS9⟩ ⟨rfl, trivial⟩
    have hm := iteT hm hc1614
    refine WP.seq (fun K1901 hK1901 => ?_)
    refine WP.region ?_
    refine WL.runk 1 [0, 1, 29] [(0, .pointer (some ⟨b0', 0, none⟩)), (1, .string (bs t_1)), (29, .string (bs t_1))] (by kernel_rfl) ?_
    refine WL.st (.bool (!(t_1 == []))) (ST.strne (x := t_1) (y := []) rfl rfl rfl) rfl rfl rfl ?_
    refine WL.sub [(0, .pointer (some ⟨b0', 0, none⟩)), (1, .string (bs t_1)), (30, .bool (!(t_1 == [])))] ⟨rfl, rfl, rfl, trivial⟩ ?_
    refine WL.nil ?_
    refine WQ.then_normal (hK1901 _ _ _ ?_)
    obtain ⟨x1968, hx1969, hm⟩ := bindE hm
    refine WP.cut (fun env' w' => env' = [(1, .string (bs x1968.1))] ∧ Below B w w' ∧ B ≤ w'.heap.size ∧ SH w' B (aBox 87 b0' [.slice a0_code' s_0_code.length c0_code', .int .i64 x1968.2.1, .int .u64 x1968.2.2] :: L)) ?_ ?_
    rotate_left
    · clear hx1969
      rintro _ w1991 ⟨rfl, hb1992, hL1993, hS1994⟩
      obtain rfl := Option.some.inj hm
      exact WQ.post' ⟨rfl, hb1992, hL1993, hS1994⟩ ⟨rfl, trivial⟩
    have hm := hx1969; clear hx1969
    refine WP.cond (!(t_1 == [])) rfl rfl (fun hc1902 => ?_) (fun hc1902 => ?_)
    rotate_left
    · have hm := iteF hm hc1902
      refine WP.skip ?_
      obtain rfl := Option.some.inj hm
      exact WQ.post' ⟨rfl, hb11, hL12, hS9⟩ ⟨rfl, trivial⟩
    have hm := iteT hm hc1902
    refine WP.seq (fun K1970 hK1970 => ?_)
    refine WP.region ?_
    refine WL.runk 3 [1, 31, 33] [(1, .string (bs t_1)), (31, .pointer (some ⟨b0', 0, none⟩)), (33, .int .i64 (t_1.length : Int))] (by kernel_rfl) ?_
    obtain ⟨x1971, hx1972, hm⟩ := bindE hm
    refine WL.call 27 #[.pointer (some ⟨b0', 0, none⟩), .int .i64 (t_1.length : Int)] rfl rfl (by kernel_rfl) (c_27 n s_0_code a0_code' c0_code' x4.2.1 x4.2.2 b0' (t_1.length : Int) w6 w0 B (L) hx1972 (Below.trans hE0 (Below.mono hb11 hW)) hW hL12 h0_code hle0_code hS9) ?_
    rintro _ w1973 ⟨rfl, hB1977, hS1976⟩
    refine ⟨_, rfl, ?_⟩
    have hb1978 : Below B w w1973 := Below.trans hb11 hB1977
    have hL1979 : B ≤ w1973.heap.size := Nat.le_trans hL12 hB1977.size
    refine WL.runk 1 [1, 6] [(1, .string (bs t_1)), (6, .int .i64 x1971.1)] (by kernel_rfl) ?_
    refine WL.nil ?_
    refine WQ.then_normal (hK1970 _ _ _ ?_)
    refine WP.quiet (by kernel_rfl) (by kernel_rfl) ?_
    refine QL.step1v 35 (.string (bs t_1)) rfl (fun _ => by kernel_rfl) ?_
    refine QL.step1v 36 (.int .i64 x1971.1) rfl (fun _ => by kernel_rfl) ?_
    refine QL.subk [1, 6, 35, 36] [(1, .string (bs t_1)), (6, .int .i64 x1971.1), (35, .string (bs t_1)), (36, .int .i64 x1971.1)] (by kernel_rfl) ?_
    obtain ⟨x1980, hx1981, hm⟩ := bindE hm
    refine QL.st (.string (bs x1980)) (ST.ssub hx1981 rfl rfl Tryz.underlying9 rfl ⟨_, rfl⟩) rfl rfl rfl ?_
    refine QL.step1v 38 (.string (bs t_1)) rfl (fun _ => by kernel_rfl) ?_
    refine QL.step1v 39 (.int .i64 x1971.1) rfl (fun _ => by kernel_rfl) ?_
    refine QL.step1v 40 (.int .i64 (wI64 (x1971.1 + 1))) rfl (fun _ => by kernel_rfl) ?_
    refine QL.subk [37, 38, 40] [(37, .string (bs x1980)), (38, .string (bs t_1)), (40, .int .i64 (wI64 (x1971.1 + 1)))] (by kernel_rfl) ?_
    obtain ⟨x1982, hx1983, hm⟩ := bindE hm
    refine QL.st (.string (bs x1982)) (ST.ssub hx1983 rfl rfl Tryz.underlying9 ⟨_, rfl⟩ rfl) rfl rfl rfl ?_
    obtain ⟨x1984, hx1985, hm⟩ := bindE hm
    refine QL.st (.string (bs x1984)) (ST.cat hx1985 rfl rfl rfl) rfl rfl rfl ?_
    refine QL.step1v 1 (.string (bs x1984)) rfl (fun _ => by kernel_rfl) ?_
    refine QL.subk [1] [(1, .string (bs x1984))] (by kernel_rfl) ?_
    refine QL.nil ?_
    intro w1986 hE1987
    have hb1988 : Below B w w1986 := Below.trans hb1978 (Below.mono hE1987 hL1979)
    have hL1989 : B ≤ w1986.heap.size := Nat.le_trans hL1979 hE1987.size
    have hS1990 : SH w1986 B (aBox 87 b0' [.slice a0_code' s_0_code.length c0_code', .int .i64 x1971.2.1, .int .u64 x1971.2.2] :: L) := SH.ext hS1976 hE1987
    obtain rfl := Option.some.inj hm
    exact WQ.post' ⟨rfl, hb1988, hL1989, hS1990⟩ ⟨rfl, trivial⟩
  have hm := iteT hm hc14
  refine WP.seq (fun K1504 hK1504 => ?_)
  refine WP.region ?_
  refine WL.runk 4 [0, 1, 11, 14] [(0, .pointer (some ⟨b0', 0, none⟩)), (1, .string (bs t_1)), (11, .pointer (some ⟨b0', 0, none⟩)), (14, .int .i64 (wI64 ((t_1.length : Int) + 1)))] (by kernel_rfl) ?_
  obtain ⟨x1505, hx1506, hm⟩ := bindE hm
  refine WL.call 27 #[.pointer (some ⟨b0', 0, none⟩), .int .i64 (wI64 ((t_1.length : Int) + 1))] rfl rfl (by kernel_rfl) (c_27 n s_0_code a0_code' c0_code' x4.2.1 x4.2.2 b0' (wI64 ((t_1.length : Int) + 1)) w6 w0 B (L) hx1506 (Below.trans hE0 (Below.mono hb11 hW)) hW hL12 h0_code hle0_code hS9) ?_
  rintro _ w1507 ⟨rfl, hB1511, hS1510⟩
  refine ⟨_, rfl, ?_⟩
  have hb1512 : Below B w w1507 := Below.trans hb11 hB1511
  have hL1513 : B ≤ w1507.heap.size := Nat.le_trans hL12 hB1511.size
  refine WL.runk 1 [0, 1, 5] [(0, .pointer (some ⟨b0', 0, none⟩)), (1, .string (bs t_1)), (5, .int .i64 x1505.1)] (by kernel_rfl) ?_
  refine WL.nil ?_
  refine WQ.then_normal (hK1504 _ _ _ ?_)
  refine WP.open (n := 12) (by kernel_rfl) rfl (fun w1514 hE1515 => ?_)
  have hb1516 : Below B w w1514 := Below.trans hb1512 (Below.mono hE1515 hL1513)
  have hL1517 : B ≤ w1514.heap.size := Nat.le_trans hL1513 hE1515.size
  have hS1518 : SH w1514 B (aBox 87 b0' [.slice a0_code' s_0_code.length c0_code', .int .i64 x1505.2.1, .int .u64 x1505.2.2] :: L) := SH.ext hS1510 hE1515
  obtain ⟨x1539, hx1540, hm⟩ := bindE hm
  obtain ⟨x1568, hx1569, hm⟩ := bindE hm
  obtain ⟨x1583, hx1584, hm⟩ := bindE hm
  obtain ⟨x1603, hx1604, hm⟩ := bindE hm
  refine WA.par (R := L) (f' := 2) (D' := [0, 1, 2, 3, 4, 5, 6, 7, 8, 9]) [⟨0, [], fun _ => .string (bs t_1)⟩, ⟨1, [], fun _ => .int .i64 x1505.1⟩, ⟨2, [], fun _ => .string (bs x1539)⟩, ⟨3, [], fun _ => .pointer (some ⟨b0', 0, none⟩)⟩, ⟨4, [4], fun g1519 => .slice ((g1519 4 0).1) (([[32], [48], [45], [120], [49], [57], [46]] : List (List UInt8)).length) ((g1519 4 0).2)⟩, ⟨5, [], fun _ => .string (bs x1568.1)⟩, ⟨6, [], fun _ => .string (bs x1583)⟩, ⟨7, [], fun _ => .string (bs t_1)⟩, ⟨8, [], fun _ => .int .i64 x1505.1⟩, ⟨9, [], fun _ => .string (bs x1603)⟩] [⟨[aBox 87 b0' [.slice a0_code' s_0_code.length c0_code', .int .i64 x1505.2.1, .int .u64 x1505.2.2]], [⟨5, [], fun _ => [aBox 87 b0' [.slice a0_code' s_0_code.length c0_code', .int .i64 x1568.2.1, .int .u64 x1568.2.2]]⟩]⟩, ⟨[], [⟨4, [4], fun g1519 => [aOwn fStr 9 ((g1519 4 0).1) ((g1519 4 0).2) ([[32], [48], [45], [120], [49], [57], [46]] : List (List UInt8))]⟩]⟩] rfl rfl hS1518 (by kernel_rfl) (by kernel_rfl) ⟨?_, ?_, ?_, ?_, ?_, ?_, ?_, ?_, ?_, ?_, trivial⟩ ?_
  · intro g1519 w1521 R1520 hB1522 hS1523
    have hS1524 : SH w1521 B (R1520) := memEq hS1523 (by kernel_rfl)
    have hb1525 : Below B w w1521 := Below.trans hb1516 hB1522
    have hL1526 : B ≤ w1521.heap.size := Nat.le_trans hL1517 hB1522.size
    refine WL.subk [1] [(1, .string (bs t_1))] (by kernel_rfl) ?_
    refine WL.runk 1 [16] [(16, .string (bs t_1))] (by kernel_rfl) ?_
    refine WL.nil ?_
    exact QP.intro (fun k => ([] : List (Option Addr × Nat)).getD k (none, 0)) (d := 16) (by kernel_rfl) (by kernel_rfl) (Below.refl _ _) hS1524 (by kernel_rfl)
  · intro g1519 w1527 R1520 hB1528 hS1529
    have hS1530 : SH w1527 B (R1520) := memEq hS1529 (by kernel_rfl)
    have hb1531 : Below B w w1527 := Below.trans hb1516 hB1528
    have hL1532 : B ≤ w1527.heap.size := Nat.le_trans hL1517 hB1528.size
    refine WL.subk [5] [(5, .int .i64 x1505.1)] (by kernel_rfl) ?_
    refine WL.runk 1 [17] [(17, .int .i64 x1505.1)] (by kernel_rfl) ?_
    refine WL.nil ?_
    exact QP.intro (fun k => ([] : List (Option Addr × Nat)).getD k (none, 0)) (d := 17) (by kernel_rfl) (by kernel_rfl) (Below.refl _ _) hS1530 (by kernel_rfl)
  · intro g1519 w1533 R1520 hB1534 hS1535
    have hS1536 : SH w1533 B (R1520) := memEq hS1535 (by kernel_rfl)
    have hb1537 : Below B w w1533 := Below.trans hb1516 hB1534
    have hL1538 : B ≤ w1533.heap.size := Nat.le_trans hL1517 hB1534.size
    refine WL.subk [16, 17] [(16, .string (bs t_1)), (17, .int .i64 x1505.1)] (by kernel_rfl) ?_
    refine WL.st (.string (bs x1539)) (ST.ssub hx1540 rfl rfl Tryz.underlying9 rfl ⟨_, rfl⟩) rfl rfl rfl ?_
    refine WL.nil ?_
    exact QP.intro (fun k => ([] : List (Option Addr × Nat)).getD k (none, 0)) (d := 18) (by kernel_rfl) (by kernel_rfl) (Below.refl _ _) hS1536 (by kernel_rfl)
  · intro g1519 w1541 R1520 hB1542 hS1543
    have hS1544 : SH w1541 B (aBox 87 b0' [.slice a0_code' s_0_code.length c0_code', .int .i64 x1505.2.1, .int .u64 x1505.2.2] :: R1520) := memEq hS1543 (by kernel_rfl)
    have hb1545 : Below B w w1541 := Below.trans hb1516 hB1542
    have hL1546 : B ≤ w1541.heap.size := Nat.le_trans hL1517 hB1542.size
    refine WL.subk [0] [(0, .pointer (some ⟨b0', 0, none⟩))] (by kernel_rfl) ?_
    refine WL.runk 1 [19] [(19, .pointer (some ⟨b0', 0, none⟩))] (by kernel_rfl) ?_
    refine WL.nil ?_
    exact QP.intro (fun k => ([] : List (Option Addr × Nat)).getD k (none, 0)) (d := 19) (by kernel_rfl) (by kernel_rfl) (Below.refl _ _) hS1544 (by kernel_rfl)
  · intro g1519 w1547 R1520 hB1548 hS1549
    have hS1550 : SH w1547 B (aBox 87 b0' [.slice a0_code' s_0_code.length c0_code', .int .i64 x1505.2.1, .int .u64 x1505.2.2] :: R1520) := memEq hS1549 (by kernel_rfl)
    have hb1551 : Below B w w1547 := Below.trans hb1516 hB1548
    have hL1552 : B ≤ w1547.heap.size := Nat.le_trans hL1517 hB1548.size
    refine WL.subk [] [] (by kernel_rfl) ?_
    refine WL.row fStr 9 ([[32], [48], [45], [120], [49], [57], [46]] : List (List UInt8)) 7 #[.string (bs [32]), .string (bs [48]), .string (bs [45]), .string (bs [120]), .string (bs [49]), .string (bs [57]), .string (bs [46])] 20 (by kernel_rfl) rfl rfl rfl rfl rfl rfl rfl ?_
    intro a1553 c1554 w1555 hE1556 hR1557
    have hb1559 : Below B w w1555 := Below.trans hb1551 (Below.mono hE1556 hL1552)
    have hL1560 : B ≤ w1555.heap.size := Nat.le_trans hL1552 hE1556.size
    have hS1561 : SH w1555 B (aOwn fStr 9 a1553 c1554 ([[32], [48], [45], [120], [49], [57], [46]] : List (List UInt8)) :: aBox 87 b0' [.slice a0_code' s_0_code.length c0_code', .int .i64 x1505.2.1, .int .u64 x1505.2.2] :: R1520) := SH.add hS1550 hE1556 hL1552 hR1557
    refine WL.nil ?_
    exact QP.intro (fun k => ([(a1553, c1554)] : List (Option Addr × Nat)).getD k (none, 0)) (d := 20) (by kernel_rfl) (by kernel_rfl) (Below.mono hE1556 hL1552) (SH.front 1 hS1561) (by kernel_rfl)
  · intro g1519 w1562 R1520 hB1563 hS1564
    have hS1565 : SH w1562 B (aBox 87 b0' [.slice a0_code' s_0_code.length c0_code', .int .i64 x1505.2.1, .int .u64 x1505.2.2] :: aOwn fStr 9 ((g1519 4 0).1) ((g1519 4 0).2) ([[32], [48], [45], [120], [49], [57], [46]] : List (List UInt8)) :: R1520) := memEq hS1564 (by kernel_rfl)
    have hb1566 : Below B w w1562 := Below.trans hb1516 hB1563
    have hL1567 : B ≤ w1562.heap.size := Nat.le_trans hL1517 hB1563.size
    refine WL.subk [19, 20] [(19, .pointer (some ⟨b0', 0, none⟩)), (20, .slice ((g1519 4 0).1) (([[32], [48], [45], [120], [49], [57], [46]] : List (List UInt8)).length) ((g1519 4 0).2))] (by kernel_rfl) ?_
    refine WL.call 37 #[.pointer (some ⟨b0', 0, none⟩), .slice ((g1519 4 0).1) (([[32], [48], [45], [120], [49], [57], [46]] : List (List UInt8)).length) ((g1519 4 0).2)] rfl rfl (by kernel_rfl) (c_37_o1 n s_0_code a0_code' c0_code' x1505.2.1 x1505.2.2 b0' ([[32], [48], [45], [120], [49], [57], [46]] : List (List UInt8)) ((g1519 4 0).1) ((g1519 4 0).2) w1562 w0 B (R1520) hx1569 (Below.trans hE0 (Below.mono hb1566 hW)) hW hL1567 h0_code hle0_code hS1565) ?_
    rintro _ w1570 ⟨rfl, hB1574, hS1573⟩
    refine ⟨_, rfl, ?_⟩
    have hb1575 : Below B w w1570 := Below.trans hb1566 hB1574
    have hL1576 : B ≤ w1570.heap.size := Nat.le_trans hL1567 hB1574.size
    refine WL.nil ?_
    exact QP.intro (fun k => ([] : List (Option Addr × Nat)).getD k (none, 0)) (d := 21) (by kernel_rfl) (by kernel_rfl) hB1574 hS1573 (by kernel_rfl)
  · intro g1519 w1577 R1520 hB1578 hS1579
    have hS1580 : SH w1577 B (aBox 87 b0' [.slice a0_code' s_0_code.length c0_code', .int .i64 x1568.2.1, .int .u64 x1568.2.2] :: aOwn fStr 9 ((g1519 4 0).1) ((g1519 4 0).2) ([[32], [48], [45], [120], [49], [57], [46]] : List (List UInt8)) :: R1520) := memEq hS1579 (by kernel_rfl)
    have hb1581 : Below B w w1577 := Below.trans hb1516 hB1578
    have hL1582 : B ≤ w1577.heap.size := Nat.le_trans hL1517 hB1578.size
    refine WL.subk [18, 21] [(18, .string (bs x1539)), (21, .string (bs x1568.1))] (by kernel_rfl) ?_
    refine WL.st (.string (bs x1583)) (ST.cat hx1584 rfl rfl rfl) rfl rfl rfl ?_
    refine WL.nil ?_
    exact QP.intro (fun k => ([] : List (Option Addr × Nat)).getD k (none, 0)) (d := 22) (by kernel_rfl) (by kernel_rfl) (Below.refl _ _) hS1580 (by kernel_rfl)
  · intro g1519 w1585 R1520 hB1586 hS1587
    have hS1588 : SH w1585 B (R1520) := memEq hS1587 (by kernel_rfl)
    have hb1589 : Below B w w1585 := Below.trans hb1516 hB1586
    have hL1590 : B ≤ w1585.heap.size := Nat.le_trans hL1517 hB1586.size
    refine WL.subk [1] [(1, .string (bs t_1))] (by kernel_rfl) ?_
    refine WL.runk 1 [23] [(23, .string (bs t_1))] (by kernel_rfl) ?_
    refine WL.nil ?_
    exact QP.intro (fun k => ([] : List (Option Addr × Nat)).getD k (none, 0)) (d := 23) (by kernel_rfl) (by kernel_rfl) (Below.refl _ _) hS1588 (by kernel_rfl)
  · intro g1519 w1591 R1520 hB1592 hS1593
    have hS1594 : SH w1591 B (R1520) := memEq hS1593 (by kernel_rfl)
    have hb1595 : Below B w w1591 := Below.trans hb1516 hB1592
    have hL1596 : B ≤ w1591.heap.size := Nat.le_trans hL1517 hB1592.size
    refine WL.subk [5] [(5, .int .i64 x1505.1)] (by kernel_rfl) ?_
    refine WL.runk 1 [24] [(24, .int .i64 x1505.1)] (by kernel_rfl) ?_
    refine WL.nil ?_
    exact QP.intro (fun k => ([] : List (Option Addr × Nat)).getD k (none, 0)) (d := 24) (by kernel_rfl) (by kernel_rfl) (Below.refl _ _) hS1594 (by kernel_rfl)
  · intro g1519 w1597 R1520 hB1598 hS1599
    have hS1600 : SH w1597 B (R1520) := memEq hS1599 (by kernel_rfl)
    have hb1601 : Below B w w1597 := Below.trans hb1516 hB1598
    have hL1602 : B ≤ w1597.heap.size := Nat.le_trans hL1517 hB1598.size
    refine WL.subk [23, 24] [(23, .string (bs t_1)), (24, .int .i64 x1505.1)] (by kernel_rfl) ?_
    refine WL.st (.string (bs x1603)) (ST.ssub hx1604 rfl rfl Tryz.underlying9 ⟨_, rfl⟩ rfl) rfl rfl rfl ?_
    refine WL.nil ?_
    exact QP.intro (fun k => ([] : List (Option Addr × Nat)).getD k (none, 0)) (d := 25) (by kernel_rfl) (by kernel_rfl) (Below.refl _ _) hS1600 (by kernel_rfl)
  intro g1519 w1605 hB1606 hS1607
  have hS1608 : SH w1605 B (aBox 87 b0' [.slice a0_code' s_0_code.length c0_code', .int .i64 x1568.2.1, .int .u64 x1568.2.2] :: aOwn fStr 9 ((g1519 4 0).1) ((g1519 4 0).2) ([[32], [48], [45], [120], [49], [57], [46]] : List (List UInt8)) :: L) := memEq hS1607 (by kernel_rfl)
  have hb1609 : Below B w w1605 := Below.trans hb1516 hB1606
  have hL1610 : B ≤ w1605.heap.size := Nat.le_trans hL1517 hB1606.size
  refine WQ.subk [1, 22, 25] [(1, .string (bs t_1)), (22, .string (bs x1583)), (25, .string (bs x1603))] (by kernel_rfl) ?_
  refine WA.one (i := 10) (D' := [0, 1, 2, 3, 4, 5, 6, 7, 8, 9, 10]) rfl rfl (by kernel_rfl) ?_
  obtain ⟨x1611, hx1612, hm⟩ := bindE hm
  refine WL.st (.string (bs x1611)) (ST.cat hx1612 rfl rfl rfl) rfl rfl rfl ?_
  refine WL.sub [(1, .string (bs t_1)), (26, .string (bs x1611))] ⟨rfl, rfl, trivial⟩ ?_
  refine WL.nil ?_
  refine WA.one (i := 11) (D' := [0, 1, 2, 3, 4, 5, 6, 7, 8, 9, 10, 11]) rfl rfl (by kernel_rfl) ?_
  refine WL.runk 1 [1] [(1, .string (bs x1611))] (by kernel_rfl) ?_
  refine WL.nil ?_
  refine WA.done (by kernel_rfl) ?_
  obtain rfl := Option.some.inj hm
  exact WQ.post' ⟨rfl, hb1609, hL1610, (SH.cutOut 1 1 hS1608)⟩ ⟨rfl, trivial⟩

theorem c_17 (n : Nat) (code_0 : List Int) (a0' : Option Addr) (c0' : Nat) (w : World) {r : List UInt8} (hm : m_spec_DrawReadGood n code_0 = some r) (h0 : Rd fU8.ty w a0' code_0) (hle0 : code_0.length ≤ c0') :
    CallV Tryz.prog 17 #[.slice a0' code_0.length c0'] w (fun v w' => v = .string (bs r) ∧ Ext w w') := by
  unfold m_spec_DrawReadGood at hm
  refine CallV.enter Tryz.func17 rfl (by kernel_rfl) Tryz.ntmps17 (env := [(0, .slice a0' code_0.length c0')]) ⟨rfl, trivial⟩ ?_
  refine WP.seq (fun K1 hK1 => ?_)
  refine WP.region ?_
  refine WL.runk 1 [0] [(0, .slice a0' code_0.length c0')] (by kernel_rfl) ?_
  refine WL.nil ?_
  refine WQ.then_normal (hK1 _ _ _ ?_)
  refine WP.seq (fun K2 hK2 => ?_)
  refine WP.region ?_
  refine WL.runk 1 [6] [(6, .slice a0' code_0.length c0')] (by kernel_rfl) ?_
  obtain ⟨x3, hx4, hm⟩ := bindE hm
  refine WL.call 25 #[.slice a0' code_0.length c0'] rfl rfl (by kernel_rfl) (c_25 n code_0 a0' c0' w hx4 (Rd.below h0 (Ext.refl w)) hle0) ?_
  rintro _ w7 ⟨b5, rfl, hE8, hR9⟩
  refine ⟨_, rfl, ?_⟩
  have hb10 : Ext w w7 := Ext.trans (Ext.refl w) hE8
  have hL11 : w.heap.size ≤ w7.heap.size := Nat.le_trans (Nat.le_refl _) hE8.size
  have hS12 : SH w7 w.heap.size [aBox 87 b5 [.slice a0' code_0.length c0', .int .i64 x3.1, .int .u64 x3.2]] := SH.add (SH.nil _ _) hE8 (Nat.le_refl _) hR9
  refine WL.runk 1 [3] [(3, .pointer (some ⟨b5, 0, none⟩))] (by kernel_rfl) ?_
  refine WL.nil ?_
  refine WQ.then_normal (hK2 _ _ _ ?_)
  refine WP.seq (fun K13 hK13 => ?_)
  refine WP.region ?_
  refine WL.runk 1 [3, 8] [(3, .pointer (some ⟨b5, 0, none⟩)), (8, .pointer (some ⟨b5, 0, none⟩))] (by kernel_rfl) ?_
  obtain ⟨x14, hx15, hm⟩ := bindE hm
  refine WL.call 39 #[.pointer (some ⟨b5, 0, none⟩), .string (bs [99, 97, 108, 102])] rfl rfl (by kernel_rfl) (c_39 n code_0 a0' c0' x3.1 x3.2 b5 [99, 97, 108, 102] w7 w w.heap.size [] hx15 hb10 (Nat.le_refl _) hL11 h0 hle0 hS12) ?_
  rintro _ w16 ⟨rfl, hB20, hS19⟩
  refine ⟨_, rfl, ?_⟩
  have hb21 : Ext w w16 := Below.trans hb10 hB20
  have hL22 : w.heap.size ≤ w16.heap.size := Nat.le_trans hL11 hB20.size
  refine WL.box 31 [.string (bs []), .int .i64 0, .int .i64 0, .int .i64 0] 4 (by kernel_rfl) rfl rfl rfl rfl ?_
  intro b23 w24 hE25 hR26
  have hb28 : Ext w w24 := Ext.trans hb21 hE25
  have hL29 : w.heap.size ≤ w24.heap.size := Nat.le_trans hL22 hE25.size
  have hS30 : SH w24 w.heap.size [aBox 31 b23 [.string (bs []), .int .i64 0, .int .i64 0, .int .i64 0], aBox 87 b5 [.slice a0' code_0.length c0', .int .i64 x14.2.1, .int .u64 x14.2.2]] := SH.add hS19 hE25 hL22 hR26
  refine WL.boxStore 0 [.string (bs x14.1.Name), .int .i64 x14.1.OnHand, .int .i64 x14.1.Reserved, .int .i64 x14.1.Least] [.string (bs x14.1.Name), .int .i64 x14.1.OnHand, .int .i64 x14.1.Reserved, .int .i64 x14.1.Least] (SH.front 0 hS30) hL29 rfl rfl rfl rfl rfl rfl rfl (info31).1 (info31).2.1 rfl rfl rfl ?_
  intro w31 hB32 hS33
  have hb34 : Ext w w31 := Below.trans hb28 hB32
  have hL35 : w.heap.size ≤ w31.heap.size := Nat.le_trans hL29 hB32.size
  refine WL.sub [(3, .pointer (some ⟨b5, 0, none⟩)), (4, .pointer (some ⟨b23, 0, none⟩))] ⟨rfl, rfl, trivial⟩ ?_
  refine WL.nil ?_
  refine WQ.then_normal (hK13 _ _ _ ?_)
  refine WP.seq (fun K36 hK36 => ?_)
  refine WP.region ?_
  obtain ⟨x37, hx38, hm⟩ := bindE hm
  refine WL.call 52 #[.pointer (some ⟨b23, 0, none⟩)] rfl rfl (by kernel_rfl) (c_52 n x14.1 b23 0 w31 hx38 (SH.boxRd (SH.front 0 hS33))) ?_
  rintro _ w39 ⟨rfl, hE40⟩
  refine ⟨_, rfl, ?_⟩
  have hb42 : Ext w w39 := Ext.trans hb34 hE40
  have hL43 : w.heap.size ≤ w39.heap.size := Nat.le_trans hL35 hE40.size
  have hS44 : SH w39 w.heap.size [aBox 31 b23 [.string (bs x14.1.Name), .int .i64 x14.1.OnHand, .int .i64 x14.1.Reserved, .int .i64 x14.1.Least], aBox 87 b5 [.slice a0' code_0.length c0', .int .i64 x14.2.1, .int .u64 x14.2.2]] := SH.ext hS33 hE40
  refine WL.runk 1 [3, 5] [(3, .pointer (some ⟨b5, 0, none⟩)), (5, .string (bs x37))] (by kernel_rfl) ?_
  refine WL.nil ?_
  refine WQ.then_normal (hK36 _ _ _ ?_)
  refine WP.seq (fun K45 hK45 => ?_)
  refine WP.seq (fun K46 hK46 => ?_)
  refine WP.region ?_
  refine WL.runk 1 [3, 5, 11] [(3, .pointer (some ⟨b5, 0, none⟩)), (5, .string (bs x37)), (11, .pointer (some ⟨b5, 0, none⟩))] (by kernel_rfl) ?_
  obtain ⟨x47, hx48, hm⟩ := bindE hm
  refine WL.call 29 #[.pointer (some ⟨b5, 0, none⟩), .int .i64 3] rfl rfl (by kernel_rfl) (c_29 n code_0 a0' c0' x14.2.1 x14.2.2 b5 3 w39 w w.heap.size [aBox 31 b23 [.string (bs x14.1.Name), .int .i64 x14.1.OnHand, .int .i64 x14.1.Reserved, .int .i64 x14.1.Least]] hx48 hb42 (Nat.le_refl _) hL43 h0 hle0 (SH.front 1 hS44)) ?_
  rintro _ w49 ⟨rfl, hB53, hS52⟩
  refine ⟨_, rfl, ?_⟩
  have hb54 : Ext w w49 := Below.trans hb42 hB53
  have hL55 : w.heap.size ≤ w49.heap.size := Nat.le_trans hL43 hB53.size
  refine WL.sub [(3, .pointer (some ⟨b5, 0, none⟩)), (5, .string (bs x37)), (12, .bool x47.1)] ⟨rfl, rfl, rfl, trivial⟩ ?_
  refine WL.nil ?_
  refine WQ.then_normal (hK46 _ _ _ ?_)
  refine WP.cond x47.1 rfl rfl (fun hc56 => ?_) (fun hc56 => ?_)
  rotate_left
  · have hm := iteF hm hc56
    refine WP.skip ?_
    refine WQ.then_normal (hK45 _ _ _ ?_)
    refine WP.seq (fun K67 hK67 => ?_)
    refine WP.region ?_
    refine WL.runk 2 [2] [(2, .string (bs x37))] (by kernel_rfl) ?_
    refine WL.nil ?_
    refine WQ.then_normal (hK67 _ _ _ ?_)
    refine WP.ret ?_
    obtain rfl := Option.some.inj hm
    exact WQ.ret1 _ rfl rfl ⟨rfl, hb54⟩
  have hm := iteT hm hc56
  refine WP.seq (fun K57 hK57 => ?_)
  refine WP.region ?_
  refine WL.runk 2 [13, 14] [(13, .pointer (some ⟨b5, 0, none⟩)), (14, .string (bs x37))] (by kernel_rfl) ?_
  obtain ⟨x58, hx59, hm⟩ := bindE hm
  refine WL.call 53 #[.pointer (some ⟨b5, 0, none⟩), .string (bs x37)] rfl rfl (by kernel_rfl) (c_53 n code_0 a0' c0' x47.2.1 x47.2.2 b5 x37 w49 w w.heap.size [aBox 31 b23 [.string (bs x14.1.Name), .int .i64 x14.1.OnHand, .int .i64 x14.1.Reserved, .int .i64 x14.1.Least]] hx59 hb54 (Nat.le_refl _) hL55 h0 hle0 hS52) ?_
  rintro _ w60 ⟨rfl, hB64, hS63⟩
  refine ⟨_, rfl, ?_⟩
  have hb65 : Ext w w60 := Below.trans hb54 hB64
  have hL66 : w.heap.size ≤ w60.heap.size := Nat.le_trans hL55 hB64.size
  refine WL.runk 1 [2] [(2, .string (bs x58.1))] (by kernel_rfl) ?_
  refine WL.nil ?_
  refine WQ.then_normal (hK57 _ _ _ ?_)
  refine WP.ret ?_
  refine WQ.then_ret ?_
  obtain rfl := Option.some.inj hm
  exact WQ.ret1 _ rfl rfl ⟨rfl, hb65⟩

theorem c_54 (n : Nat) (s_0 : List UInt8) (by_1 : Int) (w : World) {r : List (List UInt8)} (hm : m_spec_l01Split n s_0 by_1 = some r)  :
    CallV Tryz.prog 54 #[.string (bs s_0), .int .u8 by_1] w (fun v w' => ∃ (ra0 : Option Addr) (rc0 : Nat), v = .slice ra0 r.length rc0 ∧ Ext w w' ∧ SH w' w.heap.size [aOwn fStr 9 ra0 rc0 r]) := by
  unfold m_spec_l01Split at hm
  refine CallV.enter Tryz.func54 rfl (by kernel_rfl) Tryz.ntmps54 (env := [(0, .string (bs s_0)), (1, .int .u8 by_1)]) ⟨rfl, rfl, trivial⟩ ?_
  refine WP.seq (fun K1 hK1 => ?_)
  refine WP.region ?_
  refine WL.runk 1 [0, 1] [(0, .string (bs s_0)), (1, .int .u8 by_1)] (by kernel_rfl) ?_
  refine WL.nil ?_
  refine WQ.then_normal (hK1 _ _ _ ?_)
  refine WP.seq (fun K2 hK2 => ?_)
  refine WP.region ?_
  refine WL.row fStr 9 ([] : List (List UInt8)) 0 #[] 8 (by kernel_rfl) rfl rfl rfl rfl rfl rfl rfl ?_
  intro a3 c4 w5 hE6 hR7
  have hb9 : Ext w w5 := Ext.trans (Ext.refl w) hE6
  have hL10 : w.heap.size ≤ w5.heap.size := Nat.le_trans (Nat.le_refl _) hE6.size
  have hS11 : SH w5 w.heap.size [aOwn fStr 9 a3 c4 ([] : List (List UInt8))] := SH.add (SH.nil _ _) hE6 (Nat.le_refl _) hR7
  refine WL.runk 1 [0, 1, 5] [(0, .string (bs s_0)), (1, .int .u8 by_1), (5, .slice a3 (([] : List (List UInt8)).length) c4)] (by kernel_rfl) ?_
  refine WL.nil ?_
  refine WQ.then_normal (hK2 _ _ _ ?_)
  refine WP.seq (fun K12 hK12 => ?_)
  refine WP.region ?_
  refine WL.runk 1 [0, 1, 5, 6] [(0, .string (bs s_0)), (1, .int .u8 by_1), (5, .slice a3 (([] : List (List UInt8)).length) c4), (6, .int .i64 0)] (by kernel_rfl) ?_
  refine WL.nil ?_
  refine WQ.then_normal (hK12 _ _ _ ?_)
  refine WP.seq (fun K13 hK13 => ?_)
  refine WP.seq (fun K14 hK14 => ?_)
  refine WP.region ?_
  refine WL.runk 1 [0, 1, 5, 6, 7] [(0, .string (bs s_0)), (1, .int .u8 by_1), (5, .slice a3 (([] : List (List UInt8)).length) c4), (6, .int .i64 0), (7, .int .i64 0)] (by kernel_rfl) ?_
  refine WL.nil ?_
  refine WQ.then_normal (hK14 _ _ _ ?_)
  refine WP.block ?_
  obtain ⟨t29, ht30, hm⟩ := bindE hm
  have hmo24 := hm; clear hm
  refine WP.sub [(0, .string (bs s_0)), (1, .int .u8 by_1), (5, .slice a3 (([] : List (List UInt8)).length) c4), (6, .int .i64 0), (7, .int .i64 0)] ⟨rfl, rfl, rfl, rfl, rfl, trivial⟩ ?_
  refine WP.loop (fun n' env' w' => ∃ (st15 : List (List UInt8) × Int × Int) (a16 : Option Addr) (c17 : Nat), env' = [(0, .string (bs s_0)), (1, .int .u8 by_1), (5, .slice a16 st15.1.length c17), (6, .int .i64 st15.2.1), (7, .int .i64 st15.2.2)] ∧ Ext w w' ∧ w.heap.size ≤ w'.heap.size ∧ SH w' w.heap.size [aOwn fStr 9 a16 c17 st15.1] ∧ loopN (m_spec_l01Split_l1 n s_0 by_1) n' st15 = some t29) n ⟨(([] : List (List UInt8)), 0, 0), _, _, rfl, hb9, hL10, hS11, ht30⟩ ?_
  rintro n26 _ w19 ⟨st15, a16, c17, rfl, hb20, hL21, hS22, hl23⟩ K25 hK25
  obtain ⟨n27, s28, rfl, hm, hl23⟩ := loopN_some hl23
  unfold m_spec_l01Split_l1 at hm
  refine WP.seq (fun K31 hK31 => ?_)
  refine WP.seq (fun K32 hK32 => ?_)
  refine WP.region ?_
  refine WL.runk 4 [0, 1, 5, 6, 7, 12] [(0, .string (bs s_0)), (1, .int .u8 by_1), (5, .slice a16 st15.1.length c17), (6, .int .i64 st15.2.1), (7, .int .i64 st15.2.2), (12, .bool (decide (st15.2.2 < (s_0.length : Int))))] (by kernel_rfl) ?_
  refine WL.nil ?_
  refine WQ.then_normal (hK32 _ _ _ ?_)
  refine WP.cond (decide (st15.2.2 < (s_0.length : Int))) rfl rfl (fun hc33 => ?_) (fun hc33 => ?_)
  rotate_left
  · have hm := iteF hm hc33
    refine WP.exit ?_
    refine WQ.then_exit ?_
    refine WQ.then_exit ?_
    refine WQ.block_here ?_
    obtain rfl := Option.some.inj hm
    obtain rfl := afterN_done hl23
    have hm := hmo24
    refine WQ.then_normal (hK13 _ _ _ ?_)
    refine WP.seq (fun K90 hK90 => ?_)
    refine WP.region ?_
    refine WL.runk 3 [29, 30, 31] [(29, .slice a16 st15.1.length c17), (30, .string (bs s_0)), (31, .int .i64 st15.2.1)] (by kernel_rfl) ?_
    obtain ⟨x91, hx92, hm⟩ := bindE hm
    refine WL.st (.string (bs x91)) (ST.ssub hx92 rfl rfl Tryz.underlying9 ⟨_, rfl⟩ rfl) rfl rfl rfl ?_
    refine WL.row fStr 9 ([x91] : List (List UInt8)) 1 #[.string (bs x91)] 33 (by kernel_rfl) rfl rfl rfl rfl rfl rfl rfl ?_
    intro a93 c94 w95 hE96 hR97
    have hb99 : Ext w w95 := Ext.trans hb20 hE96
    have hL100 : w.heap.size ≤ w95.heap.size := Nat.le_trans hL21 hE96.size
    have hS101 : SH w95 w.heap.size [aOwn fStr 9 a93 c94 ([x91] : List (List UInt8)), aOwn fStr 9 a16 c17 st15.1] := SH.add hS22 hE96 hL21 hR97
    obtain ⟨x102, hx103, hm⟩ := bindE hm
    refine WL.append (F := fStr) (xs := st15.1) (ys := ([x91] : List (List UInt8))) 34 (SH.front 1 hS101) hL100 (SH.rd (SH.front 0 hS101)) hx103 rfl rfl rfl Tryz.underlying63 (info9).1 (info9).2.2.1 (info9).2.1 (info9).2.2.2 rfl rfl rfl rfl rfl ?_
    intro a104 c105 w106 hB107 hS108
    have hb109 : Ext w w106 := Below.trans hb99 hB107
    have hL110 : w.heap.size ≤ w106.heap.size := Nat.le_trans hL100 hB107.size
    refine WL.runk 1 [4] [(4, .slice a104 x102.length c105)] (by kernel_rfl) ?_
    refine WL.nil ?_
    refine WQ.then_normal (hK90 _ _ _ ?_)
    refine WP.ret ?_
    obtain rfl := Option.some.inj hm
    exact WQ.ret1 _ rfl rfl ⟨_, _, rfl, hb109, (SH.take 1 hS108)⟩
  have hm := iteT hm hc33
  refine WP.skip ?_
  refine WQ.then_normal (hK31 _ _ _ ?_)
  refine WP.seq (fun K34 hK34 => ?_)
  refine WP.block ?_
  refine WP.seq (fun K35 hK35 => ?_)
  refine WP.region ?_
  refine WL.runk 2 [0, 1, 5, 6, 7, 15, 16] [(0, .string (bs s_0)), (1, .int .u8 by_1), (5, .slice a16 st15.1.length c17), (6, .int .i64 st15.2.1), (7, .int .i64 st15.2.2), (15, .string (bs s_0)), (16, .int .i64 st15.2.2)] (by kernel_rfl) ?_
  obtain ⟨x36, hx37, hm⟩ := bindE hm
  refine WL.st (.int .u8 (x36.toNat : Int)) (ST.sindex hx37 rfl rfl rfl Tryz.underlying9) rfl rfl rfl ?_
  refine WL.runk 2 [0, 1, 5, 6, 7, 19] [(0, .string (bs s_0)), (1, .int .u8 by_1), (5, .slice a16 st15.1.length c17), (6, .int .i64 st15.2.1), (7, .int .i64 st15.2.2), (19, .bool ((x36.toNat : Int) == by_1))] (by kernel_rfl) ?_
  refine WL.nil ?_
  refine WQ.then_normal (hK35 _ _ _ ?_)
  obtain ⟨x60, hx61, hm⟩ := bindE hm
  refine WP.cut (fun env' w' => ∃ (a62 : Option Addr) (c63 : Nat), env' = [(0, .string (bs s_0)), (1, .int .u8 by_1), (5, .slice a62 x60.1.length c63), (6, .int .i64 x60.2), (7, .int .i64 st15.2.2)] ∧ Ext w w' ∧ w.heap.size ≤ w'.heap.size ∧ SH w' w.heap.size [aOwn fStr 9 a62 c63 x60.1]) ?_ ?_
  rotate_left
  · clear hx61
    rintro _ w86 ⟨a62, c63, rfl, hb87, hL88, hS89⟩
    refine WQ.block_normal ?_
    refine WQ.then_normal (hK34 _ _ _ ?_)
    refine WP.region ?_
    refine WL.runk 3 [0, 1, 5, 6, 7] [(0, .string (bs s_0)), (1, .int .u8 by_1), (5, .slice a62 x60.1.length c63), (6, .int .i64 x60.2), (7, .int .i64 (wI64 (st15.2.2 + 1)))] (by kernel_rfl) ?_
    refine WL.nil ?_
    obtain rfl := Option.some.inj hm
    exact WQ.round hK25 ⟨(x60.1, x60.2, (wI64 (st15.2.2 + 1))), _, _, rfl, hb87, hL88, hS89, hl23⟩ (Nat.lt_succ_self _) ⟨rfl, rfl, rfl, rfl, rfl, trivial⟩
  have hm := hx61; clear hx61
  refine WP.cond ((x36.toNat : Int) == by_1) rfl rfl (fun hc38 => ?_) (fun hc38 => ?_)
  rotate_left
  · have hm := iteF hm hc38
    refine WP.skip ?_
    obtain rfl := Option.some.inj hm
    exact WQ.post' ⟨_, _, rfl, hb20, hL21, hS22⟩ ⟨rfl, rfl, rfl, rfl, rfl, trivial⟩
  have hm := iteT hm hc38
  refine WP.seq (fun K65 hK65 => ?_)
  refine WP.region ?_
  refine WL.runk 4 [0, 1, 7, 20, 21, 22, 23] [(0, .string (bs s_0)), (1, .int .u8 by_1), (7, .int .i64 st15.2.2), (20, .slice a16 st15.1.length c17), (21, .string (bs s_0)), (22, .int .i64 st15.2.1), (23, .int .i64 st15.2.2)] (by kernel_rfl) ?_
  obtain ⟨x66, hx67, hm⟩ := bindE hm
  refine WL.st (.string (bs x66)) (ST.ssub hx67 rfl rfl Tryz.underlying9 ⟨_, rfl⟩ ⟨_, rfl⟩) rfl rfl rfl ?_
  refine WL.row fStr 9 ([x66] : List (List UInt8)) 1 #[.string (bs x66)] 25 (by kernel_rfl) rfl rfl rfl rfl rfl rfl rfl ?_
  intro a68 c69 w70 hE71 hR72
  have hb74 : Ext w w70 := Ext.trans hb20 hE71
  have hL75 : w.heap.size ≤ w70.heap.size := Nat.le_trans hL21 hE71.size
  have hS76 : SH w70 w.heap.size [aOwn fStr 9 a68 c69 ([x66] : List (List UInt8)), aOwn fStr 9 a16 c17 st15.1] := SH.add hS22 hE71 hL21 hR72
  obtain ⟨x77, hx78, hm⟩ := bindE hm
  refine WL.append (F := fStr) (xs := st15.1) (ys := ([x66] : List (List UInt8))) 26 (SH.front 1 hS76) hL75 (SH.rd (SH.front 0 hS76)) hx78 rfl rfl rfl Tryz.underlying63 (info9).1 (info9).2.2.1 (info9).2.1 (info9).2.2.2 rfl rfl rfl rfl rfl ?_
  intro a79 c80 w81 hB82 hS83
  have hb84 : Ext w w81 := Below.trans hb74 hB82
  have hL85 : w.heap.size ≤ w81.heap.size := Nat.le_trans hL75 hB82.size
  refine WL.runk 1 [0, 1, 5, 7] [(0, .string (bs s_0)), (1, .int .u8 by_1), (7, .int .i64 st15.2.2), (5, .slice a79 x77.length c80)] (by kernel_rfl) ?_
  refine WL.nil ?_
  refine WQ.then_normal (hK65 _ _ _ ?_)
  refine WP.region ?_
  refine WL.runk 3 [0, 1, 5, 6, 7] [(0, .string (bs s_0)), (1, .int .u8 by_1), (7, .int .i64 st15.2.2), (5, .slice a79 x77.length c80), (6, .int .i64 (wI64 (st15.2.2 + 1)))] (by kernel_rfl) ?_
  refine WL.nil ?_
  obtain rfl := Option.some.inj hm
  exact WQ.post' ⟨_, _, rfl, hb84, hL85, (SH.take 1 hS83)⟩ ⟨rfl, rfl, rfl, rfl, rfl, trivial⟩

theorem c_55 (n : Nat) (s_0 : List UInt8) (w : World) {r : Int × Bool} (hm : m_spec_l01Number n s_0 = some r)  :
    CallV Tryz.prog 55 #[.string (bs s_0)] w (fun v w' => v = .tuple #[.int .i64 r.1, .bool r.2] ∧ Ext w w') := by
  unfold m_spec_l01Number at hm
  refine CallV.enter Tryz.func55 rfl (by kernel_rfl) Tryz.ntmps55 (env := [(0, .string (bs s_0))]) ⟨rfl, trivial⟩ ?_
  refine WP.seq (fun K1 hK1 => ?_)
  refine WP.region ?_
  refine WL.runk 2 [0] [(0, .string (bs s_0))] (by kernel_rfl) ?_
  refine WL.nil ?_
  refine WQ.then_normal (hK1 _ _ _ ?_)
  refine WP.seq (fun K2 hK2 => ?_)
  refine WP.region ?_
  refine WL.runk 2 [0, 4] [(0, .string (bs s_0)), (4, .string (bs s_0))] (by kernel_rfl) ?_
  refine WL.nil ?_
  refine WQ.then_normal (hK2 _ _ _ ?_)
  refine WP.seq (fun K3 hK3 => ?_)
  refine WP.seq (fun K4 hK4 => ?_)
  obtain ⟨x8, hx9, hm⟩ := bindE hm
  refine WP.cut (fun env' w' => env' = [(0, .string (bs s_0)), (4, .string (bs s_0)), (14, .bool x8)] ∧ Ext w w' ∧ w.heap.size ≤ w'.heap.size ∧ SH w' w.heap.size []) ?_ ?_
  · have hm := hx9; clear hx9
    refine WP.region ?_
    refine WL.runk 1 [0, 4, 8] [(0, .string (bs s_0)), (4, .string (bs s_0)), (8, .string (bs s_0))] (by kernel_rfl) ?_
    refine WL.st (.bool (!(s_0 == []))) (ST.strne (x := s_0) (y := []) rfl rfl rfl) rfl rfl rfl ?_
    refine WL.runk 1 [0, 4, 10] [(0, .string (bs s_0)), (4, .string (bs s_0)), (10, .bool (!(s_0 == [])))] (by kernel_rfl) ?_
    refine WL.case (!(s_0 == [])) [10] ⟨rfl, trivial⟩ (fun hc10 => ?_) (fun hc10 => ?_)
    rotate_left
    · have hm := iteF hm hc10
      refine WL.runk 4 [0, 4, 14] [(0, .string (bs s_0)), (4, .string (bs s_0)), (14, .bool false)] (by kernel_rfl) ?_
      refine WL.nil ?_
      obtain rfl := Option.some.inj hm
      exact WQ.post' ⟨rfl, (Ext.refl w), (Nat.le_refl _), (SH.nil _ _)⟩ ⟨rfl, rfl, rfl, trivial⟩
    have hm := iteT hm hc10
    refine WL.runk 1 [0, 4, 10, 11] [(0, .string (bs s_0)), (4, .string (bs s_0)), (10, .bool true), (11, .string (bs s_0))] (by kernel_rfl) ?_
    obtain ⟨x11, hx12, hm⟩ := bindE hm
    refine WL.st (.int .u8 (x11.toNat : Int)) (ST.sindex hx12 rfl rfl rfl Tryz.underlying9) rfl rfl rfl ?_
    refine WL.runk 2 [0, 4, 14] [(0, .string (bs s_0)), (4, .string (bs s_0)), (14, .bool ((x11.toNat : Int) == 45))] (by kernel_rfl) ?_
    refine WL.nil ?_
    obtain rfl := Option.some.inj hm
    exact WQ.post' ⟨rfl, (Ext.refl w), (Nat.le_refl _), (SH.nil _ _)⟩ ⟨rfl, rfl, rfl, trivial⟩
  clear hx9
  rintro _ w13 ⟨rfl, hb14, hL15, hS16⟩
  refine WQ.then_normal (hK4 _ _ _ ?_)
  obtain ⟨x20, hx21, hm⟩ := bindE hm
  refine WP.cut (fun env' w' => env' = [(0, .string (bs s_0)), (4, .string (bs x20))] ∧ Ext w w' ∧ w.heap.size ≤ w'.heap.size ∧ SH w' w.heap.size []) ?_ ?_
  · have hm := hx21; clear hx21
    refine WP.cond x8 rfl rfl (fun hc17 => ?_) (fun hc17 => ?_)
    rotate_left
    · have hm := iteF hm hc17
      refine WP.skip ?_
      obtain rfl := Option.some.inj hm
      exact WQ.post' ⟨rfl, hb14, hL15, hS16⟩ ⟨rfl, rfl, trivial⟩
    have hm := iteT hm hc17
    refine WP.region ?_
    refine WL.runk 1 [0, 15] [(0, .string (bs s_0)), (15, .string (bs s_0))] (by kernel_rfl) ?_
    obtain ⟨x22, hx23, hm⟩ := bindE hm
    refine WL.st (.string (bs x22)) (ST.ssub hx23 rfl rfl Tryz.underlying9 ⟨_, rfl⟩ rfl) rfl rfl rfl ?_
    refine WL.runk 1 [0, 4] [(0, .string (bs s_0)), (4, .string (bs x22))] (by kernel_rfl) ?_
    refine WL.nil ?_
    obtain rfl := Option.some.inj hm
    exact WQ.post' ⟨rfl, hb14, hL15, hS16⟩ ⟨rfl, rfl, trivial⟩
  clear hx21
  rintro _ w24 ⟨rfl, hb25, hL26, hS27⟩
  refine WQ.then_normal (hK3 _ _ _ ?_)
  refine WP.seq (fun K28 hK28 => ?_)
  refine WP.seq (fun K29 hK29 => ?_)
  obtain ⟨x31, hx32, hm⟩ := bindE hm
  refine WP.cut (fun env' w' => env' = [(0, .string (bs s_0)), (4, .string (bs x20)), (24, .bool x31)] ∧ Ext w w' ∧ w.heap.size ≤ w'.heap.size ∧ SH w' w.heap.size []) ?_ ?_
  · have hm := hx32; clear hx32
    refine WP.region ?_
    refine WL.runk 4 [0, 4, 20] [(0, .string (bs s_0)), (4, .string (bs x20)), (20, .bool (decide ((x20.length : Int) < 1)))] (by kernel_rfl) ?_
    refine WL.case (decide ((x20.length : Int) < 1)) [20] ⟨rfl, trivial⟩ (fun hc33 => ?_) (fun hc33 => ?_)
    · have hm := iteT hm hc33
      refine WL.runk 4 [0, 4, 24] [(0, .string (bs s_0)), (4, .string (bs x20)), (24, .bool true)] (by kernel_rfl) ?_
      refine WL.nil ?_
      obtain rfl := Option.some.inj hm
      exact WQ.post' ⟨rfl, hb25, hL26, hS27⟩ ⟨rfl, rfl, rfl, trivial⟩
    have hm := iteF hm hc33
    refine WL.runk 4 [0, 4, 24] [(0, .string (bs s_0)), (4, .string (bs x20)), (24, .bool (decide ((x20.length : Int) > 18)))] (by kernel_rfl) ?_
    refine WL.nil ?_
    obtain rfl := Option.some.inj hm
    exact WQ.post' ⟨rfl, hb25, hL26, hS27⟩ ⟨rfl, rfl, rfl, trivial⟩
  clear hx32
  rintro _ w34 ⟨rfl, hb35, hL36, hS37⟩
  refine WQ.then_normal (hK29 _ _ _ ?_)
  refine WP.cond x31 rfl rfl (fun hc38 => ?_) (fun hc38 => ?_)
  · have hm := iteT hm hc38
    refine WP.seq (fun K39 hK39 => ?_)
    refine WP.region ?_
    refine WL.runk 2 [2, 3] [(2, .int .i64 0), (3, .bool false)] (by kernel_rfl) ?_
    refine WL.nil ?_
    refine WQ.then_normal (hK39 _ _ _ ?_)
    refine WP.ret ?_
    refine WQ.then_ret ?_
    obtain rfl := Option.some.inj hm
    exact WQ.ret2 _ _ rfl rfl rfl ⟨rfl, hb35⟩
  have hm := iteF hm hc38
  refine WP.skip ?_
  refine WQ.then_normal (hK28 _ _ _ ?_)
  refine WP.seq (fun K40 hK40 => ?_)
  refine WP.region ?_
  refine WL.runk 1 [0, 4, 5] [(0, .string (bs s_0)), (4, .string (bs x20)), (5, .int .i64 0)] (by kernel_rfl) ?_
  refine WL.nil ?_
  refine WQ.then_normal (hK40 _ _ _ ?_)
  refine WP.seq (fun K41 hK41 => ?_)
  refine WP.seq (fun K42 hK42 => ?_)
  refine WP.region ?_
  refine WL.runk 1 [0, 4, 5, 6] [(0, .string (bs s_0)), (4, .string (bs x20)), (5, .int .i64 0), (6, .int .i64 0)] (by kernel_rfl) ?_
  refine WL.nil ?_
  refine WQ.then_normal (hK42 _ _ _ ?_)
  refine WP.block ?_
  obtain ⟨t54, ht55, hm⟩ := bindE hm
  have hmo49 := hm; clear hm
  refine WP.sub [(0, .string (bs s_0)), (4, .string (bs x20)), (5, .int .i64 0), (6, .int .i64 0)] ⟨rfl, rfl, rfl, rfl, trivial⟩ ?_
  refine WP.loop (fun n' env' w' => ∃ (st43 : Int × Int) , env' = [(0, .string (bs s_0)), (4, .string (bs x20)), (5, .int .i64 st43.1), (6, .int .i64 st43.2)] ∧ Ext w w' ∧ w.heap.size ≤ w'.heap.size ∧ SH w' w.heap.size [] ∧ loopN (m_spec_l01Number_l1 n x20) n' st43 = some t54) n ⟨(0, 0), rfl, hb35, hL36, hS37, ht55⟩ ?_
  rintro n51 _ w44 ⟨st43, rfl, hb45, hL46, hS47, hl48⟩ K50 hK50
  obtain ⟨n52, s53, rfl, hm, hl48⟩ := loopN_some hl48
  unfold m_spec_l01Number_l1 at hm
  refine WP.seq (fun K56 hK56 => ?_)
  refine WP.seq (fun K57 hK57 => ?_)
  refine WP.region ?_
  refine WL.runk 4 [0, 4, 5, 6, 28] [(0, .string (bs s_0)), (4, .string (bs x20)), (5, .int .i64 st43.1), (6, .int .i64 st43.2), (28, .bool (decide (st43.2 < (x20.length : Int))))] (by kernel_rfl) ?_
  refine WL.nil ?_
  refine WQ.then_normal (hK57 _ _ _ ?_)
  refine WP.cond (decide (st43.2 < (x20.length : Int))) rfl rfl (fun hc58 => ?_) (fun hc58 => ?_)
  · have hm := iteT hm hc58
    refine WP.skip ?_
    refine WQ.then_normal (hK56 _ _ _ ?_)
    refine WP.seq (fun K59 hK59 => ?_)
    refine WP.block ?_
    refine WP.seq (fun K60 hK60 => ?_)
    refine WP.seq (fun K61 hK61 => ?_)
    refine WP.region ?_
    refine WL.runk 2 [0, 4, 5, 6, 31, 32] [(0, .string (bs s_0)), (4, .string (bs x20)), (5, .int .i64 st43.1), (6, .int .i64 st43.2), (31, .string (bs x20)), (32, .int .i64 st43.2)] (by kernel_rfl) ?_
    obtain ⟨x62, hx63, hm⟩ := bindE hm
    refine WL.st (.int .u8 (x62.toNat : Int)) (ST.sindex hx63 rfl rfl rfl Tryz.underlying9) rfl rfl rfl ?_
    obtain ⟨x64, hx65, hm⟩ := bindE hm
    refine WL.call 78 #[.int .u8 (x62.toNat : Int)] rfl rfl (by kernel_rfl) (c_78 n (x62.toNat : Int) w44 hx65 ) ?_
    rintro _ w66 ⟨rfl, hE67⟩
    refine ⟨_, rfl, ?_⟩
    have hb69 : Ext w w66 := Ext.trans hb45 hE67
    have hL70 : w.heap.size ≤ w66.heap.size := Nat.le_trans hL46 hE67.size
    have hS71 : SH w66 w.heap.size [] := SH.ext hS47 hE67
    refine WL.runk 1 [0, 4, 5, 6, 35] [(0, .string (bs s_0)), (4, .string (bs x20)), (5, .int .i64 st43.1), (6, .int .i64 st43.2), (35, .bool (!x64))] (by kernel_rfl) ?_
    refine WL.nil ?_
    refine WQ.then_normal (hK61 _ _ _ ?_)
    refine WP.cond (!x64) rfl rfl (fun hc72 => ?_) (fun hc72 => ?_)
    rotate_left
    · have hm := iteF hm hc72
      refine WP.skip ?_
      refine WQ.then_normal (hK60 _ _ _ ?_)
      refine WP.region ?_
      refine WL.runk 4 [0, 4, 6, 37, 38, 39] [(0, .string (bs s_0)), (4, .string (bs x20)), (6, .int .i64 st43.2), (37, .int .i64 (wI64 (10 * st43.1))), (38, .string (bs x20)), (39, .int .i64 st43.2)] (by kernel_rfl) ?_
      obtain ⟨x74, hx75, hm⟩ := bindE hm
      refine WL.st (.int .u8 (x74.toNat : Int)) (ST.sindex hx75 rfl rfl rfl Tryz.underlying9) rfl rfl rfl ?_
      refine WL.runk 4 [0, 4, 5, 6] [(0, .string (bs s_0)), (4, .string (bs x20)), (6, .int .i64 st43.2), (5, .int .i64 (wI64 ((wI64 (10 * st43.1)) + (wI64 (IntKind.u8.wrap ((x74.toNat : Int) - 48))))))] (by kernel_rfl) ?_
      refine WL.nil ?_
      refine WQ.block_normal ?_
      refine WQ.then_normal (hK59 _ _ _ ?_)
      refine WP.region ?_
      refine WL.runk 3 [0, 4, 5, 6] [(0, .string (bs s_0)), (4, .string (bs x20)), (6, .int .i64 (wI64 (st43.2 + 1))), (5, .int .i64 (wI64 ((wI64 (10 * st43.1)) + (wI64 (IntKind.u8.wrap ((x74.toNat : Int) - 48))))))] (by kernel_rfl) ?_
      refine WL.nil ?_
      obtain rfl := Option.some.inj hm
      exact WQ.round hK50 ⟨((wI64 ((wI64 (10 * st43.1)) + (wI64 (IntKind.u8.wrap ((x74.toNat : Int) - 48))))), (wI64 (st43.2 + 1))), rfl, hb69, hL70, hS71, hl48⟩ (Nat.lt_succ_self _) ⟨rfl, rfl, rfl, rfl, trivial⟩
    have hm := iteT hm hc72
    refine WP.seq (fun K73 hK73 => ?_)
    refine WP.region ?_
    refine WL.runk 2 [2, 3] [(2, .int .i64 0), (3, .bool false)] (by kernel_rfl) ?_
    refine WL.nil ?_
    refine WQ.then_normal (hK73 _ _ _ ?_)
    refine WP.ret ?_
    refine WQ.then_ret ?_
    refine WQ.block_ret ?_
    refine WQ.then_ret ?_
    refine WQ.then_ret ?_
    refine WQ.block_ret ?_
    refine WQ.then_ret ?_
    obtain rfl := Option.some.inj hm
    obtain rfl := afterN_done hl48
    have hm := hmo49
    obtain rfl := Option.some.inj hm
    exact WQ.ret2 _ _ rfl rfl rfl ⟨rfl, hb69⟩
  have hm := iteF hm hc58
  refine WP.exit ?_
  refine WQ.then_exit ?_
  refine WQ.then_exit ?_
  refine WQ.block_here ?_
  obtain rfl := Option.some.inj hm
  obtain rfl := afterN_done hl48
  have hm := hmo49
  refine WQ.then_normal (hK41 _ _ _ ?_)
  refine WP.seq (fun K76 hK76 => ?_)
  refine WP.seq (fun K77 hK77 => ?_)
  refine WP.region ?_
  refine WL.runk 5 [0, 5, 48] [(0, .string (bs s_0)), (5, .int .i64 st43.1), (48, .bool (decide ((x20.length : Int) < (s_0.length : Int))))] (by kernel_rfl) ?_
  refine WL.nil ?_
  refine WQ.then_normal (hK77 _ _ _ ?_)
  obtain ⟨x79, hx80, hm⟩ := bindE hm
  refine WP.cut (fun env' w' => env' = [(0, .string (bs s_0)), (5, .int .i64 x79)] ∧ Ext w w' ∧ w.heap.size ≤ w'.heap.size ∧ SH w' w.heap.size []) ?_ ?_
  · have hm := hx80; clear hx80
    refine WP.cond (decide ((x20.length : Int) < (s_0.length : Int))) rfl rfl (fun hc78 => ?_) (fun hc78 => ?_)
    rotate_left
    · have hm := iteF hm hc78
      refine WP.skip ?_
      obtain rfl := Option.some.inj hm
      exact WQ.post' ⟨rfl, hb45, hL46, hS47⟩ ⟨rfl, rfl, trivial⟩
    have hm := iteT hm hc78
    refine WP.region ?_
    refine WL.runk 3 [0, 5] [(0, .string (bs s_0)), (5, .int .i64 (wI64 (0 - st43.1)))] (by kernel_rfl) ?_
    refine WL.nil ?_
    obtain rfl := Option.some.inj hm
    exact WQ.post' ⟨rfl, hb45, hL46, hS47⟩ ⟨rfl, rfl, trivial⟩
  clear hx80
  rintro _ w81 ⟨rfl, hb82, hL83, hS84⟩
  refine WQ.then_normal (hK76 _ _ _ ?_)
  refine WP.seq (fun K85 hK85 => ?_)
  refine WP.seq (fun K86 hK86 => ?_)
  refine WP.region ?_
  refine WL.runk 1 [0, 5, 51] [(0, .string (bs s_0)), (5, .int .i64 x79), (51, .int .i64 x79)] (by kernel_rfl) ?_
  obtain ⟨x87, hx88, hm⟩ := bindE hm
  refine WL.call 77 #[.int .i64 x79] rfl rfl (by kernel_rfl) (c_77 n x79 w81 hx88 ) ?_
  rintro _ w89 ⟨rfl, hE90⟩
  refine ⟨_, rfl, ?_⟩
  have hb92 : Ext w w89 := Ext.trans hb82 hE90
  have hL93 : w.heap.size ≤ w89.heap.size := Nat.le_trans hL83 hE90.size
  have hS94 : SH w89 w.heap.size [] := SH.ext hS84 hE90
  refine WL.runk 1 [5, 52, 53] [(5, .int .i64 x79), (52, .string (bs x87)), (53, .string (bs s_0))] (by kernel_rfl) ?_
  refine WL.st (.bool (!(x87 == s_0))) (ST.strne (x := x87) (y := s_0) rfl rfl rfl) rfl rfl rfl ?_
  refine WL.sub [(5, .int .i64 x79), (54, .bool (!(x87 == s_0)))] ⟨rfl, rfl, trivial⟩ ?_
  refine WL.nil ?_
  refine WQ.then_normal (hK86 _ _ _ ?_)
  refine WP.cond (!(x87 == s_0)) rfl rfl (fun hc95 => ?_) (fun hc95 => ?_)
  · have hm := iteT hm hc95
    refine WP.seq (fun K96 hK96 => ?_)
    refine WP.region ?_
    refine WL.runk 2 [2, 3] [(2, .int .i64 0), (3, .bool false)] (by kernel_rfl) ?_
    refine WL.nil ?_
    refine WQ.then_normal (hK96 _ _ _ ?_)
    refine WP.ret ?_
    refine WQ.then_ret ?_
    obtain rfl := Option.some.inj hm
    exact WQ.ret2 _ _ rfl rfl rfl ⟨rfl, hb92⟩
  have hm := iteF hm hc95
  refine WP.skip ?_
  refine WQ.then_normal (hK85 _ _ _ ?_)
  refine WP.seq (fun K97 hK97 => ?_)
  refine WP.region ?_
  refine WL.runk 3 [2, 3] [(2, .int .i64 x79), (3, .bool true)] (by kernel_rfl) ?_
  refine WL.nil ?_
  refine WQ.then_normal (hK97 _ _ _ ?_)
  refine WP.ret ?_
  obtain rfl := Option.some.inj hm
  exact WQ.ret2 _ _ rfl rfl rfl ⟨rfl, hb92⟩

theorem c_18 (n : Nat) (s_0 : List UInt8) (w : World) {r : SGood × Bool} (hm : m_spec_ReadGood n s_0 = some r)  :
    CallV Tryz.prog 18 #[.string (bs s_0)] w (fun v w' => v = .tuple #[.agg #[.string (bs r.1.Name), .int .i64 r.1.OnHand, .int .i64 r.1.Reserved, .int .i64 r.1.Least], .bool r.2] ∧ Ext w w') := by
  unfold m_spec_ReadGood at hm
  refine CallV.enter Tryz.func18 rfl (by kernel_rfl) Tryz.ntmps18 (env := [(0, .string (bs s_0))]) ⟨rfl, trivial⟩ ?_
  refine WP.seq (fun K1 hK1 => ?_)
  refine WP.region ?_
  refine WL.box 31 [.string (bs []), .int .i64 0, .int .i64 0, .int .i64 0] 2 (by kernel_rfl) rfl rfl rfl rfl ?_
  intro b2 w3 hE4 hR5
  have hb7 : Ext w w3 := Ext.trans (Ext.refl w) hE4
  have hL8 : w.heap.size ≤ w3.heap.size := Nat.le_trans (Nat.le_refl _) hE4.size
  have hS9 : SH w3 w.heap.size [aBox 31 b2 [.string (bs []), .int .i64 0, .int .i64 0, .int .i64 0]] := SH.add (SH.nil _ _) hE4 (Nat.le_refl _) hR5
  refine WL.runk 1 [0, 2] [(0, .string (bs s_0)), (2, .pointer (some ⟨b2, 0, none⟩))] (by kernel_rfl) ?_
  refine WL.nil ?_
  refine WQ.then_normal (hK1 _ _ _ ?_)
  refine WP.seq (fun K10 hK10 => ?_)
  refine WP.region ?_
  refine WL.runk 1 [2, 13] [(2, .pointer (some ⟨b2, 0, none⟩)), (13, .string (bs s_0))] (by kernel_rfl) ?_
  obtain ⟨x11, hx12, hm⟩ := bindE hm
  refine WL.call 54 #[.string (bs s_0), .int .u8 32] rfl rfl (by kernel_rfl) (c_54 n s_0 32 w3 hx12 ) ?_
  rintro _ w16 ⟨a13, c14, rfl, hE17, hR18⟩
  refine ⟨_, rfl, ?_⟩
  have hb19 : Ext w w16 := Ext.trans hb7 hE17
  have hL20 : w.heap.size ≤ w16.heap.size := Nat.le_trans hL8 hE17.size
  have hS21 : SH w16 w.heap.size [aOwn fStr 9 a13 c14 x11, aBox 31 b2 [.string (bs []), .int .i64 0, .int .i64 0, .int .i64 0]] := SH.add hS9 hE17 hL8 hR18
  refine WL.runk 1 [2, 4] [(2, .pointer (some ⟨b2, 0, none⟩)), (4, .slice a13 x11.length c14)] (by kernel_rfl) ?_
  refine WL.nil ?_
  refine WQ.then_normal (hK10 _ _ _ ?_)
  refine WP.seq (fun K22 hK22 => ?_)
  refine WP.seq (fun K23 hK23 => ?_)
  obtain ⟨x27, hx28, hm⟩ := bindE hm
  refine WP.cut (fun env' w' => env' = [(2, .pointer (some ⟨b2, 0, none⟩)), (4, .slice a13 x11.length c14), (23, .bool x27)] ∧ Ext w w' ∧ w.heap.size ≤ w'.heap.size ∧ SH w' w.heap.size [aOwn fStr 9 a13 c14 x11, aBox 31 b2 [.string (bs []), .int .i64 0, .int .i64 0, .int .i64 0]]) ?_ ?_
  · have hm := hx28; clear hx28
    refine WP.region ?_
    refine WL.runk 4 [2, 4, 18] [(2, .pointer (some ⟨b2, 0, none⟩)), (4, .slice a13 x11.length c14), (18, .bool ((x11.length : Int) != 4))] (by kernel_rfl) ?_
    refine WL.case ((x11.length : Int) != 4) [18] ⟨rfl, trivial⟩ (fun hc29 => ?_) (fun hc29 => ?_)
    · have hm := iteT hm hc29
      refine WL.runk 5 [2, 4, 23] [(2, .pointer (some ⟨b2, 0, none⟩)), (4, .slice a13 x11.length c14), (23, .bool true)] (by kernel_rfl) ?_
      refine WL.nil ?_
      obtain rfl := Option.some.inj hm
      exact WQ.post' ⟨rfl, hb19, hL20, hS21⟩ ⟨rfl, rfl, rfl, trivial⟩
    have hm := iteF hm hc29
    refine WL.runk 1 [2, 4, 18, 19] [(2, .pointer (some ⟨b2, 0, none⟩)), (4, .slice a13 x11.length c14), (18, .bool false), (19, .slice a13 x11.length c14)] (by kernel_rfl) ?_
    obtain ⟨x30, hx31, hm⟩ := bindE hm
    refine WL.st (.pointer (some (at_ a13 (Int.toNat 2 * 1)))) (ST.index (T := fStr.ty) (xs := x11) (SH.rd (SH.front 0 hS21)) hx31 rfl rfl rfl Tryz.underlying63 (info9).1 (info9).2.1) rfl rfl rfl ?_
    refine WL.st (.string (bs x30)) (ST.load (cell_ext (Rd.flat (F := fStr) (SH.rd (SH.front 0 hS21)) hx31 0 rfl)) rfl rfl Tryz.underlying9 rfl) rfl rfl rfl ?_
    refine WL.st (.bool (!(x30 == [108, 101, 97, 115, 116]))) (ST.strne (x := x30) (y := [108, 101, 97, 115, 116]) rfl rfl rfl) rfl rfl rfl ?_
    refine WL.runk 1 [2, 4, 23] [(2, .pointer (some ⟨b2, 0, none⟩)), (4, .slice a13 x11.length c14), (23, .bool (!(x30 == [108, 101, 97, 115, 116])))] (by kernel_rfl) ?_
    refine WL.nil ?_
    obtain rfl := Option.some.inj hm
    exact WQ.post' ⟨rfl, hb19, hL20, hS21⟩ ⟨rfl, rfl, rfl, trivial⟩
  clear hx28
  rintro _ w32 ⟨rfl, hb33, hL34, hS35⟩
  refine WQ.then_normal (hK23 _ _ _ ?_)
  refine WP.cond x27 rfl rfl (fun hc36 => ?_) (fun hc36 => ?_)
  · have hm := iteT hm hc36
    refine WP.seq (fun K37 hK37 => ?_)
    refine WP.region ?_
    refine WL.runk 1 [2, 24] [(2, .pointer (some ⟨b2, 0, none⟩)), (24, .agg #[.string (bs []), .int .i64 0, .int .i64 0, .int .i64 0])] (by kernel_rfl) ?_
    refine WL.boxStore 0 [.string (bs []), .int .i64 0, .int .i64 0, .int .i64 0] [.string (bs []), .int .i64 0, .int .i64 0, .int .i64 0] (SH.front 1 hS35) hL34 rfl rfl rfl rfl rfl rfl rfl (info31).1 (info31).2.1 rfl rfl rfl ?_
    intro w38 hB39 hS40
    have hb41 : Ext w w38 := Below.trans hb33 hB39
    have hL42 : w.heap.size ≤ w38.heap.size := Nat.le_trans hL34 hB39.size
    refine WL.runk 1 [2, 3] [(2, .pointer (some ⟨b2, 0, none⟩)), (3, .bool false)] (by kernel_rfl) ?_
    refine WL.nil ?_
    refine WQ.then_normal (hK37 _ _ _ ?_)
    refine WP.ret ?_
    refine WQ.then_ret ?_
    obtain rfl := Option.some.inj hm
    exact WQ.retv2 _ _ rfl (RVal.box (SH.front 0 hS40) rfl Tryz.underlying31 rfl (info31).1 (info31).2.1) (RVal.tmp rfl) ⟨rfl, hb41⟩
  have hm := iteF hm hc36
  refine WP.skip ?_
  refine WQ.then_normal (hK22 _ _ _ ?_)
  refine WP.seq (fun K43 hK43 => ?_)
  refine WP.region ?_
  refine WL.runk 1 [2, 4, 25] [(2, .pointer (some ⟨b2, 0, none⟩)), (4, .slice a13 x11.length c14), (25, .slice a13 x11.length c14)] (by kernel_rfl) ?_
  obtain ⟨x44, hx45, hm⟩ := bindE hm
  refine WL.st (.pointer (some (at_ a13 (Int.toNat 1 * 1)))) (ST.index (T := fStr.ty) (xs := x11) (SH.rd (SH.front 0 hS35)) hx45 rfl rfl rfl Tryz.underlying63 (info9).1 (info9).2.1) rfl rfl rfl ?_
  refine WL.st (.string (bs x44)) (ST.load (cell_ext (Rd.flat (F := fStr) (SH.rd (SH.front 0 hS35)) hx45 0 rfl)) rfl rfl Tryz.underlying9 rfl) rfl rfl rfl ?_
  obtain ⟨x46, hx47, hm⟩ := bindE hm
  refine WL.call 54 #[.string (bs x44), .int .u8 45] rfl rfl (by kernel_rfl) (c_54 n x44 45 w32 hx47 ) ?_
  rintro _ w51 ⟨a48, c49, rfl, hE52, hR53⟩
  refine ⟨_, rfl, ?_⟩
  have hb54 : Ext w w51 := Ext.trans hb33 hE52
  have hL55 : w.heap.size ≤ w51.heap.size := Nat.le_trans hL34 hE52.size
  have hS56 : SH w51 w.heap.size [aOwn fStr 9 a48 c49 x46, aOwn fStr 9 a13 c14 x11, aBox 31 b2 [.string (bs []), .int .i64 0, .int .i64 0, .int .i64 0]] := SH.add hS35 hE52 hL34 hR53
  refine WL.runk 1 [2, 4, 5] [(2, .pointer (some ⟨b2, 0, none⟩)), (4, .slice a13 x11.length c14), (5, .slice a48 x46.length c49)] (by kernel_rfl) ?_
  refine WL.nil ?_
  refine WQ.then_normal (hK43 _ _ _ ?_)
  refine WP.seq (fun K57 hK57 => ?_)
  refine WP.seq (fun K58 hK58 => ?_)
  refine WP.region ?_
  refine WL.runk 3 [2, 4, 5, 31] [(2, .pointer (some ⟨b2, 0, none⟩)), (4, .slice a13 x11.length c14), (5, .slice a48 x46.length c49), (31, .bool ((x46.length : Int) != 2))] (by kernel_rfl) ?_
  refine WL.nil ?_
  refine WQ.then_normal (hK58 _ _ _ ?_)
  refine WP.cond ((x46.length : Int) != 2) rfl rfl (fun hc59 => ?_) (fun hc59 => ?_)
  · have hm := iteT hm hc59
    refine WP.seq (fun K60 hK60 => ?_)
    refine WP.region ?_
    refine WL.runk 1 [2, 32] [(2, .pointer (some ⟨b2, 0, none⟩)), (32, .agg #[.string (bs []), .int .i64 0, .int .i64 0, .int .i64 0])] (by kernel_rfl) ?_
    refine WL.boxStore 0 [.string (bs []), .int .i64 0, .int .i64 0, .int .i64 0] [.string (bs []), .int .i64 0, .int .i64 0, .int .i64 0] (SH.front 2 hS56) hL55 rfl rfl rfl rfl rfl rfl rfl (info31).1 (info31).2.1 rfl rfl rfl ?_
    intro w61 hB62 hS63
    have hb64 : Ext w w61 := Below.trans hb54 hB62
    have hL65 : w.heap.size ≤ w61.heap.size := Nat.le_trans hL55 hB62.size
    refine WL.runk 1 [2, 3] [(2, .pointer (some ⟨b2, 0, none⟩)), (3, .bool false)] (by kernel_rfl) ?_
    refine WL.nil ?_
    refine WQ.then_normal (hK60 _ _ _ ?_)
    refine WP.ret ?_
    refine WQ.then_ret ?_
    obtain rfl := Option.some.inj hm
    exact WQ.retv2 _ _ rfl (RVal.box (SH.front 0 hS63) rfl Tryz.underlying31 rfl (info31).1 (info31).2.1) (RVal.tmp rfl) ⟨rfl, hb64⟩
  have hm := iteF hm hc59
  refine WP.skip ?_
  refine WQ.then_normal (hK57 _ _ _ ?_)
  refine WP.seq (fun K66 hK66 => ?_)
  refine WP.region ?_
  refine WL.runk 1 [2, 4, 5, 34] [(2, .pointer (some ⟨b2, 0, none⟩)), (4, .slice a13 x11.length c14), (5, .slice a48 x46.length c49), (34, .slice a48 x46.length c49)] (by kernel_rfl) ?_
  obtain ⟨x67, hx68, hm⟩ := bindE hm
  refine WL.st (.pointer (some (at_ a48 (Int.toNat 0 * 1)))) (ST.index (T := fStr.ty) (xs := x46) (SH.rd (SH.front 0 hS56)) hx68 rfl rfl rfl Tryz.underlying63 (info9).1 (info9).2.1) rfl rfl rfl ?_
  refine WL.st (.string (bs x67)) (ST.load (cell_ext (Rd.flat (F := fStr) (SH.rd (SH.front 0 hS56)) hx68 0 rfl)) rfl rfl Tryz.underlying9 rfl) rfl rfl rfl ?_
  obtain ⟨x69, hx70, hm⟩ := bindE hm
  refine WL.call 55 #[.string (bs x67)] rfl rfl (by kernel_rfl) (c_55 n x67 w51 hx70 ) ?_
  rintro _ w71 ⟨rfl, hE72⟩
  refine ⟨_, rfl, ?_⟩
  have hb74 : Ext w w71 := Ext.trans hb54 hE72
  have hL75 : w.heap.size ≤ w71.heap.size := Nat.le_trans hL55 hE72.size
  have hS76 : SH w71 w.heap.size [aOwn fStr 9 a48 c49 x46, aOwn fStr 9 a13 c14 x11, aBox 31 b2 [.string (bs []), .int .i64 0, .int .i64 0, .int .i64 0]] := SH.ext hS56 hE72
  refine WL.runk 5 [2, 4, 5, 6, 7] [(2, .pointer (some ⟨b2, 0, none⟩)), (4, .slice a13 x11.length c14), (5, .slice a48 x46.length c49), (6, .int .i64 x69.1), (7, .bool x69.2)] (by kernel_rfl) ?_
  refine WL.nil ?_
  refine WQ.then_normal (hK66 _ _ _ ?_)
  refine WP.seq (fun K77 hK77 => ?_)
  refine WP.region ?_
  refine WL.runk 1 [2, 4, 6, 7, 41] [(2, .pointer (some ⟨b2, 0, none⟩)), (4, .slice a13 x11.length c14), (6, .int .i64 x69.1), (7, .bool x69.2), (41, .slice a48 x46.length c49)] (by kernel_rfl) ?_
  obtain ⟨x78, hx79, hm⟩ := bindE hm
  refine WL.st (.pointer (some (at_ a48 (Int.toNat 1 * 1)))) (ST.index (T := fStr.ty) (xs := x46) (SH.rd (SH.front 0 hS76)) hx79 rfl rfl rfl Tryz.underlying63 (info9).1 (info9).2.1) rfl rfl rfl ?_
  refine WL.st (.string (bs x78)) (ST.load (cell_ext (Rd.flat (F := fStr) (SH.rd (SH.front 0 hS76)) hx79 0 rfl)) rfl rfl Tryz.underlying9 rfl) rfl rfl rfl ?_
  obtain ⟨x80, hx81, hm⟩ := bindE hm
  refine WL.call 55 #[.string (bs x78)] rfl rfl (by kernel_rfl) (c_55 n x78 w71 hx81 ) ?_
  rintro _ w82 ⟨rfl, hE83⟩
  refine ⟨_, rfl, ?_⟩
  have hb85 : Ext w w82 := Ext.trans hb74 hE83
  have hL86 : w.heap.size ≤ w82.heap.size := Nat.le_trans hL75 hE83.size
  have hS87 : SH w82 w.heap.size [aOwn fStr 9 a48 c49 x46, aOwn fStr 9 a13 c14 x11, aBox 31 b2 [.string (bs []), .int .i64 0, .int .i64 0, .int .i64 0]] := SH.ext hS76 hE83
  refine WL.runk 5 [2, 4, 6, 7, 8, 9] [(2, .pointer (some ⟨b2, 0, none⟩)), (4, .slice a13 x11.length c14), (6, .int .i64 x69.1), (7, .bool x69.2), (8, .int .i64 x80.1), (9, .bool x80.2)] (by kernel_rfl) ?_
  refine WL.nil ?_
  refine WQ.then_normal (hK77 _ _ _ ?_)
  refine WP.seq (fun K88 hK88 => ?_)
  refine WP.region ?_
  refine WL.runk 1 [2, 4, 6, 7, 8, 9, 48] [(2, .pointer (some ⟨b2, 0, none⟩)), (4, .slice a13 x11.length c14), (6, .int .i64 x69.1), (7, .bool x69.2), (8, .int .i64 x80.1), (9, .bool x80.2), (48, .slice a13 x11.length c14)] (by kernel_rfl) ?_
  obtain ⟨x89, hx90, hm⟩ := bindE hm
  refine WL.st (.pointer (some (at_ a13 (Int.toNat 3 * 1)))) (ST.index (T := fStr.ty) (xs := x11) (SH.rd (SH.front 1 hS87)) hx90 rfl rfl rfl Tryz.underlying63 (info9).1 (info9).2.1) rfl rfl rfl ?_
  refine WL.st (.string (bs x89)) (ST.load (cell_ext (Rd.flat (F := fStr) (SH.rd (SH.front 1 hS87)) hx90 0 rfl)) rfl rfl Tryz.underlying9 rfl) rfl rfl rfl ?_
  obtain ⟨x91, hx92, hm⟩ := bindE hm
  refine WL.call 55 #[.string (bs x89)] rfl rfl (by kernel_rfl) (c_55 n x89 w82 hx92 ) ?_
  rintro _ w93 ⟨rfl, hE94⟩
  refine ⟨_, rfl, ?_⟩
  have hb96 : Ext w w93 := Ext.trans hb85 hE94
  have hL97 : w.heap.size ≤ w93.heap.size := Nat.le_trans hL86 hE94.size
  have hS98 : SH w93 w.heap.size [aOwn fStr 9 a48 c49 x46, aOwn fStr 9 a13 c14 x11, aBox 31 b2 [.string (bs []), .int .i64 0, .int .i64 0, .int .i64 0]] := SH.ext hS87 hE94
  refine WL.runk 5 [2, 4, 6, 7, 8, 9, 10, 11] [(2, .pointer (some ⟨b2, 0, none⟩)), (4, .slice a13 x11.length c14), (6, .int .i64 x69.1), (7, .bool x69.2), (8, .int .i64 x80.1), (9, .bool x80.2), (10, .int .i64 x91.1), (11, .bool x91.2)] (by kernel_rfl) ?_
  refine WL.nil ?_
  refine WQ.then_normal (hK88 _ _ _ ?_)
  refine WP.seq (fun K99 hK99 => ?_)
  refine WP.region ?_
  refine WL.runk 1 [2, 6, 7, 8, 9, 10, 11, 54] [(2, .pointer (some ⟨b2, 0, none⟩)), (6, .int .i64 x69.1), (7, .bool x69.2), (8, .int .i64 x80.1), (9, .bool x80.2), (10, .int .i64 x91.1), (11, .bool x91.2), (54, .slice a13 x11.length c14)] (by kernel_rfl) ?_
  obtain ⟨x100, hx101, hm⟩ := bindE hm
  refine WL.st (.pointer (some (at_ a13 (Int.toNat 0 * 1)))) (ST.index (T := fStr.ty) (xs := x11) (SH.rd (SH.front 1 hS98)) hx101 rfl rfl rfl Tryz.underlying63 (info9).1 (info9).2.1) rfl rfl rfl ?_
  refine WL.st (.string (bs x100)) (ST.load (cell_ext (Rd.flat (F := fStr) (SH.rd (SH.front 1 hS98)) hx101 0 rfl)) rfl rfl Tryz.underlying9 rfl) rfl rfl rfl ?_
  refine WL.runk 4 [2, 7, 9, 11, 60] [(2, .pointer (some ⟨b2, 0, none⟩)), (7, .bool x69.2), (9, .bool x80.2), (11, .bool x91.2), (60, .agg #[.string (bs x100), .int .i64 x69.1, .int .i64 x80.1, .int .i64 x91.1])] (by kernel_rfl) ?_
  refine WL.box 31 [.string (bs []), .int .i64 0, .int .i64 0, .int .i64 0] 12 (by kernel_rfl) rfl rfl rfl rfl ?_
  intro b102 w103 hE104 hR105
  have hb107 : Ext w w103 := Ext.trans hb96 hE104
  have hL108 : w.heap.size ≤ w103.heap.size := Nat.le_trans hL97 hE104.size
  have hS109 : SH w103 w.heap.size [aBox 31 b102 [.string (bs []), .int .i64 0, .int .i64 0, .int .i64 0], aOwn fStr 9 a48 c49 x46, aOwn fStr 9 a13 c14 x11, aBox 31 b2 [.string (bs []), .int .i64 0, .int .i64 0, .int .i64 0]] := SH.add hS98 hE104 hL97 hR105
  refine WL.boxStore 0 [.string (bs x100), .int .i64 x69.1, .int .i64 x80.1, .int .i64 x91.1] [.string (bs x100), .int .i64 x69.1, .int .i64 x80.1, .int .i64 x91.1] (SH.front 0 hS109) hL108 rfl rfl rfl rfl rfl rfl rfl (info31).1 (info31).2.1 rfl rfl rfl ?_
  intro w110 hB111 hS112
  have hb113 : Ext w w110 := Below.trans hb107 hB111
  have hL114 : w.heap.size ≤ w110.heap.size := Nat.le_trans hL108 hB111.size
  refine WL.sub [(2, .pointer (some ⟨b2, 0, none⟩)), (7, .bool x69.2), (9, .bool x80.2), (11, .bool x91.2), (12, .pointer (some ⟨b102, 0, none⟩))] ⟨rfl, rfl, rfl, rfl, rfl, trivial⟩ ?_
  refine WL.nil ?_
  refine WQ.then_normal (hK99 _ _ _ ?_)
  refine WP.seq (fun K115 hK115 => ?_)
  refine WP.seq (fun K116 hK116 => ?_)
  obtain ⟨x128, hx129, hm⟩ := bindE hm
  refine WP.cut (fun env' w' => env' = [(2, .pointer (some ⟨b2, 0, none⟩)), (12, .pointer (some ⟨b102, 0, none⟩)), (74, .bool x128)] ∧ Ext w w' ∧ w.heap.size ≤ w'.heap.size ∧ SH w' w.heap.size [aBox 31 b102 [.string (bs x100), .int .i64 x69.1, .int .i64 x80.1, .int .i64 x91.1], aBox 31 b2 [.string (bs []), .int .i64 0, .int .i64 0, .int .i64 0]]) ?_ ?_
  rotate_left
  · clear hx129
    rintro _ w141 ⟨rfl, hb142, hL143, hS144⟩
    refine WQ.then_normal (hK116 _ _ _ ?_)
    refine WP.cond x128 rfl rfl (fun hc145 => ?_) (fun hc145 => ?_)
    · have hm := iteT hm hc145
      refine WP.seq (fun K146 hK146 => ?_)
      refine WP.region ?_
      refine WL.runk 1 [2, 75] [(2, .pointer (some ⟨b2, 0, none⟩)), (75, .agg #[.string (bs []), .int .i64 0, .int .i64 0, .int .i64 0])] (by kernel_rfl) ?_
      refine WL.boxStore 0 [.string (bs []), .int .i64 0, .int .i64 0, .int .i64 0] [.string (bs []), .int .i64 0, .int .i64 0, .int .i64 0] (SH.front 1 hS144) hL143 rfl rfl rfl rfl rfl rfl rfl (info31).1 (info31).2.1 rfl rfl rfl ?_
      intro w147 hB148 hS149
      have hb150 : Ext w w147 := Below.trans hb142 hB148
      have hL151 : w.heap.size ≤ w147.heap.size := Nat.le_trans hL143 hB148.size
      refine WL.runk 1 [2, 3] [(2, .pointer (some ⟨b2, 0, none⟩)), (3, .bool false)] (by kernel_rfl) ?_
      refine WL.nil ?_
      refine WQ.then_normal (hK146 _ _ _ ?_)
      refine WP.ret ?_
      refine WQ.then_ret ?_
      obtain rfl := Option.some.inj hm
      exact WQ.retv2 _ _ rfl (RVal.box (SH.front 0 hS149) rfl Tryz.underlying31 rfl (info31).1 (info31).2.1) (RVal.tmp rfl) ⟨rfl, hb150⟩
    have hm := iteF hm hc145
    refine WP.skip ?_
    refine WQ.then_normal (hK115 _ _ _ ?_)
    refine WP.seq (fun K152 hK152 => ?_)
    refine WP.region ?_
    refine WL.st (.agg #[.string (bs x100), .int .i64 x69.1, .int .i64 x80.1, .int .i64 x91.1]) (ST.loadAgg (vs := [.string (bs x100), .int .i64 x69.1, .int .i64 x80.1, .int .i64 x91.1]) (fun j v hv => SH.boxPart (us := [.string (bs x100), .int .i64 x69.1, .int .i64 x80.1, .int .i64 x91.1]) (SH.front 0 hS144) 0 rfl j v hv) rfl rfl rfl Tryz.underlying31 rfl (info31).1 (info31).2.1) rfl rfl rfl ?_
    refine WL.boxStore 0 [.string (bs x100), .int .i64 x69.1, .int .i64 x80.1, .int .i64 x91.1] [.string (bs x100), .int .i64 x69.1, .int .i64 x80.1, .int .i64 x91.1] (SH.front 1 hS144) hL143 rfl rfl rfl rfl rfl rfl rfl (info31).1 (info31).2.1 rfl rfl rfl ?_
    intro w153 hB154 hS155
    have hb156 : Ext w w153 := Below.trans hb142 hB154
    have hL157 : w.heap.size ≤ w153.heap.size := Nat.le_trans hL143 hB154.size
    refine WL.runk 1 [2, 3] [(2, .pointer (some ⟨b2, 0, none⟩)), (3, .bool true)] (by kernel_rfl) ?_
    refine WL.nil ?_
    refine WQ.then_normal (hK152 _ _ _ ?_)
    refine WP.ret ?_
    obtain rfl := Option.some.inj hm
    exact WQ.retv2 _ _ rfl (RVal.box (SH.front 0 hS155) rfl Tryz.underlying31 rfl (info31).1 (info31).2.1) (RVal.tmp rfl) ⟨rfl, hb156⟩
  have hm := hx129; clear hx129
  refine WP.region ?_
  refine WL.runk 3 [2, 9, 11, 12, 63] [(2, .pointer (some ⟨b2, 0, none⟩)), (9, .bool x80.2), (11, .bool x91.2), (12, .pointer (some ⟨b102, 0, none⟩)), (63, .bool (!x69.2))] (by kernel_rfl) ?_
  refine WL.case (!x69.2) [63] ⟨rfl, trivial⟩ (fun hc130 => ?_) (fun hc130 => ?_)
  · have hm := iteT hm hc130
    refine WL.runk 11 [2, 12, 74] [(2, .pointer (some ⟨b2, 0, none⟩)), (12, .pointer (some ⟨b102, 0, none⟩)), (74, .bool true)] (by kernel_rfl) ?_
    refine WL.nil ?_
    obtain rfl := Option.some.inj hm
    exact WQ.post' ⟨rfl, hb113, hL114, (SH.take 2 (SH.front 1 (SH.front 3 hS112)))⟩ ⟨rfl, rfl, rfl, trivial⟩
  have hm := iteF hm hc130
  refine WL.runk 4 [2, 11, 12, 67] [(2, .pointer (some ⟨b2, 0, none⟩)), (11, .bool x91.2), (12, .pointer (some ⟨b102, 0, none⟩)), (67, .bool (!x80.2))] (by kernel_rfl) ?_
  refine WL.case (!x80.2) [67] ⟨rfl, trivial⟩ (fun hc131 => ?_) (fun hc131 => ?_)
  · have hm := iteT hm hc131
    refine WL.runk 7 [2, 12, 74] [(2, .pointer (some ⟨b2, 0, none⟩)), (12, .pointer (some ⟨b102, 0, none⟩)), (74, .bool true)] (by kernel_rfl) ?_
    refine WL.nil ?_
    obtain rfl := Option.some.inj hm
    exact WQ.post' ⟨rfl, hb113, hL114, (SH.take 2 (SH.front 1 (SH.front 3 hS112)))⟩ ⟨rfl, rfl, rfl, trivial⟩
  have hm := iteF hm hc131
  refine WL.runk 4 [2, 12, 71] [(2, .pointer (some ⟨b2, 0, none⟩)), (12, .pointer (some ⟨b102, 0, none⟩)), (71, .bool (!x91.2))] (by kernel_rfl) ?_
  refine WL.case (!x91.2) [71] ⟨rfl, trivial⟩ (fun hc132 => ?_) (fun hc132 => ?_)
  · have hm := iteT hm hc132
    refine WL.runk 3 [2, 12, 74] [(2, .pointer (some ⟨b2, 0, none⟩)), (12, .pointer (some ⟨b102, 0, none⟩)), (74, .bool true)] (by kernel_rfl) ?_
    refine WL.nil ?_
    obtain rfl := Option.some.inj hm
    exact WQ.post' ⟨rfl, hb113, hL114, (SH.take 2 (SH.front 1 (SH.front 3 hS112)))⟩ ⟨rfl, rfl, rfl, trivial⟩
  have hm := iteF hm hc132
  obtain ⟨x133, hx134, hm⟩ := bindE hm
  refine WL.call 45 #[.pointer (some ⟨b102, 0, none⟩)] rfl rfl (by kernel_rfl) (c_45 n (SGood.mk x100 x69.1 x80.1 x91.1) b102 0 w110 hx134 (SH.boxRd (SH.front 0 hS112))) ?_
  rintro _ w135 ⟨rfl, hE136⟩
  refine ⟨_, rfl, ?_⟩
  have hb138 : Ext w w135 := Ext.trans hb113 hE136
  have hL139 : w.heap.size ≤ w135.heap.size := Nat.le_trans hL114 hE136.size
  have hS140 : SH w135 w.heap.size [aBox 31 b102 [.string (bs x100), .int .i64 x69.1, .int .i64 x80.1, .int .i64 x91.1], aOwn fStr 9 a48 c49 x46, aOwn fStr 9 a13 c14 x11, aBox 31 b2 [.string (bs []), .int .i64 0, .int .i64 0, .int .i64 0]] := SH.ext hS112 hE136
  refine WL.runk 2 [2, 12, 74] [(2, .pointer (some ⟨b2, 0, none⟩)), (12, .pointer (some ⟨b102, 0, none⟩)), (74, .bool (!x133))] (by kernel_rfl) ?_
  refine WL.nil ?_
  obtain rfl := Option.some.inj hm
  exact WQ.post' ⟨rfl, hb138, hL139, (SH.take 2 (SH.front 1 (SH.front 3 hS140)))⟩ ⟨rfl, rfl, rfl, trivial⟩

theorem c_19 (n : Nat) (code_0 : List Int) (a0' : Option Addr) (c0' : Nat) (w : World) {r : List SGood × List SGood} (hm : m_spec_DrawSameGoods n code_0 = some r) (h0 : Rd fU8.ty w a0' code_0) (hle0 : code_0.length ≤ c0') :
    CallV Tryz.prog 19 #[.slice a0' code_0.length c0'] w (fun v w' => ∃ (ra0 : Option Addr) (rc0 : Nat) (ra1 : Option Addr) (rc1 : Nat), v = .tuple #[.slice ra0 r.1.length rc0, .slice ra1 r.2.length rc1] ∧ Ext w w' ∧ SH w' w.heap.size [aOwn fGood 31 ra0 rc0 r.1, aOwn fGood 31 ra1 rc1 r.2]) := by
  unfold m_spec_DrawSameGoods at hm
  refine CallV.enter Tryz.func19 rfl (by kernel_rfl) Tryz.ntmps19 (env := [(0, .slice a0' code_0.length c0')]) ⟨rfl, trivial⟩ ?_
  refine WP.seq (fun K1 hK1 => ?_)
  refine WP.region ?_
  refine WL.runk 2 [0] [(0, .slice a0' code_0.length c0')] (by kernel_rfl) ?_
  refine WL.nil ?_
  refine WQ.then_normal (hK1 _ _ _ ?_)
  refine WP.seq (fun K2 hK2 => ?_)
  refine WP.region ?_
  refine WL.runk 1 [7] [(7, .slice a0' code_0.length c0')] (by kernel_rfl) ?_
  obtain ⟨x3, hx4, hm⟩ := bindE hm
  refine WL.call 25 #[.slice a0' code_0.length c0'] rfl rfl (by kernel_rfl) (c_25 n code_0 a0' c0' w hx4 (Rd.below h0 (Ext.refl w)) hle0) ?_
  rintro _ w7 ⟨b5, rfl, hE8, hR9⟩
  refine ⟨_, rfl, ?_⟩
  have hb10 : Ext w w7 := Ext.trans (Ext.refl w) hE8
  have hL11 : w.heap.size ≤ w7.heap.size := Nat.le_trans (Nat.le_refl _) hE8.size
  have hS12 : SH w7 w.heap.size [aBox 87 b5 [.slice a0' code_0.length c0', .int .i64 x3.1, .int .u64 x3.2]] := SH.add (SH.nil _ _) hE8 (Nat.le_refl _) hR9
  refine WL.runk 1 [4] [(4, .pointer (some ⟨b5, 0, none⟩))] (by kernel_rfl) ?_
  refine WL.nil ?_
  refine WQ.then_normal (hK2 _ _ _ ?_)
  refine WP.seq (fun K13 hK13 => ?_)
  refine WP.region ?_
  refine WL.runk 1 [4, 9] [(4, .pointer (some ⟨b5, 0, none⟩)), (9, .pointer (some ⟨b5, 0, none⟩))] (by kernel_rfl) ?_
  obtain ⟨x14, hx15, hm⟩ := bindE hm
  refine WL.call 56 #[.pointer (some ⟨b5, 0, none⟩)] rfl rfl (by kernel_rfl) (c_56 n code_0 a0' c0' x3.1 x3.2 b5 w7 w w.heap.size [] hx15 hb10 (Nat.le_refl _) hL11 h0 hle0 hS12) ?_
  rintro _ w19 ⟨a16, c17, rfl, hB23, hS22⟩
  refine ⟨_, rfl, ?_⟩
  have hb24 : Ext w w19 := Below.trans hb10 hB23
  have hL25 : w.heap.size ≤ w19.heap.size := Nat.le_trans hL11 hB23.size
  refine WL.runk 1 [4, 5] [(4, .pointer (some ⟨b5, 0, none⟩)), (5, .slice a16 x14.1.length c17)] (by kernel_rfl) ?_
  refine WL.nil ?_
  refine WQ.then_normal (hK13 _ _ _ ?_)
  refine WP.seq (fun K26 hK26 => ?_)
  refine WP.region ?_
  refine WL.row fGood 31 ([] : List SGood) 0 #[] 11 (by kernel_rfl) rfl rfl rfl rfl rfl rfl rfl ?_
  intro a27 c28 w29 hE30 hR31
  have hb33 : Ext w w29 := Ext.trans hb24 hE30
  have hL34 : w.heap.size ≤ w29.heap.size := Nat.le_trans hL25 hE30.size
  have hS35 : SH w29 w.heap.size [aOwn fGood 31 a27 c28 ([] : List SGood), aOwn fGood 31 a16 c17 x14.1, aBox 87 b5 [.slice a0' code_0.length c0', .int .i64 x14.2.1, .int .u64 x14.2.2]] := SH.add hS22 hE30 hL25 hR31
  refine WL.runk 1 [4, 5, 11, 12] [(4, .pointer (some ⟨b5, 0, none⟩)), (5, .slice a16 x14.1.length c17), (11, .slice a27 (([] : List SGood).length) c28), (12, .slice a16 x14.1.length c17)] (by kernel_rfl) ?_
  obtain ⟨x36, hx37, hm⟩ := bindE hm
  refine WL.append (F := fGood) (xs := ([] : List SGood)) (ys := x14.1) 13 (SH.front 0 hS35) hL34 (SH.rd (SH.front 1 hS35)) hx37 rfl rfl rfl Tryz.underlying24 (info31).1 (info31).2.2.1 (info31).2.1 (info31).2.2.2 rfl rfl rfl rfl rfl ?_
  intro a38 c39 w40 hB41 hS42
  have hb43 : Ext w w40 := Below.trans hb33 hB41
  have hL44 : w.heap.size ≤ w40.heap.size := Nat.le_trans hL34 hB41.size
  refine WL.runk 1 [4, 5, 6] [(4, .pointer (some ⟨b5, 0, none⟩)), (5, .slice a16 x14.1.length c17), (6, .slice a38 x36.length c39)] (by kernel_rfl) ?_
  refine WL.nil ?_
  refine WQ.then_normal (hK26 _ _ _ ?_)
  refine WP.seq (fun K45 hK45 => ?_)
  refine WP.seq (fun K46 hK46 => ?_)
  obtain ⟨x79, hx80, hm⟩ := bindE hm
  refine WP.cut (fun env' w' => env' = [(4, .pointer (some ⟨b5, 0, none⟩)), (5, .slice a16 x14.1.length c17), (6, .slice a38 x36.length c39), (20, .bool x79.1)] ∧ Ext w w' ∧ w.heap.size ≤ w'.heap.size ∧ SH w' w.heap.size [aOwn fGood 31 a38 c39 x36, aOwn fGood 31 a16 c17 x14.1, aBox 87 b5 [.slice a0' code_0.length c0', .int .i64 x79.2.1, .int .u64 x79.2.2]]) ?_ ?_
  · have hm := hx80; clear hx80
    refine WP.region ?_
    refine WL.runk 4 [4, 5, 6, 17] [(4, .pointer (some ⟨b5, 0, none⟩)), (5, .slice a16 x14.1.length c17), (6, .slice a38 x36.length c39), (17, .bool (decide ((x36.length : Int) > 0)))] (by kernel_rfl) ?_
    refine WL.case (decide ((x36.length : Int) > 0)) [17] ⟨rfl, trivial⟩ (fun hc81 => ?_) (fun hc81 => ?_)
    rotate_left
    · have hm := iteF hm hc81
      refine WL.runk 3 [4, 5, 6, 20] [(4, .pointer (some ⟨b5, 0, none⟩)), (5, .slice a16 x14.1.length c17), (6, .slice a38 x36.length c39), (20, .bool false)] (by kernel_rfl) ?_
      refine WL.nil ?_
      obtain rfl := Option.some.inj hm
      exact WQ.post' ⟨rfl, hb43, hL44, hS42⟩ ⟨rfl, rfl, rfl, rfl, trivial⟩
    have hm := iteT hm hc81
    refine WL.runk 1 [4, 5, 6, 17, 18] [(4, .pointer (some ⟨b5, 0, none⟩)), (5, .slice a16 x14.1.length c17), (6, .slice a38 x36.length c39), (17, .bool true), (18, .pointer (some ⟨b5, 0, none⟩))] (by kernel_rfl) ?_
    obtain ⟨x82, hx83, hm⟩ := bindE hm
    refine WL.call 29 #[.pointer (some ⟨b5, 0, none⟩), .int .i64 2] rfl rfl (by kernel_rfl) (c_29 n code_0 a0' c0' x14.2.1 x14.2.2 b5 2 w40 w w.heap.size [aOwn fGood 31 a38 c39 x36, aOwn fGood 31 a16 c17 x14.1] hx83 hb43 (Nat.le_refl _) hL44 h0 hle0 (SH.front 2 (SH.front 1 (SH.front 1 hS42)))) ?_
    rintro _ w84 ⟨rfl, hB88, hS87⟩
    refine ⟨_, rfl, ?_⟩
    have hb89 : Ext w w84 := Below.trans hb43 hB88
    have hL90 : w.heap.size ≤ w84.heap.size := Nat.le_trans hL44 hB88.size
    refine WL.runk 1 [4, 5, 6, 20] [(4, .pointer (some ⟨b5, 0, none⟩)), (5, .slice a16 x14.1.length c17), (6, .slice a38 x36.length c39), (20, .bool x82.1)] (by kernel_rfl) ?_
    refine WL.nil ?_
    obtain rfl := Option.some.inj hm
    exact WQ.post' ⟨rfl, hb89, hL90, (SH.front 2 (SH.front 2 hS87))⟩ ⟨rfl, rfl, rfl, rfl, trivial⟩
  clear hx80
  rintro _ w91 ⟨rfl, hb92, hL93, hS94⟩
  refine WQ.then_normal (hK46 _ _ _ ?_)
  obtain ⟨x299, hx300, hm⟩ := bindE hm
  refine WP.cut (fun env' w' => env' = [(4, .pointer (some ⟨b5, 0, none⟩)), (5, .slice a16 x14.1.length c17), (6, .slice a38 x299.1.length c39)] ∧ Ext w w' ∧ w.heap.size ≤ w'.heap.size ∧ SH w' w.heap.size [aOwn fGood 31 a38 c39 x299.1, aOwn fGood 31 a16 c17 x14.1, aBox 87 b5 [.slice a0' code_0.length c0', .int .i64 x299.2.1, .int .u64 x299.2.2]]) ?_ ?_
  rotate_left
  · clear hx300
    rintro _ w368 ⟨rfl, hb369, hL370, hS371⟩
    refine WQ.then_normal (hK45 _ _ _ ?_)
    refine WP.seq (fun K372 hK372 => ?_)
    refine WP.seq (fun K373 hK373 => ?_)
    refine WP.region ?_
    refine WL.runk 1 [5, 6, 30] [(5, .slice a16 x14.1.length c17), (6, .slice a38 x299.1.length c39), (30, .pointer (some ⟨b5, 0, none⟩))] (by kernel_rfl) ?_
    obtain ⟨x374, hx375, hm⟩ := bindE hm
    refine WL.call 29 #[.pointer (some ⟨b5, 0, none⟩), .int .i64 5] rfl rfl (by kernel_rfl) (c_29 n code_0 a0' c0' x299.2.1 x299.2.2 b5 5 w368 w w.heap.size [aOwn fGood 31 a38 c39 x299.1, aOwn fGood 31 a16 c17 x14.1] hx375 hb369 (Nat.le_refl _) hL370 h0 hle0 (SH.front 2 (SH.front 1 (SH.front 1 hS371)))) ?_
    rintro _ w376 ⟨rfl, hB380, hS379⟩
    refine ⟨_, rfl, ?_⟩
    have hb381 : Ext w w376 := Below.trans hb369 hB380
    have hL382 : w.heap.size ≤ w376.heap.size := Nat.le_trans hL370 hB380.size
    refine WL.sub [(5, .slice a16 x14.1.length c17), (6, .slice a38 x299.1.length c39), (31, .bool x374.1)] ⟨rfl, rfl, rfl, trivial⟩ ?_
    refine WL.nil ?_
    refine WQ.then_normal (hK373 _ _ _ ?_)
    obtain ⟨x402, hx403, hm⟩ := bindE hm
    refine WP.cut (fun env' w' => ∃ (a404 : Option Addr) (c405 : Nat), env' = [(5, .slice a16 x14.1.length c17), (6, .slice a404 x402.length c405)] ∧ Ext w w' ∧ w.heap.size ≤ w'.heap.size ∧ SH w' w.heap.size [aOwn fGood 31 a404 c405 x402, aBox 87 b5 [.slice a0' code_0.length c0', .int .i64 x374.2.1, .int .u64 x374.2.2], aOwn fGood 31 a16 c17 x14.1]) ?_ ?_
    rotate_left
    · clear hx403
      rintro _ w425 ⟨a404, c405, rfl, hb426, hL427, hS428⟩
      refine WQ.then_normal (hK372 _ _ _ ?_)
      refine WP.seq (fun K429 hK429 => ?_)
      refine WP.region ?_
      refine WL.runk 4 [2, 3] [(2, .slice a16 x14.1.length c17), (3, .slice a404 x402.length c405)] (by kernel_rfl) ?_
      refine WL.nil ?_
      refine WQ.then_normal (hK429 _ _ _ ?_)
      refine WP.ret ?_
      obtain rfl := Option.some.inj hm
      exact WQ.ret2 _ _ rfl rfl rfl ⟨_, _, _, _, rfl, hb426, (SH.take 2 (SH.front 2 hS428))⟩
    have hm := hx403; clear hx403
    refine WP.cond x374.1 rfl rfl (fun hc383 => ?_) (fun hc383 => ?_)
    rotate_left
    · have hm := iteF hm hc383
      refine WP.skip ?_
      obtain rfl := Option.some.inj hm
      exact WQ.post' ⟨_, _, rfl, hb381, hL382, (SH.front 2 (SH.front 1 (SH.front 2 hS379)))⟩ ⟨rfl, rfl, trivial⟩
    have hm := iteT hm hc383
    refine WP.region ?_
    refine WL.runk 2 [5, 32, 33] [(5, .slice a16 x14.1.length c17), (32, .slice a38 x299.1.length c39), (33, .agg #[.string (bs []), .int .i64 0, .int .i64 0, .int .i64 0])] (by kernel_rfl) ?_
    refine WL.row fGood 31 ([(SGood.mk [] 0 0 0)] : List SGood) 1 #[.string (bs []), .int .i64 0, .int .i64 0, .int .i64 0] 34 (by kernel_rfl) rfl rfl rfl rfl rfl rfl rfl ?_
    intro a407 c408 w409 hE410 hR411
    have hb413 : Ext w w409 := Ext.trans hb381 hE410
    have hL414 : w.heap.size ≤ w409.heap.size := Nat.le_trans hL382 hE410.size
    have hS415 : SH w409 w.heap.size [aOwn fGood 31 a407 c408 ([(SGood.mk [] 0 0 0)] : List SGood), aBox 87 b5 [.slice a0' code_0.length c0', .int .i64 x374.2.1, .int .u64 x374.2.2], aOwn fGood 31 a38 c39 x299.1, aOwn fGood 31 a16 c17 x14.1] := SH.add hS379 hE410 hL382 hR411
    obtain ⟨x416, hx417, hm⟩ := bindE hm
    refine WL.append (F := fGood) (xs := x299.1) (ys := ([(SGood.mk [] 0 0 0)] : List SGood)) 35 (SH.front 2 hS415) hL414 (SH.rd (SH.front 0 hS415)) hx417 rfl rfl rfl Tryz.underlying24 (info31).1 (info31).2.2.1 (info31).2.1 (info31).2.2.2 rfl rfl rfl rfl rfl ?_
    intro a418 c419 w420 hB421 hS422
    have hb423 : Ext w w420 := Below.trans hb413 hB421
    have hL424 : w.heap.size ≤ w420.heap.size := Nat.le_trans hL414 hB421.size
    refine WL.runk 1 [5, 6] [(5, .slice a16 x14.1.length c17), (6, .slice a418 x416.length c419)] (by kernel_rfl) ?_
    refine WL.nil ?_
    obtain rfl := Option.some.inj hm
    exact WQ.post' ⟨_, _, rfl, hb423, hL424, (SH.take 3 (SH.front 2 (SH.front 3 (SH.front 3 hS422))))⟩ ⟨rfl, rfl, trivial⟩
  have hm := hx300; clear hx300
  refine WP.cond x79.1 rfl rfl (fun hc95 => ?_) (fun hc95 => ?_)
  rotate_left
  · have hm := iteF hm hc95
    refine WP.skip ?_
    obtain rfl := Option.some.inj hm
    exact WQ.post' ⟨rfl, hb92, hL93, hS94⟩ ⟨rfl, rfl, rfl, trivial⟩
  have hm := iteT hm hc95
  refine WP.open (n := 10) (by kernel_rfl) rfl (fun w301 hE302 => ?_)
  have hb303 : Ext w w301 := Ext.trans hb92 hE302
  have hL304 : w.heap.size ≤ w301.heap.size := Nat.le_trans hL93 hE302.size
  have hS305 : SH w301 w.heap.size [aOwn fGood 31 a38 c39 x36, aOwn fGood 31 a16 c17 x14.1, aBox 87 b5 [.slice a0' code_0.length c0', .int .i64 x79.2.1, .int .u64 x79.2.2]] := SH.ext hS94 hE302
  obtain ⟨x320, hx321, hm⟩ := bindE hm
  obtain ⟨x346, hx347, hm⟩ := bindE hm
  refine WA.par (R := []) (f' := 4) (D' := [0, 1, 2, 3, 4, 5]) [⟨0, [], fun _ => .slice a38 x36.length c39⟩, ⟨1, [], fun _ => .pointer (some (at_ a38 (Int.toNat 0 * 4)))⟩, ⟨2, [], fun _ => .pointer (some (at_ a38 (Int.toNat 0 * 4 + 3)))⟩, ⟨3, [], fun _ => .int .i64 x320.Least⟩, ⟨4, [], fun _ => .pointer (some ⟨b5, 0, none⟩)⟩, ⟨5, [], fun _ => .int .i64 x346.1⟩] [⟨[aOwn fGood 31 a38 c39 x36], []⟩, ⟨[aOwn fGood 31 a16 c17 x14.1], []⟩, ⟨[aBox 87 b5 [.slice a0' code_0.length c0', .int .i64 x79.2.1, .int .u64 x79.2.2]], [⟨5, [], fun _ => [aBox 87 b5 [.slice a0' code_0.length c0', .int .i64 x346.2.1, .int .u64 x346.2.2]]⟩]⟩] rfl rfl hS305 (by kernel_rfl) (by kernel_rfl) ⟨?_, ?_, ?_, ?_, ?_, ?_, trivial⟩ ?_
  · intro g306 w308 R307 hB309 hS310
    have hS311 : SH w308 w.heap.size (aOwn fGood 31 a38 c39 x36 :: aOwn fGood 31 a16 c17 x14.1 :: R307) := memEq hS310 (by kernel_rfl)
    have hb312 : Ext w w308 := Below.trans hb303 hB309
    have hL313 : w.heap.size ≤ w308.heap.size := Nat.le_trans hL304 hB309.size
    refine WL.subk [6] [(6, .slice a38 x36.length c39)] (by kernel_rfl) ?_
    refine WL.runk 1 [21] [(21, .slice a38 x36.length c39)] (by kernel_rfl) ?_
    refine WL.nil ?_
    exact QP.intro (fun k => ([] : List (Option Addr × Nat)).getD k (none, 0)) (d := 21) (by kernel_rfl) (by kernel_rfl) (Below.refl _ _) hS311 (by kernel_rfl)
  · intro g306 w314 R307 hB315 hS316
    have hS317 : SH w314 w.heap.size (aOwn fGood 31 a38 c39 x36 :: aOwn fGood 31 a16 c17 x14.1 :: R307) := memEq hS316 (by kernel_rfl)
    have hb318 : Ext w w314 := Below.trans hb303 hB315
    have hL319 : w.heap.size ≤ w314.heap.size := Nat.le_trans hL304 hB315.size
    refine WL.subk [21] [(21, .slice a38 x36.length c39)] (by kernel_rfl) ?_
    refine WL.st (.pointer (some (at_ a38 (Int.toNat 0 * 4)))) (ST.index (T := fGood.ty) (xs := x36) (SH.rd (SH.front 0 hS317)) hx321 rfl rfl rfl Tryz.underlying24 (info31).1 (info31).2.1) rfl rfl rfl ?_
    refine WL.nil ?_
    exact QP.intro (fun k => ([] : List (Option Addr × Nat)).getD k (none, 0)) (d := 22) (by kernel_rfl) (by kernel_rfl) (Below.refl _ _) hS317 (by kernel_rfl)
  · intro g306 w322 R307 hB323 hS324
    have hS325 : SH w322 w.heap.size (aOwn fGood 31 a38 c39 x36 :: aOwn fGood 31 a16 c17 x14.1 :: R307) := memEq hS324 (by kernel_rfl)
    have hb326 : Ext w w322 := Below.trans hb303 hB323
    have hL327 : w.heap.size ≤ w322.heap.size := Nat.le_trans hL304 hB323.size
    refine WL.subk [22] [(22, .pointer (some (at_ a38 (Int.toNat 0 * 4))))] (by kernel_rfl) ?_
    refine WL.runk 1 [23] [(23, .pointer (some (at_ a38 (Int.toNat 0 * 4 + 3))))] (by kernel_rfl) ?_
    refine WL.nil ?_
    exact QP.intro (fun k => ([] : List (Option Addr × Nat)).getD k (none, 0)) (d := 23) (by kernel_rfl) (by kernel_rfl) (Below.refl _ _) hS325 (by kernel_rfl)
  · intro g306 w328 R307 hB329 hS330
    have hS331 : SH w328 w.heap.size (aOwn fGood 31 a38 c39 x36 :: aOwn fGood 31 a16 c17 x14.1 :: R307) := memEq hS330 (by kernel_rfl)
    have hb332 : Ext w w328 := Below.trans hb303 hB329
    have hL333 : w.heap.size ≤ w328.heap.size := Nat.le_trans hL304 hB329.size
    refine WL.subk [23] [(23, .pointer (some (at_ a38 (Int.toNat 0 * 4 + 3))))] (by kernel_rfl) ?_
    refine WL.st (.int .i64 x320.Least) (ST.load (cell_ext (Rd.flat (F := fGood) (SH.rd (SH.front 0 hS331)) hx321 3 rfl)) rfl rfl Tryz.underlying2 rfl) rfl rfl rfl ?_
    refine WL.nil ?_
    exact QP.intro (fun k => ([] : List (Option Addr × Nat)).getD k (none, 0)) (d := 24) (by kernel_rfl) (by kernel_rfl) (Below.refl _ _) hS331 (by kernel_rfl)
  · intro g306 w334 R307 hB335 hS336
    have hS337 : SH w334 w.heap.size (aOwn fGood 31 a38 c39 x36 :: aOwn fGood 31 a16 c17 x14.1 :: aBox 87 b5 [.slice a0' code_0.length c0', .int .i64 x79.2.1, .int .u64 x79.2.2] :: R307) := memEq hS336 (by kernel_rfl)
    have hb338 : Ext w w334 := Below.trans hb303 hB335
    have hL339 : w.heap.size ≤ w334.heap.size := Nat.le_trans hL304 hB335.size
    refine WL.subk [4] [(4, .pointer (some ⟨b5, 0, none⟩))] (by kernel_rfl) ?_
    refine WL.runk 1 [25] [(25, .pointer (some ⟨b5, 0, none⟩))] (by kernel_rfl) ?_
    refine WL.nil ?_
    exact QP.intro (fun k => ([] : List (Option Addr × Nat)).getD k (none, 0)) (d := 25) (by kernel_rfl) (by kernel_rfl) (Below.refl _ _) hS337 (by kernel_rfl)
  · intro g306 w340 R307 hB341 hS342
    have hS343 : SH w340 w.heap.size (aOwn fGood 31 a38 c39 x36 :: aOwn fGood 31 a16 c17 x14.1 :: aBox 87 b5 [.slice a0' code_0.length c0', .int .i64 x79.2.1, .int .u64 x79.2.2] :: R307) := memEq hS342 (by kernel_rfl)
    have hb344 : Ext w w340 := Below.trans hb303 hB341
    have hL345 : w.heap.size ≤ w340.heap.size := Nat.le_trans hL304 hB341.size
    refine WL.subk [25] [(25, .pointer (some ⟨b5, 0, none⟩))] (by kernel_rfl) ?_
    refine WL.call 27 #[.pointer (some ⟨b5, 0, none⟩), .int .i64 2] rfl rfl (by kernel_rfl) (c_27 n code_0 a0' c0' x79.2.1 x79.2.2 b5 2 w340 w w.heap.size (aOwn fGood 31 a38 c39 x36 :: aOwn fGood 31 a16 c17 x14.1 :: R307) hx347 hb344 (Nat.le_refl _) hL345 h0 hle0 (SH.front 2 (SH.front 1 (SH.front 1 hS343)))) ?_
    rintro _ w348 ⟨rfl, hB352, hS351⟩
    refine ⟨_, rfl, ?_⟩
    have hb353 : Ext w w348 := Below.trans hb344 hB352
    have hL354 : w.heap.size ≤ w348.heap.size := Nat.le_trans hL345 hB352.size
    refine WL.nil ?_
    exact QP.intro (fun k => ([] : List (Option Addr × Nat)).getD k (none, 0)) (d := 26) (by kernel_rfl) (by kernel_rfl) hB352 (SH.front 2 (SH.front 2 hS351)) (by kernel_rfl)
  intro g306 w355 hB356 hS357
  have hS358 : SH w355 w.heap.size [aOwn fGood 31 a38 c39 x36, aOwn fGood 31 a16 c17 x14.1, aBox 87 b5 [.slice a0' code_0.length c0', .int .i64 x346.2.1, .int .u64 x346.2.2]] := memEq hS357 (by kernel_rfl)
  have hb359 : Ext w w355 := Below.trans hb303 hB356
  have hL360 : w.heap.size ≤ w355.heap.size := Nat.le_trans hL304 hB356.size
  refine WQ.subk [4, 5, 6, 21, 24, 26] [(4, .pointer (some ⟨b5, 0, none⟩)), (5, .slice a16 x14.1.length c17), (6, .slice a38 x36.length c39), (21, .slice a38 x36.length c39), (24, .int .i64 x320.Least), (26, .int .i64 x346.1)] (by kernel_rfl) ?_
  refine WA.one (i := 6) (D' := [0, 1, 2, 3, 4, 5, 6]) rfl rfl (by kernel_rfl) ?_
  refine WL.runk 1 [4, 5, 6, 21, 27, 28, 29] [(4, .pointer (some ⟨b5, 0, none⟩)), (5, .slice a16 x14.1.length c17), (6, .slice a38 x36.length c39), (21, .slice a38 x36.length c39), (27, .int .i64 (wI64 (x320.Least + x346.1)))] (by kernel_rfl) ?_
  refine WL.nil ?_
  refine WA.one (i := 7) (D' := [0, 1, 2, 3, 4, 5, 6, 7]) rfl rfl (by kernel_rfl) ?_
  obtain ⟨x361, hx362, hm⟩ := bindE hm
  refine WL.st (.pointer (some (at_ a38 (Int.toNat 0 * 4)))) (ST.index (T := fGood.ty) (xs := x36) (SH.rd (SH.front 0 hS358)) hx362 rfl rfl rfl Tryz.underlying24 (info31).1 (info31).2.1) rfl rfl rfl ?_
  refine WL.sub [(4, .pointer (some ⟨b5, 0, none⟩)), (5, .slice a16 x14.1.length c17), (6, .slice a38 x36.length c39), (27, .int .i64 (wI64 (x320.Least + x346.1))), (28, .pointer (some (at_ a38 (Int.toNat 0 * 4))))] ⟨rfl, rfl, rfl, rfl, rfl, trivial⟩ ?_
  refine WL.nil ?_
  refine WA.one (i := 8) (D' := [0, 1, 2, 3, 4, 5, 6, 7, 8]) rfl rfl (by kernel_rfl) ?_
  refine WL.runk 1 [4, 5, 6, 27, 29] [(4, .pointer (some ⟨b5, 0, none⟩)), (5, .slice a16 x14.1.length c17), (6, .slice a38 x36.length c39), (27, .int .i64 (wI64 (x320.Least + x346.1))), (29, .pointer (some (at_ a38 (Int.toNat 0 * 4 + 3))))] (by kernel_rfl) ?_
  refine WL.nil ?_
  refine WA.one (i := 9) (D' := [0, 1, 2, 3, 4, 5, 6, 7, 8, 9]) rfl rfl (by kernel_rfl) ?_
  refine WL.store (F := fGood) (SGood.mk x361.Name x361.OnHand x361.Reserved (wI64 (x320.Least + x346.1))) 3 [.int .i64 (wI64 (x320.Least + x346.1))] (SH.front 0 hS358) hL360 hx362 rfl rfl rfl rfl rfl rfl rfl (info2).1 (info2).2.1 rfl rfl rfl ?_
  intro w363 hB364 hS365
  have hb366 : Ext w w363 := Below.trans hb359 hB364
  have hL367 : w.heap.size ≤ w363.heap.size := Nat.le_trans hL360 hB364.size
  refine WL.sub [(4, .pointer (some ⟨b5, 0, none⟩)), (5, .slice a16 x14.1.length c17), (6, .slice a38 ((x36.set (Int.toNat 0) (SGood.mk x361.Name x361.OnHand x361.Reserved (wI64 (x320.Least + x346.1)))).length) c39), (27, .int .i64 (wI64 (x320.Least + x346.1)))] ⟨rfl, rfl, by first | (simp only [List.length_set]; done) | (simp only [List.length_set]; rfl), rfl, trivial⟩ ?_
  refine WL.sub [(4, .pointer (some ⟨b5, 0, none⟩)), (5, .slice a16 x14.1.length c17), (6, .slice a38 ((x36.set (Int.toNat 0) (SGood.mk x361.Name x361.OnHand x361.Reserved (wI64 (x320.Least + x346.1)))).length) c39)] ⟨rfl, rfl, rfl, trivial⟩ ?_
  refine WL.nil ?_
  refine WA.done (by kernel_rfl) ?_
  obtain rfl := Option.some.inj hm
  exact WQ.post' ⟨rfl, hb366, hL367, hS365⟩ ⟨rfl, rfl, rfl, trivial⟩

theorem c_20 (n : Nat) (a_0 : List SGood) (a0' : Option Addr) (c0' : Nat) (b_1 : List SGood) (a1' : Option Addr) (c1' : Nat) (w : World) {r : Bool} (hm : m_spec_SameGoods n a_0 b_1 = some r) (h0 : Rd fGood.ty w a0' a_0) (_hle0 : a_0.length ≤ c0') (h1 : Rd fGood.ty w a1' b_1) (_hle1 : b_1.length ≤ c1') :
    CallV Tryz.prog 20 #[.slice a0' a_0.length c0', .slice a1' b_1.length c1'] w (fun v w' => v = .bool r ∧ Ext w w') := by
  unfold m_spec_SameGoods at hm
  refine CallV.enter Tryz.func20 rfl (by kernel_rfl) Tryz.ntmps20 (env := [(0, .slice a0' a_0.length c0'), (1, .slice a1' b_1.length c1')]) ⟨rfl, rfl, trivial⟩ ?_
  refine WP.seq (fun K1 hK1 => ?_)
  refine WP.region ?_
  refine WL.runk 1 [0, 1] [(0, .slice a0' a_0.length c0'), (1, .slice a1' b_1.length c1')] (by kernel_rfl) ?_
  refine WL.nil ?_
  refine WQ.then_normal (hK1 _ _ _ ?_)
  refine WP.seq (fun K2 hK2 => ?_)
  refine WP.seq (fun K3 hK3 => ?_)
  refine WP.region ?_
  refine WL.runk 5 [0, 1, 10] [(0, .slice a0' a_0.length c0'), (1, .slice a1' b_1.length c1'), (10, .bool ((a_0.length : Int) != (b_1.length : Int)))] (by kernel_rfl) ?_
  refine WL.nil ?_
  refine WQ.then_normal (hK3 _ _ _ ?_)
  refine WP.cond ((a_0.length : Int) != (b_1.length : Int)) rfl rfl (fun hc4 => ?_) (fun hc4 => ?_)
  · have hm := iteT hm hc4
    refine WP.seq (fun K5 hK5 => ?_)
    refine WP.region ?_
    refine WL.runk 1 [4] [(4, .bool false)] (by kernel_rfl) ?_
    refine WL.nil ?_
    refine WQ.then_normal (hK5 _ _ _ ?_)
    refine WP.ret ?_
    refine WQ.then_ret ?_
    obtain rfl := Option.some.inj hm
    exact WQ.ret1 _ rfl rfl ⟨rfl, (Ext.refl w)⟩
  have hm := iteF hm hc4
  refine WP.skip ?_
  refine WQ.then_normal (hK2 _ _ _ ?_)
  refine WP.seq (fun K6 hK6 => ?_)
  refine WP.seq (fun K7 hK7 => ?_)
  refine WP.region ?_
  refine WL.runk 1 [0, 1, 5] [(0, .slice a0' a_0.length c0'), (1, .slice a1' b_1.length c1'), (5, .int .i64 0)] (by kernel_rfl) ?_
  refine WL.nil ?_
  refine WQ.then_normal (hK7 _ _ _ ?_)
  refine WP.block ?_
  obtain ⟨t19, ht20, hm⟩ := bindE hm
  have hmo14 := hm; clear hm
  refine WP.sub [(0, .slice a0' a_0.length c0'), (1, .slice a1' b_1.length c1'), (5, .int .i64 0)] ⟨rfl, rfl, rfl, trivial⟩ ?_
  refine WP.loop (fun n' env' w' => ∃ (st8 : Int) , env' = [(0, .slice a0' a_0.length c0'), (1, .slice a1' b_1.length c1'), (5, .int .i64 st8)] ∧ Ext w w' ∧ w.heap.size ≤ w'.heap.size ∧ SH w' w.heap.size [] ∧ loopN (m_spec_SameGoods_l1 n a_0 b_1) n' st8 = some t19) n ⟨0, rfl, (Ext.refl w), (Nat.le_refl _), (SH.nil _ _), ht20⟩ ?_
  rintro n16 _ w9 ⟨st8, rfl, hb10, hL11, hS12, hl13⟩ K15 hK15
  obtain ⟨n17, s18, rfl, hm, hl13⟩ := loopN_some hl13
  unfold m_spec_SameGoods_l1 at hm
  refine WP.seq (fun K21 hK21 => ?_)
  refine WP.seq (fun K22 hK22 => ?_)
  refine WP.region ?_
  refine WL.runk 4 [0, 1, 5, 14] [(0, .slice a0' a_0.length c0'), (1, .slice a1' b_1.length c1'), (5, .int .i64 st8), (14, .bool (decide (st8 < (a_0.length : Int))))] (by kernel_rfl) ?_
  refine WL.nil ?_
  refine WQ.then_normal (hK22 _ _ _ ?_)
  refine WP.cond (decide (st8 < (a_0.length : Int))) rfl rfl (fun hc23 => ?_) (fun hc23 => ?_)
  rotate_left
  · have hm := iteF hm hc23
    refine WP.exit ?_
    refine WQ.then_exit ?_
    refine WQ.then_exit ?_
    refine WQ.block_here ?_
    obtain rfl := Option.some.inj hm
    obtain rfl := afterN_done hl13
    have hm := hmo14
    refine WQ.then_normal (hK6 _ _ _ ?_)
    refine WP.seq (fun K37 hK37 => ?_)
    refine WP.region ?_
    refine WL.runk 1 [4] [(4, .bool true)] (by kernel_rfl) ?_
    refine WL.nil ?_
    refine WQ.then_normal (hK37 _ _ _ ?_)
    refine WP.ret ?_
    obtain rfl := Option.some.inj hm
    exact WQ.ret1 _ rfl rfl ⟨rfl, hb10⟩
  have hm := iteT hm hc23
  refine WP.skip ?_
  refine WQ.then_normal (hK21 _ _ _ ?_)
  refine WP.seq (fun K24 hK24 => ?_)
  refine WP.block ?_
  refine WP.seq (fun K25 hK25 => ?_)
  refine WP.quiet (by kernel_rfl) (by kernel_rfl) ?_
  refine QL.step1v 17 (.slice a0' a_0.length c0') rfl (fun _ => by kernel_rfl) ?_
  refine QL.step1v 18 (.int .i64 st8) rfl (fun _ => by kernel_rfl) ?_
  refine QL.subk [0, 1, 5, 17, 18] [(0, .slice a0' a_0.length c0'), (1, .slice a1' b_1.length c1'), (5, .int .i64 st8), (17, .slice a0' a_0.length c0'), (18, .int .i64 st8)] (by kernel_rfl) ?_
  obtain ⟨x26, hx27, hm⟩ := bindE hm
  refine QL.st (.pointer (some (at_ a0' (Int.toNat st8 * 4)))) (ST.index (T := fGood.ty) (xs := a_0) (Rd.below h0 hb10) hx27 rfl rfl rfl Tryz.underlying24 (info31).1 (info31).2.1) rfl rfl rfl ?_
  refine QL.st (.agg #[.string (bs x26.Name), .int .i64 x26.OnHand, .int .i64 x26.Reserved, .int .i64 x26.Least]) (ST.loadAgg (vs := fGood.leaf x26) (fun j v hv => Rd.flatA (F := fGood) (Rd.below h0 hb10) hx27 j hv) rfl rfl rfl Tryz.underlying31 rfl (info31).1 (info31).2.1) rfl rfl rfl ?_
  refine QL.step1v 21 (.slice a1' b_1.length c1') rfl (fun _ => by kernel_rfl) ?_
  refine QL.step1v 22 (.int .i64 st8) rfl (fun _ => by kernel_rfl) ?_
  refine QL.subk [0, 1, 5, 20, 21, 22] [(0, .slice a0' a_0.length c0'), (1, .slice a1' b_1.length c1'), (5, .int .i64 st8), (20, .agg #[.string (bs x26.Name), .int .i64 x26.OnHand, .int .i64 x26.Reserved, .int .i64 x26.Least]), (21, .slice a1' b_1.length c1'), (22, .int .i64 st8)] (by kernel_rfl) ?_
  obtain ⟨x28, hx29, hm⟩ := bindE hm
  refine QL.st (.pointer (some (at_ a1' (Int.toNat st8 * 4)))) (ST.index (T := fGood.ty) (xs := b_1) (Rd.below h1 hb10) hx29 rfl rfl rfl Tryz.underlying24 (info31).1 (info31).2.1) rfl rfl rfl ?_
  refine QL.st (.agg #[.string (bs x28.Name), .int .i64 x28.OnHand, .int .i64 x28.Reserved, .int .i64 x28.Least]) (ST.loadAgg (vs := fGood.leaf x28) (fun j v hv => Rd.flatA (F := fGood) (Rd.below h1 hb10) hx29 j hv) rfl rfl rfl Tryz.underlying31 rfl (info31).1 (info31).2.1) rfl rfl rfl ?_
  refine QL.st (.bool (!(decide (x26 = x28)))) (ST.aggne (F := fGood) (x := x26) (y := x28) (eqs_31 x26 x28) (by kernel_rfl) rfl rfl rfl) rfl rfl rfl ?_
  refine QL.subk [0, 1, 5, 25] [(0, .slice a0' a_0.length c0'), (1, .slice a1' b_1.length c1'), (5, .int .i64 st8), (25, .bool (!(decide (x26 = x28))))] (by kernel_rfl) ?_
  refine QL.nil ?_
  intro w30 hE31
  have hb32 : Ext w w30 := Ext.trans hb10 hE31
  have hL33 : w.heap.size ≤ w30.heap.size := Nat.le_trans hL11 hE31.size
  have hS34 : SH w30 w.heap.size [] := SH.ext hS12 hE31
  refine WQ.then_normal (hK25 _ _ _ ?_)
  refine WP.cond (!(decide (x26 = x28))) rfl rfl (fun hc35 => ?_) (fun hc35 => ?_)
  rotate_left
  · have hm := iteF hm hc35
    refine WP.skip ?_
    refine WQ.block_normal ?_
    refine WQ.then_normal (hK24 _ _ _ ?_)
    refine WP.region ?_
    refine WL.runk 3 [0, 1, 5] [(0, .slice a0' a_0.length c0'), (1, .slice a1' b_1.length c1'), (5, .int .i64 (wI64 (st8 + 1)))] (by kernel_rfl) ?_
    refine WL.nil ?_
    obtain rfl := Option.some.inj hm
    exact WQ.round hK15 ⟨(wI64 (st8 + 1)), rfl, hb32, hL33, hS34, hl13⟩ (Nat.lt_succ_self _) ⟨rfl, rfl, rfl, trivial⟩
  have hm := iteT hm hc35
  refine WP.seq (fun K36 hK36 => ?_)
  refine WP.region ?_
  refine WL.runk 1 [4] [(4, .bool false)] (by kernel_rfl) ?_
  refine WL.nil ?_
  refine WQ.then_normal (hK36 _ _ _ ?_)
  refine WP.ret ?_
  refine WQ.block_ret ?_
  refine WQ.then_ret ?_
  refine WQ.then_ret ?_
  refine WQ.block_ret ?_
  refine WQ.then_ret ?_
  obtain rfl := Option.some.inj hm
  obtain rfl := afterN_done hl13
  have hm := hmo14
  obtain rfl := Option.some.inj hm
  exact WQ.ret1 _ rfl rfl ⟨rfl, hb32⟩

theorem c_21 (n : Nat) (g_0 : SGood) (w : World) {r : List UInt8} (hm : m_spec_GoodText n g_0 = some r)  :
    CallV Tryz.prog 21 #[.agg #[.string (bs g_0.Name), .int .i64 g_0.OnHand, .int .i64 g_0.Reserved, .int .i64 g_0.Least]] w (fun v w' => v = .string (bs r) ∧ Ext w w') := by
  unfold m_spec_GoodText at hm
  refine CallV.enter Tryz.func21 rfl (by kernel_rfl) Tryz.ntmps21 (env := [(0, .agg #[.string (bs g_0.Name), .int .i64 g_0.OnHand, .int .i64 g_0.Reserved, .int .i64 g_0.Least])]) ⟨rfl, trivial⟩ ?_
  refine WP.seq (fun K1 hK1 => ?_)
  refine WP.region ?_
  refine WL.box 31 [.string (bs g_0.Name), .int .i64 g_0.OnHand, .int .i64 g_0.Reserved, .int .i64 g_0.Least] 1 (by kernel_rfl) rfl rfl rfl rfl ?_
  intro b2 w3 hE4 hR5
  have hb7 : Ext w w3 := Ext.trans (Ext.refl w) hE4
  have hL8 : w.heap.size ≤ w3.heap.size := Nat.le_trans (Nat.le_refl _) hE4.size
  have hS9 : SH w3 w.heap.size [aBox 31 b2 [.string (bs g_0.Name), .int .i64 g_0.OnHand, .int .i64 g_0.Reserved, .int .i64 g_0.Least]] := SH.add (SH.nil _ _) hE4 (Nat.le_refl _) hR5
  refine WL.runk 1 [1] [(1, .pointer (some ⟨b2, 0, none⟩))] (by kernel_rfl) ?_
  refine WL.nil ?_
  refine WQ.then_normal (hK1 _ _ _ ?_)
  refine WP.seq (fun K10 hK10 => ?_)
  refine WP.seq (fun K11 hK11 => ?_)
  refine WP.region ?_
  obtain ⟨x12, hx13, hm⟩ := bindE hm
  refine WL.call 45 #[.pointer (some ⟨b2, 0, none⟩)] rfl rfl (by kernel_rfl) (c_45 n g_0 b2 0 w3 hx13 (SH.boxRd (SH.front 0 hS9))) ?_
  rintro _ w14 ⟨rfl, hE15⟩
  refine ⟨_, rfl, ?_⟩
  have hb17 : Ext w w14 := Ext.trans hb7 hE15
  have hL18 : w.heap.size ≤ w14.heap.size := Nat.le_trans hL8 hE15.size
  have hS19 : SH w14 w.heap.size [aBox 31 b2 [.string (bs g_0.Name), .int .i64 g_0.OnHand, .int .i64 g_0.Reserved, .int .i64 g_0.Least]] := SH.ext hS9 hE15
  refine WL.runk 1 [1, 4] [(1, .pointer (some ⟨b2, 0, none⟩)), (4, .bool (!x12))] (by kernel_rfl) ?_
  refine WL.nil ?_
  refine WQ.then_normal (hK11 _ _ _ ?_)
  refine WP.cond (!x12) rfl rfl (fun hc20 => ?_) (fun hc20 => ?_)
  · have hm := iteT hm hc20
    refine WP.seq (fun K21 hK21 => ?_)
    refine WP.region ?_
    refine WL.runk 1 [2] [(2, .string (bs []))] (by kernel_rfl) ?_
    refine WL.nil ?_
    refine WQ.then_normal (hK21 _ _ _ ?_)
    refine WP.ret ?_
    refine WQ.then_ret ?_
    obtain rfl := Option.some.inj hm
    exact WQ.ret1 _ rfl rfl ⟨rfl, hb17⟩
  have hm := iteF hm hc20
  refine WP.skip ?_
  refine WQ.then_normal (hK10 _ _ _ ?_)
  refine WP.seq (fun K22 hK22 => ?_)
  refine WP.region ?_
  obtain ⟨x23, hx24, hm⟩ := bindE hm
  refine WL.call 52 #[.pointer (some ⟨b2, 0, none⟩)] rfl rfl (by kernel_rfl) (c_52 n g_0 b2 0 w14 hx24 (SH.boxRd (SH.front 0 hS19))) ?_
  rintro _ w25 ⟨rfl, hE26⟩
  refine ⟨_, rfl, ?_⟩
  have hb28 : Ext w w25 := Ext.trans hb17 hE26
  have hL29 : w.heap.size ≤ w25.heap.size := Nat.le_trans hL18 hE26.size
  have hS30 : SH w25 w.heap.size [aBox 31 b2 [.string (bs g_0.Name), .int .i64 g_0.OnHand, .int .i64 g_0.Reserved, .int .i64 g_0.Least]] := SH.ext hS19 hE26
  refine WL.runk 1 [2] [(2, .string (bs x23))] (by kernel_rfl) ?_
  refine WL.nil ?_
  refine WQ.then_normal (hK22 _ _ _ ?_)
  refine WP.ret ?_
  obtain rfl := Option.some.inj hm
  exact WQ.ret1 _ rfl rfl ⟨rfl, hb28⟩

theorem c_57 (n : Nat) (s1_0 : List SGood) (a0' : Option Addr) (c0' : Nat) (s2_1 : List SGood) (a1' : Option Addr) (c1' : Nat) (w : World) {r : Bool} (hm : m_slices_Equal_impl_Good_impl_Good n s1_0 s2_1 = some r) (h0 : Rd fGood.ty w a0' s1_0) (_hle0 : s1_0.length ≤ c0') (h1 : Rd fGood.ty w a1' s2_1) (_hle1 : s2_1.length ≤ c1') :
    CallV Tryz.prog 57 #[.slice a0' s1_0.length c0', .slice a1' s2_1.length c1'] w (fun v w' => v = .bool r ∧ Ext w w') := by
  unfold m_slices_Equal_impl_Good_impl_Good at hm
  refine CallV.enter Tryz.func57 rfl (by kernel_rfl) Tryz.ntmps57 (env := [(0, .slice a0' s1_0.length c0'), (1, .slice a1' s2_1.length c1')]) ⟨rfl, rfl, trivial⟩ ?_
  refine WP.seq (fun K1 hK1 => ?_)
  refine WP.region ?_
  refine WL.runk 1 [0, 1] [(0, .slice a0' s1_0.length c0'), (1, .slice a1' s2_1.length c1')] (by kernel_rfl) ?_
  refine WL.nil ?_
  refine WQ.then_normal (hK1 _ _ _ ?_)
  refine WP.seq (fun K2 hK2 => ?_)
  refine WP.seq (fun K3 hK3 => ?_)
  refine WP.region ?_
  refine WL.runk 5 [0, 1, 10] [(0, .slice a0' s1_0.length c0'), (1, .slice a1' s2_1.length c1'), (10, .bool ((s1_0.length : Int) != (s2_1.length : Int)))] (by kernel_rfl) ?_
  refine WL.nil ?_
  refine WQ.then_normal (hK3 _ _ _ ?_)
  refine WP.cond ((s1_0.length : Int) != (s2_1.length : Int)) rfl rfl (fun hc4 => ?_) (fun hc4 => ?_)
  · have hm := iteT hm hc4
    refine WP.seq (fun K5 hK5 => ?_)
    refine WP.region ?_
    refine WL.runk 1 [4] [(4, .bool false)] (by kernel_rfl) ?_
    refine WL.nil ?_
    refine WQ.then_normal (hK5 _ _ _ ?_)
    refine WP.ret ?_
    refine WQ.then_ret ?_
    obtain rfl := Option.some.inj hm
    exact WQ.ret1 _ rfl rfl ⟨rfl, (Ext.refl w)⟩
  have hm := iteF hm hc4
  refine WP.skip ?_
  refine WQ.then_normal (hK2 _ _ _ ?_)
  refine WP.seq (fun K6 hK6 => ?_)
  refine WP.seq (fun K7 hK7 => ?_)
  refine WP.region ?_
  refine WL.runk 3 [0, 1, 12, 13] [(0, .slice a0' s1_0.length c0'), (1, .slice a1' s2_1.length c1'), (12, .int .i64 (s1_0.length : Int)), (13, .int .i64 0)] (by kernel_rfl) ?_
  refine WL.nil ?_
  refine WQ.then_normal (hK7 _ _ _ ?_)
  refine WP.block ?_
  obtain ⟨t19, ht20, hm⟩ := bindE hm
  have hmo14 := hm; clear hm
  refine WP.sub [(0, .slice a0' s1_0.length c0'), (1, .slice a1' s2_1.length c1'), (12, .int .i64 (s1_0.length : Int)), (13, .int .i64 0)] ⟨rfl, rfl, rfl, rfl, trivial⟩ ?_
  refine WP.loop (fun n' env' w' => ∃ (st8 : Int) , env' = [(0, .slice a0' s1_0.length c0'), (1, .slice a1' s2_1.length c1'), (12, .int .i64 (s1_0.length : Int)), (13, .int .i64 st8)] ∧ Ext w w' ∧ w.heap.size ≤ w'.heap.size ∧ SH w' w.heap.size [] ∧ loopN (m_slices_Equal_impl_Good_impl_Good_l1 n s1_0 s2_1) n' st8 = some t19) n ⟨0, rfl, (Ext.refl w), (Nat.le_refl _), (SH.nil _ _), ht20⟩ ?_
  rintro n16 _ w9 ⟨st8, rfl, hb10, hL11, hS12, hl13⟩ K15 hK15
  obtain ⟨n17, s18, rfl, hm, hl13⟩ := loopN_some hl13
  unfold m_slices_Equal_impl_Good_impl_Good_l1 at hm
  refine WP.seq (fun K21 hK21 => ?_)
  refine WP.region ?_
  refine WL.runk 1 [0, 1, 12, 13, 14] [(0, .slice a0' s1_0.length c0'), (1, .slice a1' s2_1.length c1'), (12, .int .i64 (s1_0.length : Int)), (13, .int .i64 st8), (14, .bool (decide (st8 < (s1_0.length : Int))))] (by kernel_rfl) ?_
  refine WL.nil ?_
  refine WQ.then_normal (hK21 _ _ _ ?_)
  refine WP.seq (fun K22 hK22 => ?_)
  refine WP.cond (decide (st8 < (s1_0.length : Int))) rfl rfl (fun hc23 => ?_) (fun hc23 => ?_)
  rotate_left
  · have hm := iteF hm hc23
    refine WP.exit ?_
    refine WQ.then_exit ?_
    refine WQ.then_exit ?_
    refine WQ.block_here ?_
    obtain rfl := Option.some.inj hm
    obtain rfl := afterN_done hl13
    have hm := hmo14
    refine WQ.then_normal (hK6 _ _ _ ?_)
    refine WP.seq (fun K38 hK38 => ?_)
    refine WP.region ?_
    refine WL.runk 1 [4] [(4, .bool true)] (by kernel_rfl) ?_
    refine WL.nil ?_
    refine WQ.then_normal (hK38 _ _ _ ?_)
    refine WP.ret ?_
    obtain rfl := Option.some.inj hm
    exact WQ.ret1 _ rfl rfl ⟨rfl, hb10⟩
  have hm := iteT hm hc23
  refine WP.skip ?_
  refine WQ.then_normal (hK22 _ _ _ ?_)
  refine WP.seq (fun K24 hK24 => ?_)
  refine WP.block ?_
  refine WP.seq (fun K25 hK25 => ?_)
  refine WP.region ?_
  refine WL.runk 2 [0, 1, 5, 12, 13] [(0, .slice a0' s1_0.length c0'), (1, .slice a1' s2_1.length c1'), (12, .int .i64 (s1_0.length : Int)), (13, .int .i64 st8), (5, .int .i64 st8)] (by kernel_rfl) ?_
  refine WL.nil ?_
  refine WQ.then_normal (hK25 _ _ _ ?_)
  refine WP.seq (fun K26 hK26 => ?_)
  refine WP.quiet (by kernel_rfl) (by kernel_rfl) ?_
  refine QL.step1v 16 (.slice a0' s1_0.length c0') rfl (fun _ => by kernel_rfl) ?_
  refine QL.step1v 17 (.int .i64 st8) rfl (fun _ => by kernel_rfl) ?_
  refine QL.subk [0, 1, 12, 13, 5, 16, 17] [(0, .slice a0' s1_0.length c0'), (1, .slice a1' s2_1.length c1'), (12, .int .i64 (s1_0.length : Int)), (13, .int .i64 st8), (5, .int .i64 st8), (16, .slice a0' s1_0.length c0'), (17, .int .i64 st8)] (by kernel_rfl) ?_
  obtain ⟨x27, hx28, hm⟩ := bindE hm
  refine QL.st (.pointer (some (at_ a0' (Int.toNat st8 * 4)))) (ST.index (T := fGood.ty) (xs := s1_0) (Rd.below h0 hb10) hx28 rfl rfl rfl Tryz.underlying24 (info31).1 (info31).2.1) rfl rfl rfl ?_
  refine QL.st (.agg #[.string (bs x27.Name), .int .i64 x27.OnHand, .int .i64 x27.Reserved, .int .i64 x27.Least]) (ST.loadAgg (vs := fGood.leaf x27) (fun j v hv => Rd.flatA (F := fGood) (Rd.below h0 hb10) hx28 j hv) rfl rfl rfl Tryz.underlying31 rfl (info31).1 (info31).2.1) rfl rfl rfl ?_
  refine QL.step1v 20 (.slice a1' s2_1.length c1') rfl (fun _ => by kernel_rfl) ?_
  refine QL.step1v 21 (.int .i64 st8) rfl (fun _ => by kernel_rfl) ?_
  refine QL.subk [0, 1, 12, 13, 19, 20, 21] [(0, .slice a0' s1_0.length c0'), (1, .slice a1' s2_1.length c1'), (12, .int .i64 (s1_0.length : Int)), (13, .int .i64 st8), (19, .agg #[.string (bs x27.Name), .int .i64 x27.OnHand, .int .i64 x27.Reserved, .int .i64 x27.Least]), (20, .slice a1' s2_1.length c1'), (21, .int .i64 st8)] (by kernel_rfl) ?_
  obtain ⟨x29, hx30, hm⟩ := bindE hm
  refine QL.st (.pointer (some (at_ a1' (Int.toNat st8 * 4)))) (ST.index (T := fGood.ty) (xs := s2_1) (Rd.below h1 hb10) hx30 rfl rfl rfl Tryz.underlying24 (info31).1 (info31).2.1) rfl rfl rfl ?_
  refine QL.st (.agg #[.string (bs x29.Name), .int .i64 x29.OnHand, .int .i64 x29.Reserved, .int .i64 x29.Least]) (ST.loadAgg (vs := fGood.leaf x29) (fun j v hv => Rd.flatA (F := fGood) (Rd.below h1 hb10) hx30 j hv) rfl rfl rfl Tryz.underlying31 rfl (info31).1 (info31).2.1) rfl rfl rfl ?_
  refine QL.st (.bool (!(decide (x27 = x29)))) (ST.aggne (F := fGood) (x := x27) (y := x29) (eqs_31 x27 x29) (by kernel_rfl) rfl rfl rfl) rfl rfl rfl ?_
  refine QL.subk [0, 1, 12, 13, 24] [(0, .slice a0' s1_0.length c0'), (1, .slice a1' s2_1.length c1'), (12, .int .i64 (s1_0.length : Int)), (13, .int .i64 st8), (24, .bool (!(decide (x27 = x29))))] (by kernel_rfl) ?_
  refine QL.nil ?_
  intro w31 hE32
  have hb33 : Ext w w31 := Ext.trans hb10 hE32
  have hL34 : w.heap.size ≤ w31.heap.size := Nat.le_trans hL11 hE32.size
  have hS35 : SH w31 w.heap.size [] := SH.ext hS12 hE32
  refine WQ.then_normal (hK26 _ _ _ ?_)
  refine WP.cond (!(decide (x27 = x29))) rfl rfl (fun hc36 => ?_) (fun hc36 => ?_)
  rotate_left
  · have hm := iteF hm hc36
    refine WP.skip ?_
    refine WQ.block_normal ?_
    refine WQ.then_normal (hK24 _ _ _ ?_)
    refine WP.region ?_
    refine WL.runk 2 [0, 1, 12, 13] [(0, .slice a0' s1_0.length c0'), (1, .slice a1' s2_1.length c1'), (12, .int .i64 (s1_0.length : Int)), (13, .int .i64 (wI64 (st8 + 1)))] (by kernel_rfl) ?_
    refine WL.nil ?_
    obtain rfl := Option.some.inj hm
    exact WQ.round hK15 ⟨(wI64 (st8 + 1)), rfl, hb33, hL34, hS35, hl13⟩ (Nat.lt_succ_self _) ⟨rfl, rfl, rfl, rfl, trivial⟩
  have hm := iteT hm hc36
  refine WP.seq (fun K37 hK37 => ?_)
  refine WP.region ?_
  refine WL.runk 1 [4] [(4, .bool false)] (by kernel_rfl) ?_
  refine WL.nil ?_
  refine WQ.then_normal (hK37 _ _ _ ?_)
  refine WP.ret ?_
  refine WQ.block_ret ?_
  refine WQ.then_ret ?_
  refine WQ.then_ret ?_
  refine WQ.block_ret ?_
  refine WQ.then_ret ?_
  obtain rfl := Option.some.inj hm
  obtain rfl := afterN_done hl13
  have hm := hmo14
  obtain rfl := Option.some.inj hm
  exact WQ.ret1 _ rfl rfl ⟨rfl, hb33⟩

theorem c_22 (n : Nat) (a_0 : List SGood) (a0' : Option Addr) (c0' : Nat) (b_1 : List SGood) (a1' : Option Addr) (c1' : Nat) (w : World) {r : Bool} (hm : m_impl_SameGoods n a_0 b_1 = some r) (h0 : Rd fGood.ty w a0' a_0) (hle0 : a_0.length ≤ c0') (h1 : Rd fGood.ty w a1' b_1) (hle1 : b_1.length ≤ c1') :
    CallV Tryz.prog 22 #[.slice a0' a_0.length c0', .slice a1' b_1.length c1'] w (fun v w' => v = .bool r ∧ Ext w w') := by
  unfold m_impl_SameGoods at hm
  refine CallV.enter Tryz.func22 rfl (by kernel_rfl) Tryz.ntmps22 (env := [(0, .slice a0' a_0.length c0'), (1, .slice a1' b_1.length c1')]) ⟨rfl, rfl, trivial⟩ ?_
  refine WP.seq (fun K1 hK1 => ?_)
  refine WP.region ?_
  refine WL.runk 1 [0, 1] [(0, .slice a0' a_0.length c0'), (1, .slice a1' b_1.length c1')] (by kernel_rfl) ?_
  refine WL.nil ?_
  refine WQ.then_normal (hK1 _ _ _ ?_)
  refine WP.seq (fun K2 hK2 => ?_)
  refine WP.region ?_
  refine WL.runk 2 [5, 6] [(5, .slice a0' a_0.length c0'), (6, .slice a1' b_1.length c1')] (by kernel_rfl) ?_
  obtain ⟨x3, hx4, hm⟩ := bindE hm
  refine WL.call 57 #[.slice a0' a_0.length c0', .slice a1' b_1.length c1'] rfl rfl (by kernel_rfl) (c_57 n a_0 a0' c0' b_1 a1' c1' w hx4 (Rd.below h0 (Ext.refl w)) hle0 (Rd.below h1 (Ext.refl w)) hle1) ?_
  rintro _ w5 ⟨rfl, hE6⟩
  refine ⟨_, rfl, ?_⟩
  have hb8 : Ext w w5 := Ext.trans (Ext.refl w) hE6
  have hL9 : w.heap.size ≤ w5.heap.size := Nat.le_trans (Nat.le_refl _) hE6.size
  have hS10 : SH w5 w.heap.size [] := SH.ext (SH.nil _ _) hE6
  refine WL.runk 1 [4] [(4, .bool x3)] (by kernel_rfl) ?_
  refine WL.nil ?_
  refine WQ.then_normal (hK2 _ _ _ ?_)
  refine WP.ret ?_
  obtain rfl := Option.some.inj hm
  exact WQ.ret1 _ rfl rfl ⟨rfl, hb8⟩

theorem c_24 (n : Nat) (list_0 : List SGood) (a0' : Option Addr) (c0' : Nat) (w : World) {r : Bool} (hm : m_spec_ValidGoods n list_0 = some r) (h0 : Rd fGood.ty w a0' list_0) (hle0 : list_0.length ≤ c0') :
    CallV Tryz.prog 24 #[.slice a0' list_0.length c0'] w (fun v w' => v = .bool r ∧ Ext w w') := by
  unfold m_spec_ValidGoods at hm
  refine CallV.enter Tryz.func24 rfl (by kernel_rfl) Tryz.ntmps24 (env := [(0, .slice a0' list_0.length c0')]) ⟨rfl, trivial⟩ ?_
  refine WP.seq (fun K1 hK1 => ?_)
  refine WP.region ?_
  refine WL.runk 1 [0] [(0, .slice a0' list_0.length c0')] (by kernel_rfl) ?_
  refine WL.nil ?_
  refine WQ.then_normal (hK1 _ _ _ ?_)
  refine WP.seq (fun K2 hK2 => ?_)
  refine WP.region ?_
  refine WL.runk 1 [3] [(3, .slice a0' list_0.length c0')] (by kernel_rfl) ?_
  obtain ⟨x3, hx4, hm⟩ := bindE hm
  refine WL.call 44 #[.slice a0' list_0.length c0'] rfl rfl (by kernel_rfl) (c_44 n list_0 a0' c0' w hx4 (Rd.below h0 (Ext.refl w)) hle0) ?_
  rintro _ w5 ⟨rfl, hE6⟩
  refine ⟨_, rfl, ?_⟩
  have hb8 : Ext w w5 := Ext.trans (Ext.refl w) hE6
  have hL9 : w.heap.size ≤ w5.heap.size := Nat.le_trans (Nat.le_refl _) hE6.size
  have hS10 : SH w5 w.heap.size [] := SH.ext (SH.nil _ _) hE6
  refine WL.runk 1 [2] [(2, .bool x3)] (by kernel_rfl) ?_
  refine WL.nil ?_
  refine WQ.then_normal (hK2 _ _ _ ?_)
  refine WP.ret ?_
  obtain rfl := Option.some.inj hm
  exact WQ.ret1 _ rfl rfl ⟨rfl, hb8⟩

end Go.Proofs.YtkpdicajinionaaGreatDoor
