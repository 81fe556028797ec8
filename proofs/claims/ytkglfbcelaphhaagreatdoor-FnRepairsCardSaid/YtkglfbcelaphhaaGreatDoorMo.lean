/- What each function computes, as a Lean function that may fail. -/
import Derived.Test.YtkglfbcelaphhaaGreatDoorMh
namespace Go.Gv
open Go Go.RowKit

def m_laws_f6big (n : Nat) (code_0 : List Int) : Option (Bool) :=
  some (decide ((code_0.length : Int) > 4096))

def m_spec_l00In (n : Nat) (n_0 : Int) (low_1 : Int) (high_2 : Int) : Option (Bool) :=
  Option.bind (if (decide (n_0 ≥ low_1)) then
  some (decide (n_0 ≤ high_2))
  else
  some false) fun x4 =>
  some x4

def m_spec_l00Rises_l1 (n : Nat) (list_0 : List Int) (low_1 : Int) (high_2 : Int) (st4 : Int) : Option (Step (Int) ((Unit) ⊕ (Bool))) :=
  if (decide (st4 < (list_0.length : Int))) then
  Option.bind (Option.bind (idx list_0 st4) fun x51 =>
  Option.bind (m_spec_l00In n x51 low_1 high_2) fun x53 =>
  if (!x53) then
  some true
  else
  if (decide (st4 > 0)) then
  Option.bind (idx list_0 (wI64 (st4 - 1))) fun x64 =>
  Option.bind (idx list_0 st4) fun x66 =>
  some (decide (x64 ≥ x66))
  else
  some false) fun x49 =>
  if x49 then
  some (.done (.inr false))
  else
  some (.next (wI64 (st4 + 1)))
  else
  some (.done (.inl ()))

def m_spec_l00Rises (n : Nat) (list_0 : List Int) (low_1 : Int) (high_2 : Int) : Option (Bool) :=
  Option.bind (loopN (m_spec_l00Rises_l1 n list_0 low_1 high_2) n 0) fun t15 =>
  match t15 with
  | .inl q85 =>
  some true
  | .inr r =>
  some r

def m_spec_l01Small (n : Nat) (c_0 : Int) : Option (Bool) :=
  Option.bind (if (decide (c_0 ≥ 97)) then
  some (decide (c_0 ≤ 122))
  else
  some false) fun x4 =>
  some x4

def m_spec_l01Digit (n : Nat) (c_0 : Int) : Option (Bool) :=
  Option.bind (if (decide (c_0 ≥ 48)) then
  some (decide (c_0 ≤ 57))
  else
  some false) fun x4 =>
  some x4

def m_spec_IsName_l1 (n : Nat) (s_0 : List UInt8) (st38 : Int) : Option (Step (Int) ((Unit) ⊕ (Bool))) :=
  if (decide (st38 < (s_0.length : Int))) then
  Option.bind (Option.bind (idx s_0 st38) fun x82 =>
  Option.bind (m_spec_l01Small n (x82.toNat : Int)) fun x84 =>
  if (!x84) then
  Option.bind (idx s_0 st38) fun x93 =>
  Option.bind (m_spec_l01Digit n (x93.toNat : Int)) fun x95 =>
  if (!x95) then
  Option.bind (idx s_0 st38) fun x104 =>
  some ((x104.toNat : Int) != 45)
  else
  some false
  else
  some false) fun x80 =>
  if x80 then
  some (.done (.inr false))
  else
  some (.next (wI64 (st38 + 1)))
  else
  some (.done (.inl ()))

def m_spec_IsName (n : Nat) (s_0 : List UInt8) : Option (Bool) :=
  Option.bind (if (s_0 == []) then
  some true
  else
  if (decide ((s_0.length : Int) > 12)) then
  some true
  else
  Option.bind (idx s_0 0) fun x20 =>
  Option.bind (m_spec_l01Small n (x20.toNat : Int)) fun x22 =>
  some (!x22)) fun x16 =>
  if x16 then
  some false
  else
  Option.bind (loopN (m_spec_IsName_l1 n s_0) n 0) fun t49 =>
  match t49 with
  | .inl q113 =>
  some true
  | .inr r =>
  some r

def m_spec_l21Ok_l2 (n : Nat) (list_0 : List SRepair) (st4 : Int) (x22 : SRepair) (st134 : Int) : Option (Step (Int) ((Unit) ⊕ (Bool))) :=
  if (decide (st134 < st4)) then
  Option.bind (idx list_0 st134) fun x152 =>
  if (x152.Name == x22.Name) then
  some (.done (.inr false))
  else
  some (.next (wI64 (st134 + 1)))
  else
  some (.done (.inl ()))

def m_spec_l21Ok_l1 (n : Nat) (list_0 : List SRepair) (st4 : Int) : Option (Step (Int) ((Unit) ⊕ (Bool))) :=
  if (decide (st4 < (list_0.length : Int))) then
  Option.bind (idx list_0 st4) fun x22 =>
  Option.bind (Option.bind (m_spec_IsName n x22.Name) fun x83 =>
  if (!x83) then
  some true
  else
  Option.bind (m_spec_l00Rises n x22.Mends 0 9) fun x92 =>
  if (!x92) then
  some true
  else
  Option.bind (m_spec_l00Rises n x22.First 0 (wI64 (st4 - 1))) fun x101 =>
  if (!x101) then
  some true
  else
  Option.bind (m_spec_l00In n x22.Price 0 100000) fun x110 =>
  if (!x110) then
  some true
  else
  Option.bind (m_spec_l00In n x22.Hours 0 1000) fun x119 =>
  some (!x119)) fun x81 =>
  if x81 then
  some (.done (.inr false))
  else
  Option.bind (loopN (m_spec_l21Ok_l2 n list_0 st4 x22) n 0) fun t145 =>
  match t145 with
  | .inl q172 =>
  some (.next (wI64 (st4 + 1)))
  | .inr r =>
  some (.done (.inr r))
  else
  some (.done (.inl ()))

def m_spec_l21Ok (n : Nat) (list_0 : List SRepair) : Option (Bool) :=
  Option.bind (loopN (m_spec_l21Ok_l1 n list_0) n 0) fun t15 =>
  match t15 with
  | .inl q174 =>
  some (decide ((list_0.length : Int) ≤ 10))
  | .inr r =>
  some r

def m_spec_l21Some (n : Nat) (list_0 : List SRepair) (some_1 : List Int) : Option (Int) :=
  Option.bind (m_spec_l21Ok n list_0) fun x4 =>
  if (!x4) then
  some 1
  else
  Option.bind (m_spec_l00Rises n some_1 0 (wI64 ((list_0.length : Int) - 1))) fun x16 =>
  if (!x16) then
  some 2
  else
  some 0

def m_spec_l00Has_l1 (n : Nat) (list_0 : List Int) (n_1 : Int) (st4 : Int) : Option (Step (Int) ((Unit) ⊕ (Bool))) :=
  if (decide (st4 < (list_0.length : Int))) then
  Option.bind (idx list_0 st4) fun x22 =>
  if (x22 == n_1) then
  some (.done (.inr true))
  else
  some (.next (wI64 (st4 + 1)))
  else
  some (.done (.inl ()))

def m_spec_l00Has (n : Nat) (list_0 : List Int) (n_1 : Int) : Option (Bool) :=
  Option.bind (loopN (m_spec_l00Has_l1 n list_0 n_1) n 0) fun t15 =>
  match t15 with
  | .inl q27 =>
  some false
  | .inr r =>
  some r

def m_spec_l00Own (n : Nat) (list_0 : List Int) : Option (List Int) :=
  Option.bind (app ([] : List Int) list_0) fun x12 =>
  some x12

def m_spec_l00Put_l1 (n : Nat) (list_0 : List Int) (n_1 : Int) (st15 : List Int × Bool × Int) : Option (Step (List Int × Bool × Int) (List Int × Bool)) :=
  if (decide (st15.2.2 < (list_0.length : Int))) then
  Option.bind (if (!st15.2.1) then
  Option.bind (idx list_0 st15.2.2) fun x43 =>
  some (decide (x43 ≥ n_1))
  else
  some false) fun x40 =>
  Option.bind (if x40 then
  Option.bind (idx list_0 st15.2.2) fun x107 =>
  Option.bind (if (decide (x107 > n_1)) then
  Option.bind (app st15.1 ([n_1] : List Int)) fun x142 =>
  some x142
  else
  some st15.1) fun x128 =>
  some (x128, true)
  else
  some (st15.1, st15.2.1)) fun x100 =>
  Option.bind (idx list_0 st15.2.2) fun x159 =>
  Option.bind (app x100.1 ([x159] : List Int)) fun x170 =>
  some (.next (x170, x100.2, (wI64 (st15.2.2 + 1))))
  else
  some (.done (st15.1, st15.2.1))

def m_spec_l00Put (n : Nat) (list_0 : List Int) (n_1 : Int) : Option (List Int) :=
  Option.bind (loopN (m_spec_l00Put_l1 n list_0 n_1) n (([] : List Int), false, 0)) fun q228 =>
  Option.bind (if (!q228.2) then
  Option.bind (app q228.1 ([n_1] : List Int)) fun x267 =>
  some x267
  else
  some q228.1) fun x253 =>
  some x253

def m_spec_l21With_l2 (n : Nat) (list_0 : List SRepair) (st16 : List Int × Int) (st47 : List Int × Int) : Option (Step (List Int × Int) (List Int)) :=
  Option.bind (idx list_0 st16.2) fun x65 =>
  if (decide (st47.2 < (x65.First.length : Int))) then
  Option.bind (idx list_0 st16.2) fun x80 =>
  Option.bind (idx x80.First st47.2) fun x93 =>
  Option.bind (m_spec_l00Put n st47.1 x93) fun x95 =>
  some (.next (x95, (wI64 (st47.2 + 1))))
  else
  some (.done st47.1)

def m_spec_l21With_l3 (n : Nat) (list_0 : List SRepair) (st16 : List Int × Int) (st116 : List Int × Int) : Option (Step (List Int × Int) (List Int)) :=
  Option.bind (idx list_0 st16.2) fun x134 =>
  if (decide (st116.2 < (x134.First.length : Int))) then
  Option.bind (idx list_0 st16.2) fun x149 =>
  Option.bind (idx x149.First st116.2) fun x162 =>
  Option.bind (m_spec_l00Put n st116.1 x162) fun x164 =>
  some (.next (x164, (wI64 (st116.2 + 1))))
  else
  some (.done st116.1)

def m_spec_l21With_l1 (n : Nat) (list_0 : List SRepair) (st16 : List Int × Int) : Option (Step (List Int × Int) (List Int)) :=
  if (decide (st16.2 ≥ 0)) then
  Option.bind (m_spec_l00Has n st16.1 st16.2) fun x37 =>
  Option.bind (if x37 then
  Option.bind (loopN (m_spec_l21With_l3 n list_0 st16) n (st16.1, 0)) fun q175 =>
  some q175
  else
  some st16.1) fun x110 =>
  some (.next (x110, (wI64 (st16.2 - 1))))
  else
  some (.done st16.1)

def m_spec_l21With (n : Nat) (list_0 : List SRepair) (some_1 : List Int) : Option (List Int) :=
  Option.bind (m_spec_l00Own n some_1) fun x3 =>
  Option.bind (loopN (m_spec_l21With_l1 n list_0) n (x3, (wI64 ((list_0.length : Int) - 1)))) fun q184 =>
  some q184

def m_spec_l00From (n : Nat) (code_0 : List Int) : Option ((Int × Int)) :=
  some (0, 0)

def m_spec_l00Src_next (n : Nat) (s_0_code : List Int) (s_0_at_ : Int) (s_0_seed : Int) : Option (Int × Int × Int) :=
  Option.bind (if (decide (s_0_at_ < (s_0_code.length : Int))) then
  Option.bind (idx s_0_code s_0_at_) fun x20 =>
  some (wI64 x20)
  else
  some 0) fun x18 =>
  if (decide ((wI64 (s_0_at_ + 1)) ≤ (s_0_code.length : Int))) then
  some (x18, (wI64 (s_0_at_ + 1)), (IntKind.u64.wrap ((IntKind.u64.wrap ((IntKind.u64.wrap (s_0_seed * 6364136223846793005)) + (IntKind.u64.wrap x18))) + 1442695040888963407)))
  else
  Option.bind (shr .u64 (IntKind.u64.wrap ((IntKind.u64.wrap ((IntKind.u64.wrap (s_0_seed * 6364136223846793005)) + (IntKind.u64.wrap x18))) + 1442695040888963407)) 40) fun x53 =>
  some ((wI64 (iand .u64 x53 255)), (wI64 (s_0_at_ + 1)), (IntKind.u64.wrap ((IntKind.u64.wrap ((IntKind.u64.wrap (s_0_seed * 6364136223846793005)) + (IntKind.u64.wrap x18))) + 1442695040888963407)))

def m_spec_l00Src_pick (n : Nat) (s_0_code : List Int) (s_0_at_ : Int) (s_0_seed : Int) (n_1 : Int) : Option (Int × Int × Int) :=
  if (decide (n_1 ≤ 1)) then
  some (0, s_0_at_, s_0_seed)
  else
  Option.bind (m_spec_l00Src_next n s_0_code s_0_at_ s_0_seed) fun x7 =>
  Option.bind (if (decide (n_1 > 200)) then
  Option.bind (m_spec_l00Src_next n s_0_code x7.2.1 x7.2.2) fun x50 =>
  some ((wI64 ((wI64 (x7.1 * 256)) + x50.1)), x50.2.1, x50.2.2)
  else
  some (x7.1, x7.2.1, x7.2.2)) fun x48 =>
  Option.bind (rem x48.1 n_1) fun x64 =>
  some (x64, x48.2.1, x48.2.2)

def m_spec_l00Src_one (n : Nat) (s_0_code : List Int) (s_0_at_ : Int) (s_0_seed : Int) (n_1 : Int) : Option (Bool × Int × Int) :=
  Option.bind (m_spec_l00Src_pick n s_0_code s_0_at_ s_0_seed n_1) fun x3 =>
  some ((x3.1 == 0), x3.2.1, x3.2.2)

def m_spec_l00Src_among (n : Nat) (s_0_code : List Int) (s_0_at_ : Int) (s_0_seed : Int) (list_1 : List Int) : Option (Int × Int × Int) :=
  Option.bind (m_spec_l00Src_pick n s_0_code s_0_at_ s_0_seed (list_1.length : Int)) fun x3 =>
  Option.bind (idx list_1 x3.1) fun x12 =>
  some (x12, x3.2.1, x3.2.2)

def m_spec_l21Draw_l3 (n : Nat) (s_0_code : List Int) (st34 : List SRepair × Int) (st474 : Int × List Int × Int × Int) : Option (Step (Int × List Int × Int × Int) (List Int × Int × Int)) :=
  if (decide (st474.1 < st34.2)) then
  Option.bind (m_spec_l00Src_one n s_0_code st474.2.2.1 st474.2.2.2 5) fun x495 =>
  Option.bind (if x495.1 then
  Option.bind (app st474.2.1 ([st474.1] : List Int)) fun x590 =>
  some x590
  else
  some st474.2.1) fun x576 =>
  some (.next ((wI64 (st474.1 + 1)), x576, x495.2.1, x495.2.2))
  else
  some (.done (st474.2.1, st474.2.2.1, st474.2.2.2))

def m_spec_l21Draw_l4 (n : Nat) (s_0_code : List Int) (st34 : List SRepair × Int) (st975 : Int × List Int × Int × Int) : Option (Step (Int × List Int × Int × Int) (List Int × Int × Int)) :=
  if (decide (st975.1 < st34.2)) then
  Option.bind (m_spec_l00Src_one n s_0_code st975.2.2.1 st975.2.2.2 5) fun x996 =>
  Option.bind (if x996.1 then
  Option.bind (app st975.2.1 ([st975.1] : List Int)) fun x1091 =>
  some x1091
  else
  some st975.2.1) fun x1077 =>
  some (.next ((wI64 (st975.1 + 1)), x1077, x996.2.1, x996.2.2))
  else
  some (.done (st975.2.1, st975.2.2.1, st975.2.2.2))

def m_spec_l21Draw_l2 (n : Nat) (s_0_code : List Int) (st676 : Int × List Int × Int × Int) : Option (Step (Int × List Int × Int × Int) (List Int × Int × Int)) :=
  if (decide (st676.1 < 5)) then
  Option.bind (m_spec_l00Src_one n s_0_code st676.2.2.1 st676.2.2.2 3) fun x697 =>
  Option.bind (if x697.1 then
  Option.bind (app st676.2.1 ([st676.1] : List Int)) fun x792 =>
  some x792
  else
  some st676.2.1) fun x778 =>
  some (.next ((wI64 (st676.1 + 1)), x778, x697.2.1, x697.2.2))
  else
  some (.done (st676.2.1, st676.2.2.1, st676.2.2.2))

def m_spec_l21Draw_l5 (n : Nat) (s_0_code : List Int) (st34 : List SRepair × Int) (st1346 : Int × List Int × Int × Int) : Option (Step (Int × List Int × Int × Int) (List Int × Int × Int)) :=
  if (decide (st1346.1 < st34.2)) then
  Option.bind (m_spec_l00Src_one n s_0_code st1346.2.2.1 st1346.2.2.2 5) fun x1367 =>
  Option.bind (if x1367.1 then
  Option.bind (app st1346.2.1 ([st1346.1] : List Int)) fun x1462 =>
  some x1462
  else
  some st1346.2.1) fun x1448 =>
  some (.next ((wI64 (st1346.1 + 1)), x1448, x1367.2.1, x1367.2.2))
  else
  some (.done (st1346.2.1, st1346.2.2.1, st1346.2.2.2))

def m_spec_l21Draw_l7 (n : Nat) (s_0_code : List Int) (st1549 : List SRepair × Int × Int × Int) (st1989 : Int × List Int × Int × Int) : Option (Step (Int × List Int × Int × Int) (List Int × Int × Int)) :=
  if (decide (st1989.1 < st1549.2.1)) then
  Option.bind (m_spec_l00Src_one n s_0_code st1989.2.2.1 st1989.2.2.2 5) fun x2010 =>
  Option.bind (if x2010.1 then
  Option.bind (app st1989.2.1 ([st1989.1] : List Int)) fun x2105 =>
  some x2105
  else
  some st1989.2.1) fun x2091 =>
  some (.next ((wI64 (st1989.1 + 1)), x2091, x2010.2.1, x2010.2.2))
  else
  some (.done (st1989.2.1, st1989.2.2.1, st1989.2.2.2))

def m_spec_l21Draw_l8 (n : Nat) (s_0_code : List Int) (st1549 : List SRepair × Int × Int × Int) (st2490 : Int × List Int × Int × Int) : Option (Step (Int × List Int × Int × Int) (List Int × Int × Int)) :=
  if (decide (st2490.1 < st1549.2.1)) then
  Option.bind (m_spec_l00Src_one n s_0_code st2490.2.2.1 st2490.2.2.2 5) fun x2511 =>
  Option.bind (if x2511.1 then
  Option.bind (app st2490.2.1 ([st2490.1] : List Int)) fun x2606 =>
  some x2606
  else
  some st2490.2.1) fun x2592 =>
  some (.next ((wI64 (st2490.1 + 1)), x2592, x2511.2.1, x2511.2.2))
  else
  some (.done (st2490.2.1, st2490.2.2.1, st2490.2.2.2))

def m_spec_l21Draw_l6 (n : Nat) (s_0_code : List Int) (st2191 : Int × List Int × Int × Int) : Option (Step (Int × List Int × Int × Int) (List Int × Int × Int)) :=
  if (decide (st2191.1 < 5)) then
  Option.bind (m_spec_l00Src_one n s_0_code st2191.2.2.1 st2191.2.2.2 3) fun x2212 =>
  Option.bind (if x2212.1 then
  Option.bind (app st2191.2.1 ([st2191.1] : List Int)) fun x2307 =>
  some x2307
  else
  some st2191.2.1) fun x2293 =>
  some (.next ((wI64 (st2191.1 + 1)), x2293, x2212.2.1, x2212.2.2))
  else
  some (.done (st2191.2.1, st2191.2.2.1, st2191.2.2.2))

def m_spec_l21Draw_l9 (n : Nat) (s_0_code : List Int) (st1549 : List SRepair × Int × Int × Int) (st2861 : Int × List Int × Int × Int) : Option (Step (Int × List Int × Int × Int) (List Int × Int × Int)) :=
  if (decide (st2861.1 < st1549.2.1)) then
  Option.bind (m_spec_l00Src_one n s_0_code st2861.2.2.1 st2861.2.2.2 5) fun x2882 =>
  Option.bind (if x2882.1 then
  Option.bind (app st2861.2.1 ([st2861.1] : List Int)) fun x2977 =>
  some x2977
  else
  some st2861.2.1) fun x2963 =>
  some (.next ((wI64 (st2861.1 + 1)), x2963, x2882.2.1, x2882.2.2))
  else
  some (.done (st2861.2.1, st2861.2.2.1, st2861.2.2.2))

def m_spec_l21Draw_l1 (n : Nat) (s_0_code : List Int) (x23 : Int × Int × Int) (st1549 : List SRepair × Int × Int × Int) : Option (Step (List SRepair × Int × Int × Int) (List SRepair × Int × Int)) :=
  if (decide (st1549.2.1 < x23.1)) then
  Option.bind (idx ([[104, 101, 101, 108], [104, 97, 108, 102, 45, 115, 111, 108, 101], [119, 101, 108, 116], [108, 105, 110, 105, 110, 103], [112, 97, 116, 99, 104], [100, 121, 101], [101, 121, 101, 108, 101, 116, 45, 49], [115, 116, 114, 101, 116, 99, 104]] : List (List UInt8)) st1549.2.1) fun x1595 =>
  Option.bind (m_spec_l00Src_pick n s_0_code st1549.2.2.1 st1549.2.2.2 20) fun x1645 =>
  Option.bind (loopN (m_spec_l21Draw_l6 n s_0_code) n (0, ([] : List Int), x1645.2.1, x1645.2.2)) fun q2692 =>
  Option.bind (loopN (m_spec_l21Draw_l9 n s_0_code st1549) n (0, ([] : List Int), q2692.2.1, q2692.2.2)) fun q3027 =>
  Option.bind (m_spec_l00Src_pick n s_0_code q3027.2.1 q3027.2.2 9) fun x3032 =>
  Option.bind (app st1549.1 ([(SRepair.mk x1595 q2692.1 q3027.1 (wI64 (50 * x1645.1)) x3032.1)] : List SRepair)) fun x3054 =>
  some (.next (x3054, (wI64 (st1549.2.1 + 1)), x3032.2.1, x3032.2.2))
  else
  some (.done (st1549.1, st1549.2.2.1, st1549.2.2.2))

def m_spec_l21Draw (n : Nat) (s_0_code : List Int) (s_0_at_ : Int) (s_0_seed : Int) : Option (List SRepair × Int × Int) :=
  Option.bind (m_spec_l00Src_pick n s_0_code s_0_at_ s_0_seed 8) fun x23 =>
  Option.bind (loopN (m_spec_l21Draw_l1 n s_0_code x23) n (([] : List SRepair), 0, x23.2.1, x23.2.2)) fun q3064 =>
  some (q3064.1, q3064.2.1, q3064.2.2)

def m_spec_l00Src_text (n : Nat) (s_0_code : List Int) (s_0_at_ : Int) (s_0_seed : Int) (list_1 : List (List UInt8)) : Option (List UInt8 × Int × Int) :=
  Option.bind (m_spec_l00Src_pick n s_0_code s_0_at_ s_0_seed (list_1.length : Int)) fun x3 =>
  Option.bind (idx list_1 x3.1) fun x12 =>
  some (x12, x3.2.1, x3.2.2)

def m_spec_l00Src_text_o1 (n : Nat) (s_0_code : List Int) (s_0_at_ : Int) (s_0_seed : Int) (list_1 : List (List UInt8)) : Option (List UInt8 × Int × Int) :=
  Option.bind (m_spec_l00Src_pick n s_0_code s_0_at_ s_0_seed (list_1.length : Int)) fun x3 =>
  Option.bind (idx list_1 x3.1) fun x12 =>
  some (x12, x3.2.1, x3.2.2)

def m_spec_l00Src_among_o1 (n : Nat) (s_0_code : List Int) (s_0_at_ : Int) (s_0_seed : Int) (list_1 : List Int) : Option (Int × Int × Int) :=
  Option.bind (m_spec_l00Src_pick n s_0_code s_0_at_ s_0_seed (list_1.length : Int)) fun x3 =>
  Option.bind (idx list_1 x3.1) fun x12 =>
  some (x12, x3.2.1, x3.2.2)

def m_spec_l21Bent_l1 (n : Nat)  (st48 : List SRepair × Int) : Option (Step (List SRepair × Int) (List SRepair)) :=
  if (decide (st48.2 > 0)) then
  Option.bind (app [114] (ofBytes ([(IntKind.u8.wrap (wI64 (97 + (st48.1.length : Int))))] : List Int))) fun x77 =>
  Option.bind (app st48.1 ([(SRepair.mk x77 ([(wI64 (st48.2 - 1))] : List Int) ([] : List Int) st48.2 0)] : List SRepair)) fun x98 =>
  some (.next (x98, (wI64 (st48.2 - 1))))
  else
  some (.done st48.1)

def m_spec_l21Bent (n : Nat) (s_0_code : List Int) (s_0_at_ : Int) (s_0_seed : Int) : Option (List SRepair × Int × Int) :=
  Option.bind (m_spec_l21Draw n s_0_code s_0_at_ s_0_seed) fun x3 =>
  Option.bind (m_spec_l00Src_one n s_0_code x3.2.1 x3.2.2 30) fun x17 =>
  if x17.1 then
  Option.bind (m_spec_l00Src_pick n s_0_code x17.2.1 x17.2.2 2) fun x39 =>
  Option.bind (loopN (m_spec_l21Bent_l1 n) n (([] : List SRepair), (wI64 (10 + x39.1)))) fun q108 =>
  some (q108, x39.2.1, x39.2.2)
  else
  if ((x3.1.length : Int) == 0) then
  some (x3.1, x17.2.1, x17.2.2)
  else
  Option.bind (m_spec_l00Src_pick n s_0_code x17.2.1 x17.2.2 (x3.1.length : Int)) fun x118 =>
  Option.bind (idx x3.1 x118.1) fun x127 =>
  Option.bind (m_spec_l00Src_pick n s_0_code x118.2.1 x118.2.2 24) fun x138 =>
  Option.bind (if (x138.1 == 0) then
  Option.bind (m_spec_l00Src_text_o1 n s_0_code x138.2.1 x138.2.2 ([[], [72, 101, 101, 108], [104, 101, 101, 108]] : List (List UInt8))) fun x33492 =>
  some ((x3.1.set (Int.toNat x118.1) (SRepair.mk x33492.1 x127.Mends x127.First x127.Price x127.Hours)), x33492.2.1, x33492.2.2)
  else
  Option.bind (if (x138.1 == 1) then
  Option.bind (m_spec_l00Src_among_o1 n s_0_code x138.2.1 x138.2.2 ([(-1), 9, 10] : List Int)) fun x41884 =>
  Option.bind (app x127.Mends ([x41884.1] : List Int)) fun x41914 =>
  some ((x3.1.set (Int.toNat x118.1) (SRepair.mk x127.Name x41914 x127.First x127.Price x127.Hours)), x41884.2.1, x41884.2.2)
  else
  Option.bind (if (x138.1 == 2) then
  Option.bind (m_spec_l00Src_among_o1 n s_0_code x138.2.1 x138.2.2 ([(-1), 6, 7] : List Int)) fun x43988 =>
  Option.bind (app x127.First ([x43988.1] : List Int)) fun x44018 =>
  some ((x3.1.set (Int.toNat x118.1) (SRepair.mk x127.Name x127.Mends x44018 x127.Price x127.Hours)), x43988.2.1, x43988.2.2)
  else
  Option.bind (if (x138.1 == 3) then
  Option.bind (m_spec_l00Src_among_o1 n s_0_code x138.2.1 x138.2.2 ([(-1), 0, 100000, 100001, (-9223372036854775808)] : List Int)) fun x44456 =>
  some ((x3.1.set (Int.toNat x118.1) (SRepair.mk x127.Name x127.Mends x127.First x44456.1 x127.Hours)), x44456.2.1, x44456.2.2)
  else
  Option.bind (if (x138.1 == 4) then
  Option.bind (m_spec_l00Src_among_o1 n s_0_code x138.2.1 x138.2.2 ([(-1), 0, 1000, 1001] : List Int)) fun x44561 =>
  some ((x3.1.set (Int.toNat x118.1) (SRepair.mk x127.Name x127.Mends x127.First x127.Price x44561.1)), x44561.2.1, x44561.2.2)
  else
  some ((x3.1.set (Int.toNat x118.1) x127), x138.2.1, x138.2.2)) fun x44550 =>
  some (x44550.1, x44550.2.1, x44550.2.2)) fun x44445 =>
  some (x44445.1, x44445.2.1, x44445.2.2)) fun x43922 =>
  some (x43922.1, x43922.2.1, x43922.2.2)) fun x41818 =>
  some (x41818.1, x41818.2.1, x41818.2.2)) fun x33481 =>
  some (x33481.1, x33481.2.1, x33481.2.2)

def m_spec_l21DrawFaults_l1 (n : Nat) (s_0_code : List Int) (st261 : List Int × Int × Int × Int) : Option (Step (List Int × Int × Int × Int) (List Int × Int × Int)) :=
  if (decide (st261.2.1 < 5)) then
  Option.bind (m_spec_l00Src_one n s_0_code st261.2.2.1 st261.2.2.2 3) fun x282 =>
  Option.bind (if x282.1 then
  Option.bind (app st261.1 ([st261.2.1] : List Int)) fun x324 =>
  some x324
  else
  some st261.1) fun x310 =>
  some (.next (x310, (wI64 (st261.2.1 + 1)), x282.2.1, x282.2.2))
  else
  some (.done (st261.1, st261.2.2.1, st261.2.2.2))

def m_spec_l21DrawFaults (n : Nat) (s_0_code : List Int) (s_0_at_ : Int) (s_0_seed : Int) : Option (List Int × Int × Int) :=
  Option.bind (loopN (m_spec_l21DrawFaults_l1 n s_0_code) n (([] : List Int), 0, s_0_at_, s_0_seed)) fun q508 =>
  Option.bind (m_spec_l00Src_one n s_0_code q508.2.1 q508.2.2 12) fun x514 =>
  Option.bind (if x514.1 then
  Option.bind (m_spec_l00Src_among_o1 n s_0_code x514.2.1 x514.2.2 ([(-1), 4, 9, 10] : List Int)) fun x651 =>
  Option.bind (app q508.1 ([x651.1] : List Int)) fun x669 =>
  some (x669, x651.2.1, x651.2.2)
  else
  some (q508.1, x514.2.1, x514.2.2)) fun x637 =>
  some (x637.1, x637.2.1, x637.2.2)

def m_spec_l21DrawSome_l1 (n : Nat) (code_0 : List Int) (x14 : List SRepair × Int × Int) (st412 : List Int × Int × Int × Int) : Option (Step (List Int × Int × Int × Int) (List Int × Int × Int)) :=
  if (decide (st412.2.1 < (x14.1.length : Int))) then
  Option.bind (m_spec_l00Src_one n code_0 st412.2.2.1 st412.2.2.2 3) fun x433 =>
  Option.bind (if (!x433.1) then
  Option.bind (app st412.1 ([st412.2.1] : List Int)) fun x475 =>
  some x475
  else
  some st412.1) fun x461 =>
  some (.next (x461, (wI64 (st412.2.1 + 1)), x433.2.1, x433.2.2))
  else
  some (.done (st412.1, st412.2.2.1, st412.2.2.2))

def m_spec_l21DrawSome (n : Nat) (code_0 : List Int) : Option (List SRepair × List Int × List Int) :=
  Option.bind (m_spec_l00From n code_0) fun x3 =>
  Option.bind (m_spec_l21Bent n code_0 x3.1 x3.2) fun x14 =>
  Option.bind (m_spec_l21DrawFaults n code_0 x14.2.1 x14.2.2) fun x27 =>
  Option.bind (loopN (m_spec_l21DrawSome_l1 n code_0 x14) n (([] : List Int), 0, x27.2.1, x27.2.2)) fun q773 =>
  Option.bind (Option.bind (m_spec_l21Some n x14.1 q773.1) fun x837 =>
  if (x837 == 0) then
  Option.bind (m_spec_l00Src_one n code_0 q773.2.1 q773.2.2 4) fun x846 =>
  some ((!x846.1), x846.2.1, x846.2.2)
  else
  some (false, q773.2.1, q773.2.2)) fun x835 =>
  Option.bind (if x835.1 then
  Option.bind (m_spec_l21With n x14.1 q773.1) fun x876 =>
  some x876
  else
  some q773.1) fun x871 =>
  Option.bind (m_spec_l00Src_one n code_0 x835.2.1 x835.2.2 16) fun x893 =>
  Option.bind (if x893.1 then
  Option.bind (m_spec_l00Src_among_o1 n code_0 x893.2.1 x893.2.2 ([(-1), 0, (x14.1.length : Int)] : List Int)) fun x1030 =>
  Option.bind (app x871 ([x1030.1] : List Int)) fun x1048 =>
  some (x1048, x1030.2.1, x1030.2.2)
  else
  some (x871, x893.2.1, x893.2.2)) fun x1016 =>
  some (x14.1, x1016.1, x27.1)

def m_spec_l21Only (n : Nat) (code_0 : List Int) : Option (List SRepair × List Int) :=
  Option.bind (m_spec_l21DrawSome n code_0) fun x3 =>
  some (x3.1, x3.2.1)

def m_spec_DrawWithFirst (n : Nat) (code_0 : List Int) : Option (List SRepair × List Int) :=
  Option.bind (m_spec_l21Only n code_0) fun x3 =>
  some (x3.1, x3.2)

def m_impl_within (n : Nat) (n_0 : Int) (low_1 : Int) (high_2 : Int) : Option (Bool) :=
  Option.bind (if (decide (n_0 ≥ low_1)) then
  some (decide (n_0 ≤ high_2))
  else
  some false) fun x4 =>
  some x4

def m_impl_IsName_l1 (n : Nat) (s_0 : List UInt8) (st28 : Int) : Option (Step (Int) ((Unit) ⊕ (Bool))) :=
  if (decide (st28 < (s_0.length : Int))) then
  Option.bind (Option.bind (idx s_0 st28) fun x74 =>
  if (decide ((x74.toNat : Int) < 97)) then
  Option.bind (idx s_0 st28) fun x77 =>
  if (decide ((x77.toNat : Int) < 48)) then
  Option.bind (idx s_0 st28) fun x80 =>
  some ((x80.toNat : Int) != 45)
  else
  Option.bind (idx s_0 st28) fun x82 =>
  if (decide ((x82.toNat : Int) > 57)) then
  Option.bind (idx s_0 st28) fun x85 =>
  some ((x85.toNat : Int) != 45)
  else
  some false
  else
  Option.bind (idx s_0 st28) fun x87 =>
  if (decide ((x87.toNat : Int) > 122)) then
  Option.bind (idx s_0 st28) fun x90 =>
  if (decide ((x90.toNat : Int) < 48)) then
  Option.bind (idx s_0 st28) fun x93 =>
  some ((x93.toNat : Int) != 45)
  else
  Option.bind (idx s_0 st28) fun x95 =>
  if (decide ((x95.toNat : Int) > 57)) then
  Option.bind (idx s_0 st28) fun x98 =>
  some ((x98.toNat : Int) != 45)
  else
  some false
  else
  some false) fun x72 =>
  if x72 then
  some (.done (.inr false))
  else
  some (.next (wI64 (st28 + 1)))
  else
  some (.done (.inl ()))

def m_impl_IsName (n : Nat) (s_0 : List UInt8) : Option (Bool) :=
  Option.bind (if (decide ((s_0.length : Int) < 1)) then
  some true
  else
  if (decide ((s_0.length : Int) > 12)) then
  some true
  else
  Option.bind (idx s_0 0) fun x15 =>
  if (decide ((x15.toNat : Int) < 97)) then
  some true
  else
  Option.bind (idx s_0 0) fun x18 =>
  some (decide ((x18.toNat : Int) > 122))) fun x11 =>
  if x11 then
  some false
  else
  Option.bind (loopN (m_impl_IsName_l1 n s_0) n 1) fun t39 =>
  match t39 with
  | .inl q107 =>
  some true
  | .inr r =>
  some r

def m_impl_isIncreasing_l1 (n : Nat) (list_0 : List Int) (low_1 : Int) (high_2 : Int) (st4 : Int) : Option (Step (Int) ((Unit) ⊕ (Bool))) :=
  if (decide (st4 < (list_0.length : Int))) then
  Option.bind (idx list_0 st4) fun x22 =>
  Option.bind (Option.bind (m_impl_within n x22 low_1 high_2) fun x39 =>
  if (!x39) then
  some true
  else
  if (decide (st4 > 0)) then
  Option.bind (idx list_0 (wI64 (st4 - 1))) fun x49 =>
  some (decide (x49 ≥ x22))
  else
  some false) fun x37 =>
  if x37 then
  some (.done (.inr false))
  else
  some (.next (wI64 (st4 + 1)))
  else
  some (.done (.inl ()))

def m_impl_isIncreasing (n : Nat) (list_0 : List Int) (low_1 : Int) (high_2 : Int) : Option (Bool) :=
  Option.bind (loopN (m_impl_isIncreasing_l1 n list_0 low_1 high_2) n 0) fun t15 =>
  match t15 with
  | .inl q58 =>
  some true
  | .inr r =>
  some r

def m_impl_areFaults (n : Nat) (faults_0 : List Int) : Option (Bool) :=
  Option.bind (m_impl_isIncreasing n faults_0 0 9) fun x3 =>
  some x3

def m_impl_ValidRepairs_1 (n : Nat) (o_0 : SRepair) (cap_1 : SRepair) : Option (Bool) :=
  some (o_0.Name == cap_1.Name)

def m_slices_IndexFunc_impl_Repair_impl_Repair_f67_l1 (n : Nat) (s_0 : List SRepair) (cap_1_0 : SRepair) (st4 : Int) : Option (Step (Int) ((Unit) ⊕ (Int))) :=
  if (decide (st4 < (s_0.length : Int))) then
  Option.bind (idx s_0 st4) fun x23 =>
  Option.bind (m_impl_ValidRepairs_1 n x23 cap_1_0) fun x36 =>
  if x36 then
  some (.done (.inr st4))
  else
  some (.next (wI64 (st4 + 1)))
  else
  some (.done (.inl ()))

def m_slices_IndexFunc_impl_Repair_impl_Repair_f67 (n : Nat) (s_0 : List SRepair) (cap_1_0 : SRepair) : Option (Int) :=
  Option.bind (loopN (m_slices_IndexFunc_impl_Repair_impl_Repair_f67_l1 n s_0 cap_1_0) n 0) fun t15 =>
  match t15 with
  | .inl q47 =>
  some (-1)
  | .inr r =>
  some r

def m_slices_ContainsFunc_impl_Repair_impl_Repair_f67 (n : Nat) (s_0 : List SRepair) (cap_1_0 : SRepair) : Option (Bool) :=
  Option.bind (m_slices_IndexFunc_impl_Repair_impl_Repair_f67 n s_0 cap_1_0) fun x3 =>
  some (decide (x3 ≥ 0))

def m_impl_ValidRepairs_l1 (n : Nat) (list_0 : List SRepair) (st4 : Int) : Option (Step (Int) ((Unit) ⊕ (Bool))) :=
  if (decide (st4 < (list_0.length : Int))) then
  Option.bind (idx list_0 st4) fun x22 =>
  Option.bind (Option.bind (m_impl_IsName n x22.Name) fun x112 =>
  if (!x112) then
  some true
  else
  Option.bind (m_impl_areFaults n x22.Mends) fun x121 =>
  if (!x121) then
  some true
  else
  Option.bind (m_impl_isIncreasing n x22.First 0 (wI64 (st4 - 1))) fun x130 =>
  if (!x130) then
  some true
  else
  Option.bind (m_impl_within n x22.Price 0 100000) fun x139 =>
  if (!x139) then
  some true
  else
  Option.bind (m_impl_within n x22.Hours 0 1000) fun x148 =>
  if (!x148) then
  some true
  else
  Option.bind (sub list_0 0 st4) fun x157 =>
  Option.bind (m_slices_ContainsFunc_impl_Repair_impl_Repair_f67 n x157 x22) fun x165 =>
  some x165) fun x110 =>
  if x110 then
  some (.done (.inr false))
  else
  some (.next (wI64 (st4 + 1)))
  else
  some (.done (.inl ()))

def m_impl_ValidRepairs (n : Nat) (list_0 : List SRepair) : Option (Bool) :=
  Option.bind (loopN (m_impl_ValidRepairs_l1 n list_0) n 0) fun t15 =>
  match t15 with
  | .inl q180 =>
  some (decide ((list_0.length : Int) ≤ 10))
  | .inr r =>
  some r

def m_impl_someCode (n : Nat) (list_0 : List SRepair) (some_1 : List Int) (faults_2 : List Int) : Option (Int) :=
  Option.bind (m_impl_ValidRepairs n list_0) fun x4 =>
  if (!x4) then
  some 1
  else
  Option.bind (Option.bind (m_impl_isIncreasing n some_1 0 (wI64 ((list_0.length : Int) - 1))) fun x34 =>
  if (!x34) then
  some true
  else
  Option.bind (m_impl_areFaults n faults_2) fun x43 =>
  some (!x43)) fun x32 =>
  if x32 then
  some 2
  else
  some 0

def m_impl_has (n : Nat) (set_0 : Int) (k_1 : Int) : Option (Bool) :=
  Option.bind (shr .i64 set_0 (IntKind.u64.wrap k_1)) fun x3 =>
  some ((iand .i64 x3 1) == 1)

def m_slices_Reverse_int64_int64_l1 (n : Nat)  (st49 : Int × Int × List Int) : Option (Step (Int × Int × List Int) (List Int)) :=
  if (decide (st49.1 < st49.2.1)) then
  Option.bind (idx st49.2.2 st49.2.1) fun x72 =>
  Option.bind (idx st49.2.2 st49.1) fun x74 =>
  Option.bind (idx st49.2.2 st49.1) fun x76 =>
  Option.bind (idx (st49.2.2.set (Int.toNat st49.1) x72) st49.2.1) fun x89 =>
  some (.next ((wI64 (st49.1 + 1)), (wI64 (st49.2.1 - 1)), ((st49.2.2.set (Int.toNat st49.1) x72).set (Int.toNat st49.2.1) x74)))
  else
  some (.done st49.2.2)

def m_slices_Reverse_int64_int64 (n : Nat) (s_0 : List Int) : Option (List Int) :=
  Option.bind (loopN (m_slices_Reverse_int64_int64_l1 n) n (0, (wI64 ((s_0.length : Int) - 1)), s_0)) fun q97 =>
  some q97

def m_impl_WithFirst_l3 (n : Nat) (x105 : SRepair) (st118 : Int × Int) : Option (Step (Int × Int) (Int)) :=
  if (decide (st118.2 < (x105.First.length : Int))) then
  Option.bind (idx x105.First st118.2) fun x136 =>
  Option.bind (shl .i64 1 (IntKind.u64.wrap x136)) fun x138 =>
  some (.next ((ior .i64 st118.1 x138), (wI64 (st118.2 + 1))))
  else
  some (.done st118.1)

def m_impl_WithFirst_l2 (n : Nat) (list_0 : List SRepair) (st54 : Int × List Int × Int) : Option (Step (Int × List Int × Int) (List Int)) :=
  if (decide (st54.2.2 ≥ 0)) then
  Option.bind (m_impl_has n st54.1 st54.2.2) fun x76 =>
  if (!x76) then
  some (.next (st54.1, st54.2.1, (wI64 (st54.2.2 - 1))))
  else
  Option.bind (app st54.2.1 ([st54.2.2] : List Int)) fun x95 =>
  Option.bind (idx list_0 st54.2.2) fun x105 =>
  Option.bind (loopN (m_impl_WithFirst_l3 n x105) n (st54.1, 0)) fun q140 =>
  some (.next (q140, x95, (wI64 (st54.2.2 - 1))))
  else
  some (.done st54.2.1)

def m_impl_WithFirst_l1 (n : Nat) (some_1 : List Int) (st20 : Int × Int) : Option (Step (Int × Int) (Int)) :=
  if (decide (st20.2 < (some_1.length : Int))) then
  Option.bind (idx some_1 st20.2) fun x38 =>
  Option.bind (shl .i64 1 (IntKind.u64.wrap x38)) fun x40 =>
  some (.next ((ior .i64 st20.1 x40), (wI64 (st20.2 + 1))))
  else
  some (.done st20.1)

def m_impl_WithFirst_l5 (n : Nat) (x233 : SRepair) (st246 : Int × Int) : Option (Step (Int × Int) (Int)) :=
  if (decide (st246.2 < (x233.First.length : Int))) then
  Option.bind (idx x233.First st246.2) fun x264 =>
  Option.bind (shl .i64 1 (IntKind.u64.wrap x264)) fun x266 =>
  some (.next ((ior .i64 st246.1 x266), (wI64 (st246.2 + 1))))
  else
  some (.done st246.1)

def m_impl_WithFirst_l4 (n : Nat) (list_0 : List SRepair) (st182 : Int × List Int × Int) : Option (Step (Int × List Int × Int) (List Int)) :=
  if (decide (st182.2.2 ≥ 0)) then
  Option.bind (m_impl_has n st182.1 st182.2.2) fun x204 =>
  if (!x204) then
  some (.next (st182.1, st182.2.1, (wI64 (st182.2.2 - 1))))
  else
  Option.bind (app st182.2.1 ([st182.2.2] : List Int)) fun x223 =>
  Option.bind (idx list_0 st182.2.2) fun x233 =>
  Option.bind (loopN (m_impl_WithFirst_l5 n x233) n (st182.1, 0)) fun q268 =>
  some (.next (q268, x223, (wI64 (st182.2.2 - 1))))
  else
  some (.done st182.2.1)

def m_impl_WithFirst (n : Nat) (list_0 : List SRepair) (some_1 : List Int) : Option (List Int × Int) :=
  Option.bind (m_impl_someCode n list_0 some_1 ([] : List Int)) fun x4 =>
  if (x4 != 0) then
  some (([] : List Int), x4)
  else
  Option.bind (loopN (m_impl_WithFirst_l1 n some_1) n (0, 0)) fun q169 =>
  Option.bind (loopN (m_impl_WithFirst_l4 n list_0) n (q169, ([] : List Int), (wI64 ((list_0.length : Int) - 1)))) fun q281 =>
  Option.bind (m_slices_Reverse_int64_int64 n q281) fun x286 =>
  some (x286, 0)

def m_spec_WithFirst (n : Nat) (list_0 : List SRepair) (some_1 : List Int) : Option (List Int × Int) :=
  Option.bind (m_spec_l21Some n list_0 some_1) fun x3 =>
  if (x3 != 0) then
  some (([] : List Int), x3)
  else
  Option.bind (m_spec_l21With n list_0 some_1) fun x18 =>
  some (x18, 0)

def m_impl_priceOf_l1 (n : Nat) (list_0 : List SRepair) (some_1 : List Int) (st5 : Int × Int) : Option (Step (Int × Int) (Int)) :=
  if (decide (st5.2 < (some_1.length : Int))) then
  Option.bind (idx some_1 st5.2) fun x23 =>
  Option.bind (idx list_0 x23) fun x25 =>
  some (.next ((wI64 (st5.1 + x25.Price)), (wI64 (st5.2 + 1))))
  else
  some (.done st5.1)

def m_impl_priceOf (n : Nat) (list_0 : List SRepair) (some_1 : List Int) : Option (Int) :=
  Option.bind (loopN (m_impl_priceOf_l1 n list_0 some_1) n (0, 0)) fun q39 =>
  some q39

def m_impl_PriceOfRepairs (n : Nat) (list_0 : List SRepair) (some_1 : List Int) : Option (Int × Int) :=
  Option.bind (m_impl_someCode n list_0 some_1 ([] : List Int)) fun x4 =>
  if (x4 != 0) then
  some (0, x4)
  else
  Option.bind (m_impl_priceOf n list_0 some_1) fun x16 =>
  some (x16, 0)

def m_spec_l21Price_l1 (n : Nat) (list_0 : List SRepair) (some_1 : List Int) (st5 : Int × Int) : Option (Step (Int × Int) (Int)) :=
  if (decide (st5.2 < (some_1.length : Int))) then
  Option.bind (idx some_1 st5.2) fun x22 =>
  Option.bind (idx list_0 x22) fun x24 =>
  some (.next ((wI64 (st5.1 + x24.Price)), (wI64 (st5.2 + 1))))
  else
  some (.done st5.1)

def m_spec_l21Price (n : Nat) (list_0 : List SRepair) (some_1 : List Int) : Option (Int) :=
  Option.bind (loopN (m_spec_l21Price_l1 n list_0 some_1) n (0, 0)) fun q38 =>
  some q38

def m_spec_PriceOfRepairs (n : Nat) (list_0 : List SRepair) (some_1 : List Int) : Option (Int × Int) :=
  Option.bind (m_spec_l21Some n list_0 some_1) fun x3 =>
  if (x3 != 0) then
  some (0, x3)
  else
  Option.bind (m_spec_l21Price n list_0 some_1) fun x16 =>
  some (x16, 0)

def m_impl_HoursOfRepairs_l1 (n : Nat) (list_0 : List SRepair) (some_1 : List Int) (st18 : Int × Int) : Option (Step (Int × Int) (Int)) :=
  if (decide (st18.2 < (some_1.length : Int))) then
  Option.bind (idx some_1 st18.2) fun x36 =>
  Option.bind (idx list_0 x36) fun x38 =>
  some (.next ((wI64 (st18.1 + x38.Hours)), (wI64 (st18.2 + 1))))
  else
  some (.done st18.1)

def m_impl_HoursOfRepairs (n : Nat) (list_0 : List SRepair) (some_1 : List Int) : Option (Int × Int) :=
  Option.bind (m_impl_someCode n list_0 some_1 ([] : List Int)) fun x4 =>
  if (x4 != 0) then
  some (0, x4)
  else
  Option.bind (loopN (m_impl_HoursOfRepairs_l1 n list_0 some_1) n (0, 0)) fun q52 =>
  some (q52, 0)

def m_spec_HoursOfRepairs_l1 (n : Nat) (list_0 : List SRepair) (some_1 : List Int) (st18 : Int × Int) : Option (Step (Int × Int) (Int)) :=
  if (decide (st18.2 < (some_1.length : Int))) then
  Option.bind (idx some_1 st18.2) fun x35 =>
  Option.bind (idx list_0 x35) fun x37 =>
  some (.next ((wI64 (st18.1 + x37.Hours)), (wI64 (st18.2 + 1))))
  else
  some (.done st18.1)

def m_spec_HoursOfRepairs (n : Nat) (list_0 : List SRepair) (some_1 : List Int) : Option (Int × Int) :=
  Option.bind (m_spec_l21Some n list_0 some_1) fun x3 =>
  if (x3 != 0) then
  some (0, x3)
  else
  Option.bind (loopN (m_spec_HoursOfRepairs_l1 n list_0 some_1) n (0, 0)) fun q51 =>
  some (q51, 0)

def m_spec_l21Two (n : Nat) (code_0 : List Int) : Option (List SRepair × List Int) :=
  Option.bind (m_spec_l21DrawSome n code_0) fun x3 =>
  some (x3.1, x3.2.2)

def m_spec_DrawHopelessFaults (n : Nat) (code_0 : List Int) : Option (List SRepair × List Int) :=
  Option.bind (m_spec_l21Two n code_0) fun x3 =>
  some (x3.1, x3.2)

def m_slices_Clone_int64_int64 (n : Nat) (s_0 : List Int) : Option (List Int) :=
    Option.bind (app ([] : List Int) s_0) fun x18 =>
    some x18

def m_slices_Index_int64_int64_l1 (n : Nat) (s_0 : List Int) (v_1 : Int) (st4 : Int) : Option (Step (Int) ((Unit) ⊕ (Int))) :=
  if (decide (st4 < (s_0.length : Int))) then
  Option.bind (idx s_0 st4) fun x23 =>
  if (v_1 == x23) then
  some (.done (.inr st4))
  else
  some (.next (wI64 (st4 + 1)))
  else
  some (.done (.inl ()))

def m_slices_Index_int64_int64 (n : Nat) (s_0 : List Int) (v_1 : Int) : Option (Int) :=
  Option.bind (loopN (m_slices_Index_int64_int64_l1 n s_0 v_1) n 0) fun t15 =>
  match t15 with
  | .inl q28 =>
  some (-1)
  | .inr r =>
  some r

def m_slices_Contains_int64_int64 (n : Nat) (s_0 : List Int) (v_1 : Int) : Option (Bool) :=
  Option.bind (m_slices_Index_int64_int64 n s_0 v_1) fun x3 =>
  some (decide (x3 ≥ 0))

def m_impl_HopelessFaults_1_1 (n : Nat) (r_0 : SRepair) (cap_1 : Int) : Option (Bool) :=
  Option.bind (m_slices_Contains_int64_int64 n r_0.Mends cap_1) fun x11 =>
  some x11

def m_slices_IndexFunc_impl_Repair_impl_Repair_f42_l1 (n : Nat) (s_0 : List SRepair) (cap_1_0 : Int) (st4 : Int) : Option (Step (Int) ((Unit) ⊕ (Int))) :=
  if (decide (st4 < (s_0.length : Int))) then
  Option.bind (idx s_0 st4) fun x23 =>
  Option.bind (m_impl_HopelessFaults_1_1 n x23 cap_1_0) fun x36 =>
  if x36 then
  some (.done (.inr st4))
  else
  some (.next (wI64 (st4 + 1)))
  else
  some (.done (.inl ()))

def m_slices_IndexFunc_impl_Repair_impl_Repair_f42 (n : Nat) (s_0 : List SRepair) (cap_1_0 : Int) : Option (Int) :=
  Option.bind (loopN (m_slices_IndexFunc_impl_Repair_impl_Repair_f42_l1 n s_0 cap_1_0) n 0) fun t15 =>
  match t15 with
  | .inl q47 =>
  some (-1)
  | .inr r =>
  some r

def m_slices_ContainsFunc_impl_Repair_impl_Repair_f42 (n : Nat) (s_0 : List SRepair) (cap_1_0 : Int) : Option (Bool) :=
  Option.bind (m_slices_IndexFunc_impl_Repair_impl_Repair_f42 n s_0 cap_1_0) fun x3 =>
  some (decide (x3 ≥ 0))

def m_impl_HopelessFaults_1 (n : Nat) (fault_0 : Int) (cap_1 : List SRepair) : Option (Bool) :=
  Option.bind (m_slices_ContainsFunc_impl_Repair_impl_Repair_f42 n cap_1 fault_0) fun x11 =>
  some x11

def m_slices_IndexFunc_int64_int64_f40_l1 (n : Nat) (s_0 : List Int) (cap_1_0 : List SRepair) (st4 : Int) : Option (Step (Int) ((Unit) ⊕ (Int))) :=
  if (decide (st4 < (s_0.length : Int))) then
  Option.bind (idx s_0 st4) fun x23 =>
  Option.bind (m_impl_HopelessFaults_1 n x23 cap_1_0) fun x25 =>
  if x25 then
  some (.done (.inr st4))
  else
  some (.next (wI64 (st4 + 1)))
  else
  some (.done (.inl ()))

def m_slices_IndexFunc_int64_int64_f40 (n : Nat) (s_0 : List Int) (cap_1_0 : List SRepair) : Option (Int) :=
  Option.bind (loopN (m_slices_IndexFunc_int64_int64_f40_l1 n s_0 cap_1_0) n 0) fun t15 =>
  match t15 with
  | .inl q36 =>
  some (-1)
  | .inr r =>
  some r

def m_slices_DeleteFunc_int64_int64_f40_o1_l1 (n : Nat) (cap_1_0 : List SRepair) (st101 : Int × Int × List Int) : Option (Step (Int × Int × List Int) (Int × List Int)) :=
  if (decide (st101.2.1 < (st101.2.2.length : Int))) then
  Option.bind (idx st101.2.2 st101.2.1) fun x119 =>
  Option.bind (m_impl_HopelessFaults_1 n x119 cap_1_0) fun x122 =>
  Option.bind (if (!x122) then
  Option.bind (idx st101.2.2 st101.1) fun x160 =>
  some ((wI64 (st101.1 + 1)), (st101.2.2.set (Int.toNat st101.1) x119))
  else
  some (st101.1, st101.2.2)) fun x157 =>
  some (.next (x157.1, (wI64 (st101.2.1 + 1)), x157.2))
  else
  some (.done (st101.1, st101.2.2))

def m_slices_DeleteFunc_int64_int64_f40_o1 (n : Nat) (s_0 : List Int) (cap_1_0 : List SRepair) : Option (List Int) :=
  Option.bind (m_slices_IndexFunc_int64_int64_f40 n s_0 cap_1_0) fun x3 =>
  if (x3 == (-1)) then
  some s_0
  else
  Option.bind (loopN (m_slices_DeleteFunc_int64_int64_f40_o1_l1 n cap_1_0) n (x3, (wI64 (x3 + 1)), s_0)) fun q185 =>
  Option.bind (sub q185.2 q185.1 (q185.2.length : Int)) fun x187 =>
  Option.bind (sub (q185.2.take (Int.toNat q185.1) ++ List.replicate (q185.2.length - Int.toNat q185.1) 0) 0 q185.1) fun x197 =>
  some x197

def m_impl_HopelessFaults (n : Nat) (list_0 : List SRepair) (faults_1 : List Int) : Option (List Int × Int) :=
  Option.bind (m_impl_someCode n list_0 ([] : List Int) faults_1) fun x12 =>
  if (x12 != 0) then
  some (([] : List Int), x12)
  else
  Option.bind (m_slices_Clone_int64_int64 n faults_1) fun x26 =>
  Option.bind (m_slices_DeleteFunc_int64_int64_f40_o1 n x26 list_0) fun x37 =>
  some (x37, 0)

def m_spec_l21Faults (n : Nat) (list_0 : List SRepair) (some_1 : List Int) (faults_2 : List Int) : Option (Int) :=
  Option.bind (m_spec_l21Some n list_0 some_1) fun x3 =>
  Option.bind (if (x3 == 0) then
  Option.bind (m_spec_l00Rises n faults_2 0 9) fun x25 =>
  some (!x25)
  else
  some false) fun x22 =>
  Option.bind (if x22 then
  some 2
  else
  some x3) fun x38 =>
  some x38

def m_spec_l21Mended_l1 (n : Nat) (list_0 : List SRepair) (some_1 : List Int) (fault_2 : Int) (st4 : Int) : Option (Step (Int) ((Unit) ⊕ (Bool))) :=
  if (decide (st4 < (some_1.length : Int))) then
  Option.bind (idx some_1 st4) fun x22 =>
  Option.bind (idx list_0 x22) fun x24 =>
  Option.bind (m_spec_l00Has n x24.Mends fault_2) fun x37 =>
  if x37 then
  some (.done (.inr true))
  else
  some (.next (wI64 (st4 + 1)))
  else
  some (.done (.inl ()))

def m_spec_l21Mended (n : Nat) (list_0 : List SRepair) (some_1 : List Int) (fault_2 : Int) : Option (Bool) :=
  Option.bind (loopN (m_spec_l21Mended_l1 n list_0 some_1 fault_2) n 0) fun t15 =>
  match t15 with
  | .inl q48 =>
  some false
  | .inr r =>
  some r

def m_spec_HopelessFaults_l2 (n : Nat) (list_0 : List SRepair) (faults_1 : List Int) (st38 : List Int × Int) (st88 : List Int × Int) : Option (Step (List Int × Int) (List Int)) :=
  if (decide (st88.2 < (faults_1.length : Int))) then
  Option.bind (idx faults_1 st88.2) fun x109 =>
  Option.bind (m_spec_l21Mended n list_0 st38.1 x109) fun x111 =>
  Option.bind (if (!x111) then
  Option.bind (idx faults_1 st88.2) fun x145 =>
  Option.bind (app st88.1 ([x145] : List Int)) fun x156 =>
  some x156
  else
  some st88.1) fun x140 =>
  some (.next (x140, (wI64 (st88.2 + 1))))
  else
  some (.done st88.1)

def m_spec_HopelessFaults_l1 (n : Nat) (list_0 : List SRepair) (st38 : List Int × Int) : Option (Step (List Int × Int) (List Int)) :=
  if (decide (st38.2 < (list_0.length : Int))) then
  Option.bind (app st38.1 ([st38.2] : List Int)) fun x67 =>
  some (.next (x67, (wI64 (st38.2 + 1))))
  else
  some (.done st38.1)

def m_spec_HopelessFaults_l3 (n : Nat) (list_0 : List SRepair) (faults_1 : List Int) (q175 : List Int) (st191 : List Int × Int) : Option (Step (List Int × Int) (List Int)) :=
  if (decide (st191.2 < (faults_1.length : Int))) then
  Option.bind (idx faults_1 st191.2) fun x212 =>
  Option.bind (m_spec_l21Mended n list_0 q175 x212) fun x214 =>
  Option.bind (if (!x214) then
  Option.bind (idx faults_1 st191.2) fun x248 =>
  Option.bind (app st191.1 ([x248] : List Int)) fun x259 =>
  some x259
  else
  some st191.1) fun x243 =>
  some (.next (x243, (wI64 (st191.2 + 1))))
  else
  some (.done st191.1)

def m_spec_HopelessFaults (n : Nat) (list_0 : List SRepair) (faults_1 : List Int) : Option (List Int × Int) :=
  Option.bind (m_spec_l21Faults n list_0 ([] : List Int) faults_1) fun x12 =>
  if (x12 != 0) then
  some (([] : List Int), x12)
  else
  Option.bind (loopN (m_spec_HopelessFaults_l1 n list_0) n (([] : List Int), 0)) fun q175 =>
  Option.bind (loopN (m_spec_HopelessFaults_l3 n list_0 faults_1 q175) n (([] : List Int), 0)) fun q273 =>
  some (q273, 0)

def m_spec_DrawRepairsFor (n : Nat) (code_0 : List Int) : Option (List SRepair × Int) :=
  Option.bind (m_spec_l00From n code_0) fun x3 =>
  Option.bind (m_spec_l21Bent n code_0 x3.1 x3.2) fun x14 =>
  Option.bind (m_spec_l00Src_one n code_0 x14.2.1 x14.2.2 8) fun x28 =>
  if x28.1 then
  Option.bind (m_spec_l00Src_among_o1 n code_0 x28.2.1 x28.2.2 ([(-1), 0, 9, 10] : List Int)) fun x48 =>
  some (x14.1, x48.1)
  else
  Option.bind (m_spec_l00Src_pick n code_0 x28.2.1 x28.2.2 6) fun x58 =>
  some (x14.1, x58.1)

def m_impl_RepairsFor_l1 (n : Nat) (list_0 : List SRepair) (fault_1 : Int) (st41 : List Int × Int) : Option (Step (List Int × Int) (List Int)) :=
  if (decide (st41.2 < (list_0.length : Int))) then
  Option.bind (idx list_0 st41.2) fun x62 =>
  Option.bind (m_slices_Contains_int64_int64 n x62.Mends fault_1) fun x89 =>
  Option.bind (if x89 then
  Option.bind (app st41.1 ([st41.2] : List Int)) fun x130 =>
  some x130
  else
  some st41.1) fun x116 =>
  some (.next (x116, (wI64 (st41.2 + 1))))
  else
  some (.done st41.1)

def m_impl_RepairsFor (n : Nat) (list_0 : List SRepair) (fault_1 : Int) : Option (List Int × Int) :=
  Option.bind (m_impl_ValidRepairs n list_0) fun x4 =>
  if (!x4) then
  some (([] : List Int), 1)
  else
  Option.bind (m_impl_within n fault_1 0 9) fun x17 =>
  if (!x17) then
  some (([] : List Int), 2)
  else
  Option.bind (loopN (m_impl_RepairsFor_l1 n list_0 fault_1) n (([] : List Int), 0)) fun q144 =>
  some (q144, 0)

def m_spec_RepairsFor_l1 (n : Nat) (list_0 : List SRepair) (fault_1 : Int) (st42 : List Int × Int) : Option (Step (List Int × Int) (List Int)) :=
  if (decide (st42.2 < (list_0.length : Int))) then
  Option.bind (idx list_0 st42.2) fun x63 =>
  Option.bind (m_spec_l00Has n x63.Mends fault_1) fun x76 =>
  Option.bind (if x76 then
  Option.bind (app st42.1 ([st42.2] : List Int)) fun x117 =>
  some x117
  else
  some st42.1) fun x103 =>
  some (.next (x103, (wI64 (st42.2 + 1))))
  else
  some (.done st42.1)

def m_spec_RepairsFor (n : Nat) (list_0 : List SRepair) (fault_1 : Int) : Option (List Int × Int) :=
  Option.bind (m_spec_l21Ok n list_0) fun x4 =>
  if (!x4) then
  some (([] : List Int), 1)
  else
  Option.bind (m_spec_l00In n fault_1 0 9) fun x18 =>
  if (!x18) then
  some (([] : List Int), 2)
  else
  Option.bind (loopN (m_spec_RepairsFor_l1 n list_0 fault_1) n (([] : List Int), 0)) fun q131 =>
  some (q131, 0)

def m_spec_DrawSameRepairs_l1 (n : Nat)  (st2103 : List SRepair × Int × List SRepair) : Option (Step (List SRepair × Int × List SRepair) (List SRepair × List SRepair)) :=
  if (decide (st2103.2.1 < (st2103.2.2.length : Int))) then
  Option.bind (idx st2103.2.2 st2103.2.1) fun x2129 =>
  Option.bind (m_spec_l00Own n x2129.Mends) fun x2211 =>
  Option.bind (m_spec_l00Own n x2129.First) fun x2258 =>
  Option.bind (app st2103.1 ([(SRepair.mk x2129.Name x2211 x2258 x2129.Price x2129.Hours)] : List SRepair)) fun x2356 =>
  some (.next (x2356, (wI64 (st2103.2.1 + 1)), (st2103.2.2.set (Int.toNat st2103.2.1) x2129)))
  else
  some (.done (st2103.1, st2103.2.2))

def m_spec_DrawSameRepairs (n : Nat) (code_0 : List Int) : Option (List SRepair × List SRepair) :=
  Option.bind (m_spec_l00From n code_0) fun x3 =>
  Option.bind (m_spec_l21Draw n code_0 x3.1 x3.2) fun x14 =>
  Option.bind (loopN (m_spec_DrawSameRepairs_l1 n) n (([] : List SRepair), 0, x14.1)) fun q4168 =>
  Option.bind (if (decide ((q4168.1.length : Int) > 0)) then
  Option.bind (m_spec_l00Src_pick n code_0 x14.2.1 x14.2.2 5) fun x5476 =>
  Option.bind (if (x5476.1 == 0) then
  Option.bind (idx q4168.1 0) fun x5800 =>
  Option.bind (app x5800.Mends ([9] : List Int)) fun x5818 =>
  some (q4168.1.set (Int.toNat 0) (SRepair.mk x5800.Name x5818 x5800.First x5800.Price x5800.Hours))
  else
  Option.bind (if (x5476.1 == 1) then
  Option.bind (idx q4168.1 0) fun x5884 =>
  some (q4168.1.set (Int.toNat 0) (SRepair.mk x5884.Name x5884.Mends x5884.First x5884.Price (wI64 (x5884.Hours + 1))))
  else
  some q4168.1) fun x5882 =>
  some x5882) fun x5798 =>
  some (x5798, x5476.2.1, x5476.2.2)
  else
  some (q4168.1, x14.2.1, x14.2.2)) fun x5473 =>
  Option.bind (m_spec_l00Src_one n code_0 x5473.2.1 x5473.2.2 5) fun x5913 =>
  Option.bind (if x5913.1 then
  Option.bind (app x5473.1 ([(SRepair.mk [] ([] : List Int) ([] : List Int) 0 0)] : List SRepair)) fun x5961 =>
  some x5961
  else
  some x5473.1) fun x5944 =>
  some (q4168.2, x5944)

def m_spec_DrawRepairText (n : Nat) (code_0 : List Int) : Option (List SRepair × Int) :=
  Option.bind (m_spec_l00From n code_0) fun x3 =>
  Option.bind (m_spec_l21Bent n code_0 x3.1 x3.2) fun x14 =>
  Option.bind (m_spec_l00Src_pick n code_0 x14.2.1 x14.2.2 (wI64 ((x14.1.length : Int) + 1))) fun x27 =>
  Option.bind (m_spec_l00Src_pick n code_0 x27.2.1 x27.2.2 16) fun x36 =>
  some (x14.1, (wI64 (x27.1 - (wI64 (Int.tdiv x36.1 15)))))

def m_laws_f6ints_l1 (n : Nat) (a_0 : List Int) (b_1 : List Int) (st8 : Int) : Option (Step (Int) ((Unit) ⊕ (Bool))) :=
  if (decide (st8 < (a_0.length : Int))) then
  Option.bind (idx a_0 st8) fun x26 =>
  Option.bind (idx b_1 st8) fun x28 =>
  if (x26 != x28) then
  some (.done (.inr false))
  else
  some (.next (wI64 (st8 + 1)))
  else
  some (.done (.inl ()))

def m_laws_f6ints (n : Nat) (a_0 : List Int) (b_1 : List Int) : Option (Bool) :=
  if ((a_0.length : Int) != (b_1.length : Int)) then
  some false
  else
  Option.bind (loopN (m_laws_f6ints_l1 n a_0 b_1) n 0) fun t19 =>
  match t19 with
  | .inl q38 =>
  some true
  | .inr r =>
  some r

def m_slices_Equal_int64_int64_l1 (n : Nat) (s1_0 : List Int) (s2_1 : List Int) (st8 : Int) : Option (Step (Int) ((Unit) ⊕ (Bool))) :=
  if (decide (st8 < (s1_0.length : Int))) then
  Option.bind (idx s1_0 st8) fun x27 =>
  Option.bind (idx s2_1 st8) fun x29 =>
  if (x27 != x29) then
  some (.done (.inr false))
  else
  some (.next (wI64 (st8 + 1)))
  else
  some (.done (.inl ()))

def m_slices_Equal_int64_int64 (n : Nat) (s1_0 : List Int) (s2_1 : List Int) : Option (Bool) :=
  if ((s1_0.length : Int) != (s2_1.length : Int)) then
  some false
  else
  Option.bind (loopN (m_slices_Equal_int64_int64_l1 n s1_0 s2_1) n 0) fun t19 =>
  match t19 with
  | .inl q39 =>
  some true
  | .inr r =>
  some r

def m_impl_SameRepairs_1 (n : Nat) (x_0 : SRepair) (y_1 : SRepair) : Option (Bool) :=
  Option.bind (if (x_0.Name == y_1.Name) then
  if (x_0.Price == y_1.Price) then
  if (x_0.Hours == y_1.Hours) then
  Option.bind (m_slices_Equal_int64_int64 n x_0.Mends y_1.Mends) fun x44 =>
  if x44 then
  Option.bind (m_slices_Equal_int64_int64 n x_0.First y_1.First) fun x53 =>
  some x53
  else
  some false
  else
  some false
  else
  some false
  else
  some false) fun x39 =>
  some x39

def m_slices_EqualFunc_impl_Repair_impl_Repair_impl_Repair_impl_Repair_f58_l1 (n : Nat) (s1_0 : List SRepair) (s2_1 : List SRepair) (st8 : Int) : Option (Step (Int) ((Unit) ⊕ (Bool))) :=
  if (decide (st8 < (s1_0.length : Int))) then
  Option.bind (idx s1_0 st8) fun x26 =>
  Option.bind (idx s2_1 st8) fun x53 =>
  Option.bind (m_impl_SameRepairs_1 n x26 x53) fun x80 =>
  if (!x80) then
  some (.done (.inr false))
  else
  some (.next (wI64 (st8 + 1)))
  else
  some (.done (.inl ()))

def m_slices_EqualFunc_impl_Repair_impl_Repair_impl_Repair_impl_Repair_f58 (n : Nat) (s1_0 : List SRepair) (s2_1 : List SRepair) : Option (Bool) :=
  if ((s1_0.length : Int) != (s2_1.length : Int)) then
  some false
  else
  Option.bind (loopN (m_slices_EqualFunc_impl_Repair_impl_Repair_impl_Repair_impl_Repair_f58_l1 n s1_0 s2_1) n 0) fun t19 =>
  match t19 with
  | .inl q91 =>
  some true
  | .inr r =>
  some r

def m_impl_SameRepairs (n : Nat) (a_0 : List SRepair) (b_1 : List SRepair) : Option (Bool) :=
  Option.bind (m_slices_EqualFunc_impl_Repair_impl_Repair_impl_Repair_impl_Repair_f58 n a_0 b_1) fun x3 =>
  some x3

def m_spec_l00Same_l1 (n : Nat) (a_0 : List Int) (b_1 : List Int) (st8 : Int) : Option (Step (Int) ((Unit) ⊕ (Bool))) :=
  if (decide (st8 < (a_0.length : Int))) then
  Option.bind (idx a_0 st8) fun x26 =>
  Option.bind (idx b_1 st8) fun x28 =>
  if (x26 != x28) then
  some (.done (.inr false))
  else
  some (.next (wI64 (st8 + 1)))
  else
  some (.done (.inl ()))

def m_spec_l00Same (n : Nat) (a_0 : List Int) (b_1 : List Int) : Option (Bool) :=
  if ((a_0.length : Int) != (b_1.length : Int)) then
  some false
  else
  Option.bind (loopN (m_spec_l00Same_l1 n a_0 b_1) n 0) fun t19 =>
  match t19 with
  | .inl q38 =>
  some true
  | .inr r =>
  some r

def m_spec_SameRepairs_l1 (n : Nat) (a_0 : List SRepair) (b_1 : List SRepair) (st8 : Int) : Option (Step (Int) ((Unit) ⊕ (Bool))) :=
  if (decide (st8 < (a_0.length : Int))) then
  Option.bind (Option.bind (idx a_0 st8) fun x195 =>
  Option.bind (idx b_1 st8) fun x208 =>
  if (!(x195.Name == x208.Name)) then
  some true
  else
  Option.bind (idx a_0 st8) fun x227 =>
  Option.bind (idx b_1 st8) fun x240 =>
  Option.bind (m_spec_l00Same n x227.Mends x240.Mends) fun x253 =>
  if (!x253) then
  some true
  else
  Option.bind (idx a_0 st8) fun x263 =>
  Option.bind (idx b_1 st8) fun x276 =>
  Option.bind (m_spec_l00Same n x263.First x276.First) fun x289 =>
  if (!x289) then
  some true
  else
  Option.bind (idx a_0 st8) fun x299 =>
  Option.bind (idx b_1 st8) fun x312 =>
  if (x299.Price != x312.Price) then
  some true
  else
  Option.bind (idx a_0 st8) fun x331 =>
  Option.bind (idx b_1 st8) fun x344 =>
  some (x331.Hours != x344.Hours)) fun x193 =>
  if x193 then
  some (.done (.inr false))
  else
  some (.next (wI64 (st8 + 1)))
  else
  some (.done (.inl ()))

def m_spec_SameRepairs (n : Nat) (a_0 : List SRepair) (b_1 : List SRepair) : Option (Bool) :=
  if ((a_0.length : Int) != (b_1.length : Int)) then
  some false
  else
  Option.bind (loopN (m_spec_SameRepairs_l1 n a_0 b_1) n 0) fun t19 =>
  match t19 with
  | .inl q369 =>
  some true
  | .inr r =>
  some r

def m_impl_Decimal (n : Nat) (n_0 : Int) : Option (List UInt8) :=
  Option.bind (m_strconv_FormatInt n n_0 10) fun x3 =>
  some x3

def m_impl_RepairText_l1 (n : Nat) (list_0 : List SRepair) (x47 : SRepair) (st84 : List (List UInt8) × Int) : Option (Step (List (List UInt8) × Int) (List (List UInt8))) :=
  if (decide (st84.2 < (x47.First.length : Int))) then
  Option.bind (idx x47.First st84.2) fun x105 =>
  Option.bind (idx list_0 x105) fun x107 =>
  Option.bind (app st84.1 ([x107.Name] : List (List UInt8))) fun x129 =>
  some (.next (x129, (wI64 (st84.2 + 1))))
  else
  some (.done st84.1)

def m_impl_RepairText (n : Nat) (list_0 : List SRepair) (k_1 : Int) : Option (List UInt8) :=
  Option.bind (Option.bind (m_impl_ValidRepairs n list_0) fun x23 =>
  if (!x23) then
  some true
  else
  Option.bind (m_impl_within n k_1 0 (wI64 ((list_0.length : Int) - 1))) fun x32 =>
  some (!x32)) fun x21 =>
  if x21 then
  some []
  else
  Option.bind (idx list_0 k_1) fun x47 =>
  Option.bind (loopN (m_impl_RepairText_l1 n list_0 x47) n (([] : List (List UInt8)), 0)) fun q194 =>
  Option.bind (app x47.Name [32, 112, 114, 105, 99, 101, 32]) fun x199 =>
  Option.bind (m_impl_Decimal n x47.Price) fun x201 =>
  Option.bind (app x199 x201) fun x205 =>
  Option.bind (app x205 [32, 104, 111, 117, 114, 115, 32]) fun x207 =>
  Option.bind (m_impl_Decimal n x47.Hours) fun x209 =>
  Option.bind (app x207 x209) fun x213 =>
  Option.bind (if (decide ((q194.length : Int) > 0)) then
  Option.bind (m_strings_Join n q194 [44]) fun x237 =>
  Option.bind (app [32, 97, 102, 116, 101, 114, 32] x237) fun x245 =>
  Option.bind (app x213 x245) fun x247 =>
  some x247
  else
  some x213) fun x235 =>
  some x235

def m_spec_l01Dec_l1 (n : Nat)  (st14 : List Int × Int) : Option (Step (List Int × Int) (List Int)) :=
  if (st14.2 != 0) then
  Option.bind (if (decide ((Int.tmod st14.2 10) < 0)) then
  some (wI64 (0 - (Int.tmod st14.2 10)))
  else
  some (Int.tmod st14.2 10)) fun x38 =>
  Option.bind (app ([(IntKind.u8.wrap (wI64 (48 + x38)))] : List Int) st14.1) fun x53 =>
  some (.next (x53, (wI64 (Int.tdiv st14.2 10))))
  else
  some (.done st14.1)

def m_spec_l01Dec (n : Nat) (n_0 : Int) : Option (List UInt8) :=
  Option.bind (loopN (m_spec_l01Dec_l1 n) n (([] : List Int), n_0)) fun q73 =>
  if ((q73.length : Int) == 0) then
  some [48]
  else
  if (decide (n_0 < 0)) then
  Option.bind (app [45] (ofBytes q73)) fun x85 =>
  some x85
  else
  some (ofBytes q73)

def m_spec_RepairText_l1 (n : Nat) (list_0 : List SRepair) (x47 : SRepair) (st84 : List UInt8 × Int) : Option (Step (List UInt8 × Int) (List UInt8)) :=
  if (decide (st84.2 < (x47.First.length : Int))) then
  Option.bind (if (st84.2 == 0) then
  Option.bind (app st84.1 [32, 97, 102, 116, 101, 114, 32]) fun x110 =>
  some x110
  else
  Option.bind (app st84.1 [44]) fun x112 =>
  some x112) fun x108 =>
  Option.bind (idx x47.First st84.2) fun x118 =>
  Option.bind (idx list_0 x118) fun x120 =>
  Option.bind (app x108 x120.Name) fun x133 =>
  some (.next (x133, (wI64 (st84.2 + 1))))
  else
  some (.done st84.1)

def m_spec_RepairText (n : Nat) (list_0 : List SRepair) (k_1 : Int) : Option (List UInt8) :=
  Option.bind (Option.bind (m_spec_l21Ok n list_0) fun x23 =>
  if (!x23) then
  some true
  else
  Option.bind (m_spec_l00In n k_1 0 (wI64 ((list_0.length : Int) - 1))) fun x32 =>
  some (!x32)) fun x21 =>
  if x21 then
  some []
  else
  Option.bind (idx list_0 k_1) fun x47 =>
  Option.bind (app x47.Name [32, 112, 114, 105, 99, 101, 32]) fun x61 =>
  Option.bind (m_spec_l01Dec n x47.Price) fun x63 =>
  Option.bind (app x61 x63) fun x67 =>
  Option.bind (app x67 [32, 104, 111, 117, 114, 115, 32]) fun x69 =>
  Option.bind (m_spec_l01Dec n x47.Hours) fun x71 =>
  Option.bind (app x69 x71) fun x75 =>
  Option.bind (loopN (m_spec_RepairText_l1 n list_0 x47) n (x75, 0)) fun q136 =>
  some q136

def m_spec_ValidRepairs (n : Nat) (list_0 : List SRepair) : Option (Bool) :=
  Option.bind (m_spec_l21Ok n list_0) fun x3 =>
  some x3

def m_laws_f6has_l1 (n : Nat) (list_0 : List Int) (n_1 : Int) (st4 : Int) : Option (Step (Int) ((Unit) ⊕ (Bool))) :=
  if (decide (st4 < (list_0.length : Int))) then
  Option.bind (idx list_0 st4) fun x22 =>
  if (x22 == n_1) then
  some (.done (.inr true))
  else
  some (.next (wI64 (st4 + 1)))
  else
  some (.done (.inl ()))

def m_laws_f6has (n : Nat) (list_0 : List Int) (n_1 : Int) : Option (Bool) :=
  Option.bind (loopN (m_laws_f6has_l1 n list_0 n_1) n 0) fun t15 =>
  match t15 with
  | .inl q27 =>
  some false
  | .inr r =>
  some r

def m_impl_mendsAll_1 (n : Nat) (before_0 : Int) (cap_1 : List Int) : Option (Bool) :=
  Option.bind (m_slices_Contains_int64_int64 n cap_1 before_0) fun x3 =>
  some (!x3)

def m_impl_mendsAll_2_1 (n : Nat) (k_0 : Int) (cap_1 : List SRepair) (cap_2 : Int) : Option (Bool) :=
  Option.bind (idx cap_1 k_0) fun x3 =>
  Option.bind (m_slices_Contains_int64_int64 n x3.Mends cap_2) fun x16 =>
  some x16

def m_slices_IndexFunc_int64_int64_f85_l1 (n : Nat) (s_0 : List Int) (cap_1_0 : List SRepair) (cap_1_1 : Int) (st4 : Int) : Option (Step (Int) ((Unit) ⊕ (Int))) :=
  if (decide (st4 < (s_0.length : Int))) then
  Option.bind (idx s_0 st4) fun x23 =>
  Option.bind (m_impl_mendsAll_2_1 n x23 cap_1_0 cap_1_1) fun x25 =>
  if x25 then
  some (.done (.inr st4))
  else
  some (.next (wI64 (st4 + 1)))
  else
  some (.done (.inl ()))

def m_slices_IndexFunc_int64_int64_f85 (n : Nat) (s_0 : List Int) (cap_1_0 : List SRepair) (cap_1_1 : Int) : Option (Int) :=
  Option.bind (loopN (m_slices_IndexFunc_int64_int64_f85_l1 n s_0 cap_1_0 cap_1_1) n 0) fun t15 =>
  match t15 with
  | .inl q36 =>
  some (-1)
  | .inr r =>
  some r

def m_slices_ContainsFunc_int64_int64_f85 (n : Nat) (s_0 : List Int) (cap_1_0 : List SRepair) (cap_1_1 : Int) : Option (Bool) :=
  Option.bind (m_slices_IndexFunc_int64_int64_f85 n s_0 cap_1_0 cap_1_1) fun x3 =>
  some (decide (x3 ≥ 0))

def m_impl_mendsAll_2 (n : Nat) (fault_0 : Int) (cap_1 : List Int) (cap_2 : List SRepair) : Option (Bool) :=
  Option.bind (m_slices_ContainsFunc_int64_int64_f85 n cap_1 cap_2 fault_0) fun x11 =>
  some (!x11)

def m_slices_IndexFunc_int64_int64_f83_l1 (n : Nat) (s_0 : List Int) (cap_1_0 : List Int) (st4 : Int) : Option (Step (Int) ((Unit) ⊕ (Int))) :=
  if (decide (st4 < (s_0.length : Int))) then
  Option.bind (idx s_0 st4) fun x23 =>
  Option.bind (m_impl_mendsAll_1 n x23 cap_1_0) fun x25 =>
  if x25 then
  some (.done (.inr st4))
  else
  some (.next (wI64 (st4 + 1)))
  else
  some (.done (.inl ()))

def m_slices_IndexFunc_int64_int64_f83 (n : Nat) (s_0 : List Int) (cap_1_0 : List Int) : Option (Int) :=
  Option.bind (loopN (m_slices_IndexFunc_int64_int64_f83_l1 n s_0 cap_1_0) n 0) fun t15 =>
  match t15 with
  | .inl q36 =>
  some (-1)
  | .inr r =>
  some r

def m_slices_ContainsFunc_int64_int64_f83 (n : Nat) (s_0 : List Int) (cap_1_0 : List Int) : Option (Bool) :=
  Option.bind (m_slices_IndexFunc_int64_int64_f83 n s_0 cap_1_0) fun x3 =>
  some (decide (x3 ≥ 0))

def m_slices_IndexFunc_int64_int64_f84_l1 (n : Nat) (s_0 : List Int) (cap_1_0 : List Int) (cap_1_1 : List SRepair) (st4 : Int) : Option (Step (Int) ((Unit) ⊕ (Int))) :=
  if (decide (st4 < (s_0.length : Int))) then
  Option.bind (idx s_0 st4) fun x23 =>
  Option.bind (m_impl_mendsAll_2 n x23 cap_1_0 cap_1_1) fun x25 =>
  if x25 then
  some (.done (.inr st4))
  else
  some (.next (wI64 (st4 + 1)))
  else
  some (.done (.inl ()))

def m_slices_IndexFunc_int64_int64_f84 (n : Nat) (s_0 : List Int) (cap_1_0 : List Int) (cap_1_1 : List SRepair) : Option (Int) :=
  Option.bind (loopN (m_slices_IndexFunc_int64_int64_f84_l1 n s_0 cap_1_0 cap_1_1) n 0) fun t15 =>
  match t15 with
  | .inl q36 =>
  some (-1)
  | .inr r =>
  some r

def m_slices_ContainsFunc_int64_int64_f84 (n : Nat) (s_0 : List Int) (cap_1_0 : List Int) (cap_1_1 : List SRepair) : Option (Bool) :=
  Option.bind (m_slices_IndexFunc_int64_int64_f84 n s_0 cap_1_0 cap_1_1) fun x3 =>
  some (decide (x3 ≥ 0))

def m_impl_mendsAll_l1 (n : Nat) (list_0 : List SRepair) (some_1 : List Int) (st20 : Int) : Option (Step (Int) ((Unit) ⊕ (Bool))) :=
  if (decide (st20 < (some_1.length : Int))) then
  Option.bind (idx some_1 st20) fun x38 =>
  Option.bind (idx list_0 x38) fun x41 =>
  Option.bind (m_slices_ContainsFunc_int64_int64_f83 n x41.First some_1) fun x54 =>
  if x54 then
  some (.done (.inr false))
  else
  some (.next (wI64 (st20 + 1)))
  else
  some (.done (.inl ()))

def m_impl_mendsAll (n : Nat) (list_0 : List SRepair) (some_1 : List Int) (faults_2 : List Int) : Option (Bool) :=
  Option.bind (loopN (m_impl_mendsAll_l1 n list_0 some_1) n 0) fun t31 =>
  match t31 with
  | .inl q73 =>
  Option.bind (m_slices_ContainsFunc_int64_int64_f84 n faults_2 some_1 list_0) fun x75 =>
  some (!x75)
  | .inr r =>
  some r

def m_impl_MendsAll (n : Nat) (list_0 : List SRepair) (some_1 : List Int) (faults_2 : List Int) : Option (Bool × Int) :=
  Option.bind (m_impl_someCode n list_0 some_1 faults_2) fun x4 =>
  if (x4 != 0) then
  some (false, x4)
  else
  Option.bind (m_impl_mendsAll n list_0 some_1 faults_2) fun x16 =>
  some (x16, 0)

def m_laws_FnRepairs_l2 (n : Nat) (x15 : List SRepair × List Int) (x42 : List Int × Int) (st471 : Int) : Option (Step (Int) ((Unit) ⊕ (Bool))) :=
  if (decide (st471 < (x15.2.length : Int))) then
  Option.bind (idx x15.2 st471) fun x489 =>
  Option.bind (m_laws_f6has n x42.1 x489) fun x491 =>
  if (!x491) then
  some (.done (.inr false))
  else
  some (.next (wI64 (st471 + 1)))
  else
  some (.done (.inl ()))

def m_laws_FnRepairs_l1 (n : Nat) (x90 : List SRepair × List Int) (x117 : List Int × Int) (st373 : Int) : Option (Step (Int) ((Unit) ⊕ (Bool))) :=
  if (decide (st373 < (x90.2.length : Int))) then
  Option.bind (idx x90.2 st373) fun x391 =>
  Option.bind (m_impl_RepairsFor n x90.1 x391) fun x393 =>
  Option.bind (if (x393.2 != 0) then
  some true
  else
  Option.bind (idx x90.2 st373) fun x419 =>
  Option.bind (m_laws_f6has n x117.1 x419) fun x421 =>
  some (!(((x393.1.length : Int) == 0) == x421))) fun x416 =>
  if x416 then
  some (.done (.inr false))
  else
  some (.next (wI64 (st373 + 1)))
  else
  some (.done (.inl ()))

def m_laws_FnRepairs_l3 (n : Nat) (x15 : List SRepair × List Int) (x42 : List Int × Int) (st597 : Int) : Option (Step (Int) ((Unit) ⊕ (Bool))) :=
  if (decide (st597 < (x15.2.length : Int))) then
  Option.bind (idx x15.2 st597) fun x615 =>
  Option.bind (m_laws_f6has n x42.1 x615) fun x617 =>
  if (!x617) then
  some (.done (.inr false))
  else
  some (.next (wI64 (st597 + 1)))
  else
  some (.done (.inl ()))

def m_laws_FnRepairs_l4 (n : Nat) (x15 : List SRepair × List Int) (x42 : List Int × Int) (st722 : Int) : Option (Step (Int) ((Unit) ⊕ (Bool))) :=
  if (decide (st722 < (x15.2.length : Int))) then
  Option.bind (idx x15.2 st722) fun x740 =>
  Option.bind (m_laws_f6has n x42.1 x740) fun x742 =>
  if (!x742) then
  some (.done (.inr false))
  else
  some (.next (wI64 (st722 + 1)))
  else
  some (.done (.inl ()))

def m_laws_FnRepairs (n : Nat) (code_0 : List Int) : Option (Bool) :=
  Option.bind (m_laws_f6big n code_0) fun x4 =>
  if x4 then
  some true
  else
  Option.bind (m_spec_DrawWithFirst n code_0) fun x15 =>
  Option.bind (m_impl_WithFirst n x15.1 x15.2) fun x30 =>
  Option.bind (m_spec_WithFirst n x15.1 x15.2) fun x42 =>
  Option.bind (m_impl_PriceOfRepairs n x15.1 x15.2) fun x54 =>
  Option.bind (m_spec_PriceOfRepairs n x15.1 x15.2) fun x63 =>
  Option.bind (m_impl_HoursOfRepairs n x15.1 x15.2) fun x72 =>
  Option.bind (m_spec_HoursOfRepairs n x15.1 x15.2) fun x81 =>
  Option.bind (m_spec_DrawHopelessFaults n code_0) fun x90 =>
  Option.bind (m_impl_HopelessFaults n x90.1 x90.2) fun x105 =>
  Option.bind (m_spec_HopelessFaults n x90.1 x90.2) fun x117 =>
  Option.bind (m_spec_DrawRepairsFor n code_0) fun x129 =>
  Option.bind (m_impl_RepairsFor n x129.1 x129.2) fun x141 =>
  Option.bind (m_spec_RepairsFor n x129.1 x129.2) fun x153 =>
  Option.bind (m_spec_DrawSameRepairs n code_0) fun x165 =>
  Option.bind (m_spec_DrawRepairText n code_0) fun x180 =>
  Option.bind (if (x30.2 != x42.2) then
  some true
  else
  Option.bind (m_laws_f6ints n x30.1 x42.1) fun x280 =>
  if (!x280) then
  some true
  else
  if (x54.2 != x63.2) then
  some true
  else
  if (x54.1 != x63.1) then
  some true
  else
  if (x72.2 != x81.2) then
  some true
  else
  if (x72.1 != x81.1) then
  some true
  else
  if (x105.2 != x117.2) then
  some true
  else
  Option.bind (m_laws_f6ints n x105.1 x117.1) fun x294 =>
  if (!x294) then
  some true
  else
  if (x141.2 != x153.2) then
  some true
  else
  Option.bind (m_laws_f6ints n x141.1 x153.1) fun x304 =>
  if (!x304) then
  some true
  else
  Option.bind (m_impl_SameRepairs n x165.1 x165.2) fun x313 =>
  Option.bind (m_spec_SameRepairs n x165.1 x165.2) fun x321 =>
  if (!(x313 == x321)) then
  some true
  else
  Option.bind (m_impl_RepairText n x180.1 x180.2) fun x330 =>
  Option.bind (m_spec_RepairText n x180.1 x180.2) fun x338 =>
  if (!(x330 == x338)) then
  some true
  else
  Option.bind (m_impl_ValidRepairs n x15.1) fun x347 =>
  Option.bind (m_spec_ValidRepairs n x15.1) fun x355 =>
  some (!(x347 == x355))) fun x277 =>
  if x277 then
  some false
  else
  if (x105.2 == 0) then
  Option.bind (loopN (m_laws_FnRepairs_l1 n x90 x117) n 0) fun t384 =>
  match t384 with
  | .inl q560 =>
  (if (x30.2 != 0) then
  some true
  else
  Option.bind (m_impl_WithFirst n x15.1 x42.1) fun x566 =>
  Option.bind (m_impl_MendsAll n x15.1 x42.1 ([] : List Int)) fun x587 =>
  Option.bind (loopN (m_laws_FnRepairs_l3 n x15 x42) n 0) fun t608 =>
  match t608 with
  | .inl q656 =>
  Option.bind (if (x566.2 == 0) then
  Option.bind (m_laws_f6ints n x566.1 x42.1) fun x672 =>
  if x672 then
  if (x587.2 == 0) then
  some x587.1
  else
  some false
  else
  some false
  else
  some false) fun x669 =>
  some x669
  | .inr r =>
  some r)
  | .inr r =>
  some r
  else
  if (x30.2 != 0) then
  some true
  else
  Option.bind (m_impl_WithFirst n x15.1 x42.1) fun x691 =>
  Option.bind (m_impl_MendsAll n x15.1 x42.1 ([] : List Int)) fun x712 =>
  Option.bind (loopN (m_laws_FnRepairs_l4 n x15 x42) n 0) fun t733 =>
  match t733 with
  | .inl q781 =>
  Option.bind (if (x691.2 == 0) then
  Option.bind (m_laws_f6ints n x691.1 x42.1) fun x797 =>
  if x797 then
  if (x712.2 == 0) then
  some x712.1
  else
  some false
  else
  some false
  else
  some false) fun x794 =>
  some x794
  | .inr r =>
  some r

end Go.Gv
