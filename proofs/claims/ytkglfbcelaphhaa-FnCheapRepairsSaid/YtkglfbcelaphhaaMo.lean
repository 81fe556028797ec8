/- What each function computes, as a Lean function that may fail. -/
import Derived.Test.YtkglfbcelaphhaaDa
namespace Go.Gv
open Go Go.RowKit

def m_laws_f6big (n : Nat) (code_0 : List Int) : Option (Bool) :=
  some (decide ((code_0.length : Int) > 4096))

def m_spec_l00From (n : Nat) (code_0 : List Int) : Option ((Int × Int)) :=
  some (0, 0)

def m_spec_l00Src_next (n : Nat) (s_0_code : List Int) (s_0_at_ : Int) (s_0_seed : Int) : Option (Int × Int × Int) :=
  Option.bind (if (decide (s_0_at_ < (s_0_code.length : Int))) then
  Option.bind (idx s_0_code s_0_at_) fun x20 =>
  some (wI64 x20)
  else
  some 0) fun x18 =>
  if (decide ((wI64 (s_0_at_ + 1)) ≤ (s_0_code.length : Int))) then
  some (x18, (wI64 (s_0_at_ + 1)), (IntKind.u64.wrap ((IntKind.u64.wrap ((IntKind.u64.wrap (s_0_seed * 6364136223846793005)) + (IntKind.u64.wrap x18))) + 1442695040888963407)))
  else
  Option.bind (shr .u64 (IntKind.u64.wrap ((IntKind.u64.wrap ((IntKind.u64.wrap (s_0_seed * 6364136223846793005)) + (IntKind.u64.wrap x18))) + 1442695040888963407)) 40) fun x53 =>
  some ((wI64 (iand .u64 x53 255)), (wI64 (s_0_at_ + 1)), (IntKind.u64.wrap ((IntKind.u64.wrap ((IntKind.u64.wrap (s_0_seed * 6364136223846793005)) + (IntKind.u64.wrap x18))) + 1442695040888963407)))

def m_spec_l00Src_pick (n : Nat) (s_0_code : List Int) (s_0_at_ : Int) (s_0_seed : Int) (n_1 : Int) : Option (Int × Int × Int) :=
  if (decide (n_1 ≤ 1)) then
  some (0, s_0_at_, s_0_seed)
  else
  Option.bind (m_spec_l00Src_next n s_0_code s_0_at_ s_0_seed) fun x7 =>
  Option.bind (if (decide (n_1 > 200)) then
  Option.bind (m_spec_l00Src_next n s_0_code x7.2.1 x7.2.2) fun x50 =>
  some ((wI64 ((wI64 (x7.1 * 256)) + x50.1)), x50.2.1, x50.2.2)
  else
  some (x7.1, x7.2.1, x7.2.2)) fun x48 =>
  Option.bind (rem x48.1 n_1) fun x64 =>
  some (x64, x48.2.1, x48.2.2)

def m_spec_l00Src_among (n : Nat) (s_0_code : List Int) (s_0_at_ : Int) (s_0_seed : Int) (list_1 : List Int) : Option (Int × Int × Int) :=
  Option.bind (m_spec_l00Src_pick n s_0_code s_0_at_ s_0_seed (list_1.length : Int)) fun x3 =>
  Option.bind (idx list_1 x3.1) fun x12 =>
  some (x12, x3.2.1, x3.2.2)

def m_spec_l00In (n : Nat) (n_0 : Int) (low_1 : Int) (high_2 : Int) : Option (Bool) :=
  Option.bind (if (decide (n_0 ≥ low_1)) then
  some (decide (n_0 ≤ high_2))
  else
  some false) fun x4 =>
  some x4

def m_spec_l00Rises_l1 (n : Nat) (list_0 : List Int) (low_1 : Int) (high_2 : Int) (st4 : Int) : Option (Step (Int) ((Unit) ⊕ (Bool))) :=
  if (decide (st4 < (list_0.length : Int))) then
  Option.bind (Option.bind (idx list_0 st4) fun x51 =>
  Option.bind (m_spec_l00In n x51 low_1 high_2) fun x53 =>
  if (!x53) then
  some true
  else
  if (decide (st4 > 0)) then
  Option.bind (idx list_0 (wI64 (st4 - 1))) fun x64 =>
  Option.bind (idx list_0 st4) fun x66 =>
  some (decide (x64 ≥ x66))
  else
  some false) fun x49 =>
  if x49 then
  some (.done (.inr false))
  else
  some (.next (wI64 (st4 + 1)))
  else
  some (.done (.inl ()))

def m_spec_l00Rises (n : Nat) (list_0 : List Int) (low_1 : Int) (high_2 : Int) : Option (Bool) :=
  Option.bind (loopN (m_spec_l00Rises_l1 n list_0 low_1 high_2) n 0) fun t15 =>
  match t15 with
  | .inl q85 =>
  some true
  | .inr r =>
  some r

def m_spec_l01Small (n : Nat) (c_0 : Int) : Option (Bool) :=
  Option.bind (if (decide (c_0 ≥ 97)) then
  some (decide (c_0 ≤ 122))
  else
  some false) fun x4 =>
  some x4

def m_spec_l01Digit (n : Nat) (c_0 : Int) : Option (Bool) :=
  Option.bind (if (decide (c_0 ≥ 48)) then
  some (decide (c_0 ≤ 57))
  else
  some false) fun x4 =>
  some x4

def m_spec_IsName_l1 (n : Nat) (s_0 : List UInt8) (st38 : Int) : Option (Step (Int) ((Unit) ⊕ (Bool))) :=
  if (decide (st38 < (s_0.length : Int))) then
  Option.bind (Option.bind (idx s_0 st38) fun x82 =>
  Option.bind (m_spec_l01Small n (x82.toNat : Int)) fun x84 =>
  if (!x84) then
  Option.bind (idx s_0 st38) fun x93 =>
  Option.bind (m_spec_l01Digit n (x93.toNat : Int)) fun x95 =>
  if (!x95) then
  Option.bind (idx s_0 st38) fun x104 =>
  some ((x104.toNat : Int) != 45)
  else
  some false
  else
  some false) fun x80 =>
  if x80 then
  some (.done (.inr false))
  else
  some (.next (wI64 (st38 + 1)))
  else
  some (.done (.inl ()))

def m_spec_IsName (n : Nat) (s_0 : List UInt8) : Option (Bool) :=
  Option.bind (if (s_0 == []) then
  some true
  else
  if (decide ((s_0.length : Int) > 12)) then
  some true
  else
  Option.bind (idx s_0 0) fun x20 =>
  Option.bind (m_spec_l01Small n (x20.toNat : Int)) fun x22 =>
  some (!x22)) fun x16 =>
  if x16 then
  some false
  else
  Option.bind (loopN (m_spec_IsName_l1 n s_0) n 0) fun t49 =>
  match t49 with
  | .inl q113 =>
  some true
  | .inr r =>
  some r

def m_spec_l21Ok_l2 (n : Nat) (list_0 : List SRepair) (st4 : Int) (x22 : SRepair) (st134 : Int) : Option (Step (Int) ((Unit) ⊕ (Bool))) :=
  if (decide (st134 < st4)) then
  Option.bind (idx list_0 st134) fun x152 =>
  if (x152.Name == x22.Name) then
  some (.done (.inr false))
  else
  some (.next (wI64 (st134 + 1)))
  else
  some (.done (.inl ()))

def m_spec_l21Ok_l1 (n : Nat) (list_0 : List SRepair) (st4 : Int) : Option (Step (Int) ((Unit) ⊕ (Bool))) :=
  if (decide (st4 < (list_0.length : Int))) then
  Option.bind (idx list_0 st4) fun x22 =>
  Option.bind (Option.bind (m_spec_IsName n x22.Name) fun x83 =>
  if (!x83) then
  some true
  else
  Option.bind (m_spec_l00Rises n x22.Mends 0 9) fun x92 =>
  if (!x92) then
  some true
  else
  Option.bind (m_spec_l00Rises n x22.First 0 (wI64 (st4 - 1))) fun x101 =>
  if (!x101) then
  some true
  else
  Option.bind (m_spec_l00In n x22.Price 0 100000) fun x110 =>
  if (!x110) then
  some true
  else
  Option.bind (m_spec_l00In n x22.Hours 0 1000) fun x119 =>
  some (!x119)) fun x81 =>
  if x81 then
  some (.done (.inr false))
  else
  Option.bind (loopN (m_spec_l21Ok_l2 n list_0 st4 x22) n 0) fun t145 =>
  match t145 with
  | .inl q172 =>
  some (.next (wI64 (st4 + 1)))
  | .inr r =>
  some (.done (.inr r))
  else
  some (.done (.inl ()))

def m_spec_l21Ok (n : Nat) (list_0 : List SRepair) : Option (Bool) :=
  Option.bind (loopN (m_spec_l21Ok_l1 n list_0) n 0) fun t15 =>
  match t15 with
  | .inl q174 =>
  some (decide ((list_0.length : Int) ≤ 10))
  | .inr r =>
  some r

def m_spec_l21Some (n : Nat) (list_0 : List SRepair) (some_1 : List Int) : Option (Int) :=
  Option.bind (m_spec_l21Ok n list_0) fun x4 =>
  if (!x4) then
  some 1
  else
  Option.bind (m_spec_l00Rises n some_1 0 (wI64 ((list_0.length : Int) - 1))) fun x16 =>
  if (!x16) then
  some 2
  else
  some 0

def m_spec_l00Own (n : Nat) (list_0 : List Int) : Option (List Int) :=
  Option.bind (app ([] : List Int) list_0) fun x12 =>
  some x12

def m_spec_l00Has_l1 (n : Nat) (list_0 : List Int) (n_1 : Int) (st4 : Int) : Option (Step (Int) ((Unit) ⊕ (Bool))) :=
  if (decide (st4 < (list_0.length : Int))) then
  Option.bind (idx list_0 st4) fun x22 =>
  if (x22 == n_1) then
  some (.done (.inr true))
  else
  some (.next (wI64 (st4 + 1)))
  else
  some (.done (.inl ()))

def m_spec_l00Has (n : Nat) (list_0 : List Int) (n_1 : Int) : Option (Bool) :=
  Option.bind (loopN (m_spec_l00Has_l1 n list_0 n_1) n 0) fun t15 =>
  match t15 with
  | .inl q27 =>
  some false
  | .inr r =>
  some r

def m_spec_l00Put_l1 (n : Nat) (list_0 : List Int) (n_1 : Int) (st15 : List Int × Bool × Int) : Option (Step (List Int × Bool × Int) (List Int × Bool)) :=
  if (decide (st15.2.2 < (list_0.length : Int))) then
  Option.bind (if (!st15.2.1) then
  Option.bind (idx list_0 st15.2.2) fun x43 =>
  some (decide (x43 ≥ n_1))
  else
  some false) fun x40 =>
  Option.bind (if x40 then
  Option.bind (idx list_0 st15.2.2) fun x107 =>
  Option.bind (if (decide (x107 > n_1)) then
  Option.bind (app st15.1 ([n_1] : List Int)) fun x142 =>
  some x142
  else
  some st15.1) fun x128 =>
  some (x128, true)
  else
  some (st15.1, st15.2.1)) fun x100 =>
  Option.bind (idx list_0 st15.2.2) fun x159 =>
  Option.bind (app x100.1 ([x159] : List Int)) fun x170 =>
  some (.next (x170, x100.2, (wI64 (st15.2.2 + 1))))
  else
  some (.done (st15.1, st15.2.1))

def m_spec_l00Put (n : Nat) (list_0 : List Int) (n_1 : Int) : Option (List Int) :=
  Option.bind (loopN (m_spec_l00Put_l1 n list_0 n_1) n (([] : List Int), false, 0)) fun q228 =>
  Option.bind (if (!q228.2) then
  Option.bind (app q228.1 ([n_1] : List Int)) fun x267 =>
  some x267
  else
  some q228.1) fun x253 =>
  some x253

def m_spec_l21With_l2 (n : Nat) (list_0 : List SRepair) (st16 : List Int × Int) (st47 : List Int × Int) : Option (Step (List Int × Int) (List Int)) :=
  Option.bind (idx list_0 st16.2) fun x65 =>
  if (decide (st47.2 < (x65.First.length : Int))) then
  Option.bind (idx list_0 st16.2) fun x80 =>
  Option.bind (idx x80.First st47.2) fun x93 =>
  Option.bind (m_spec_l00Put n st47.1 x93) fun x95 =>
  some (.next (x95, (wI64 (st47.2 + 1))))
  else
  some (.done st47.1)

def m_spec_l21With_l3 (n : Nat) (list_0 : List SRepair) (st16 : List Int × Int) (st116 : List Int × Int) : Option (Step (List Int × Int) (List Int)) :=
  Option.bind (idx list_0 st16.2) fun x134 =>
  if (decide (st116.2 < (x134.First.length : Int))) then
  Option.bind (idx list_0 st16.2) fun x149 =>
  Option.bind (idx x149.First st116.2) fun x162 =>
  Option.bind (m_spec_l00Put n st116.1 x162) fun x164 =>
  some (.next (x164, (wI64 (st116.2 + 1))))
  else
  some (.done st116.1)

def m_spec_l21With_l1 (n : Nat) (list_0 : List SRepair) (st16 : List Int × Int) : Option (Step (List Int × Int) (List Int)) :=
  if (decide (st16.2 ≥ 0)) then
  Option.bind (m_spec_l00Has n st16.1 st16.2) fun x37 =>
  Option.bind (if x37 then
  Option.bind (loopN (m_spec_l21With_l3 n list_0 st16) n (st16.1, 0)) fun q175 =>
  some q175
  else
  some st16.1) fun x110 =>
  some (.next (x110, (wI64 (st16.2 - 1))))
  else
  some (.done st16.1)

def m_spec_l21With (n : Nat) (list_0 : List SRepair) (some_1 : List Int) : Option (List Int) :=
  Option.bind (m_spec_l00Own n some_1) fun x3 =>
  Option.bind (loopN (m_spec_l21With_l1 n list_0) n (x3, (wI64 ((list_0.length : Int) - 1)))) fun q184 =>
  some q184

def m_spec_l00Src_one (n : Nat) (s_0_code : List Int) (s_0_at_ : Int) (s_0_seed : Int) (n_1 : Int) : Option (Bool × Int × Int) :=
  Option.bind (m_spec_l00Src_pick n s_0_code s_0_at_ s_0_seed n_1) fun x3 =>
  some ((x3.1 == 0), x3.2.1, x3.2.2)

def m_spec_l21Draw_l3 (n : Nat) (s_0_code : List Int) (st34 : List SRepair × Int) (st474 : Int × List Int × Int × Int) : Option (Step (Int × List Int × Int × Int) (List Int × Int × Int)) :=
  if (decide (st474.1 < st34.2)) then
  Option.bind (m_spec_l00Src_one n s_0_code st474.2.2.1 st474.2.2.2 5) fun x495 =>
  Option.bind (if x495.1 then
  Option.bind (app st474.2.1 ([st474.1] : List Int)) fun x590 =>
  some x590
  else
  some st474.2.1) fun x576 =>
  some (.next ((wI64 (st474.1 + 1)), x576, x495.2.1, x495.2.2))
  else
  some (.done (st474.2.1, st474.2.2.1, st474.2.2.2))

def m_spec_l21Draw_l4 (n : Nat) (s_0_code : List Int) (st34 : List SRepair × Int) (st975 : Int × List Int × Int × Int) : Option (Step (Int × List Int × Int × Int) (List Int × Int × Int)) :=
  if (decide (st975.1 < st34.2)) then
  Option.bind (m_spec_l00Src_one n s_0_code st975.2.2.1 st975.2.2.2 5) fun x996 =>
  Option.bind (if x996.1 then
  Option.bind (app st975.2.1 ([st975.1] : List Int)) fun x1091 =>
  some x1091
  else
  some st975.2.1) fun x1077 =>
  some (.next ((wI64 (st975.1 + 1)), x1077, x996.2.1, x996.2.2))
  else
  some (.done (st975.2.1, st975.2.2.1, st975.2.2.2))

def m_spec_l21Draw_l2 (n : Nat) (s_0_code : List Int) (st676 : Int × List Int × Int × Int) : Option (Step (Int × List Int × Int × Int) (List Int × Int × Int)) :=
  if (decide (st676.1 < 5)) then
  Option.bind (m_spec_l00Src_one n s_0_code st676.2.2.1 st676.2.2.2 3) fun x697 =>
  Option.bind (if x697.1 then
  Option.bind (app st676.2.1 ([st676.1] : List Int)) fun x792 =>
  some x792
  else
  some st676.2.1) fun x778 =>
  some (.next ((wI64 (st676.1 + 1)), x778, x697.2.1, x697.2.2))
  else
  some (.done (st676.2.1, st676.2.2.1, st676.2.2.2))

def m_spec_l21Draw_l5 (n : Nat) (s_0_code : List Int) (st34 : List SRepair × Int) (st1346 : Int × List Int × Int × Int) : Option (Step (Int × List Int × Int × Int) (List Int × Int × Int)) :=
  if (decide (st1346.1 < st34.2)) then
  Option.bind (m_spec_l00Src_one n s_0_code st1346.2.2.1 st1346.2.2.2 5) fun x1367 =>
  Option.bind (if x1367.1 then
  Option.bind (app st1346.2.1 ([st1346.1] : List Int)) fun x1462 =>
  some x1462
  else
  some st1346.2.1) fun x1448 =>
  some (.next ((wI64 (st1346.1 + 1)), x1448, x1367.2.1, x1367.2.2))
  else
  some (.done (st1346.2.1, st1346.2.2.1, st1346.2.2.2))

def m_spec_l21Draw_l7 (n : Nat) (s_0_code : List Int) (st1549 : List SRepair × Int × Int × Int) (st1989 : Int × List Int × Int × Int) : Option (Step (Int × List Int × Int × Int) (List Int × Int × Int)) :=
  if (decide (st1989.1 < st1549.2.1)) then
  Option.bind (m_spec_l00Src_one n s_0_code st1989.2.2.1 st1989.2.2.2 5) fun x2010 =>
  Option.bind (if x2010.1 then
  Option.bind (app st1989.2.1 ([st1989.1] : List Int)) fun x2105 =>
  some x2105
  else
  some st1989.2.1) fun x2091 =>
  some (.next ((wI64 (st1989.1 + 1)), x2091, x2010.2.1, x2010.2.2))
  else
  some (.done (st1989.2.1, st1989.2.2.1, st1989.2.2.2))

def m_spec_l21Draw_l8 (n : Nat) (s_0_code : List Int) (st1549 : List SRepair × Int × Int × Int) (st2490 : Int × List Int × Int × Int) : Option (Step (Int × List Int × Int × Int) (List Int × Int × Int)) :=
  if (decide (st2490.1 < st1549.2.1)) then
  Option.bind (m_spec_l00Src_one n s_0_code st2490.2.2.1 st2490.2.2.2 5) fun x2511 =>
  Option.bind (if x2511.1 then
  Option.bind (app st2490.2.1 ([st2490.1] : List Int)) fun x2606 =>
  some x2606
  else
  some st2490.2.1) fun x2592 =>
  some (.next ((wI64 (st2490.1 + 1)), x2592, x2511.2.1, x2511.2.2))
  else
  some (.done (st2490.2.1, st2490.2.2.1, st2490.2.2.2))

def m_spec_l21Draw_l6 (n : Nat) (s_0_code : List Int) (st2191 : Int × List Int × Int × Int) : Option (Step (Int × List Int × Int × Int) (List Int × Int × Int)) :=
  if (decide (st2191.1 < 5)) then
  Option.bind (m_spec_l00Src_one n s_0_code st2191.2.2.1 st2191.2.2.2 3) fun x2212 =>
  Option.bind (if x2212.1 then
  Option.bind (app st2191.2.1 ([st2191.1] : List Int)) fun x2307 =>
  some x2307
  else
  some st2191.2.1) fun x2293 =>
  some (.next ((wI64 (st2191.1 + 1)), x2293, x2212.2.1, x2212.2.2))
  else
  some (.done (st2191.2.1, st2191.2.2.1, st2191.2.2.2))

def m_spec_l21Draw_l9 (n : Nat) (s_0_code : List Int) (st1549 : List SRepair × Int × Int × Int) (st2861 : Int × List Int × Int × Int) : Option (Step (Int × List Int × Int × Int) (List Int × Int × Int)) :=
  if (decide (st2861.1 < st1549.2.1)) then
  Option.bind (m_spec_l00Src_one n s_0_code st2861.2.2.1 st2861.2.2.2 5) fun x2882 =>
  Option.bind (if x2882.1 then
  Option.bind (app st2861.2.1 ([st2861.1] : List Int)) fun x2977 =>
  some x2977
  else
  some st2861.2.1) fun x2963 =>
  some (.next ((wI64 (st2861.1 + 1)), x2963, x2882.2.1, x2882.2.2))
  else
  some (.done (st2861.2.1, st2861.2.2.1, st2861.2.2.2))

def m_spec_l21Draw_l1 (n : Nat) (s_0_code : List Int) (x23 : Int × Int × Int) (st1549 : List SRepair × Int × Int × Int) : Option (Step (List SRepair × Int × Int × Int) (List SRepair × Int × Int)) :=
  if (decide (st1549.2.1 < x23.1)) then
  Option.bind (idx ([[104, 101, 101, 108], [104, 97, 108, 102, 45, 115, 111, 108, 101], [119, 101, 108, 116], [108, 105, 110, 105, 110, 103], [112, 97, 116, 99, 104], [100, 121, 101], [101, 121, 101, 108, 101, 116, 45, 49], [115, 116, 114, 101, 116, 99, 104]] : List (List UInt8)) st1549.2.1) fun x1595 =>
  Option.bind (m_spec_l00Src_pick n s_0_code st1549.2.2.1 st1549.2.2.2 20) fun x1645 =>
  Option.bind (loopN (m_spec_l21Draw_l6 n s_0_code) n (0, ([] : List Int), x1645.2.1, x1645.2.2)) fun q2692 =>
  Option.bind (loopN (m_spec_l21Draw_l9 n s_0_code st1549) n (0, ([] : List Int), q2692.2.1, q2692.2.2)) fun q3027 =>
  Option.bind (m_spec_l00Src_pick n s_0_code q3027.2.1 q3027.2.2 9) fun x3032 =>
  Option.bind (app st1549.1 ([(SRepair.mk x1595 q2692.1 q3027.1 (wI64 (50 * x1645.1)) x3032.1)] : List SRepair)) fun x3054 =>
  some (.next (x3054, (wI64 (st1549.2.1 + 1)), x3032.2.1, x3032.2.2))
  else
  some (.done (st1549.1, st1549.2.2.1, st1549.2.2.2))

def m_spec_l21Draw (n : Nat) (s_0_code : List Int) (s_0_at_ : Int) (s_0_seed : Int) : Option (List SRepair × Int × Int) :=
  Option.bind (m_spec_l00Src_pick n s_0_code s_0_at_ s_0_seed 8) fun x23 =>
  Option.bind (loopN (m_spec_l21Draw_l1 n s_0_code x23) n (([] : List SRepair), 0, x23.2.1, x23.2.2)) fun q3064 =>
  some (q3064.1, q3064.2.1, q3064.2.2)

def m_spec_l00Src_text (n : Nat) (s_0_code : List Int) (s_0_at_ : Int) (s_0_seed : Int) (list_1 : List (List UInt8)) : Option (List UInt8 × Int × Int) :=
  Option.bind (m_spec_l00Src_pick n s_0_code s_0_at_ s_0_seed (list_1.length : Int)) fun x3 =>
  Option.bind (idx list_1 x3.1) fun x12 =>
  some (x12, x3.2.1, x3.2.2)

def m_spec_l00Src_text_o1 (n : Nat) (s_0_code : List Int) (s_0_at_ : Int) (s_0_seed : Int) (list_1 : List (List UInt8)) : Option (List UInt8 × Int × Int) :=
  Option.bind (m_spec_l00Src_pick n s_0_code s_0_at_ s_0_seed (list_1.length : Int)) fun x3 =>
  Option.bind (idx list_1 x3.1) fun x12 =>
  some (x12, x3.2.1, x3.2.2)

def m_spec_l00Src_among_o1 (n : Nat) (s_0_code : List Int) (s_0_at_ : Int) (s_0_seed : Int) (list_1 : List Int) : Option (Int × Int × Int) :=
  Option.bind (m_spec_l00Src_pick n s_0_code s_0_at_ s_0_seed (list_1.length : Int)) fun x3 =>
  Option.bind (idx list_1 x3.1) fun x12 =>
  some (x12, x3.2.1, x3.2.2)

def m_spec_l21Bent_l1 (n : Nat)  (st48 : List SRepair × Int) : Option (Step (List SRepair × Int) (List SRepair)) :=
  if (decide (st48.2 > 0)) then
  Option.bind (app [114] (ofBytes ([(IntKind.u8.wrap (wI64 (97 + (st48.1.length : Int))))] : List Int))) fun x77 =>
  Option.bind (app st48.1 ([(SRepair.mk x77 ([(wI64 (st48.2 - 1))] : List Int) ([] : List Int) st48.2 0)] : List SRepair)) fun x98 =>
  some (.next (x98, (wI64 (st48.2 - 1))))
  else
  some (.done st48.1)

def m_spec_l21Bent (n : Nat) (s_0_code : List Int) (s_0_at_ : Int) (s_0_seed : Int) : Option (List SRepair × Int × Int) :=
  Option.bind (m_spec_l21Draw n s_0_code s_0_at_ s_0_seed) fun x3 =>
  Option.bind (m_spec_l00Src_one n s_0_code x3.2.1 x3.2.2 30) fun x17 =>
  if x17.1 then
  Option.bind (m_spec_l00Src_pick n s_0_code x17.2.1 x17.2.2 2) fun x39 =>
  Option.bind (loopN (m_spec_l21Bent_l1 n) n (([] : List SRepair), (wI64 (10 + x39.1)))) fun q108 =>
  some (q108, x39.2.1, x39.2.2)
  else
  if ((x3.1.length : Int) == 0) then
  some (x3.1, x17.2.1, x17.2.2)
  else
  Option.bind (m_spec_l00Src_pick n s_0_code x17.2.1 x17.2.2 (x3.1.length : Int)) fun x118 =>
  Option.bind (idx x3.1 x118.1) fun x127 =>
  Option.bind (m_spec_l00Src_pick n s_0_code x118.2.1 x118.2.2 24) fun x138 =>
  Option.bind (if (x138.1 == 0) then
  Option.bind (m_spec_l00Src_text_o1 n s_0_code x138.2.1 x138.2.2 ([[], [72, 101, 101, 108], [104, 101, 101, 108]] : List (List UInt8))) fun x33492 =>
  some ((x3.1.set (Int.toNat x118.1) (SRepair.mk x33492.1 x127.Mends x127.First x127.Price x127.Hours)), x33492.2.1, x33492.2.2)
  else
  Option.bind (if (x138.1 == 1) then
  Option.bind (m_spec_l00Src_among_o1 n s_0_code x138.2.1 x138.2.2 ([(-1), 9, 10] : List Int)) fun x41884 =>
  Option.bind (app x127.Mends ([x41884.1] : List Int)) fun x41914 =>
  some ((x3.1.set (Int.toNat x118.1) (SRepair.mk x127.Name x41914 x127.First x127.Price x127.Hours)), x41884.2.1, x41884.2.2)
  else
  Option.bind (if (x138.1 == 2) then
  Option.bind (m_spec_l00Src_among_o1 n s_0_code x138.2.1 x138.2.2 ([(-1), 6, 7] : List Int)) fun x43988 =>
  Option.bind (app x127.First ([x43988.1] : List Int)) fun x44018 =>
  some ((x3.1.set (Int.toNat x118.1) (SRepair.mk x127.Name x127.Mends x44018 x127.Price x127.Hours)), x43988.2.1, x43988.2.2)
  else
  Option.bind (if (x138.1 == 3) then
  Option.bind (m_spec_l00Src_among_o1 n s_0_code x138.2.1 x138.2.2 ([(-1), 0, 100000, 100001, (-9223372036854775808)] : List Int)) fun x44456 =>
  some ((x3.1.set (Int.toNat x118.1) (SRepair.mk x127.Name x127.Mends x127.First x44456.1 x127.Hours)), x44456.2.1, x44456.2.2)
  else
  Option.bind (if (x138.1 == 4) then
  Option.bind (m_spec_l00Src_among_o1 n s_0_code x138.2.1 x138.2.2 ([(-1), 0, 1000, 1001] : List Int)) fun x44561 =>
  some ((x3.1.set (Int.toNat x118.1) (SRepair.mk x127.Name x127.Mends x127.First x127.Price x44561.1)), x44561.2.1, x44561.2.2)
  else
  some ((x3.1.set (Int.toNat x118.1) x127), x138.2.1, x138.2.2)) fun x44550 =>
  some (x44550.1, x44550.2.1, x44550.2.2)) fun x44445 =>
  some (x44445.1, x44445.2.1, x44445.2.2)) fun x43922 =>
  some (x43922.1, x43922.2.1, x43922.2.2)) fun x41818 =>
  some (x41818.1, x41818.2.1, x41818.2.2)) fun x33481 =>
  some (x33481.1, x33481.2.1, x33481.2.2)

def m_spec_l21DrawFaults_l1 (n : Nat) (s_0_code : List Int) (st261 : List Int × Int × Int × Int) : Option (Step (List Int × Int × Int × Int) (List Int × Int × Int)) :=
  if (decide (st261.2.1 < 5)) then
  Option.bind (m_spec_l00Src_one n s_0_code st261.2.2.1 st261.2.2.2 3) fun x282 =>
  Option.bind (if x282.1 then
  Option.bind (app st261.1 ([st261.2.1] : List Int)) fun x324 =>
  some x324
  else
  some st261.1) fun x310 =>
  some (.next (x310, (wI64 (st261.2.1 + 1)), x282.2.1, x282.2.2))
  else
  some (.done (st261.1, st261.2.2.1, st261.2.2.2))

def m_spec_l21DrawFaults (n : Nat) (s_0_code : List Int) (s_0_at_ : Int) (s_0_seed : Int) : Option (List Int × Int × Int) :=
  Option.bind (loopN (m_spec_l21DrawFaults_l1 n s_0_code) n (([] : List Int), 0, s_0_at_, s_0_seed)) fun q508 =>
  Option.bind (m_spec_l00Src_one n s_0_code q508.2.1 q508.2.2 12) fun x514 =>
  Option.bind (if x514.1 then
  Option.bind (m_spec_l00Src_among_o1 n s_0_code x514.2.1 x514.2.2 ([(-1), 4, 9, 10] : List Int)) fun x651 =>
  Option.bind (app q508.1 ([x651.1] : List Int)) fun x669 =>
  some (x669, x651.2.1, x651.2.2)
  else
  some (q508.1, x514.2.1, x514.2.2)) fun x637 =>
  some (x637.1, x637.2.1, x637.2.2)

def m_spec_l21DrawSome_l1 (n : Nat) (code_0 : List Int) (x14 : List SRepair × Int × Int) (st412 : List Int × Int × Int × Int) : Option (Step (List Int × Int × Int × Int) (List Int × Int × Int)) :=
  if (decide (st412.2.1 < (x14.1.length : Int))) then
  Option.bind (m_spec_l00Src_one n code_0 st412.2.2.1 st412.2.2.2 3) fun x433 =>
  Option.bind (if (!x433.1) then
  Option.bind (app st412.1 ([st412.2.1] : List Int)) fun x475 =>
  some x475
  else
  some st412.1) fun x461 =>
  some (.next (x461, (wI64 (st412.2.1 + 1)), x433.2.1, x433.2.2))
  else
  some (.done (st412.1, st412.2.2.1, st412.2.2.2))

def m_spec_l21DrawSome (n : Nat) (code_0 : List Int) : Option (List SRepair × List Int × List Int) :=
  Option.bind (m_spec_l00From n code_0) fun x3 =>
  Option.bind (m_spec_l21Bent n code_0 x3.1 x3.2) fun x14 =>
  Option.bind (m_spec_l21DrawFaults n code_0 x14.2.1 x14.2.2) fun x27 =>
  Option.bind (loopN (m_spec_l21DrawSome_l1 n code_0 x14) n (([] : List Int), 0, x27.2.1, x27.2.2)) fun q773 =>
  Option.bind (Option.bind (m_spec_l21Some n x14.1 q773.1) fun x837 =>
  if (x837 == 0) then
  Option.bind (m_spec_l00Src_one n code_0 q773.2.1 q773.2.2 4) fun x846 =>
  some ((!x846.1), x846.2.1, x846.2.2)
  else
  some (false, q773.2.1, q773.2.2)) fun x835 =>
  Option.bind (if x835.1 then
  Option.bind (m_spec_l21With n x14.1 q773.1) fun x876 =>
  some x876
  else
  some q773.1) fun x871 =>
  Option.bind (m_spec_l00Src_one n code_0 x835.2.1 x835.2.2 16) fun x893 =>
  Option.bind (if x893.1 then
  Option.bind (m_spec_l00Src_among_o1 n code_0 x893.2.1 x893.2.2 ([(-1), 0, (x14.1.length : Int)] : List Int)) fun x1030 =>
  Option.bind (app x871 ([x1030.1] : List Int)) fun x1048 =>
  some (x1048, x1030.2.1, x1030.2.2)
  else
  some (x871, x893.2.1, x893.2.2)) fun x1016 =>
  some (x14.1, x1016.1, x27.1)

def m_spec_DrawMendsAll (n : Nat) (code_0 : List Int) : Option (List SRepair × List Int × List Int) :=
  Option.bind (m_spec_l21DrawSome n code_0) fun x3 =>
  some (x3.1, x3.2.1, x3.2.2)

def m_impl_within (n : Nat) (n_0 : Int) (low_1 : Int) (high_2 : Int) : Option (Bool) :=
  Option.bind (if (decide (n_0 ≥ low_1)) then
  some (decide (n_0 ≤ high_2))
  else
  some false) fun x4 =>
  some x4

def m_impl_IsName_l1 (n : Nat) (s_0 : List UInt8) (st28 : Int) : Option (Step (Int) ((Unit) ⊕ (Bool))) :=
  if (decide (st28 < (s_0.length : Int))) then
  Option.bind (Option.bind (idx s_0 st28) fun x74 =>
  if (decide ((x74.toNat : Int) < 97)) then
  Option.bind (idx s_0 st28) fun x77 =>
  if (decide ((x77.toNat : Int) < 48)) then
  Option.bind (idx s_0 st28) fun x80 =>
  some ((x80.toNat : Int) != 45)
  else
  Option.bind (idx s_0 st28) fun x82 =>
  if (decide ((x82.toNat : Int) > 57)) then
  Option.bind (idx s_0 st28) fun x85 =>
  some ((x85.toNat : Int) != 45)
  else
  some false
  else
  Option.bind (idx s_0 st28) fun x87 =>
  if (decide ((x87.toNat : Int) > 122)) then
  Option.bind (idx s_0 st28) fun x90 =>
  if (decide ((x90.toNat : Int) < 48)) then
  Option.bind (idx s_0 st28) fun x93 =>
  some ((x93.toNat : Int) != 45)
  else
  Option.bind (idx s_0 st28) fun x95 =>
  if (decide ((x95.toNat : Int) > 57)) then
  Option.bind (idx s_0 st28) fun x98 =>
  some ((x98.toNat : Int) != 45)
  else
  some false
  else
  some false) fun x72 =>
  if x72 then
  some (.done (.inr false))
  else
  some (.next (wI64 (st28 + 1)))
  else
  some (.done (.inl ()))

def m_impl_IsName (n : Nat) (s_0 : List UInt8) : Option (Bool) :=
  Option.bind (if (decide ((s_0.length : Int) < 1)) then
  some true
  else
  if (decide ((s_0.length : Int) > 12)) then
  some true
  else
  Option.bind (idx s_0 0) fun x15 =>
  if (decide ((x15.toNat : Int) < 97)) then
  some true
  else
  Option.bind (idx s_0 0) fun x18 =>
  some (decide ((x18.toNat : Int) > 122))) fun x11 =>
  if x11 then
  some false
  else
  Option.bind (loopN (m_impl_IsName_l1 n s_0) n 1) fun t39 =>
  match t39 with
  | .inl q107 =>
  some true
  | .inr r =>
  some r

def m_impl_isIncreasing_l1 (n : Nat) (list_0 : List Int) (low_1 : Int) (high_2 : Int) (st4 : Int) : Option (Step (Int) ((Unit) ⊕ (Bool))) :=
  if (decide (st4 < (list_0.length : Int))) then
  Option.bind (idx list_0 st4) fun x22 =>
  Option.bind (Option.bind (m_impl_within n x22 low_1 high_2) fun x39 =>
  if (!x39) then
  some true
  else
  if (decide (st4 > 0)) then
  Option.bind (idx list_0 (wI64 (st4 - 1))) fun x49 =>
  some (decide (x49 ≥ x22))
  else
  some false) fun x37 =>
  if x37 then
  some (.done (.inr false))
  else
  some (.next (wI64 (st4 + 1)))
  else
  some (.done (.inl ()))

def m_impl_isIncreasing (n : Nat) (list_0 : List Int) (low_1 : Int) (high_2 : Int) : Option (Bool) :=
  Option.bind (loopN (m_impl_isIncreasing_l1 n list_0 low_1 high_2) n 0) fun t15 =>
  match t15 with
  | .inl q58 =>
  some true
  | .inr r =>
  some r

def m_impl_areFaults (n : Nat) (faults_0 : List Int) : Option (Bool) :=
  Option.bind (m_impl_isIncreasing n faults_0 0 9) fun x3 =>
  some x3

def m_impl_ValidRepairs_1 (n : Nat) (o_0 : SRepair) (cap_1 : SRepair) : Option (Bool) :=
  some (o_0.Name == cap_1.Name)

def m_slices_IndexFunc_impl_Repair_impl_Repair_f79_l1 (n : Nat) (s_0 : List SRepair) (cap_1_0 : SRepair) (st4 : Int) : Option (Step (Int) ((Unit) ⊕ (Int))) :=
  if (decide (st4 < (s_0.length : Int))) then
  Option.bind (idx s_0 st4) fun x23 =>
  Option.bind (m_impl_ValidRepairs_1 n x23 cap_1_0) fun x36 =>
  if x36 then
  some (.done (.inr st4))
  else
  some (.next (wI64 (st4 + 1)))
  else
  some (.done (.inl ()))

def m_slices_IndexFunc_impl_Repair_impl_Repair_f79 (n : Nat) (s_0 : List SRepair) (cap_1_0 : SRepair) : Option (Int) :=
  Option.bind (loopN (m_slices_IndexFunc_impl_Repair_impl_Repair_f79_l1 n s_0 cap_1_0) n 0) fun t15 =>
  match t15 with
  | .inl q47 =>
  some (-1)
  | .inr r =>
  some r

def m_slices_ContainsFunc_impl_Repair_impl_Repair_f79 (n : Nat) (s_0 : List SRepair) (cap_1_0 : SRepair) : Option (Bool) :=
  Option.bind (m_slices_IndexFunc_impl_Repair_impl_Repair_f79 n s_0 cap_1_0) fun x3 =>
  some (decide (x3 ≥ 0))

def m_impl_ValidRepairs_l1 (n : Nat) (list_0 : List SRepair) (st4 : Int) : Option (Step (Int) ((Unit) ⊕ (Bool))) :=
  if (decide (st4 < (list_0.length : Int))) then
  Option.bind (idx list_0 st4) fun x22 =>
  Option.bind (Option.bind (m_impl_IsName n x22.Name) fun x112 =>
  if (!x112) then
  some true
  else
  Option.bind (m_impl_areFaults n x22.Mends) fun x121 =>
  if (!x121) then
  some true
  else
  Option.bind (m_impl_isIncreasing n x22.First 0 (wI64 (st4 - 1))) fun x130 =>
  if (!x130) then
  some true
  else
  Option.bind (m_impl_within n x22.Price 0 100000) fun x139 =>
  if (!x139) then
  some true
  else
  Option.bind (m_impl_within n x22.Hours 0 1000) fun x148 =>
  if (!x148) then
  some true
  else
  Option.bind (sub list_0 0 st4) fun x157 =>
  Option.bind (m_slices_ContainsFunc_impl_Repair_impl_Repair_f79 n x157 x22) fun x165 =>
  some x165) fun x110 =>
  if x110 then
  some (.done (.inr false))
  else
  some (.next (wI64 (st4 + 1)))
  else
  some (.done (.inl ()))

def m_impl_ValidRepairs (n : Nat) (list_0 : List SRepair) : Option (Bool) :=
  Option.bind (loopN (m_impl_ValidRepairs_l1 n list_0) n 0) fun t15 =>
  match t15 with
  | .inl q180 =>
  some (decide ((list_0.length : Int) ≤ 10))
  | .inr r =>
  some r

def m_impl_someCode (n : Nat) (list_0 : List SRepair) (some_1 : List Int) (faults_2 : List Int) : Option (Int) :=
  Option.bind (m_impl_ValidRepairs n list_0) fun x4 =>
  if (!x4) then
  some 1
  else
  Option.bind (Option.bind (m_impl_isIncreasing n some_1 0 (wI64 ((list_0.length : Int) - 1))) fun x34 =>
  if (!x34) then
  some true
  else
  Option.bind (m_impl_areFaults n faults_2) fun x43 =>
  some (!x43)) fun x32 =>
  if x32 then
  some 2
  else
  some 0

def m_slices_Index_int64_int64_l1 (n : Nat) (s_0 : List Int) (v_1 : Int) (st4 : Int) : Option (Step (Int) ((Unit) ⊕ (Int))) :=
  if (decide (st4 < (s_0.length : Int))) then
  Option.bind (idx s_0 st4) fun x23 =>
  if (v_1 == x23) then
  some (.done (.inr st4))
  else
  some (.next (wI64 (st4 + 1)))
  else
  some (.done (.inl ()))

def m_slices_Index_int64_int64 (n : Nat) (s_0 : List Int) (v_1 : Int) : Option (Int) :=
  Option.bind (loopN (m_slices_Index_int64_int64_l1 n s_0 v_1) n 0) fun t15 =>
  match t15 with
  | .inl q28 =>
  some (-1)
  | .inr r =>
  some r

def m_slices_Contains_int64_int64 (n : Nat) (s_0 : List Int) (v_1 : Int) : Option (Bool) :=
  Option.bind (m_slices_Index_int64_int64 n s_0 v_1) fun x3 =>
  some (decide (x3 ≥ 0))

def m_impl_mendsAll_1 (n : Nat) (before_0 : Int) (cap_1 : List Int) : Option (Bool) :=
  Option.bind (m_slices_Contains_int64_int64 n cap_1 before_0) fun x3 =>
  some (!x3)

def m_impl_mendsAll_2_1 (n : Nat) (k_0 : Int) (cap_1 : List SRepair) (cap_2 : Int) : Option (Bool) :=
  Option.bind (idx cap_1 k_0) fun x3 =>
  Option.bind (m_slices_Contains_int64_int64 n x3.Mends cap_2) fun x16 =>
  some x16

def m_slices_IndexFunc_int64_int64_f97_l1 (n : Nat) (s_0 : List Int) (cap_1_0 : List SRepair) (cap_1_1 : Int) (st4 : Int) : Option (Step (Int) ((Unit) ⊕ (Int))) :=
  if (decide (st4 < (s_0.length : Int))) then
  Option.bind (idx s_0 st4) fun x23 =>
  Option.bind (m_impl_mendsAll_2_1 n x23 cap_1_0 cap_1_1) fun x25 =>
  if x25 then
  some (.done (.inr st4))
  else
  some (.next (wI64 (st4 + 1)))
  else
  some (.done (.inl ()))

def m_slices_IndexFunc_int64_int64_f97 (n : Nat) (s_0 : List Int) (cap_1_0 : List SRepair) (cap_1_1 : Int) : Option (Int) :=
  Option.bind (loopN (m_slices_IndexFunc_int64_int64_f97_l1 n s_0 cap_1_0 cap_1_1) n 0) fun t15 =>
  match t15 with
  | .inl q36 =>
  some (-1)
  | .inr r =>
  some r

def m_slices_ContainsFunc_int64_int64_f97 (n : Nat) (s_0 : List Int) (cap_1_0 : List SRepair) (cap_1_1 : Int) : Option (Bool) :=
  Option.bind (m_slices_IndexFunc_int64_int64_f97 n s_0 cap_1_0 cap_1_1) fun x3 =>
  some (decide (x3 ≥ 0))

def m_impl_mendsAll_2 (n : Nat) (fault_0 : Int) (cap_1 : List Int) (cap_2 : List SRepair) : Option (Bool) :=
  Option.bind (m_slices_ContainsFunc_int64_int64_f97 n cap_1 cap_2 fault_0) fun x11 =>
  some (!x11)

def m_slices_IndexFunc_int64_int64_f95_l1 (n : Nat) (s_0 : List Int) (cap_1_0 : List Int) (st4 : Int) : Option (Step (Int) ((Unit) ⊕ (Int))) :=
  if (decide (st4 < (s_0.length : Int))) then
  Option.bind (idx s_0 st4) fun x23 =>
  Option.bind (m_impl_mendsAll_1 n x23 cap_1_0) fun x25 =>
  if x25 then
  some (.done (.inr st4))
  else
  some (.next (wI64 (st4 + 1)))
  else
  some (.done (.inl ()))

def m_slices_IndexFunc_int64_int64_f95 (n : Nat) (s_0 : List Int) (cap_1_0 : List Int) : Option (Int) :=
  Option.bind (loopN (m_slices_IndexFunc_int64_int64_f95_l1 n s_0 cap_1_0) n 0) fun t15 =>
  match t15 with
  | .inl q36 =>
  some (-1)
  | .inr r =>
  some r

def m_slices_ContainsFunc_int64_int64_f95 (n : Nat) (s_0 : List Int) (cap_1_0 : List Int) : Option (Bool) :=
  Option.bind (m_slices_IndexFunc_int64_int64_f95 n s_0 cap_1_0) fun x3 =>
  some (decide (x3 ≥ 0))

def m_slices_IndexFunc_int64_int64_f96_l1 (n : Nat) (s_0 : List Int) (cap_1_0 : List Int) (cap_1_1 : List SRepair) (st4 : Int) : Option (Step (Int) ((Unit) ⊕ (Int))) :=
  if (decide (st4 < (s_0.length : Int))) then
  Option.bind (idx s_0 st4) fun x23 =>
  Option.bind (m_impl_mendsAll_2 n x23 cap_1_0 cap_1_1) fun x25 =>
  if x25 then
  some (.done (.inr st4))
  else
  some (.next (wI64 (st4 + 1)))
  else
  some (.done (.inl ()))

def m_slices_IndexFunc_int64_int64_f96 (n : Nat) (s_0 : List Int) (cap_1_0 : List Int) (cap_1_1 : List SRepair) : Option (Int) :=
  Option.bind (loopN (m_slices_IndexFunc_int64_int64_f96_l1 n s_0 cap_1_0 cap_1_1) n 0) fun t15 =>
  match t15 with
  | .inl q36 =>
  some (-1)
  | .inr r =>
  some r

def m_slices_ContainsFunc_int64_int64_f96 (n : Nat) (s_0 : List Int) (cap_1_0 : List Int) (cap_1_1 : List SRepair) : Option (Bool) :=
  Option.bind (m_slices_IndexFunc_int64_int64_f96 n s_0 cap_1_0 cap_1_1) fun x3 =>
  some (decide (x3 ≥ 0))

def m_impl_mendsAll_l1 (n : Nat) (list_0 : List SRepair) (some_1 : List Int) (st20 : Int) : Option (Step (Int) ((Unit) ⊕ (Bool))) :=
  if (decide (st20 < (some_1.length : Int))) then
  Option.bind (idx some_1 st20) fun x38 =>
  Option.bind (idx list_0 x38) fun x41 =>
  Option.bind (m_slices_ContainsFunc_int64_int64_f95 n x41.First some_1) fun x54 =>
  if x54 then
  some (.done (.inr false))
  else
  some (.next (wI64 (st20 + 1)))
  else
  some (.done (.inl ()))

def m_impl_mendsAll (n : Nat) (list_0 : List SRepair) (some_1 : List Int) (faults_2 : List Int) : Option (Bool) :=
  Option.bind (loopN (m_impl_mendsAll_l1 n list_0 some_1) n 0) fun t31 =>
  match t31 with
  | .inl q73 =>
  Option.bind (m_slices_ContainsFunc_int64_int64_f96 n faults_2 some_1 list_0) fun x75 =>
  some (!x75)
  | .inr r =>
  some r

def m_impl_MendsAll (n : Nat) (list_0 : List SRepair) (some_1 : List Int) (faults_2 : List Int) : Option (Bool × Int) :=
  Option.bind (m_impl_someCode n list_0 some_1 faults_2) fun x4 =>
  if (x4 != 0) then
  some (false, x4)
  else
  Option.bind (m_impl_mendsAll n list_0 some_1 faults_2) fun x16 =>
  some (x16, 0)

def m_spec_l21Faults (n : Nat) (list_0 : List SRepair) (some_1 : List Int) (faults_2 : List Int) : Option (Int) :=
  Option.bind (m_spec_l21Some n list_0 some_1) fun x3 =>
  Option.bind (if (x3 == 0) then
  Option.bind (m_spec_l00Rises n faults_2 0 9) fun x25 =>
  some (!x25)
  else
  some false) fun x22 =>
  Option.bind (if x22 then
  some 2
  else
  some x3) fun x38 =>
  some x38

def m_spec_l21Mended_l1 (n : Nat) (list_0 : List SRepair) (some_1 : List Int) (fault_2 : Int) (st4 : Int) : Option (Step (Int) ((Unit) ⊕ (Bool))) :=
  if (decide (st4 < (some_1.length : Int))) then
  Option.bind (idx some_1 st4) fun x22 =>
  Option.bind (idx list_0 x22) fun x24 =>
  Option.bind (m_spec_l00Has n x24.Mends fault_2) fun x37 =>
  if x37 then
  some (.done (.inr true))
  else
  some (.next (wI64 (st4 + 1)))
  else
  some (.done (.inl ()))

def m_spec_l21Mended (n : Nat) (list_0 : List SRepair) (some_1 : List Int) (fault_2 : Int) : Option (Bool) :=
  Option.bind (loopN (m_spec_l21Mended_l1 n list_0 some_1 fault_2) n 0) fun t15 =>
  match t15 with
  | .inl q48 =>
  some false
  | .inr r =>
  some r

def m_spec_l21All_l1 (n : Nat) (list_0 : List SRepair) (some_1 : List Int) (faults_2 : List Int) (st4 : Int) : Option (Step (Int) ((Unit) ⊕ (Bool))) :=
  if (decide (st4 < (faults_2.length : Int))) then
  Option.bind (idx faults_2 st4) fun x22 =>
  Option.bind (m_spec_l21Mended n list_0 some_1 x22) fun x24 =>
  if (!x24) then
  some (.done (.inr false))
  else
  some (.next (wI64 (st4 + 1)))
  else
  some (.done (.inl ()))

def m_spec_l21All (n : Nat) (list_0 : List SRepair) (some_1 : List Int) (faults_2 : List Int) : Option (Bool) :=
  Option.bind (loopN (m_spec_l21All_l1 n list_0 some_1 faults_2) n 0) fun t15 =>
  match t15 with
  | .inl q46 =>
  Option.bind (m_spec_l21With n list_0 some_1) fun x48 =>
  some ((x48.length : Int) == (some_1.length : Int))
  | .inr r =>
  some r

def m_spec_MendsAll (n : Nat) (list_0 : List SRepair) (some_1 : List Int) (faults_2 : List Int) : Option (Bool × Int) :=
  Option.bind (m_spec_l21Faults n list_0 some_1 faults_2) fun x3 =>
  if (x3 != 0) then
  some (false, x3)
  else
  Option.bind (m_spec_l21All n list_0 some_1 faults_2) fun x16 =>
  some (x16, 0)

def m_impl_has (n : Nat) (set_0 : Int) (k_1 : Int) : Option (Bool) :=
  Option.bind (shr .i64 set_0 (IntKind.u64.wrap k_1)) fun x3 =>
  some ((iand .i64 x3 1) == 1)

def m_impl_priceOf_l1 (n : Nat) (list_0 : List SRepair) (some_1 : List Int) (st5 : Int × Int) : Option (Step (Int × Int) (Int)) :=
  if (decide (st5.2 < (some_1.length : Int))) then
  Option.bind (idx some_1 st5.2) fun x23 =>
  Option.bind (idx list_0 x23) fun x25 =>
  some (.next ((wI64 (st5.1 + x25.Price)), (wI64 (st5.2 + 1))))
  else
  some (.done st5.1)

def m_impl_priceOf (n : Nat) (list_0 : List SRepair) (some_1 : List Int) : Option (Int) :=
  Option.bind (loopN (m_impl_priceOf_l1 n list_0 some_1) n (0, 0)) fun q39 =>
  some q39

def m_cmp_isNaN_int64 (n : Nat) (x_0 : Int) : Option (Bool) :=
  some (x_0 != x_0)

def m_cmp_Compare_int64 (n : Nat) (x_0 : Int) (y_1 : Int) : Option (Int) :=
  Option.bind (m_cmp_isNaN_int64 n x_0) fun x3 =>
  Option.bind (m_cmp_isNaN_int64 n y_1) fun x12 =>
  if x3 then
  if x12 then
  some 0
  else
  some (-1)
  else
  if x12 then
  some 1
  else
  if (decide (x_0 < y_1)) then
  some (-1)
  else
  if (decide (x_0 > y_1)) then
  some 1
  else
  some 0

def m_slices_Compare_int64_int64_l1 (n : Nat) (s1_0 : List Int) (s2_1 : List Int) (st4 : Int) : Option (Step (Int) ((Unit) ⊕ (Int))) :=
  if (decide (st4 < (s1_0.length : Int))) then
  Option.bind (idx s1_0 st4) fun x22 =>
  if (decide (st4 ≥ (s2_1.length : Int))) then
  some (.done (.inr 1))
  else
  Option.bind (idx s2_1 st4) fun x29 =>
  Option.bind (m_cmp_Compare_int64 n x22 x29) fun x32 =>
  if (x32 != 0) then
  some (.done (.inr x32))
  else
  some (.next (wI64 (st4 + 1)))
  else
  some (.done (.inl ()))

def m_slices_Compare_int64_int64 (n : Nat) (s1_0 : List Int) (s2_1 : List Int) : Option (Int) :=
  Option.bind (loopN (m_slices_Compare_int64_int64_l1 n s1_0 s2_1) n 0) fun t15 =>
  match t15 with
  | .inl q48 =>
  if (decide ((s1_0.length : Int) < (s2_1.length : Int))) then
  some (-1)
  else
  some 0
  | .inr r =>
  some r

def m_impl_CheapestRepairs_l2 (n : Nat) (list_0 : List SRepair) (st31 : List Int × Int × Int) (st64 : List Int × Int) : Option (Step (List Int × Int) (List Int)) :=
  if (decide (st64.2 < (list_0.length : Int))) then
  Option.bind (m_impl_has n st31.2.2 st64.2) fun x86 =>
  Option.bind (if x86 then
  Option.bind (app st64.1 ([st64.2] : List Int)) fun x127 =>
  some x127
  else
  some st64.1) fun x113 =>
  some (.next (x113, (wI64 (st64.2 + 1))))
  else
  some (.done st64.1)

def m_impl_CheapestRepairs_l1 (n : Nat) (list_0 : List SRepair) (faults_1 : List Int) (x29 : Int) (st31 : List Int × Int × Int) : Option (Step (List Int × Int × Int) (List Int × Int)) :=
  if (decide (st31.2.2 < x29)) then
  Option.bind (loopN (m_impl_CheapestRepairs_l2 n list_0 st31) n (([] : List Int), 0)) fun q203 =>
  Option.bind (m_impl_mendsAll n list_0 q203 faults_1) fun x209 =>
  if (!x209) then
  some (.next (st31.1, st31.2.1, (wI64 (st31.2.2 + 1))))
  else
  Option.bind (m_impl_priceOf n list_0 q203) fun x219 =>
  Option.bind (if (decide (st31.2.1 < 0)) then
  some true
  else
  if (decide (x219 < st31.2.1)) then
  some true
  else
  if (x219 == st31.2.1) then
  if (decide ((q203.length : Int) < (st31.1.length : Int))) then
  some true
  else
  if ((q203.length : Int) == (st31.1.length : Int)) then
  Option.bind (m_slices_Compare_int64_int64 n q203 st31.1) fun x248 =>
  some (decide (x248 < 0))
  else
  some false
  else
  some false) fun x241 =>
  Option.bind (if x241 then
  some (q203, x219)
  else
  some (st31.1, st31.2.1)) fun x261 =>
  some (.next (x261.1, x261.2, (wI64 (st31.2.2 + 1))))
  else
  some (.done (st31.1, st31.2.1))

def m_impl_CheapestRepairs (n : Nat) (list_0 : List SRepair) (faults_1 : List Int) : Option (List Int × Int) :=
  Option.bind (m_impl_someCode n list_0 ([] : List Int) faults_1) fun x4 =>
  if (x4 != 0) then
  some (([] : List Int), x4)
  else
  Option.bind (shl .i64 1 (IntKind.u64.wrap (list_0.length : Int))) fun x29 =>
  Option.bind (loopN (m_impl_CheapestRepairs_l1 n list_0 faults_1 x29) n (([] : List Int), (-1), 0)) fun q277 =>
  if (decide (q277.2 < 0)) then
  some (([] : List Int), 3)
  else
  some (q277.1, 0)

def m_spec_l21Price_l1 (n : Nat) (list_0 : List SRepair) (some_1 : List Int) (st5 : Int × Int) : Option (Step (Int × Int) (Int)) :=
  if (decide (st5.2 < (some_1.length : Int))) then
  Option.bind (idx some_1 st5.2) fun x22 =>
  Option.bind (idx list_0 x22) fun x24 =>
  some (.next ((wI64 (st5.1 + x24.Price)), (wI64 (st5.2 + 1))))
  else
  some (.done st5.1)

def m_spec_l21Price (n : Nat) (list_0 : List SRepair) (some_1 : List Int) : Option (Int) :=
  Option.bind (loopN (m_spec_l21Price_l1 n list_0 some_1) n (0, 0)) fun q38 =>
  some q38

def m_spec_l21Less_l1 (n : Nat) (a_0 : List Int) (b_1 : List Int) (st4 : Int) : Option (Step (Int) ((Unit) ⊕ (Bool))) :=
  if (decide (st4 < (a_0.length : Int))) then
  Option.bind (idx a_0 st4) fun x22 =>
  Option.bind (idx b_1 st4) fun x24 =>
  if (x22 != x24) then
  Option.bind (idx a_0 st4) fun x33 =>
  Option.bind (idx b_1 st4) fun x35 =>
  some (.done (.inr (decide (x33 < x35))))
  else
  some (.next (wI64 (st4 + 1)))
  else
  some (.done (.inl ()))

def m_spec_l21Less (n : Nat) (a_0 : List Int) (b_1 : List Int) : Option (Bool) :=
  Option.bind (loopN (m_spec_l21Less_l1 n a_0 b_1) n 0) fun t15 =>
  match t15 with
  | .inl q43 =>
  some false
  | .inr r =>
  some r

def m_spec_l21Cheapest_l2 (n : Nat) (list_0 : List SRepair) (st15 : List Int × Bool × Int) (st49 : List Int × Int) : Option (Step (List Int × Int) (List Int)) :=
  if (decide (st49.2 < (list_0.length : Int))) then
  Option.bind (shr .i64 st15.2.2 (IntKind.u64.wrap st49.2)) fun x70 =>
  Option.bind (if ((iand .i64 x70 1) == 1) then
  Option.bind (app st49.1 ([st49.2] : List Int)) fun x105 =>
  some x105
  else
  some st49.1) fun x91 =>
  some (.next (x91, (wI64 (st49.2 + 1))))
  else
  some (.done st49.1)

def m_spec_l21Cheapest_l1 (n : Nat) (list_0 : List SRepair) (faults_1 : List Int) (st15 : List Int × Bool × Int) : Option (Step (List Int × Bool × Int) (List Int × Bool)) :=
  Option.bind (shl .i64 1 (IntKind.u64.wrap (list_0.length : Int))) fun x33 =>
  if (decide (st15.2.2 < x33)) then
  Option.bind (loopN (m_spec_l21Cheapest_l2 n list_0 st15) n (([] : List Int), 0)) fun q192 =>
  Option.bind (m_spec_l21All n list_0 q192 faults_1) fun x198 =>
  if (!x198) then
  some (.next (st15.1, st15.2.1, (wI64 (st15.2.2 + 1))))
  else
  Option.bind (m_spec_l21Price n list_0 q192) fun x208 =>
  Option.bind (m_spec_l21Price n list_0 st15.1) fun x217 =>
  Option.bind (if (!st15.2.1) then
  some true
  else
  if (decide (x208 < x217)) then
  some true
  else
  if (x208 == x217) then
  if (decide ((q192.length : Int) < (st15.1.length : Int))) then
  some true
  else
  if ((q192.length : Int) == (st15.1.length : Int)) then
  Option.bind (m_spec_l21Less n q192 st15.1) fun x246 =>
  some x246
  else
  some false
  else
  some false) fun x239 =>
  Option.bind (if x239 then
  some (q192, true)
  else
  some (st15.1, st15.2.1)) fun x260 =>
  some (.next (x260.1, x260.2, (wI64 (st15.2.2 + 1))))
  else
  some (.done (st15.1, st15.2.1))

def m_spec_l21Cheapest (n : Nat) (list_0 : List SRepair) (faults_1 : List Int) : Option (List Int × Bool) :=
  Option.bind (loopN (m_spec_l21Cheapest_l1 n list_0 faults_1) n (([] : List Int), false, 0)) fun q271 =>
  some (q271.1, q271.2)

def m_spec_CheapestRepairs (n : Nat) (list_0 : List SRepair) (faults_1 : List Int) : Option (List Int × Int) :=
  Option.bind (m_spec_l21Faults n list_0 ([] : List Int) faults_1) fun x12 =>
  if (x12 != 0) then
  some (([] : List Int), x12)
  else
  Option.bind (m_spec_l21Cheapest n list_0 faults_1) fun x27 =>
  if (!x27.2) then
  some (([] : List Int), 3)
  else
  some (x27.1, 0)

def m_slices_Grow_int64_int64 (n : Nat) (n_1 : Int) : Option (List Int) :=
  Option.bind (if (decide (n_1 < 0)) then
  none
  else
  some ()) fun x5 =>
  Option.bind (if (decide ((wI64 (n_1 - (wI64 (0 - 0)))) > 0)) then
  Option.bind (mk (0 : Int) (wI64 (n_1 - (wI64 (0 - 0))))) fun x34 =>
  Option.bind (sub x34 0 0) fun x45 =>
  some x45
  else
  some ([] : List Int)) fun x29 =>
  some x29

def m_slices_Concat_int64_int64_l2 (n : Nat) (slices_0 : List (List Int)) (st54 : List Int × Int) : Option (Step (List Int × Int) (List Int)) :=
  if (decide (st54.2 < (slices_0.length : Int))) then
  Option.bind (idx slices_0 st54.2) fun x75 =>
  Option.bind (app st54.1 x75) fun x83 =>
  some (.next (x83, (wI64 (st54.2 + 1))))
  else
  some (.done st54.1)

def m_slices_Concat_int64_int64_l1 (n : Nat) (slices_0 : List (List Int)) (st5 : Int × Int) : Option (Step (Int × Int) (Int)) :=
  if (decide (st5.2 < (slices_0.length : Int))) then
  Option.bind (idx slices_0 st5.2) fun x23 =>
  Option.bind (if (decide ((wI64 (st5.1 + (x23.length : Int))) < 0)) then
  none
  else
  some ()) fun x34 =>
  some (.next ((wI64 (st5.1 + (x23.length : Int))), (wI64 (st5.2 + 1))))
  else
  some (.done st5.1)

def m_slices_Concat_int64_int64_l3 (n : Nat) (slices_0 : List (List Int)) (st113 : List Int × Int) : Option (Step (List Int × Int) (List Int)) :=
  if (decide (st113.2 < (slices_0.length : Int))) then
  Option.bind (idx slices_0 st113.2) fun x134 =>
  Option.bind (app st113.1 x134) fun x142 =>
  some (.next (x142, (wI64 (st113.2 + 1))))
  else
  some (.done st113.1)

def m_slices_Concat_int64_int64 (n : Nat) (slices_0 : List (List Int)) : Option (List Int) :=
  Option.bind (loopN (m_slices_Concat_int64_int64_l1 n slices_0) n (0, 0)) fun q98 =>
  Option.bind (m_slices_Grow_int64_int64 n q98) fun x100 =>
  Option.bind (loopN (m_slices_Concat_int64_int64_l3 n slices_0) n (x100, 0)) fun q152 =>
  some q152

def m_impl_NeedlessRepairs_l1 (n : Nat) (list_0 : List SRepair) (some_1 : List Int) (faults_2 : List Int) (st42 : List Int × Int) : Option (Step (List Int × Int) (List Int)) :=
  if (decide (st42.2 < (some_1.length : Int))) then
  Option.bind (idx some_1 st42.2) fun x63 =>
  Option.bind (sub some_1 0 st42.2) fun x71 =>
  Option.bind (sub some_1 (wI64 (st42.2 + 1)) (some_1.length : Int)) fun x79 =>
  Option.bind (m_slices_Concat_int64_int64 n ([(x71 : List Int), (x79 : List Int)] : List (List Int))) fun x102 =>
  Option.bind (m_impl_mendsAll n list_0 x102 faults_2) fun x114 =>
  Option.bind (if x114 then
  Option.bind (app st42.1 ([x63] : List Int)) fun x158 =>
  some x158
  else
  some st42.1) fun x143 =>
  some (.next (x143, (wI64 (st42.2 + 1))))
  else
  some (.done st42.1)

def m_impl_NeedlessRepairs (n : Nat) (list_0 : List SRepair) (some_1 : List Int) (faults_2 : List Int) : Option (List Int × Int) :=
  Option.bind (m_impl_someCode n list_0 some_1 faults_2) fun x3 =>
  if (x3 != 0) then
  some (([] : List Int), x3)
  else
  Option.bind (m_impl_mendsAll n list_0 some_1 faults_2) fun x18 =>
  if (!x18) then
  some (([] : List Int), 6)
  else
  Option.bind (loopN (m_impl_NeedlessRepairs_l1 n list_0 some_1 faults_2) n (([] : List Int), 0)) fun q172 =>
  some (q172, 0)

def m_spec_NeedlessRepairs_l1 (n : Nat) (list_0 : List SRepair) (some_1 : List Int) (faults_2 : List Int) (st62 : List Int × Int) : Option (Step (List Int × Int) (List Int)) :=
  if (decide (st62.2 < (some_1.length : Int))) then
  Option.bind (sub some_1 0 st62.2) fun x83 =>
  Option.bind (m_spec_l00Own n x83) fun x91 =>
  Option.bind (sub some_1 (wI64 (st62.2 + 1)) (some_1.length : Int)) fun x103 =>
  Option.bind (app x91 x103) fun x111 =>
  Option.bind (m_spec_l21All n list_0 x111 faults_2) fun x121 =>
  Option.bind (if x121 then
  Option.bind (idx some_1 st62.2) fun x155 =>
  Option.bind (app st62.1 ([x155] : List Int)) fun x166 =>
  some x166
  else
  some st62.1) fun x150 =>
  some (.next (x150, (wI64 (st62.2 + 1))))
  else
  some (.done st62.1)

def m_spec_NeedlessRepairs (n : Nat) (list_0 : List SRepair) (some_1 : List Int) (faults_2 : List Int) : Option (List Int × Int) :=
  Option.bind (m_spec_l21Faults n list_0 some_1 faults_2) fun x3 =>
  Option.bind (if (x3 == 0) then
  Option.bind (m_spec_l21All n list_0 some_1 faults_2) fun x25 =>
  some (!x25)
  else
  some false) fun x22 =>
  Option.bind (if x22 then
  some 6
  else
  some x3) fun x38 =>
  if (x38 != 0) then
  some (([] : List Int), x38)
  else
  Option.bind (loopN (m_spec_NeedlessRepairs_l1 n list_0 some_1 faults_2) n (([] : List Int), 0)) fun q180 =>
  some (q180, 0)

def m_spec_l21Two (n : Nat) (code_0 : List Int) : Option (List SRepair × List Int) :=
  Option.bind (m_spec_l21DrawSome n code_0) fun x3 =>
  some (x3.1, x3.2.2)

def m_spec_DrawIsWorthwhile (n : Nat) (code_0 : List Int) : Option (List SRepair × List Int × Int × Int) :=
  Option.bind (m_spec_l21Two n code_0) fun x3 =>
  Option.bind (m_spec_l00From n code_0) fun x18 =>
  Option.bind (m_spec_l00Src_pick n code_0 x18.1 x18.2 60) fun x29 =>
  Option.bind (m_spec_l00Src_pick n code_0 x29.2.1 x29.2.2 12) fun x40 =>
  if (x40.1 == 0) then
  Option.bind (m_spec_l00Src_among_o1 n code_0 x40.2.1 x40.2.2 ([(-1), 0, 100000, 100001] : List Int)) fun x60 =>
  Option.bind (m_spec_l00Src_pick n code_0 x60.2.1 x60.2.2 11) fun x70 =>
  some (x3.1, x3.2, x60.1, (wI64 (10 * x70.1)))
  else
  if (x40.1 == 1) then
  Option.bind (m_spec_l00Src_among_o1 n code_0 x40.2.1 x40.2.2 ([(-1), 0, 100, 101] : List Int)) fun x91 =>
  some (x3.1, x3.2, (wI64 (100 * x29.1)), x91.1)
  else
  Option.bind (m_spec_l00Src_pick n code_0 x40.2.1 x40.2.2 11) fun x101 =>
  some (x3.1, x3.2, (wI64 (100 * x29.1)), (wI64 (10 * x101.1)))

def m_impl_IsWorthwhile (n : Nat) (list_0 : List SRepair) (faults_1 : List Int) (value_2 : Int) (percent_3 : Int) : Option (Bool × Int) :=
  Option.bind (m_impl_someCode n list_0 ([] : List Int) faults_1) fun x3 =>
  Option.bind (if (x3 == 0) then
  Option.bind (m_impl_within n value_2 0 100000) fun x34 =>
  if (!x34) then
  some true
  else
  Option.bind (m_impl_within n percent_3 0 100) fun x43 =>
  some (!x43)
  else
  some false) fun x31 =>
  Option.bind (if x31 then
  some 2
  else
  some x3) fun x56 =>
  if (x56 != 0) then
  some (false, x56)
  else
  Option.bind (m_impl_CheapestRepairs n list_0 faults_1) fun x67 =>
  if (x67.2 != 0) then
  some (false, x67.2)
  else
  Option.bind (m_impl_priceOf n list_0 x67.1) fun x83 =>
  some ((decide ((wI64 (100 * x83)) ≤ (wI64 (value_2 * percent_3)))), 0)

def m_spec_IsWorthwhile (n : Nat) (list_0 : List SRepair) (faults_1 : List Int) (value_2 : Int) (percent_3 : Int) : Option (Bool × Int) :=
  Option.bind (m_spec_l21Faults n list_0 ([] : List Int) faults_1) fun x12 =>
  Option.bind (if (x12 == 0) then
  Option.bind (m_spec_l00In n value_2 0 100000) fun x43 =>
  if (!x43) then
  some true
  else
  Option.bind (m_spec_l00In n percent_3 0 100) fun x52 =>
  some (!x52)
  else
  some false) fun x40 =>
  Option.bind (if x40 then
  some 2
  else
  some x12) fun x65 =>
  if (x65 != 0) then
  some (false, x65)
  else
  Option.bind (m_spec_l21Cheapest n list_0 faults_1) fun x76 =>
  if (!x76.2) then
  some (false, 3)
  else
  Option.bind (m_spec_l21Price n list_0 x76.1) fun x92 =>
  some ((decide ((wI64 (100 * x92)) ≤ (wI64 (value_2 * percent_3)))), 0)

def m_laws_f6ints_l1 (n : Nat) (a_0 : List Int) (b_1 : List Int) (st8 : Int) : Option (Step (Int) ((Unit) ⊕ (Bool))) :=
  if (decide (st8 < (a_0.length : Int))) then
  Option.bind (idx a_0 st8) fun x26 =>
  Option.bind (idx b_1 st8) fun x28 =>
  if (x26 != x28) then
  some (.done (.inr false))
  else
  some (.next (wI64 (st8 + 1)))
  else
  some (.done (.inl ()))

def m_laws_f6ints (n : Nat) (a_0 : List Int) (b_1 : List Int) : Option (Bool) :=
  if ((a_0.length : Int) != (b_1.length : Int)) then
  some false
  else
  Option.bind (loopN (m_laws_f6ints_l1 n a_0 b_1) n 0) fun t19 =>
  match t19 with
  | .inl q38 =>
  some true
  | .inr r =>
  some r

def m_impl_PriceOfRepairs (n : Nat) (list_0 : List SRepair) (some_1 : List Int) : Option (Int × Int) :=
  Option.bind (m_impl_someCode n list_0 some_1 ([] : List Int)) fun x4 =>
  if (x4 != 0) then
  some (0, x4)
  else
  Option.bind (m_impl_priceOf n list_0 some_1) fun x16 =>
  some (x16, 0)

def m_laws_FnCheapRepairs (n : Nat) (code_0 : List Int) : Option (Bool) :=
  Option.bind (m_laws_f6big n code_0) fun x4 =>
  if x4 then
  some true
  else
  Option.bind (m_spec_DrawMendsAll n code_0) fun x15 =>
  Option.bind (m_impl_MendsAll n x15.1 x15.2.1 x15.2.2) fun x33 =>
  Option.bind (m_spec_MendsAll n x15.1 x15.2.1 x15.2.2) fun x42 =>
  Option.bind (m_impl_CheapestRepairs n x15.1 x15.2.2) fun x51 =>
  Option.bind (m_spec_CheapestRepairs n x15.1 x15.2.2) fun x63 =>
  Option.bind (m_impl_NeedlessRepairs n x15.1 x15.2.1 x15.2.2) fun x75 =>
  Option.bind (m_spec_NeedlessRepairs n x15.1 x15.2.1 x15.2.2) fun x87 =>
  Option.bind (m_spec_DrawIsWorthwhile n code_0) fun x99 =>
  Option.bind (m_impl_IsWorthwhile n x99.1 x99.2.1 x99.2.2.1 x99.2.2.2) fun x114 =>
  Option.bind (m_spec_IsWorthwhile n x99.1 x99.2.1 x99.2.2.1 x99.2.2.2) fun x123 =>
  Option.bind (if (x33.2 != x42.2) then
  some true
  else
  if (!(x33.1 == x42.1)) then
  some true
  else
  if (x51.2 != x63.2) then
  some true
  else
  Option.bind (m_laws_f6ints n x51.1 x63.1) fun x161 =>
  if (!x161) then
  some true
  else
  if (x75.2 != x87.2) then
  some true
  else
  Option.bind (m_laws_f6ints n x75.1 x87.1) fun x171 =>
  if (!x171) then
  some true
  else
  if (x114.2 != x123.2) then
  some true
  else
  some (!(x114.1 == x123.1))) fun x156 =>
  if x156 then
  some false
  else
  if (x114.2 == 0) then
  Option.bind (m_spec_CheapestRepairs n x99.1 x99.2.1) fun x191 =>
  Option.bind (m_impl_PriceOfRepairs n x99.1 x191.1) fun x203 =>
  Option.bind (if (x191.2 != 0) then
  some true
  else
  if (x203.2 != 0) then
  some true
  else
  some (!(x114.1 == (decide ((wI64 (100 * x203.1)) ≤ (wI64 (x99.2.2.1 * x99.2.2.2))))))) fun x214 =>
  if x214 then
  some false
  else
  Option.bind (if (x33.2 == 0) then
  some (!((x75.2 == 0) == x33.1))
  else
  some false) fun x227 =>
  if x227 then
  some false
  else
  if (x51.2 != 0) then
  Option.bind (if (x33.2 != 0) then
  some true
  else
  if (!x33.1) then
  some true
  else
  some (x51.2 != 3)) fun x242 =>
  some x242
  else
  Option.bind (m_impl_MendsAll n x15.1 x63.1 x15.2.2) fun x251 =>
  Option.bind (m_impl_PriceOfRepairs n x15.1 x63.1) fun x260 =>
  Option.bind (if (x251.2 != 0) then
  some true
  else
  if (!x251.1) then
  some true
  else
  some (x260.2 != 0)) fun x272 =>
  if x272 then
  some false
  else
  Option.bind (m_impl_NeedlessRepairs n x15.1 x63.1 x15.2.2) fun x283 =>
  Option.bind (if (x283.2 != 0) then
  some true
  else
  some ((x283.1.length : Int) != 0)) fun x297 =>
  if x297 then
  some false
  else
  Option.bind (if (x33.2 != 0) then
  some true
  else
  some (!x33.1)) fun x309 =>
  if x309 then
  some true
  else
  Option.bind (m_impl_PriceOfRepairs n x15.1 x15.2.1) fun x319 =>
  Option.bind (if (x319.2 == 0) then
  some (decide (x260.1 ≤ x319.1))
  else
  some false) fun x329 =>
  some x329
  else
  Option.bind (if (x33.2 == 0) then
  some (!((x75.2 == 0) == x33.1))
  else
  some false) fun x339 =>
  if x339 then
  some false
  else
  if (x51.2 != 0) then
  Option.bind (if (x33.2 != 0) then
  some true
  else
  if (!x33.1) then
  some true
  else
  some (x51.2 != 3)) fun x354 =>
  some x354
  else
  Option.bind (m_impl_MendsAll n x15.1 x63.1 x15.2.2) fun x363 =>
  Option.bind (m_impl_PriceOfRepairs n x15.1 x63.1) fun x372 =>
  Option.bind (if (x363.2 != 0) then
  some true
  else
  if (!x363.1) then
  some true
  else
  some (x372.2 != 0)) fun x384 =>
  if x384 then
  some false
  else
  Option.bind (m_impl_NeedlessRepairs n x15.1 x63.1 x15.2.2) fun x395 =>
  Option.bind (if (x395.2 != 0) then
  some true
  else
  some ((x395.1.length : Int) != 0)) fun x409 =>
  if x409 then
  some false
  else
  Option.bind (if (x33.2 != 0) then
  some true
  else
  some (!x33.1)) fun x421 =>
  if x421 then
  some true
  else
  Option.bind (m_impl_PriceOfRepairs n x15.1 x15.2.1) fun x431 =>
  Option.bind (if (x431.2 == 0) then
  some (decide (x372.1 ≤ x431.1))
  else
  some false) fun x441 =>
  some x441

def m_laws_szInt64S (n : Nat) (a_0 : List Int) (left_1 : Int) : Option (Int) :=
  if (decide ((wI64 (left_1 - (a_0.length : Int))) < 0)) then
  some (-1)
  else
  some (wI64 (left_1 - (a_0.length : Int)))

def m_laws_szRepair (n : Nat) (a_0 : SRepair) (left_1 : Int) : Option (Int) :=
  if (decide ((wI64 (left_1 - (a_0.Name.length : Int))) < 0)) then
  some (-1)
  else
  Option.bind (m_laws_szInt64S n a_0.Mends (wI64 (left_1 - (a_0.Name.length : Int)))) fun x16 =>
  if (decide (x16 < 0)) then
  some (-1)
  else
  Option.bind (m_laws_szInt64S n a_0.First x16) fun x29 =>
  if (decide (x29 < 0)) then
  some (-1)
  else
  some x29

def m_laws_szRepairS_l1 (n : Nat) (a_0 : List SRepair) (st9 : Int × Int) : Option (Step (Int × Int) ((Int) ⊕ (Int))) :=
  if (decide (st9.2 < (a_0.length : Int))) then
  Option.bind (idx a_0 st9.2) fun x27 =>
  Option.bind (m_laws_szRepair n x27 st9.1) fun x40 =>
  if (decide (x40 < 0)) then
  some (.done (.inr (-1)))
  else
  some (.next (x40, (wI64 (st9.2 + 1))))
  else
  some (.done (.inl st9.1))

def m_laws_szRepairS (n : Nat) (a_0 : List SRepair) (left_1 : Int) : Option (Int) :=
  if (decide ((wI64 (left_1 - (a_0.length : Int))) < 0)) then
  some (-1)
  else
  Option.bind (loopN (m_laws_szRepairS_l1 n a_0) n ((wI64 (left_1 - (a_0.length : Int))), 0)) fun t20 =>
  match t20 with
  | .inl q52 =>
  some q52
  | .inr r =>
  some r

def m_spec_l00Same_l1 (n : Nat) (a_0 : List Int) (b_1 : List Int) (st8 : Int) : Option (Step (Int) ((Unit) ⊕ (Bool))) :=
  if (decide (st8 < (a_0.length : Int))) then
  Option.bind (idx a_0 st8) fun x26 =>
  Option.bind (idx b_1 st8) fun x28 =>
  if (x26 != x28) then
  some (.done (.inr false))
  else
  some (.next (wI64 (st8 + 1)))
  else
  some (.done (.inl ()))

def m_spec_l00Same (n : Nat) (a_0 : List Int) (b_1 : List Int) : Option (Bool) :=
  if ((a_0.length : Int) != (b_1.length : Int)) then
  some false
  else
  Option.bind (loopN (m_spec_l00Same_l1 n a_0 b_1) n 0) fun t19 =>
  match t19 with
  | .inl q38 =>
  some true
  | .inr r =>
  some r

def m_spec_SameRepairs_l1 (n : Nat) (a_0 : List SRepair) (b_1 : List SRepair) (st8 : Int) : Option (Step (Int) ((Unit) ⊕ (Bool))) :=
  if (decide (st8 < (a_0.length : Int))) then
  Option.bind (Option.bind (idx a_0 st8) fun x195 =>
  Option.bind (idx b_1 st8) fun x208 =>
  if (!(x195.Name == x208.Name)) then
  some true
  else
  Option.bind (idx a_0 st8) fun x227 =>
  Option.bind (idx b_1 st8) fun x240 =>
  Option.bind (m_spec_l00Same n x227.Mends x240.Mends) fun x253 =>
  if (!x253) then
  some true
  else
  Option.bind (idx a_0 st8) fun x263 =>
  Option.bind (idx b_1 st8) fun x276 =>
  Option.bind (m_spec_l00Same n x263.First x276.First) fun x289 =>
  if (!x289) then
  some true
  else
  Option.bind (idx a_0 st8) fun x299 =>
  Option.bind (idx b_1 st8) fun x312 =>
  if (x299.Price != x312.Price) then
  some true
  else
  Option.bind (idx a_0 st8) fun x331 =>
  Option.bind (idx b_1 st8) fun x344 =>
  some (x331.Hours != x344.Hours)) fun x193 =>
  if x193 then
  some (.done (.inr false))
  else
  some (.next (wI64 (st8 + 1)))
  else
  some (.done (.inl ()))

def m_spec_SameRepairs (n : Nat) (a_0 : List SRepair) (b_1 : List SRepair) : Option (Bool) :=
  if ((a_0.length : Int) != (b_1.length : Int)) then
  some false
  else
  Option.bind (loopN (m_spec_SameRepairs_l1 n a_0 b_1) n 0) fun t19 =>
  match t19 with
  | .inl q369 =>
  some true
  | .inr r =>
  some r

def m_laws_toInt64S_l1 (n : Nat) (a_0 : List Int) (st43 : Int × List Int) : Option (Step (Int × List Int) (List Int)) :=
  if (decide (st43.1 < (a_0.length : Int))) then
  Option.bind (idx a_0 st43.1) fun x60 =>
  Option.bind (idx st43.2 st43.1) fun x62 =>
  some (.next ((wI64 (st43.1 + 1)), (st43.2.set (Int.toNat st43.1) x60)))
  else
  some (.done st43.2)

def m_laws_toInt64S (n : Nat) (a_0 : List Int) : Option (List Int) :=
  Option.bind (mk (0 : Int) (a_0.length : Int)) fun x3 =>
  Option.bind (loopN (m_laws_toInt64S_l1 n a_0) n (0, x3)) fun q70 =>
  some q70

def m_laws_toRepair (n : Nat) (a_0 : SRepair) : Option (SRepair) :=
  Option.bind (m_laws_toInt64S n a_0.Mends) fun x34 =>
  Option.bind (m_laws_toInt64S n a_0.First) fun x51 =>
  some (SRepair.mk a_0.Name x34 x51 a_0.Price a_0.Hours)

def m_laws_toRepairS_l1 (n : Nat) (a_0 : List SRepair) (st76 : Int × List SRepair) : Option (Step (Int × List SRepair) (List SRepair)) :=
  if (decide (st76.1 < (a_0.length : Int))) then
  Option.bind (idx a_0 st76.1) fun x93 =>
  Option.bind (m_laws_toRepair n x93) fun x106 =>
  Option.bind (idx st76.2 st76.1) fun x120 =>
  some (.next ((wI64 (st76.1 + 1)), (st76.2.set (Int.toNat st76.1) x106)))
  else
  some (.done st76.2)

def m_laws_toRepairS (n : Nat) (a_0 : List SRepair) : Option (List SRepair) :=
  Option.bind (mk ((SRepair.mk [] ([] : List Int) ([] : List Int) 0 0) : SRepair) (a_0.length : Int)) fun x3 =>
  Option.bind (loopN (m_laws_toRepairS_l1 n a_0) n (0, x3)) fun q136 =>
  some q136

def m_slices_Equal_int64_int64_l1 (n : Nat) (s1_0 : List Int) (s2_1 : List Int) (st8 : Int) : Option (Step (Int) ((Unit) ⊕ (Bool))) :=
  if (decide (st8 < (s1_0.length : Int))) then
  Option.bind (idx s1_0 st8) fun x27 =>
  Option.bind (idx s2_1 st8) fun x29 =>
  if (x27 != x29) then
  some (.done (.inr false))
  else
  some (.next (wI64 (st8 + 1)))
  else
  some (.done (.inl ()))

def m_slices_Equal_int64_int64 (n : Nat) (s1_0 : List Int) (s2_1 : List Int) : Option (Bool) :=
  if ((s1_0.length : Int) != (s2_1.length : Int)) then
  some false
  else
  Option.bind (loopN (m_slices_Equal_int64_int64_l1 n s1_0 s2_1) n 0) fun t19 =>
  match t19 with
  | .inl q39 =>
  some true
  | .inr r =>
  some r

def m_impl_SameRepairs_1 (n : Nat) (x_0 : SRepair) (y_1 : SRepair) : Option (Bool) :=
  Option.bind (if (x_0.Name == y_1.Name) then
  if (x_0.Price == y_1.Price) then
  if (x_0.Hours == y_1.Hours) then
  Option.bind (m_slices_Equal_int64_int64 n x_0.Mends y_1.Mends) fun x44 =>
  if x44 then
  Option.bind (m_slices_Equal_int64_int64 n x_0.First y_1.First) fun x53 =>
  some x53
  else
  some false
  else
  some false
  else
  some false
  else
  some false) fun x39 =>
  some x39

def m_slices_EqualFunc_impl_Repair_impl_Repair_impl_Repair_impl_Repair_f71_l1 (n : Nat) (s1_0 : List SRepair) (s2_1 : List SRepair) (st8 : Int) : Option (Step (Int) ((Unit) ⊕ (Bool))) :=
  if (decide (st8 < (s1_0.length : Int))) then
  Option.bind (idx s1_0 st8) fun x26 =>
  Option.bind (idx s2_1 st8) fun x53 =>
  Option.bind (m_impl_SameRepairs_1 n x26 x53) fun x80 =>
  if (!x80) then
  some (.done (.inr false))
  else
  some (.next (wI64 (st8 + 1)))
  else
  some (.done (.inl ()))

def m_slices_EqualFunc_impl_Repair_impl_Repair_impl_Repair_impl_Repair_f71 (n : Nat) (s1_0 : List SRepair) (s2_1 : List SRepair) : Option (Bool) :=
  if ((s1_0.length : Int) != (s2_1.length : Int)) then
  some false
  else
  Option.bind (loopN (m_slices_EqualFunc_impl_Repair_impl_Repair_impl_Repair_impl_Repair_f71_l1 n s1_0 s2_1) n 0) fun t19 =>
  match t19 with
  | .inl q91 =>
  some true
  | .inr r =>
  some r

def m_impl_SameRepairs (n : Nat) (a_0 : List SRepair) (b_1 : List SRepair) : Option (Bool) :=
  Option.bind (m_slices_EqualFunc_impl_Repair_impl_Repair_impl_Repair_impl_Repair_f71 n a_0 b_1) fun x3 =>
  some x3

def m_laws_eqInt64S_l1 (n : Nat) (a_0 : List Int) (b_1 : List Int) (st8 : Int) : Option (Step (Int) ((Unit) ⊕ (Bool))) :=
  if (decide (st8 < (a_0.length : Int))) then
  Option.bind (idx a_0 st8) fun x26 =>
  Option.bind (idx b_1 st8) fun x28 =>
  if (x26 != x28) then
  some (.done (.inr false))
  else
  some (.next (wI64 (st8 + 1)))
  else
  some (.done (.inl ()))

def m_laws_eqInt64S (n : Nat) (a_0 : List Int) (b_1 : List Int) : Option (Bool) :=
  if ((a_0.length : Int) != (b_1.length : Int)) then
  some false
  else
  Option.bind (loopN (m_laws_eqInt64S_l1 n a_0 b_1) n 0) fun t19 =>
  match t19 with
  | .inl q38 =>
  some true
  | .inr r =>
  some r

def m_laws_eqRepair (n : Nat) (a_0 : SRepair) (b_1 : SRepair) : Option (Bool) :=
  if (!(a_0.Name == b_1.Name)) then
  some false
  else
  Option.bind (m_laws_eqInt64S n a_0.Mends b_1.Mends) fun x24 =>
  if (!x24) then
  some false
  else
  Option.bind (m_laws_eqInt64S n a_0.First b_1.First) fun x36 =>
  if (!x36) then
  some false
  else
  if (a_0.Price != b_1.Price) then
  some false
  else
  if (a_0.Hours != b_1.Hours) then
  some false
  else
  some true

def m_laws_eqRepairS_l1 (n : Nat) (a_0 : List SRepair) (b_1 : List SRepair) (st8 : Int) : Option (Step (Int) ((Unit) ⊕ (Bool))) :=
  if (decide (st8 < (a_0.length : Int))) then
  Option.bind (idx a_0 st8) fun x26 =>
  Option.bind (idx b_1 st8) fun x39 =>
  Option.bind (m_laws_eqRepair n x26 x39) fun x52 =>
  if (!x52) then
  some (.done (.inr false))
  else
  some (.next (wI64 (st8 + 1)))
  else
  some (.done (.inl ()))

def m_laws_eqRepairS (n : Nat) (a_0 : List SRepair) (b_1 : List SRepair) : Option (Bool) :=
  if ((a_0.length : Int) != (b_1.length : Int)) then
  some false
  else
  Option.bind (loopN (m_laws_eqRepairS_l1 n a_0 b_1) n 0) fun t19 =>
  match t19 with
  | .inl q64 =>
  some true
  | .inr r =>
  some r

def m_laws_FnExactSameRepairs (n : Nat) (aA_0 : List SRepair) (aB_1 : List SRepair) : Option (Bool) :=
  Option.bind (m_laws_szRepairS n aA_0 1048576) fun x4 =>
  if (decide (x4 < 0)) then
  some true
  else
  Option.bind (m_laws_szRepairS n aB_1 x4) fun x17 =>
  if (decide (x17 < 0)) then
  some true
  else
  Option.bind (m_laws_toRepairS n aA_0) fun x30 =>
  Option.bind (m_laws_toRepairS n aB_1) fun x41 =>
  Option.bind (m_spec_SameRepairs n x30 x41) fun x52 =>
  Option.bind (m_laws_toRepairS n aA_0) fun x61 =>
  Option.bind (m_laws_toRepairS n aB_1) fun x73 =>
  Option.bind (m_impl_SameRepairs n x61 x73) fun x85 =>
  if (!(x85 == x52)) then
  some false
  else
  Option.bind (m_laws_toRepairS n aA_0) fun x99 =>
  Option.bind (m_laws_eqRepairS n x61 x99) fun x110 =>
  if (!x110) then
  some false
  else
  Option.bind (m_laws_toRepairS n aB_1) fun x122 =>
  Option.bind (m_laws_eqRepairS n x73 x122) fun x133 =>
  if (!x133) then
  some false
  else
  some true

def m_spec_ValidRepairs (n : Nat) (list_0 : List SRepair) : Option (Bool) :=
  Option.bind (m_spec_l21Ok n list_0) fun x3 =>
  some x3

def m_laws_FnExactValidRepairs (n : Nat) (aList_0 : List SRepair) : Option (Bool) :=
  Option.bind (m_laws_szRepairS n aList_0 1048576) fun x4 =>
  if (decide (x4 < 0)) then
  some true
  else
  Option.bind (m_laws_toRepairS n aList_0) fun x17 =>
  Option.bind (m_spec_ValidRepairs n x17) fun x28 =>
  Option.bind (m_laws_toRepairS n aList_0) fun x37 =>
  Option.bind (m_impl_ValidRepairs n x37) fun x49 =>
  if (!(x49 == x28)) then
  some false
  else
  Option.bind (m_laws_toRepairS n aList_0) fun x63 =>
  Option.bind (m_laws_eqRepairS n x37 x63) fun x74 =>
  if (!x74) then
  some false
  else
  some true

def m_spec_HoursOfRepairs_l1 (n : Nat) (list_0 : List SRepair) (some_1 : List Int) (st18 : Int × Int) : Option (Step (Int × Int) (Int)) :=
  if (decide (st18.2 < (some_1.length : Int))) then
  Option.bind (idx some_1 st18.2) fun x35 =>
  Option.bind (idx list_0 x35) fun x37 =>
  some (.next ((wI64 (st18.1 + x37.Hours)), (wI64 (st18.2 + 1))))
  else
  some (.done st18.1)

def m_spec_HoursOfRepairs (n : Nat) (list_0 : List SRepair) (some_1 : List Int) : Option (Int × Int) :=
  Option.bind (m_spec_l21Some n list_0 some_1) fun x3 =>
  if (x3 != 0) then
  some (0, x3)
  else
  Option.bind (loopN (m_spec_HoursOfRepairs_l1 n list_0 some_1) n (0, 0)) fun q51 =>
  some (q51, 0)

def m_impl_HoursOfRepairs_l1 (n : Nat) (list_0 : List SRepair) (some_1 : List Int) (st18 : Int × Int) : Option (Step (Int × Int) (Int)) :=
  if (decide (st18.2 < (some_1.length : Int))) then
  Option.bind (idx some_1 st18.2) fun x36 =>
  Option.bind (idx list_0 x36) fun x38 =>
  some (.next ((wI64 (st18.1 + x38.Hours)), (wI64 (st18.2 + 1))))
  else
  some (.done st18.1)

def m_impl_HoursOfRepairs (n : Nat) (list_0 : List SRepair) (some_1 : List Int) : Option (Int × Int) :=
  Option.bind (m_impl_someCode n list_0 some_1 ([] : List Int)) fun x4 =>
  if (x4 != 0) then
  some (0, x4)
  else
  Option.bind (loopN (m_impl_HoursOfRepairs_l1 n list_0 some_1) n (0, 0)) fun q52 =>
  some (q52, 0)

def m_laws_FnExactHoursOfRepairs (n : Nat) (aList_0 : List SRepair) (aSome_1 : List Int) : Option (Bool) :=
  if (decide ((aSome_1.length : Int) > 1048576)) then
  some true
  else
  Option.bind (m_laws_szRepairS n aList_0 1048576) fun x8 =>
  if (decide (x8 < 0)) then
  some true
  else
  Option.bind (m_laws_toRepairS n aList_0) fun x21 =>
  Option.bind (m_laws_toInt64S n aSome_1) fun x32 =>
  Option.bind (m_spec_HoursOfRepairs n x21 x32) fun x43 =>
  Option.bind (m_laws_toRepairS n aList_0) fun x52 =>
  Option.bind (m_laws_toInt64S n aSome_1) fun x64 =>
  Option.bind (m_impl_HoursOfRepairs n x52 x64) fun x76 =>
  Option.bind (if (x76.1 != x43.1) then
  some true
  else
  some (x76.2 != x43.2)) fun x87 =>
  if x87 then
  some false
  else
  Option.bind (m_laws_toRepairS n aList_0) fun x98 =>
  Option.bind (m_laws_eqRepairS n x52 x98) fun x109 =>
  if (!x109) then
  some false
  else
  Option.bind (m_laws_toInt64S n aSome_1) fun x121 =>
  Option.bind (m_laws_eqInt64S n x64 x121) fun x132 =>
  if (!x132) then
  some false
  else
  some true

def m_spec_PriceOfRepairs (n : Nat) (list_0 : List SRepair) (some_1 : List Int) : Option (Int × Int) :=
  Option.bind (m_spec_l21Some n list_0 some_1) fun x3 =>
  if (x3 != 0) then
  some (0, x3)
  else
  Option.bind (m_spec_l21Price n list_0 some_1) fun x16 =>
  some (x16, 0)

def m_laws_FnExactPriceOfRepairs (n : Nat) (aList_0 : List SRepair) (aSome_1 : List Int) : Option (Bool) :=
  if (decide ((aSome_1.length : Int) > 1048576)) then
  some true
  else
  Option.bind (m_laws_szRepairS n aList_0 1048576) fun x8 =>
  if (decide (x8 < 0)) then
  some true
  else
  Option.bind (m_laws_toRepairS n aList_0) fun x21 =>
  Option.bind (m_laws_toInt64S n aSome_1) fun x32 =>
  Option.bind (m_spec_PriceOfRepairs n x21 x32) fun x43 =>
  Option.bind (m_laws_toRepairS n aList_0) fun x52 =>
  Option.bind (m_laws_toInt64S n aSome_1) fun x64 =>
  Option.bind (m_impl_PriceOfRepairs n x52 x64) fun x76 =>
  Option.bind (if (x76.1 != x43.1) then
  some true
  else
  some (x76.2 != x43.2)) fun x87 =>
  if x87 then
  some false
  else
  Option.bind (m_laws_toRepairS n aList_0) fun x98 =>
  Option.bind (m_laws_eqRepairS n x52 x98) fun x109 =>
  if (!x109) then
  some false
  else
  Option.bind (m_laws_toInt64S n aSome_1) fun x121 =>
  Option.bind (m_laws_eqInt64S n x64 x121) fun x132 =>
  if (!x132) then
  some false
  else
  some true

def m_spec_RepairsFor_l1 (n : Nat) (list_0 : List SRepair) (fault_1 : Int) (st42 : List Int × Int) : Option (Step (List Int × Int) (List Int)) :=
  if (decide (st42.2 < (list_0.length : Int))) then
  Option.bind (idx list_0 st42.2) fun x63 =>
  Option.bind (m_spec_l00Has n x63.Mends fault_1) fun x76 =>
  Option.bind (if x76 then
  Option.bind (app st42.1 ([st42.2] : List Int)) fun x117 =>
  some x117
  else
  some st42.1) fun x103 =>
  some (.next (x103, (wI64 (st42.2 + 1))))
  else
  some (.done st42.1)

def m_spec_RepairsFor (n : Nat) (list_0 : List SRepair) (fault_1 : Int) : Option (List Int × Int) :=
  Option.bind (m_spec_l21Ok n list_0) fun x4 =>
  if (!x4) then
  some (([] : List Int), 1)
  else
  Option.bind (m_spec_l00In n fault_1 0 9) fun x18 =>
  if (!x18) then
  some (([] : List Int), 2)
  else
  Option.bind (loopN (m_spec_RepairsFor_l1 n list_0 fault_1) n (([] : List Int), 0)) fun q131 =>
  some (q131, 0)

def m_impl_RepairsFor_l1 (n : Nat) (list_0 : List SRepair) (fault_1 : Int) (st41 : List Int × Int) : Option (Step (List Int × Int) (List Int)) :=
  if (decide (st41.2 < (list_0.length : Int))) then
  Option.bind (idx list_0 st41.2) fun x62 =>
  Option.bind (m_slices_Contains_int64_int64 n x62.Mends fault_1) fun x89 =>
  Option.bind (if x89 then
  Option.bind (app st41.1 ([st41.2] : List Int)) fun x130 =>
  some x130
  else
  some st41.1) fun x116 =>
  some (.next (x116, (wI64 (st41.2 + 1))))
  else
  some (.done st41.1)

def m_impl_RepairsFor (n : Nat) (list_0 : List SRepair) (fault_1 : Int) : Option (List Int × Int) :=
  Option.bind (m_impl_ValidRepairs n list_0) fun x4 =>
  if (!x4) then
  some (([] : List Int), 1)
  else
  Option.bind (m_impl_within n fault_1 0 9) fun x17 =>
  if (!x17) then
  some (([] : List Int), 2)
  else
  Option.bind (loopN (m_impl_RepairsFor_l1 n list_0 fault_1) n (([] : List Int), 0)) fun q144 =>
  some (q144, 0)

def m_laws_markInt64S_l1 (n : Nat)  (st31 : Int × Int × List Int) : Option (Step (Int × Int × List Int) (Int × List Int)) :=
  if (decide (st31.2.1 < (st31.2.2.length : Int))) then
  Option.bind (idx st31.2.2 st31.2.1) fun x50 =>
  some (.next ((wI64 (st31.1 + 1)), (wI64 (st31.2.1 + 1)), (st31.2.2.set (Int.toNat st31.2.1) st31.1)))
  else
  some (.done (st31.1, st31.2.2))

def m_laws_markInt64S (n : Nat) (a_0 : List Int) (k_1 : Int) : Option (Int × List Int) :=
  Option.bind (loopN (m_laws_markInt64S_l1 n) n (k_1, 0, a_0)) fun q59 =>
  some (q59.1, q59.2)

def m_laws_markText_l1 (n : Nat)  (st8 : Int × List UInt8) : Option (Step (Int × List UInt8) (List UInt8)) :=
  if (decide (st8.1 > 0)) then
  Option.bind (app (ofBytes ([(IntKind.u8.wrap (wI64 (48 + (Int.tmod st8.1 10))))] : List Int)) st8.2) fun x34 =>
  some (.next ((wI64 (Int.tdiv st8.1 10)), x34))
  else
  some (.done st8.2)

def m_laws_markText (n : Nat) (k_0 : Int) : Option (List UInt8) :=
  if (decide (k_0 ≤ 0)) then
  some [109, 48]
  else
  Option.bind (loopN (m_laws_markText_l1 n) n (k_0, [])) fun q39 =>
  Option.bind (app [109] q39) fun x41 =>
  some x41

def m_laws_markRepairS_l1 (n : Nat)  (st127 : Int × Int × List SRepair) : Option (Step (Int × Int × List SRepair) (Int × List SRepair)) :=
  if (decide (st127.2.1 < (st127.2.2.length : Int))) then
  Option.bind (m_laws_markText n st127.1) fun x146 =>
  Option.bind (idx st127.2.2 st127.2.1) fun x154 =>
  Option.bind (idx (st127.2.2.set (Int.toNat st127.2.1) (SRepair.mk x146 x154.Mends x154.First x154.Price x154.Hours)) st127.2.1) fun x172 =>
  Option.bind (m_laws_markInt64S n x172.Mends (wI64 (st127.1 + 1))) fun x181 =>
  Option.bind (idx ((st127.2.2.set (Int.toNat st127.2.1) (SRepair.mk x146 x154.Mends x154.First x154.Price x154.Hours)).set (Int.toNat st127.2.1) (SRepair.mk x172.Name x181.2 x172.First x172.Price x172.Hours)) st127.2.1) fun x194 =>
  Option.bind (m_laws_markInt64S n x194.First x181.1) fun x203 =>
  Option.bind (idx (((st127.2.2.set (Int.toNat st127.2.1) (SRepair.mk x146 x154.Mends x154.First x154.Price x154.Hours)).set (Int.toNat st127.2.1) (SRepair.mk x172.Name x181.2 x172.First x172.Price x172.Hours)).set (Int.toNat st127.2.1) (SRepair.mk x194.Name x194.Mends x203.2 x194.Price x194.Hours)) st127.2.1) fun x216 =>
  Option.bind (idx ((((st127.2.2.set (Int.toNat st127.2.1) (SRepair.mk x146 x154.Mends x154.First x154.Price x154.Hours)).set (Int.toNat st127.2.1) (SRepair.mk x172.Name x181.2 x172.First x172.Price x172.Hours)).set (Int.toNat st127.2.1) (SRepair.mk x194.Name x194.Mends x203.2 x194.Price x194.Hours)).set (Int.toNat st127.2.1) (SRepair.mk x216.Name x216.Mends x216.First x203.1 x216.Hours)) st127.2.1) fun x234 =>
  some (.next ((wI64 ((wI64 (x203.1 + 1)) + 1)), (wI64 (st127.2.1 + 1)), (((((st127.2.2.set (Int.toNat st127.2.1) (SRepair.mk x146 x154.Mends x154.First x154.Price x154.Hours)).set (Int.toNat st127.2.1) (SRepair.mk x172.Name x181.2 x172.First x172.Price x172.Hours)).set (Int.toNat st127.2.1) (SRepair.mk x194.Name x194.Mends x203.2 x194.Price x194.Hours)).set (Int.toNat st127.2.1) (SRepair.mk x216.Name x216.Mends x216.First x203.1 x216.Hours)).set (Int.toNat st127.2.1) (SRepair.mk x234.Name x234.Mends x234.First x234.Price (wI64 (x203.1 + 1))))))
  else
  some (.done (st127.1, st127.2.2))

def m_laws_markRepairS (n : Nat) (a_0 : List SRepair) (k_1 : Int) : Option (Int × List SRepair) :=
  Option.bind (loopN (m_laws_markRepairS_l1 n) n (k_1, 0, a_0)) fun q251 =>
  some (q251.1, q251.2)

def m_laws_heldInt64S_l1 (n : Nat) (a_0 : List Int) (st4 : Int × Int) : Option (Step (Int × Int) ((Int) ⊕ (Int))) :=
  if (decide (st4.2 < (a_0.length : Int))) then
  Option.bind (idx a_0 st4.2) fun x23 =>
  if (x23 != st4.1) then
  some (.done (.inr (-1)))
  else
  some (.next ((wI64 (st4.1 + 1)), (wI64 (st4.2 + 1))))
  else
  some (.done (.inl st4.1))

def m_laws_heldInt64S (n : Nat) (a_0 : List Int) (k_1 : Int) : Option (Int) :=
  Option.bind (loopN (m_laws_heldInt64S_l1 n a_0) n (k_1, 0)) fun t15 =>
  match t15 with
  | .inl q28 =>
  some q28
  | .inr r =>
  some r

def m_laws_FnExactRepairsFor (n : Nat) (aList_0 : List SRepair) (aFault_1 : Int) : Option (Bool) :=
  Option.bind (m_laws_szRepairS n aList_0 1048576) fun x4 =>
  if (decide (x4 < 0)) then
  some true
  else
  Option.bind (m_laws_toRepairS n aList_0) fun x17 =>
  Option.bind (m_spec_RepairsFor n x17 aFault_1) fun x28 =>
  Option.bind (m_laws_toRepairS n aList_0) fun x40 =>
  Option.bind (m_impl_RepairsFor n x40 aFault_1) fun x52 =>
  Option.bind (Option.bind (m_laws_eqInt64S n x52.1 x28.1) fun x76 =>
  if (!x76) then
  some true
  else
  some (x52.2 != x28.2)) fun x74 =>
  if x74 then
  some false
  else
  Option.bind (m_laws_toRepairS n aList_0) fun x93 =>
  Option.bind (m_laws_eqRepairS n x40 x93) fun x104 =>
  if (!x104) then
  some false
  else
  Option.bind (m_laws_markRepairS n x40 1) fun x116 =>
  Option.bind (if (decide (x116.1 < 0)) then
  some true
  else
  Option.bind (m_laws_eqInt64S n x52.1 x28.1) fun x141 =>
  if (!x141) then
  some true
  else
  some (x52.2 != x28.2)) fun x138 =>
  if x138 then
  some false
  else
  Option.bind (m_laws_markInt64S n x52.1 1) fun x158 =>
  Option.bind (m_laws_heldInt64S n x158.2 1) fun x170 =>
  if (decide (x170 < 0)) then
  some false
  else
  if (x170 != x158.1) then
  some false
  else
  Option.bind (m_laws_toRepairS n aList_0) fun x187 =>
  Option.bind (m_impl_RepairsFor n x187 aFault_1) fun x198 =>
  Option.bind (Option.bind (m_laws_eqInt64S n x198.1 x28.1) fun x222 =>
  if (!x222) then
  some true
  else
  some (x198.2 != x28.2)) fun x220 =>
  if x220 then
  some false
  else
  Option.bind (m_laws_heldInt64S n x158.2 1) fun x239 =>
  if (decide (x239 < 0)) then
  some false
  else
  if (x239 != x158.1) then
  some false
  else
  some true

def m_laws_FnExactMendsAll (n : Nat) (aList_0 : List SRepair) (aSome_1 : List Int) (aFaults_2 : List Int) : Option (Bool) :=
  if (decide ((aSome_1.length : Int) > 1048576)) then
  some true
  else
  if (decide ((aFaults_2.length : Int) > 1048576)) then
  some true
  else
  Option.bind (m_laws_szRepairS n aList_0 1048576) fun x12 =>
  if (decide (x12 < 0)) then
  some true
  else
  Option.bind (m_laws_toRepairS n aList_0) fun x25 =>
  Option.bind (m_laws_toInt64S n aSome_1) fun x36 =>
  Option.bind (m_laws_toInt64S n aFaults_2) fun x47 =>
  Option.bind (m_spec_MendsAll n x25 x36 x47) fun x58 =>
  Option.bind (m_laws_toRepairS n aList_0) fun x67 =>
  Option.bind (m_laws_toInt64S n aSome_1) fun x79 =>
  Option.bind (m_laws_toInt64S n aFaults_2) fun x91 =>
  Option.bind (m_impl_MendsAll n x67 x79 x91) fun x103 =>
  Option.bind (if (!(x103.1 == x58.1)) then
  some true
  else
  some (x103.2 != x58.2)) fun x114 =>
  if x114 then
  some false
  else
  Option.bind (m_laws_toRepairS n aList_0) fun x125 =>
  Option.bind (m_laws_eqRepairS n x67 x125) fun x136 =>
  if (!x136) then
  some false
  else
  Option.bind (m_laws_toInt64S n aSome_1) fun x148 =>
  Option.bind (m_laws_eqInt64S n x79 x148) fun x159 =>
  if (!x159) then
  some false
  else
  Option.bind (m_laws_toInt64S n aFaults_2) fun x171 =>
  Option.bind (m_laws_eqInt64S n x91 x171) fun x182 =>
  if (!x182) then
  some false
  else
  some true

def m_spec_WithFirst (n : Nat) (list_0 : List SRepair) (some_1 : List Int) : Option (List Int × Int) :=
  Option.bind (m_spec_l21Some n list_0 some_1) fun x3 =>
  if (x3 != 0) then
  some (([] : List Int), x3)
  else
  Option.bind (m_spec_l21With n list_0 some_1) fun x18 =>
  some (x18, 0)

def m_slices_Reverse_int64_int64_l1 (n : Nat)  (st49 : Int × Int × List Int) : Option (Step (Int × Int × List Int) (List Int)) :=
  if (decide (st49.1 < st49.2.1)) then
  Option.bind (idx st49.2.2 st49.2.1) fun x72 =>
  Option.bind (idx st49.2.2 st49.1) fun x74 =>
  Option.bind (idx st49.2.2 st49.1) fun x76 =>
  Option.bind (idx (st49.2.2.set (Int.toNat st49.1) x72) st49.2.1) fun x89 =>
  some (.next ((wI64 (st49.1 + 1)), (wI64 (st49.2.1 - 1)), ((st49.2.2.set (Int.toNat st49.1) x72).set (Int.toNat st49.2.1) x74)))
  else
  some (.done st49.2.2)

def m_slices_Reverse_int64_int64 (n : Nat) (s_0 : List Int) : Option (List Int) :=
  Option.bind (loopN (m_slices_Reverse_int64_int64_l1 n) n (0, (wI64 ((s_0.length : Int) - 1)), s_0)) fun q97 =>
  some q97

def m_impl_WithFirst_l3 (n : Nat) (x105 : SRepair) (st118 : Int × Int) : Option (Step (Int × Int) (Int)) :=
  if (decide (st118.2 < (x105.First.length : Int))) then
  Option.bind (idx x105.First st118.2) fun x136 =>
  Option.bind (shl .i64 1 (IntKind.u64.wrap x136)) fun x138 =>
  some (.next ((ior .i64 st118.1 x138), (wI64 (st118.2 + 1))))
  else
  some (.done st118.1)

def m_impl_WithFirst_l2 (n : Nat) (list_0 : List SRepair) (st54 : Int × List Int × Int) : Option (Step (Int × List Int × Int) (List Int)) :=
  if (decide (st54.2.2 ≥ 0)) then
  Option.bind (m_impl_has n st54.1 st54.2.2) fun x76 =>
  if (!x76) then
  some (.next (st54.1, st54.2.1, (wI64 (st54.2.2 - 1))))
  else
  Option.bind (app st54.2.1 ([st54.2.2] : List Int)) fun x95 =>
  Option.bind (idx list_0 st54.2.2) fun x105 =>
  Option.bind (loopN (m_impl_WithFirst_l3 n x105) n (st54.1, 0)) fun q140 =>
  some (.next (q140, x95, (wI64 (st54.2.2 - 1))))
  else
  some (.done st54.2.1)

def m_impl_WithFirst_l1 (n : Nat) (some_1 : List Int) (st20 : Int × Int) : Option (Step (Int × Int) (Int)) :=
  if (decide (st20.2 < (some_1.length : Int))) then
  Option.bind (idx some_1 st20.2) fun x38 =>
  Option.bind (shl .i64 1 (IntKind.u64.wrap x38)) fun x40 =>
  some (.next ((ior .i64 st20.1 x40), (wI64 (st20.2 + 1))))
  else
  some (.done st20.1)

def m_impl_WithFirst_l5 (n : Nat) (x233 : SRepair) (st246 : Int × Int) : Option (Step (Int × Int) (Int)) :=
  if (decide (st246.2 < (x233.First.length : Int))) then
  Option.bind (idx x233.First st246.2) fun x264 =>
  Option.bind (shl .i64 1 (IntKind.u64.wrap x264)) fun x266 =>
  some (.next ((ior .i64 st246.1 x266), (wI64 (st246.2 + 1))))
  else
  some (.done st246.1)

def m_impl_WithFirst_l4 (n : Nat) (list_0 : List SRepair) (st182 : Int × List Int × Int) : Option (Step (Int × List Int × Int) (List Int)) :=
  if (decide (st182.2.2 ≥ 0)) then
  Option.bind (m_impl_has n st182.1 st182.2.2) fun x204 =>
  if (!x204) then
  some (.next (st182.1, st182.2.1, (wI64 (st182.2.2 - 1))))
  else
  Option.bind (app st182.2.1 ([st182.2.2] : List Int)) fun x223 =>
  Option.bind (idx list_0 st182.2.2) fun x233 =>
  Option.bind (loopN (m_impl_WithFirst_l5 n x233) n (st182.1, 0)) fun q268 =>
  some (.next (q268, x223, (wI64 (st182.2.2 - 1))))
  else
  some (.done st182.2.1)

def m_impl_WithFirst (n : Nat) (list_0 : List SRepair) (some_1 : List Int) : Option (List Int × Int) :=
  Option.bind (m_impl_someCode n list_0 some_1 ([] : List Int)) fun x4 =>
  if (x4 != 0) then
  some (([] : List Int), x4)
  else
  Option.bind (loopN (m_impl_WithFirst_l1 n some_1) n (0, 0)) fun q169 =>
  Option.bind (loopN (m_impl_WithFirst_l4 n list_0) n (q169, ([] : List Int), (wI64 ((list_0.length : Int) - 1)))) fun q281 =>
  Option.bind (m_slices_Reverse_int64_int64 n q281) fun x286 =>
  some (x286, 0)

def m_laws_FnExactWithFirst (n : Nat) (aList_0 : List SRepair) (aSome_1 : List Int) : Option (Bool) :=
  if (decide ((aSome_1.length : Int) > 1048576)) then
  some true
  else
  Option.bind (m_laws_szRepairS n aList_0 1048576) fun x8 =>
  if (decide (x8 < 0)) then
  some true
  else
  Option.bind (m_laws_toRepairS n aList_0) fun x21 =>
  Option.bind (m_laws_toInt64S n aSome_1) fun x32 =>
  Option.bind (m_spec_WithFirst n x21 x32) fun x43 =>
  Option.bind (m_laws_toRepairS n aList_0) fun x55 =>
  Option.bind (m_laws_toInt64S n aSome_1) fun x67 =>
  Option.bind (m_impl_WithFirst n x55 x67) fun x79 =>
  Option.bind (Option.bind (m_laws_eqInt64S n x79.1 x43.1) fun x103 =>
  if (!x103) then
  some true
  else
  some (x79.2 != x43.2)) fun x101 =>
  if x101 then
  some false
  else
  Option.bind (m_laws_toRepairS n aList_0) fun x120 =>
  Option.bind (m_laws_eqRepairS n x55 x120) fun x131 =>
  if (!x131) then
  some false
  else
  Option.bind (m_laws_toInt64S n aSome_1) fun x143 =>
  Option.bind (m_laws_eqInt64S n x67 x143) fun x154 =>
  if (!x154) then
  some false
  else
  Option.bind (m_laws_markRepairS n x55 1) fun x166 =>
  Option.bind (m_laws_markInt64S n x67 x166.1) fun x177 =>
  Option.bind (if (decide (x177.1 < 0)) then
  some true
  else
  Option.bind (m_laws_eqInt64S n x79.1 x43.1) fun x202 =>
  if (!x202) then
  some true
  else
  some (x79.2 != x43.2)) fun x199 =>
  if x199 then
  some false
  else
  Option.bind (m_laws_markInt64S n x79.1 1) fun x219 =>
  Option.bind (m_laws_heldInt64S n x219.2 1) fun x231 =>
  if (decide (x231 < 0)) then
  some false
  else
  if (x231 != x219.1) then
  some false
  else
  Option.bind (m_laws_toRepairS n aList_0) fun x248 =>
  Option.bind (m_laws_toInt64S n aSome_1) fun x259 =>
  Option.bind (m_impl_WithFirst n x248 x259) fun x270 =>
  Option.bind (Option.bind (m_laws_eqInt64S n x270.1 x43.1) fun x294 =>
  if (!x294) then
  some true
  else
  some (x270.2 != x43.2)) fun x292 =>
  if x292 then
  some false
  else
  Option.bind (m_laws_heldInt64S n x219.2 1) fun x311 =>
  if (decide (x311 < 0)) then
  some false
  else
  if (x311 != x219.1) then
  some false
  else
  some true

def m_spec_HopelessFaults_l2 (n : Nat) (list_0 : List SRepair) (faults_1 : List Int) (st38 : List Int × Int) (st88 : List Int × Int) : Option (Step (List Int × Int) (List Int)) :=
  if (decide (st88.2 < (faults_1.length : Int))) then
  Option.bind (idx faults_1 st88.2) fun x109 =>
  Option.bind (m_spec_l21Mended n list_0 st38.1 x109) fun x111 =>
  Option.bind (if (!x111) then
  Option.bind (idx faults_1 st88.2) fun x145 =>
  Option.bind (app st88.1 ([x145] : List Int)) fun x156 =>
  some x156
  else
  some st88.1) fun x140 =>
  some (.next (x140, (wI64 (st88.2 + 1))))
  else
  some (.done st88.1)

def m_spec_HopelessFaults_l1 (n : Nat) (list_0 : List SRepair) (st38 : List Int × Int) : Option (Step (List Int × Int) (List Int)) :=
  if (decide (st38.2 < (list_0.length : Int))) then
  Option.bind (app st38.1 ([st38.2] : List Int)) fun x67 =>
  some (.next (x67, (wI64 (st38.2 + 1))))
  else
  some (.done st38.1)

def m_spec_HopelessFaults_l3 (n : Nat) (list_0 : List SRepair) (faults_1 : List Int) (q175 : List Int) (st191 : List Int × Int) : Option (Step (List Int × Int) (List Int)) :=
  if (decide (st191.2 < (faults_1.length : Int))) then
  Option.bind (idx faults_1 st191.2) fun x212 =>
  Option.bind (m_spec_l21Mended n list_0 q175 x212) fun x214 =>
  Option.bind (if (!x214) then
  Option.bind (idx faults_1 st191.2) fun x248 =>
  Option.bind (app st191.1 ([x248] : List Int)) fun x259 =>
  some x259
  else
  some st191.1) fun x243 =>
  some (.next (x243, (wI64 (st191.2 + 1))))
  else
  some (.done st191.1)

def m_spec_HopelessFaults (n : Nat) (list_0 : List SRepair) (faults_1 : List Int) : Option (List Int × Int) :=
  Option.bind (m_spec_l21Faults n list_0 ([] : List Int) faults_1) fun x12 =>
  if (x12 != 0) then
  some (([] : List Int), x12)
  else
  Option.bind (loopN (m_spec_HopelessFaults_l1 n list_0) n (([] : List Int), 0)) fun q175 =>
  Option.bind (loopN (m_spec_HopelessFaults_l3 n list_0 faults_1 q175) n (([] : List Int), 0)) fun q273 =>
  some (q273, 0)

def m_slices_Clone_int64_int64 (n : Nat) (s_0 : List Int) : Option (List Int) :=
    Option.bind (app ([] : List Int) s_0) fun x18 =>
    some x18

def m_impl_HopelessFaults_1_1 (n : Nat) (r_0 : SRepair) (cap_1 : Int) : Option (Bool) :=
  Option.bind (m_slices_Contains_int64_int64 n r_0.Mends cap_1) fun x11 =>
  some x11

def m_slices_IndexFunc_impl_Repair_impl_Repair_f90_l1 (n : Nat) (s_0 : List SRepair) (cap_1_0 : Int) (st4 : Int) : Option (Step (Int) ((Unit) ⊕ (Int))) :=
  if (decide (st4 < (s_0.length : Int))) then
  Option.bind (idx s_0 st4) fun x23 =>
  Option.bind (m_impl_HopelessFaults_1_1 n x23 cap_1_0) fun x36 =>
  if x36 then
  some (.done (.inr st4))
  else
  some (.next (wI64 (st4 + 1)))
  else
  some (.done (.inl ()))

def m_slices_IndexFunc_impl_Repair_impl_Repair_f90 (n : Nat) (s_0 : List SRepair) (cap_1_0 : Int) : Option (Int) :=
  Option.bind (loopN (m_slices_IndexFunc_impl_Repair_impl_Repair_f90_l1 n s_0 cap_1_0) n 0) fun t15 =>
  match t15 with
  | .inl q47 =>
  some (-1)
  | .inr r =>
  some r

def m_slices_ContainsFunc_impl_Repair_impl_Repair_f90 (n : Nat) (s_0 : List SRepair) (cap_1_0 : Int) : Option (Bool) :=
  Option.bind (m_slices_IndexFunc_impl_Repair_impl_Repair_f90 n s_0 cap_1_0) fun x3 =>
  some (decide (x3 ≥ 0))

def m_impl_HopelessFaults_1 (n : Nat) (fault_0 : Int) (cap_1 : List SRepair) : Option (Bool) :=
  Option.bind (m_slices_ContainsFunc_impl_Repair_impl_Repair_f90 n cap_1 fault_0) fun x11 =>
  some x11

def m_slices_IndexFunc_int64_int64_f89_l1 (n : Nat) (s_0 : List Int) (cap_1_0 : List SRepair) (st4 : Int) : Option (Step (Int) ((Unit) ⊕ (Int))) :=
  if (decide (st4 < (s_0.length : Int))) then
  Option.bind (idx s_0 st4) fun x23 =>
  Option.bind (m_impl_HopelessFaults_1 n x23 cap_1_0) fun x25 =>
  if x25 then
  some (.done (.inr st4))
  else
  some (.next (wI64 (st4 + 1)))
  else
  some (.done (.inl ()))

def m_slices_IndexFunc_int64_int64_f89 (n : Nat) (s_0 : List Int) (cap_1_0 : List SRepair) : Option (Int) :=
  Option.bind (loopN (m_slices_IndexFunc_int64_int64_f89_l1 n s_0 cap_1_0) n 0) fun t15 =>
  match t15 with
  | .inl q36 =>
  some (-1)
  | .inr r =>
  some r

def m_slices_DeleteFunc_int64_int64_f89_o1_l1 (n : Nat) (cap_1_0 : List SRepair) (st101 : Int × Int × List Int) : Option (Step (Int × Int × List Int) (Int × List Int)) :=
  if (decide (st101.2.1 < (st101.2.2.length : Int))) then
  Option.bind (idx st101.2.2 st101.2.1) fun x119 =>
  Option.bind (m_impl_HopelessFaults_1 n x119 cap_1_0) fun x122 =>
  Option.bind (if (!x122) then
  Option.bind (idx st101.2.2 st101.1) fun x160 =>
  some ((wI64 (st101.1 + 1)), (st101.2.2.set (Int.toNat st101.1) x119))
  else
  some (st101.1, st101.2.2)) fun x157 =>
  some (.next (x157.1, (wI64 (st101.2.1 + 1)), x157.2))
  else
  some (.done (st101.1, st101.2.2))

def m_slices_DeleteFunc_int64_int64_f89_o1 (n : Nat) (s_0 : List Int) (cap_1_0 : List SRepair) : Option (List Int) :=
  Option.bind (m_slices_IndexFunc_int64_int64_f89 n s_0 cap_1_0) fun x3 =>
  if (x3 == (-1)) then
  some s_0
  else
  Option.bind (loopN (m_slices_DeleteFunc_int64_int64_f89_o1_l1 n cap_1_0) n (x3, (wI64 (x3 + 1)), s_0)) fun q185 =>
  Option.bind (sub q185.2 q185.1 (q185.2.length : Int)) fun x187 =>
  Option.bind (sub (q185.2.take (Int.toNat q185.1) ++ List.replicate (q185.2.length - Int.toNat q185.1) 0) 0 q185.1) fun x197 =>
  some x197

def m_impl_HopelessFaults (n : Nat) (list_0 : List SRepair) (faults_1 : List Int) : Option (List Int × Int) :=
  Option.bind (m_impl_someCode n list_0 ([] : List Int) faults_1) fun x12 =>
  if (x12 != 0) then
  some (([] : List Int), x12)
  else
  Option.bind (m_slices_Clone_int64_int64 n faults_1) fun x26 =>
  Option.bind (m_slices_DeleteFunc_int64_int64_f89_o1 n x26 list_0) fun x37 =>
  some (x37, 0)

def m_laws_FnExactHopelessFaults (n : Nat) (aList_0 : List SRepair) (aFaults_1 : List Int) : Option (Bool) :=
  if (decide ((aFaults_1.length : Int) > 1048576)) then
  some true
  else
  Option.bind (m_laws_szRepairS n aList_0 1048576) fun x8 =>
  if (decide (x8 < 0)) then
  some true
  else
  Option.bind (m_laws_toRepairS n aList_0) fun x21 =>
  Option.bind (m_laws_toInt64S n aFaults_1) fun x32 =>
  Option.bind (m_spec_HopelessFaults n x21 x32) fun x43 =>
  Option.bind (m_laws_toRepairS n aList_0) fun x55 =>
  Option.bind (m_laws_toInt64S n aFaults_1) fun x67 =>
  Option.bind (m_impl_HopelessFaults n x55 x67) fun x79 =>
  Option.bind (Option.bind (m_laws_eqInt64S n x79.1 x43.1) fun x103 =>
  if (!x103) then
  some true
  else
  some (x79.2 != x43.2)) fun x101 =>
  if x101 then
  some false
  else
  Option.bind (m_laws_toRepairS n aList_0) fun x120 =>
  Option.bind (m_laws_eqRepairS n x55 x120) fun x131 =>
  if (!x131) then
  some false
  else
  Option.bind (m_laws_toInt64S n aFaults_1) fun x143 =>
  Option.bind (m_laws_eqInt64S n x67 x143) fun x154 =>
  if (!x154) then
  some false
  else
  Option.bind (m_laws_markRepairS n x55 1) fun x166 =>
  Option.bind (m_laws_markInt64S n x67 x166.1) fun x177 =>
  Option.bind (if (decide (x177.1 < 0)) then
  some true
  else
  Option.bind (m_laws_eqInt64S n x79.1 x43.1) fun x202 =>
  if (!x202) then
  some true
  else
  some (x79.2 != x43.2)) fun x199 =>
  if x199 then
  some false
  else
  Option.bind (m_laws_markInt64S n x79.1 1) fun x219 =>
  Option.bind (m_laws_heldInt64S n x219.2 1) fun x231 =>
  if (decide (x231 < 0)) then
  some false
  else
  if (x231 != x219.1) then
  some false
  else
  Option.bind (m_laws_toRepairS n aList_0) fun x248 =>
  Option.bind (m_laws_toInt64S n aFaults_1) fun x259 =>
  Option.bind (m_impl_HopelessFaults n x248 x259) fun x270 =>
  Option.bind (Option.bind (m_laws_eqInt64S n x270.1 x43.1) fun x294 =>
  if (!x294) then
  some true
  else
  some (x270.2 != x43.2)) fun x292 =>
  if x292 then
  some false
  else
  Option.bind (m_laws_heldInt64S n x219.2 1) fun x311 =>
  if (decide (x311 < 0)) then
  some false
  else
  if (x311 != x219.1) then
  some false
  else
  some true

def m_laws_FnExactNeedlessRepairs (n : Nat) (aList_0 : List SRepair) (aSome_1 : List Int) (aFaults_2 : List Int) : Option (Bool) :=
  if (decide ((aSome_1.length : Int) > 1048576)) then
  some true
  else
  if (decide ((aFaults_2.length : Int) > 1048576)) then
  some true
  else
  Option.bind (m_laws_szRepairS n aList_0 1048576) fun x12 =>
  if (decide (x12 < 0)) then
  some true
  else
  Option.bind (m_laws_toRepairS n aList_0) fun x25 =>
  Option.bind (m_laws_toInt64S n aSome_1) fun x36 =>
  Option.bind (m_laws_toInt64S n aFaults_2) fun x47 =>
  Option.bind (m_spec_NeedlessRepairs n x25 x36 x47) fun x58 =>
  Option.bind (m_laws_toRepairS n aList_0) fun x70 =>
  Option.bind (m_laws_toInt64S n aSome_1) fun x82 =>
  Option.bind (m_laws_toInt64S n aFaults_2) fun x94 =>
  Option.bind (m_impl_NeedlessRepairs n x70 x82 x94) fun x106 =>
  Option.bind (Option.bind (m_laws_eqInt64S n x106.1 x58.1) fun x130 =>
  if (!x130) then
  some true
  else
  some (x106.2 != x58.2)) fun x128 =>
  if x128 then
  some false
  else
  Option.bind (m_laws_toRepairS n aList_0) fun x147 =>
  Option.bind (m_laws_eqRepairS n x70 x147) fun x158 =>
  if (!x158) then
  some false
  else
  Option.bind (m_laws_toInt64S n aSome_1) fun x170 =>
  Option.bind (m_laws_eqInt64S n x82 x170) fun x181 =>
  if (!x181) then
  some false
  else
  Option.bind (m_laws_toInt64S n aFaults_2) fun x193 =>
  Option.bind (m_laws_eqInt64S n x94 x193) fun x204 =>
  if (!x204) then
  some false
  else
  Option.bind (m_laws_markRepairS n x70 1) fun x216 =>
  Option.bind (m_laws_markInt64S n x82 x216.1) fun x227 =>
  Option.bind (m_laws_markInt64S n x94 x227.1) fun x238 =>
  Option.bind (if (decide (x238.1 < 0)) then
  some true
  else
  Option.bind (m_laws_eqInt64S n x106.1 x58.1) fun x263 =>
  if (!x263) then
  some true
  else
  some (x106.2 != x58.2)) fun x260 =>
  if x260 then
  some false
  else
  Option.bind (m_laws_markInt64S n x106.1 1) fun x280 =>
  Option.bind (m_laws_heldInt64S n x280.2 1) fun x292 =>
  if (decide (x292 < 0)) then
  some false
  else
  if (x292 != x280.1) then
  some false
  else
  Option.bind (m_laws_toRepairS n aList_0) fun x309 =>
  Option.bind (m_laws_toInt64S n aSome_1) fun x320 =>
  Option.bind (m_laws_toInt64S n aFaults_2) fun x331 =>
  Option.bind (m_impl_NeedlessRepairs n x309 x320 x331) fun x342 =>
  Option.bind (Option.bind (m_laws_eqInt64S n x342.1 x58.1) fun x366 =>
  if (!x366) then
  some true
  else
  some (x342.2 != x58.2)) fun x364 =>
  if x364 then
  some false
  else
  Option.bind (m_laws_heldInt64S n x280.2 1) fun x383 =>
  if (decide (x383 < 0)) then
  some false
  else
  if (x383 != x280.1) then
  some false
  else
  some true

def m_laws_FnExactIsWorthwhile (n : Nat) (aList_0 : List SRepair) (aFaults_1 : List Int) (aValue_2 : Int) (aPercent_3 : Int) : Option (Bool) :=
  if (decide ((aFaults_1.length : Int) > 1048576)) then
  some true
  else
  Option.bind (m_laws_szRepairS n aList_0 1048576) fun x8 =>
  if (decide (x8 < 0)) then
  some true
  else
  Option.bind (m_laws_toRepairS n aList_0) fun x21 =>
  Option.bind (m_laws_toInt64S n aFaults_1) fun x32 =>
  Option.bind (m_spec_IsWorthwhile n x21 x32 aValue_2 aPercent_3) fun x43 =>
  Option.bind (m_laws_toRepairS n aList_0) fun x52 =>
  Option.bind (m_laws_toInt64S n aFaults_1) fun x64 =>
  Option.bind (m_impl_IsWorthwhile n x52 x64 aValue_2 aPercent_3) fun x76 =>
  Option.bind (if (!(x76.1 == x43.1)) then
  some true
  else
  some (x76.2 != x43.2)) fun x87 =>
  if x87 then
  some false
  else
  Option.bind (m_laws_toRepairS n aList_0) fun x98 =>
  Option.bind (m_laws_eqRepairS n x52 x98) fun x109 =>
  if (!x109) then
  some false
  else
  Option.bind (m_laws_toInt64S n aFaults_1) fun x121 =>
  Option.bind (m_laws_eqInt64S n x64 x121) fun x132 =>
  if (!x132) then
  some false
  else
  some true

def m_laws_FnExactCheapestRepairs (n : Nat) (aList_0 : List SRepair) (aFaults_1 : List Int) : Option (Bool) :=
  if (decide ((aFaults_1.length : Int) > 1048576)) then
  some true
  else
  Option.bind (m_laws_szRepairS n aList_0 1048576) fun x8 =>
  if (decide (x8 < 0)) then
  some true
  else
  Option.bind (m_laws_toRepairS n aList_0) fun x21 =>
  Option.bind (m_laws_toInt64S n aFaults_1) fun x32 =>
  Option.bind (m_spec_CheapestRepairs n x21 x32) fun x43 =>
  Option.bind (m_laws_toRepairS n aList_0) fun x55 =>
  Option.bind (m_laws_toInt64S n aFaults_1) fun x67 =>
  Option.bind (m_impl_CheapestRepairs n x55 x67) fun x79 =>
  Option.bind (Option.bind (m_laws_eqInt64S n x79.1 x43.1) fun x103 =>
  if (!x103) then
  some true
  else
  some (x79.2 != x43.2)) fun x101 =>
  if x101 then
  some false
  else
  Option.bind (m_laws_toRepairS n aList_0) fun x120 =>
  Option.bind (m_laws_eqRepairS n x55 x120) fun x131 =>
  if (!x131) then
  some false
  else
  Option.bind (m_laws_toInt64S n aFaults_1) fun x143 =>
  Option.bind (m_laws_eqInt64S n x67 x143) fun x154 =>
  if (!x154) then
  some false
  else
  Option.bind (m_laws_markRepairS n x55 1) fun x166 =>
  Option.bind (m_laws_markInt64S n x67 x166.1) fun x177 =>
  Option.bind (if (decide (x177.1 < 0)) then
  some true
  else
  Option.bind (m_laws_eqInt64S n x79.1 x43.1) fun x202 =>
  if (!x202) then
  some true
  else
  some (x79.2 != x43.2)) fun x199 =>
  if x199 then
  some false
  else
  Option.bind (m_laws_markInt64S n x79.1 1) fun x219 =>
  Option.bind (m_laws_heldInt64S n x219.2 1) fun x231 =>
  if (decide (x231 < 0)) then
  some false
  else
  if (x231 != x219.1) then
  some false
  else
  Option.bind (m_laws_toRepairS n aList_0) fun x248 =>
  Option.bind (m_laws_toInt64S n aFaults_1) fun x259 =>
  Option.bind (m_impl_CheapestRepairs n x248 x259) fun x270 =>
  Option.bind (Option.bind (m_laws_eqInt64S n x270.1 x43.1) fun x294 =>
  if (!x294) then
  some true
  else
  some (x270.2 != x43.2)) fun x292 =>
  if x292 then
  some false
  else
  Option.bind (m_laws_heldInt64S n x219.2 1) fun x311 =>
  if (decide (x311 < 0)) then
  some false
  else
  if (x311 != x219.1) then
  some false
  else
  some true

end Go.Gv
