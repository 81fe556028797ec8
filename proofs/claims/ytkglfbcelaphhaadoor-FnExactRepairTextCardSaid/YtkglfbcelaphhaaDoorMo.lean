/- What each function computes, as a Lean function that may fail. -/
import Derived.Test.YtkglfbcelaphhaaDoorMh
namespace Go.Gv
open Go Go.RowKit

def m_laws_szInt64S (n : Nat) (a_0 : List Int) (left_1 : Int) : Option (Int) :=
  if (decide ((wI64 (left_1 - (a_0.length : Int))) < 0)) then
  some (-1)
  else
  some (wI64 (left_1 - (a_0.length : Int)))

def m_laws_szRepair (n : Nat) (a_0 : SRepair) (left_1 : Int) : Option (Int) :=
  if (decide ((wI64 (left_1 - (a_0.Name.length : Int))) < 0)) then
  some (-1)
  else
  Option.bind (m_laws_szInt64S n a_0.Mends (wI64 (left_1 - (a_0.Name.length : Int)))) fun x16 =>
  if (decide (x16 < 0)) then
  some (-1)
  else
  Option.bind (m_laws_szInt64S n a_0.First x16) fun x29 =>
  if (decide (x29 < 0)) then
  some (-1)
  else
  some x29

def m_laws_szRepairS_l1 (n : Nat) (a_0 : List SRepair) (st9 : Int × Int) : Option (Step (Int × Int) ((Int) ⊕ (Int))) :=
  if (decide (st9.2 < (a_0.length : Int))) then
  Option.bind (idx a_0 st9.2) fun x27 =>
  Option.bind (m_laws_szRepair n x27 st9.1) fun x40 =>
  if (decide (x40 < 0)) then
  some (.done (.inr (-1)))
  else
  some (.next (x40, (wI64 (st9.2 + 1))))
  else
  some (.done (.inl st9.1))

def m_laws_szRepairS (n : Nat) (a_0 : List SRepair) (left_1 : Int) : Option (Int) :=
  if (decide ((wI64 (left_1 - (a_0.length : Int))) < 0)) then
  some (-1)
  else
  Option.bind (loopN (m_laws_szRepairS_l1 n a_0) n ((wI64 (left_1 - (a_0.length : Int))), 0)) fun t20 =>
  match t20 with
  | .inl q52 =>
  some q52
  | .inr r =>
  some r

def m_spec_l00In (n : Nat) (n_0 : Int) (low_1 : Int) (high_2 : Int) : Option (Bool) :=
  Option.bind (if (decide (n_0 ≥ low_1)) then
  some (decide (n_0 ≤ high_2))
  else
  some false) fun x4 =>
  some x4

def m_spec_l01Small (n : Nat) (c_0 : Int) : Option (Bool) :=
  Option.bind (if (decide (c_0 ≥ 97)) then
  some (decide (c_0 ≤ 122))
  else
  some false) fun x4 =>
  some x4

def m_spec_l01Digit (n : Nat) (c_0 : Int) : Option (Bool) :=
  Option.bind (if (decide (c_0 ≥ 48)) then
  some (decide (c_0 ≤ 57))
  else
  some false) fun x4 =>
  some x4

def m_spec_IsName_l1 (n : Nat) (s_0 : List UInt8) (st38 : Int) : Option (Step (Int) ((Unit) ⊕ (Bool))) :=
  if (decide (st38 < (s_0.length : Int))) then
  Option.bind (Option.bind (idx s_0 st38) fun x82 =>
  Option.bind (m_spec_l01Small n (x82.toNat : Int)) fun x84 =>
  if (!x84) then
  Option.bind (idx s_0 st38) fun x93 =>
  Option.bind (m_spec_l01Digit n (x93.toNat : Int)) fun x95 =>
  if (!x95) then
  Option.bind (idx s_0 st38) fun x104 =>
  some ((x104.toNat : Int) != 45)
  else
  some false
  else
  some false) fun x80 =>
  if x80 then
  some (.done (.inr false))
  else
  some (.next (wI64 (st38 + 1)))
  else
  some (.done (.inl ()))

def m_spec_IsName (n : Nat) (s_0 : List UInt8) : Option (Bool) :=
  Option.bind (if (s_0 == []) then
  some true
  else
  if (decide ((s_0.length : Int) > 12)) then
  some true
  else
  Option.bind (idx s_0 0) fun x20 =>
  Option.bind (m_spec_l01Small n (x20.toNat : Int)) fun x22 =>
  some (!x22)) fun x16 =>
  if x16 then
  some false
  else
  Option.bind (loopN (m_spec_IsName_l1 n s_0) n 0) fun t49 =>
  match t49 with
  | .inl q113 =>
  some true
  | .inr r =>
  some r

def m_spec_l00Rises_l1 (n : Nat) (list_0 : List Int) (low_1 : Int) (high_2 : Int) (st4 : Int) : Option (Step (Int) ((Unit) ⊕ (Bool))) :=
  if (decide (st4 < (list_0.length : Int))) then
  Option.bind (Option.bind (idx list_0 st4) fun x51 =>
  Option.bind (m_spec_l00In n x51 low_1 high_2) fun x53 =>
  if (!x53) then
  some true
  else
  if (decide (st4 > 0)) then
  Option.bind (idx list_0 (wI64 (st4 - 1))) fun x64 =>
  Option.bind (idx list_0 st4) fun x66 =>
  some (decide (x64 ≥ x66))
  else
  some false) fun x49 =>
  if x49 then
  some (.done (.inr false))
  else
  some (.next (wI64 (st4 + 1)))
  else
  some (.done (.inl ()))

def m_spec_l00Rises (n : Nat) (list_0 : List Int) (low_1 : Int) (high_2 : Int) : Option (Bool) :=
  Option.bind (loopN (m_spec_l00Rises_l1 n list_0 low_1 high_2) n 0) fun t15 =>
  match t15 with
  | .inl q85 =>
  some true
  | .inr r =>
  some r

def m_spec_l21Ok_l2 (n : Nat) (list_0 : List SRepair) (st4 : Int) (x22 : SRepair) (st134 : Int) : Option (Step (Int) ((Unit) ⊕ (Bool))) :=
  if (decide (st134 < st4)) then
  Option.bind (idx list_0 st134) fun x152 =>
  if (x152.Name == x22.Name) then
  some (.done (.inr false))
  else
  some (.next (wI64 (st134 + 1)))
  else
  some (.done (.inl ()))

def m_spec_l21Ok_l1 (n : Nat) (list_0 : List SRepair) (st4 : Int) : Option (Step (Int) ((Unit) ⊕ (Bool))) :=
  if (decide (st4 < (list_0.length : Int))) then
  Option.bind (idx list_0 st4) fun x22 =>
  Option.bind (Option.bind (m_spec_IsName n x22.Name) fun x83 =>
  if (!x83) then
  some true
  else
  Option.bind (m_spec_l00Rises n x22.Mends 0 9) fun x92 =>
  if (!x92) then
  some true
  else
  Option.bind (m_spec_l00Rises n x22.First 0 (wI64 (st4 - 1))) fun x101 =>
  if (!x101) then
  some true
  else
  Option.bind (m_spec_l00In n x22.Price 0 100000) fun x110 =>
  if (!x110) then
  some true
  else
  Option.bind (m_spec_l00In n x22.Hours 0 1000) fun x119 =>
  some (!x119)) fun x81 =>
  if x81 then
  some (.done (.inr false))
  else
  Option.bind (loopN (m_spec_l21Ok_l2 n list_0 st4 x22) n 0) fun t145 =>
  match t145 with
  | .inl q172 =>
  some (.next (wI64 (st4 + 1)))
  | .inr r =>
  some (.done (.inr r))
  else
  some (.done (.inl ()))

def m_spec_l21Ok (n : Nat) (list_0 : List SRepair) : Option (Bool) :=
  Option.bind (loopN (m_spec_l21Ok_l1 n list_0) n 0) fun t15 =>
  match t15 with
  | .inl q174 =>
  some (decide ((list_0.length : Int) ≤ 10))
  | .inr r =>
  some r

def m_spec_l01Dec_l1 (n : Nat)  (st14 : List Int × Int) : Option (Step (List Int × Int) (List Int)) :=
  if (st14.2 != 0) then
  Option.bind (if (decide ((Int.tmod st14.2 10) < 0)) then
  some (wI64 (0 - (Int.tmod st14.2 10)))
  else
  some (Int.tmod st14.2 10)) fun x38 =>
  Option.bind (app ([(IntKind.u8.wrap (wI64 (48 + x38)))] : List Int) st14.1) fun x53 =>
  some (.next (x53, (wI64 (Int.tdiv st14.2 10))))
  else
  some (.done st14.1)

def m_spec_l01Dec (n : Nat) (n_0 : Int) : Option (List UInt8) :=
  Option.bind (loopN (m_spec_l01Dec_l1 n) n (([] : List Int), n_0)) fun q73 =>
  if ((q73.length : Int) == 0) then
  some [48]
  else
  if (decide (n_0 < 0)) then
  Option.bind (app [45] (ofBytes q73)) fun x85 =>
  some x85
  else
  some (ofBytes q73)

def m_spec_RepairText_l1 (n : Nat) (list_0 : List SRepair) (x47 : SRepair) (st84 : List UInt8 × Int) : Option (Step (List UInt8 × Int) (List UInt8)) :=
  if (decide (st84.2 < (x47.First.length : Int))) then
  Option.bind (if (st84.2 == 0) then
  Option.bind (app st84.1 [32, 97, 102, 116, 101, 114, 32]) fun x110 =>
  some x110
  else
  Option.bind (app st84.1 [44]) fun x112 =>
  some x112) fun x108 =>
  Option.bind (idx x47.First st84.2) fun x118 =>
  Option.bind (idx list_0 x118) fun x120 =>
  Option.bind (app x108 x120.Name) fun x133 =>
  some (.next (x133, (wI64 (st84.2 + 1))))
  else
  some (.done st84.1)

def m_spec_RepairText (n : Nat) (list_0 : List SRepair) (k_1 : Int) : Option (List UInt8) :=
  Option.bind (Option.bind (m_spec_l21Ok n list_0) fun x23 =>
  if (!x23) then
  some true
  else
  Option.bind (m_spec_l00In n k_1 0 (wI64 ((list_0.length : Int) - 1))) fun x32 =>
  some (!x32)) fun x21 =>
  if x21 then
  some []
  else
  Option.bind (idx list_0 k_1) fun x47 =>
  Option.bind (app x47.Name [32, 112, 114, 105, 99, 101, 32]) fun x61 =>
  Option.bind (m_spec_l01Dec n x47.Price) fun x63 =>
  Option.bind (app x61 x63) fun x67 =>
  Option.bind (app x67 [32, 104, 111, 117, 114, 115, 32]) fun x69 =>
  Option.bind (m_spec_l01Dec n x47.Hours) fun x71 =>
  Option.bind (app x69 x71) fun x75 =>
  Option.bind (loopN (m_spec_RepairText_l1 n list_0 x47) n (x75, 0)) fun q136 =>
  some q136

def m_laws_toInt64S_l1 (n : Nat) (a_0 : List Int) (st43 : Int × List Int) : Option (Step (Int × List Int) (List Int)) :=
  if (decide (st43.1 < (a_0.length : Int))) then
  Option.bind (idx a_0 st43.1) fun x60 =>
  Option.bind (idx st43.2 st43.1) fun x62 =>
  some (.next ((wI64 (st43.1 + 1)), (st43.2.set (Int.toNat st43.1) x60)))
  else
  some (.done st43.2)

def m_laws_toInt64S (n : Nat) (a_0 : List Int) : Option (List Int) :=
  Option.bind (mk (0 : Int) (a_0.length : Int)) fun x3 =>
  Option.bind (loopN (m_laws_toInt64S_l1 n a_0) n (0, x3)) fun q70 =>
  some q70

def m_laws_toRepair (n : Nat) (a_0 : SRepair) : Option (SRepair) :=
  Option.bind (m_laws_toInt64S n a_0.Mends) fun x34 =>
  Option.bind (m_laws_toInt64S n a_0.First) fun x51 =>
  some (SRepair.mk a_0.Name x34 x51 a_0.Price a_0.Hours)

def m_laws_toRepairS_l1 (n : Nat) (a_0 : List SRepair) (st76 : Int × List SRepair) : Option (Step (Int × List SRepair) (List SRepair)) :=
  if (decide (st76.1 < (a_0.length : Int))) then
  Option.bind (idx a_0 st76.1) fun x93 =>
  Option.bind (m_laws_toRepair n x93) fun x106 =>
  Option.bind (idx st76.2 st76.1) fun x120 =>
  some (.next ((wI64 (st76.1 + 1)), (st76.2.set (Int.toNat st76.1) x106)))
  else
  some (.done st76.2)

def m_laws_toRepairS (n : Nat) (a_0 : List SRepair) : Option (List SRepair) :=
  Option.bind (mk ((SRepair.mk [] ([] : List Int) ([] : List Int) 0 0) : SRepair) (a_0.length : Int)) fun x3 =>
  Option.bind (loopN (m_laws_toRepairS_l1 n a_0) n (0, x3)) fun q136 =>
  some q136

def m_impl_within (n : Nat) (n_0 : Int) (low_1 : Int) (high_2 : Int) : Option (Bool) :=
  Option.bind (if (decide (n_0 ≥ low_1)) then
  some (decide (n_0 ≤ high_2))
  else
  some false) fun x4 =>
  some x4

def m_impl_IsName_l1 (n : Nat) (s_0 : List UInt8) (st28 : Int) : Option (Step (Int) ((Unit) ⊕ (Bool))) :=
  if (decide (st28 < (s_0.length : Int))) then
  Option.bind (Option.bind (idx s_0 st28) fun x74 =>
  if (decide ((x74.toNat : Int) < 97)) then
  Option.bind (idx s_0 st28) fun x77 =>
  if (decide ((x77.toNat : Int) < 48)) then
  Option.bind (idx s_0 st28) fun x80 =>
  some ((x80.toNat : Int) != 45)
  else
  Option.bind (idx s_0 st28) fun x82 =>
  if (decide ((x82.toNat : Int) > 57)) then
  Option.bind (idx s_0 st28) fun x85 =>
  some ((x85.toNat : Int) != 45)
  else
  some false
  else
  Option.bind (idx s_0 st28) fun x87 =>
  if (decide ((x87.toNat : Int) > 122)) then
  Option.bind (idx s_0 st28) fun x90 =>
  if (decide ((x90.toNat : Int) < 48)) then
  Option.bind (idx s_0 st28) fun x93 =>
  some ((x93.toNat : Int) != 45)
  else
  Option.bind (idx s_0 st28) fun x95 =>
  if (decide ((x95.toNat : Int) > 57)) then
  Option.bind (idx s_0 st28) fun x98 =>
  some ((x98.toNat : Int) != 45)
  else
  some false
  else
  some false) fun x72 =>
  if x72 then
  some (.done (.inr false))
  else
  some (.next (wI64 (st28 + 1)))
  else
  some (.done (.inl ()))

def m_impl_IsName (n : Nat) (s_0 : List UInt8) : Option (Bool) :=
  Option.bind (if (decide ((s_0.length : Int) < 1)) then
  some true
  else
  if (decide ((s_0.length : Int) > 12)) then
  some true
  else
  Option.bind (idx s_0 0) fun x15 =>
  if (decide ((x15.toNat : Int) < 97)) then
  some true
  else
  Option.bind (idx s_0 0) fun x18 =>
  some (decide ((x18.toNat : Int) > 122))) fun x11 =>
  if x11 then
  some false
  else
  Option.bind (loopN (m_impl_IsName_l1 n s_0) n 1) fun t39 =>
  match t39 with
  | .inl q107 =>
  some true
  | .inr r =>
  some r

def m_impl_isIncreasing_l1 (n : Nat) (list_0 : List Int) (low_1 : Int) (high_2 : Int) (st4 : Int) : Option (Step (Int) ((Unit) ⊕ (Bool))) :=
  if (decide (st4 < (list_0.length : Int))) then
  Option.bind (idx list_0 st4) fun x22 =>
  Option.bind (Option.bind (m_impl_within n x22 low_1 high_2) fun x39 =>
  if (!x39) then
  some true
  else
  if (decide (st4 > 0)) then
  Option.bind (idx list_0 (wI64 (st4 - 1))) fun x49 =>
  some (decide (x49 ≥ x22))
  else
  some false) fun x37 =>
  if x37 then
  some (.done (.inr false))
  else
  some (.next (wI64 (st4 + 1)))
  else
  some (.done (.inl ()))

def m_impl_isIncreasing (n : Nat) (list_0 : List Int) (low_1 : Int) (high_2 : Int) : Option (Bool) :=
  Option.bind (loopN (m_impl_isIncreasing_l1 n list_0 low_1 high_2) n 0) fun t15 =>
  match t15 with
  | .inl q58 =>
  some true
  | .inr r =>
  some r

def m_impl_areFaults (n : Nat) (faults_0 : List Int) : Option (Bool) :=
  Option.bind (m_impl_isIncreasing n faults_0 0 9) fun x3 =>
  some x3

def m_impl_ValidRepairs_1 (n : Nat) (o_0 : SRepair) (cap_1 : SRepair) : Option (Bool) :=
  some (o_0.Name == cap_1.Name)

def m_slices_IndexFunc_impl_Repair_impl_Repair_f27_l1 (n : Nat) (s_0 : List SRepair) (cap_1_0 : SRepair) (st4 : Int) : Option (Step (Int) ((Unit) ⊕ (Int))) :=
  if (decide (st4 < (s_0.length : Int))) then
  Option.bind (idx s_0 st4) fun x23 =>
  Option.bind (m_impl_ValidRepairs_1 n x23 cap_1_0) fun x36 =>
  if x36 then
  some (.done (.inr st4))
  else
  some (.next (wI64 (st4 + 1)))
  else
  some (.done (.inl ()))

def m_slices_IndexFunc_impl_Repair_impl_Repair_f27 (n : Nat) (s_0 : List SRepair) (cap_1_0 : SRepair) : Option (Int) :=
  Option.bind (loopN (m_slices_IndexFunc_impl_Repair_impl_Repair_f27_l1 n s_0 cap_1_0) n 0) fun t15 =>
  match t15 with
  | .inl q47 =>
  some (-1)
  | .inr r =>
  some r

def m_slices_ContainsFunc_impl_Repair_impl_Repair_f27 (n : Nat) (s_0 : List SRepair) (cap_1_0 : SRepair) : Option (Bool) :=
  Option.bind (m_slices_IndexFunc_impl_Repair_impl_Repair_f27 n s_0 cap_1_0) fun x3 =>
  some (decide (x3 ≥ 0))

def m_impl_ValidRepairs_l1 (n : Nat) (list_0 : List SRepair) (st4 : Int) : Option (Step (Int) ((Unit) ⊕ (Bool))) :=
  if (decide (st4 < (list_0.length : Int))) then
  Option.bind (idx list_0 st4) fun x22 =>
  Option.bind (Option.bind (m_impl_IsName n x22.Name) fun x112 =>
  if (!x112) then
  some true
  else
  Option.bind (m_impl_areFaults n x22.Mends) fun x121 =>
  if (!x121) then
  some true
  else
  Option.bind (m_impl_isIncreasing n x22.First 0 (wI64 (st4 - 1))) fun x130 =>
  if (!x130) then
  some true
  else
  Option.bind (m_impl_within n x22.Price 0 100000) fun x139 =>
  if (!x139) then
  some true
  else
  Option.bind (m_impl_within n x22.Hours 0 1000) fun x148 =>
  if (!x148) then
  some true
  else
  Option.bind (sub list_0 0 st4) fun x157 =>
  Option.bind (m_slices_ContainsFunc_impl_Repair_impl_Repair_f27 n x157 x22) fun x165 =>
  some x165) fun x110 =>
  if x110 then
  some (.done (.inr false))
  else
  some (.next (wI64 (st4 + 1)))
  else
  some (.done (.inl ()))

def m_impl_ValidRepairs (n : Nat) (list_0 : List SRepair) : Option (Bool) :=
  Option.bind (loopN (m_impl_ValidRepairs_l1 n list_0) n 0) fun t15 =>
  match t15 with
  | .inl q180 =>
  some (decide ((list_0.length : Int) ≤ 10))
  | .inr r =>
  some r

def m_impl_Decimal (n : Nat) (n_0 : Int) : Option (List UInt8) :=
  Option.bind (m_strconv_FormatInt n n_0 10) fun x3 =>
  some x3

def m_impl_RepairText_l1 (n : Nat) (list_0 : List SRepair) (x47 : SRepair) (st84 : List (List UInt8) × Int) : Option (Step (List (List UInt8) × Int) (List (List UInt8))) :=
  if (decide (st84.2 < (x47.First.length : Int))) then
  Option.bind (idx x47.First st84.2) fun x105 =>
  Option.bind (idx list_0 x105) fun x107 =>
  Option.bind (app st84.1 ([x107.Name] : List (List UInt8))) fun x129 =>
  some (.next (x129, (wI64 (st84.2 + 1))))
  else
  some (.done st84.1)

def m_impl_RepairText (n : Nat) (list_0 : List SRepair) (k_1 : Int) : Option (List UInt8) :=
  Option.bind (Option.bind (m_impl_ValidRepairs n list_0) fun x23 =>
  if (!x23) then
  some true
  else
  Option.bind (m_impl_within n k_1 0 (wI64 ((list_0.length : Int) - 1))) fun x32 =>
  some (!x32)) fun x21 =>
  if x21 then
  some []
  else
  Option.bind (idx list_0 k_1) fun x47 =>
  Option.bind (loopN (m_impl_RepairText_l1 n list_0 x47) n (([] : List (List UInt8)), 0)) fun q194 =>
  Option.bind (app x47.Name [32, 112, 114, 105, 99, 101, 32]) fun x199 =>
  Option.bind (m_impl_Decimal n x47.Price) fun x201 =>
  Option.bind (app x199 x201) fun x205 =>
  Option.bind (app x205 [32, 104, 111, 117, 114, 115, 32]) fun x207 =>
  Option.bind (m_impl_Decimal n x47.Hours) fun x209 =>
  Option.bind (app x207 x209) fun x213 =>
  Option.bind (if (decide ((q194.length : Int) > 0)) then
  Option.bind (m_strings_Join n q194 [44]) fun x237 =>
  Option.bind (app [32, 97, 102, 116, 101, 114, 32] x237) fun x245 =>
  Option.bind (app x213 x245) fun x247 =>
  some x247
  else
  some x213) fun x235 =>
  some x235

def m_laws_eqInt64S_l1 (n : Nat) (a_0 : List Int) (b_1 : List Int) (st8 : Int) : Option (Step (Int) ((Unit) ⊕ (Bool))) :=
  if (decide (st8 < (a_0.length : Int))) then
  Option.bind (idx a_0 st8) fun x26 =>
  Option.bind (idx b_1 st8) fun x28 =>
  if (x26 != x28) then
  some (.done (.inr false))
  else
  some (.next (wI64 (st8 + 1)))
  else
  some (.done (.inl ()))

def m_laws_eqInt64S (n : Nat) (a_0 : List Int) (b_1 : List Int) : Option (Bool) :=
  if ((a_0.length : Int) != (b_1.length : Int)) then
  some false
  else
  Option.bind (loopN (m_laws_eqInt64S_l1 n a_0 b_1) n 0) fun t19 =>
  match t19 with
  | .inl q38 =>
  some true
  | .inr r =>
  some r

def m_laws_eqRepair (n : Nat) (a_0 : SRepair) (b_1 : SRepair) : Option (Bool) :=
  if (!(a_0.Name == b_1.Name)) then
  some false
  else
  Option.bind (m_laws_eqInt64S n a_0.Mends b_1.Mends) fun x24 =>
  if (!x24) then
  some false
  else
  Option.bind (m_laws_eqInt64S n a_0.First b_1.First) fun x36 =>
  if (!x36) then
  some false
  else
  if (a_0.Price != b_1.Price) then
  some false
  else
  if (a_0.Hours != b_1.Hours) then
  some false
  else
  some true

def m_laws_eqRepairS_l1 (n : Nat) (a_0 : List SRepair) (b_1 : List SRepair) (st8 : Int) : Option (Step (Int) ((Unit) ⊕ (Bool))) :=
  if (decide (st8 < (a_0.length : Int))) then
  Option.bind (idx a_0 st8) fun x26 =>
  Option.bind (idx b_1 st8) fun x39 =>
  Option.bind (m_laws_eqRepair n x26 x39) fun x52 =>
  if (!x52) then
  some (.done (.inr false))
  else
  some (.next (wI64 (st8 + 1)))
  else
  some (.done (.inl ()))

def m_laws_eqRepairS (n : Nat) (a_0 : List SRepair) (b_1 : List SRepair) : Option (Bool) :=
  if ((a_0.length : Int) != (b_1.length : Int)) then
  some false
  else
  Option.bind (loopN (m_laws_eqRepairS_l1 n a_0 b_1) n 0) fun t19 =>
  match t19 with
  | .inl q64 =>
  some true
  | .inr r =>
  some r

def m_laws_FnExactRepairText (n : Nat) (aList_0 : List SRepair) (aK_1 : Int) : Option (Bool) :=
  Option.bind (m_laws_szRepairS n aList_0 1048576) fun x4 =>
  if (decide (x4 < 0)) then
  some true
  else
  Option.bind (m_laws_toRepairS n aList_0) fun x17 =>
  Option.bind (m_spec_RepairText n x17 aK_1) fun x28 =>
  Option.bind (m_laws_toRepairS n aList_0) fun x37 =>
  Option.bind (m_impl_RepairText n x37 aK_1) fun x49 =>
  if (!(x49 == x28)) then
  some false
  else
  Option.bind (m_laws_toRepairS n aList_0) fun x63 =>
  Option.bind (m_laws_eqRepairS n x37 x63) fun x74 =>
  if (!x74) then
  some false
  else
  some true

end Go.Gv
