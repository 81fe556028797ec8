/- What each function computes, as a Lean function that may fail. -/
import Derived.Test.YtlplbjeegkkilaaDa
namespace Go.Gv
open Go Go.RowKit

def m_spec_l22Most (n : Nat) (kind_0 : Int) : Option (Int) :=
  if (kind_0 == 1) then
  some 200
  else
  Option.bind (if (kind_0 == 2) then
  some (kind_0 == 2)
  else
  Option.bind (if (kind_0 == 3) then
  some (kind_0 == 3)
  else
  some (kind_0 == 4)) fun x22 =>
  some x22) fun x18 =>
  if x18 then
  some 300
  else
  if (kind_0 == 5) then
  some 150
  else
  some (-1)

def m_spec_MostChange (n : Nat) (kind_0 : Int) : Option (Int × Int) :=
  Option.bind (m_spec_l22Most n kind_0) fun x3 =>
  if (decide (x3 < 0)) then
  some (0, 2)
  else
  some (x3, 0)

def m_impl_mostChange (n : Nat) (kind_0 : Int) : Option (Int) :=
  if (kind_0 == 1) then
  some 200
  else
  Option.bind (if (kind_0 == 2) then
  some (kind_0 == 2)
  else
  Option.bind (if (kind_0 == 3) then
  some (kind_0 == 3)
  else
  some (kind_0 == 4)) fun x22 =>
  some x22) fun x18 =>
  if x18 then
  some 300
  else
  if (kind_0 == 5) then
  some 150
  else
  some 0

def m_impl_MostChange (n : Nat) (kind_0 : Int) : Option (Int × Int) :=
  Option.bind (m_impl_mostChange n kind_0) fun x3 =>
  if (x3 == 0) then
  some (0, 2)
  else
  some (x3, 0)

def m_laws_FnExactMostChange (n : Nat) (aKind_0 : Int) : Option (Bool) :=
  Option.bind (m_spec_MostChange n aKind_0) fun x3 =>
  Option.bind (m_impl_MostChange n aKind_0) fun x12 =>
  Option.bind (if (x12.1 != x3.1) then
  some true
  else
  some (x12.2 != x3.2)) fun x23 =>
  if x23 then
  some false
  else
  some true

def m_laws_szChangeS (n : Nat) (a_0 : List SChange) (left_1 : Int) : Option (Int) :=
  if (decide ((wI64 (left_1 - (a_0.length : Int))) < 0)) then
  some (-1)
  else
  some (wI64 (left_1 - (a_0.length : Int)))

def m_spec_SameChanges_l1 (n : Nat) (a_0 : List SChange) (b_1 : List SChange) (st8 : Int) : Option (Step (Int) ((Unit) ⊕ (Bool))) :=
  if (decide (st8 < (a_0.length : Int))) then
  Option.bind (idx a_0 st8) fun x26 =>
  Option.bind (idx b_1 st8) fun x28 =>
  if (!(decide (x26 = x28))) then
  some (.done (.inr false))
  else
  some (.next (wI64 (st8 + 1)))
  else
  some (.done (.inl ()))

def m_spec_SameChanges (n : Nat) (a_0 : List SChange) (b_1 : List SChange) : Option (Bool) :=
  if ((a_0.length : Int) != (b_1.length : Int)) then
  some false
  else
  Option.bind (loopN (m_spec_SameChanges_l1 n a_0 b_1) n 0) fun t19 =>
  match t19 with
  | .inl q38 =>
  some true
  | .inr r =>
  some r

def m_laws_toChange (n : Nat) (a_0 : SChange) : Option (SChange) :=
  some a_0

def m_laws_toChangeS_l1 (n : Nat) (a_0 : List SChange) (st51 : Int × List SChange) : Option (Step (Int × List SChange) (List SChange)) :=
  if (decide (st51.1 < (a_0.length : Int))) then
  Option.bind (idx a_0 st51.1) fun x68 =>
  Option.bind (m_laws_toChange n x68) fun x70 =>
  Option.bind (idx st51.2 st51.1) fun x78 =>
  some (.next ((wI64 (st51.1 + 1)), (st51.2.set (Int.toNat st51.1) x70)))
  else
  some (.done st51.2)

def m_laws_toChangeS (n : Nat) (a_0 : List SChange) : Option (List SChange) :=
  Option.bind (mk ((SChange.mk 0 0) : SChange) (a_0.length : Int)) fun x3 =>
  Option.bind (loopN (m_laws_toChangeS_l1 n a_0) n (0, x3)) fun q86 =>
  some q86

def m_slices_Equal_impl_Change_impl_Change_l1 (n : Nat) (s1_0 : List SChange) (s2_1 : List SChange) (st8 : Int) : Option (Step (Int) ((Unit) ⊕ (Bool))) :=
  if (decide (st8 < (s1_0.length : Int))) then
  Option.bind (idx s1_0 st8) fun x27 =>
  Option.bind (idx s2_1 st8) fun x29 =>
  if (!(decide (x27 = x29))) then
  some (.done (.inr false))
  else
  some (.next (wI64 (st8 + 1)))
  else
  some (.done (.inl ()))

def m_slices_Equal_impl_Change_impl_Change (n : Nat) (s1_0 : List SChange) (s2_1 : List SChange) : Option (Bool) :=
  if ((s1_0.length : Int) != (s2_1.length : Int)) then
  some false
  else
  Option.bind (loopN (m_slices_Equal_impl_Change_impl_Change_l1 n s1_0 s2_1) n 0) fun t19 =>
  match t19 with
  | .inl q39 =>
  some true
  | .inr r =>
  some r

def m_impl_SameChanges (n : Nat) (a_0 : List SChange) (b_1 : List SChange) : Option (Bool) :=
  Option.bind (m_slices_Equal_impl_Change_impl_Change n a_0 b_1) fun x3 =>
  some x3

def m_laws_eqChange (n : Nat) (a_0 : SChange) (b_1 : SChange) : Option (Bool) :=
  if (a_0.Kind != b_1.Kind) then
  some false
  else
  if (a_0.Amount != b_1.Amount) then
  some false
  else
  some true

def m_laws_eqChangeS_l1 (n : Nat) (a_0 : List SChange) (b_1 : List SChange) (st8 : Int) : Option (Step (Int) ((Unit) ⊕ (Bool))) :=
  if (decide (st8 < (a_0.length : Int))) then
  Option.bind (idx a_0 st8) fun x26 =>
  Option.bind (idx b_1 st8) fun x28 =>
  Option.bind (m_laws_eqChange n x26 x28) fun x30 =>
  if (!x30) then
  some (.done (.inr false))
  else
  some (.next (wI64 (st8 + 1)))
  else
  some (.done (.inl ()))

def m_laws_eqChangeS (n : Nat) (a_0 : List SChange) (b_1 : List SChange) : Option (Bool) :=
  if ((a_0.length : Int) != (b_1.length : Int)) then
  some false
  else
  Option.bind (loopN (m_laws_eqChangeS_l1 n a_0 b_1) n 0) fun t19 =>
  match t19 with
  | .inl q42 =>
  some true
  | .inr r =>
  some r

def m_laws_FnExactSameChanges (n : Nat) (aA_0 : List SChange) (aB_1 : List SChange) : Option (Bool) :=
  Option.bind (m_laws_szChangeS n aA_0 1048576) fun x4 =>
  if (decide (x4 < 0)) then
  some true
  else
  Option.bind (m_laws_szChangeS n aB_1 x4) fun x17 =>
  if (decide (x17 < 0)) then
  some true
  else
  Option.bind (m_laws_toChangeS n aA_0) fun x30 =>
  Option.bind (m_laws_toChangeS n aB_1) fun x41 =>
  Option.bind (m_spec_SameChanges n x30 x41) fun x52 =>
  Option.bind (m_laws_toChangeS n aA_0) fun x61 =>
  Option.bind (m_laws_toChangeS n aB_1) fun x73 =>
  Option.bind (m_impl_SameChanges n x61 x73) fun x85 =>
  if (!(x85 == x52)) then
  some false
  else
  Option.bind (m_laws_toChangeS n aA_0) fun x99 =>
  Option.bind (m_laws_eqChangeS n x61 x99) fun x110 =>
  if (!x110) then
  some false
  else
  Option.bind (m_laws_toChangeS n aB_1) fun x122 =>
  Option.bind (m_laws_eqChangeS n x73 x122) fun x133 =>
  if (!x133) then
  some false
  else
  some true

def m_spec_l00In (n : Nat) (n_0 : Int) (low_1 : Int) (high_2 : Int) : Option (Bool) :=
  Option.bind (if (decide (n_0 ≥ low_1)) then
  some (decide (n_0 ≤ high_2))
  else
  some false) fun x4 =>
  some x4

def m_spec_l22Short (n : Nat) (n_0 : Int) : Option (Bool) :=
  Option.bind (m_spec_l00In n n_0 0 400) fun x3 =>
  some x3

def m_spec_l00Min (n : Nat) (a_0 : Int) (b_1 : Int) : Option (Int) :=
  if (decide (a_0 < b_1)) then
  some a_0
  else
  some b_1

def m_spec_RaiseFor (n : Nat) (short_0 : Int) (inside_1 : Int) (heel_2 : Int) (sole_3 : Int) : Option (List Int × Int) :=
  Option.bind (Option.bind (m_spec_l22Short n short_0) fun x41 =>
  if (!x41) then
  some true
  else
  Option.bind (m_spec_l22Short n inside_1) fun x50 =>
  if (!x50) then
  some true
  else
  Option.bind (m_spec_l22Short n heel_2) fun x59 =>
  if (!x59) then
  some true
  else
  Option.bind (m_spec_l22Short n sole_3) fun x68 =>
  some (!x68)) fun x39 =>
  if x39 then
  some (([] : List Int), 2)
  else
  Option.bind (m_spec_l00Min n short_0 inside_1) fun x85 =>
  Option.bind (m_spec_l00Min n (wI64 (short_0 - x85)) heel_2) fun x94 =>
  Option.bind (m_spec_l00Min n (wI64 ((wI64 (short_0 - x85)) - x94)) sole_3) fun x103 =>
  if (decide ((wI64 ((wI64 (x85 + x94)) + x103)) < short_0)) then
  some (([] : List Int), 10)
  else
  some (([x85, (wI64 (x94 + x103)), x103] : List Int), 0)

def m_impl_within (n : Nat) (n_0 : Int) (low_1 : Int) (high_2 : Int) : Option (Bool) :=
  Option.bind (if (decide (n_0 ≥ low_1)) then
  some (decide (n_0 ≤ high_2))
  else
  some false) fun x4 =>
  some x4

def m_impl_outside_1 (n : Nat) (n_0 : Int) (cap_1 : Int) (cap_2 : Int) : Option (Bool) :=
  Option.bind (m_impl_within n n_0 cap_1 cap_2) fun x3 =>
  some (!x3)

def m_slices_IndexFunc_int64_int64_f82_l1 (n : Nat) (s_0 : List Int) (cap_1_0 : Int) (cap_1_1 : Int) (st4 : Int) : Option (Step (Int) ((Unit) ⊕ (Int))) :=
  if (decide (st4 < (s_0.length : Int))) then
  Option.bind (idx s_0 st4) fun x23 =>
  Option.bind (m_impl_outside_1 n x23 cap_1_0 cap_1_1) fun x25 =>
  if x25 then
  some (.done (.inr st4))
  else
  some (.next (wI64 (st4 + 1)))
  else
  some (.done (.inl ()))

def m_slices_IndexFunc_int64_int64_f82 (n : Nat) (s_0 : List Int) (cap_1_0 : Int) (cap_1_1 : Int) : Option (Int) :=
  Option.bind (loopN (m_slices_IndexFunc_int64_int64_f82_l1 n s_0 cap_1_0 cap_1_1) n 0) fun t15 =>
  match t15 with
  | .inl q36 =>
  some (-1)
  | .inr r =>
  some r

def m_slices_ContainsFunc_int64_int64_f82 (n : Nat) (s_0 : List Int) (cap_1_0 : Int) (cap_1_1 : Int) : Option (Bool) :=
  Option.bind (m_slices_IndexFunc_int64_int64_f82 n s_0 cap_1_0 cap_1_1) fun x3 =>
  some (decide (x3 ≥ 0))

def m_impl_outside (n : Nat) (list_0 : List Int) (low_1 : Int) (high_2 : Int) : Option (Bool) :=
  Option.bind (m_slices_ContainsFunc_int64_int64_f82 n list_0 low_1 high_2) fun x19 =>
  some x19

def m_impl_RaiseFor (n : Nat) (short_0 : Int) (inside_1 : Int) (heel_2 : Int) (sole_3 : Int) : Option (List Int × Int) :=
  Option.bind (m_impl_outside n ([short_0, inside_1, heel_2, sole_3] : List Int) 0 400) fun x13 =>
  if x13 then
  some (([] : List Int), 2)
  else
  if (decide ((wI64 ((wI64 ((imin short_0 inside_1) + (imin (wI64 (short_0 - (imin short_0 inside_1))) heel_2))) + (imin (wI64 ((wI64 (short_0 - (imin short_0 inside_1))) - (imin (wI64 (short_0 - (imin short_0 inside_1))) heel_2))) sole_3))) < short_0)) then
  some (([] : List Int), 10)
  else
  some (([(imin short_0 inside_1), (wI64 ((imin (wI64 (short_0 - (imin short_0 inside_1))) heel_2) + (imin (wI64 ((wI64 (short_0 - (imin short_0 inside_1))) - (imin (wI64 (short_0 - (imin short_0 inside_1))) heel_2))) sole_3))), (imin (wI64 ((wI64 (short_0 - (imin short_0 inside_1))) - (imin (wI64 (short_0 - (imin short_0 inside_1))) heel_2))) sole_3)] : List Int), 0)

def m_laws_eqInt64S_l1 (n : Nat) (a_0 : List Int) (b_1 : List Int) (st8 : Int) : Option (Step (Int) ((Unit) ⊕ (Bool))) :=
  if (decide (st8 < (a_0.length : Int))) then
  Option.bind (idx a_0 st8) fun x26 =>
  Option.bind (idx b_1 st8) fun x28 =>
  if (x26 != x28) then
  some (.done (.inr false))
  else
  some (.next (wI64 (st8 + 1)))
  else
  some (.done (.inl ()))

def m_laws_eqInt64S (n : Nat) (a_0 : List Int) (b_1 : List Int) : Option (Bool) :=
  if ((a_0.length : Int) != (b_1.length : Int)) then
  some false
  else
  Option.bind (loopN (m_laws_eqInt64S_l1 n a_0 b_1) n 0) fun t19 =>
  match t19 with
  | .inl q38 =>
  some true
  | .inr r =>
  some r

def m_laws_markInt64S_l1 (n : Nat)  (st31 : Int × Int × List Int) : Option (Step (Int × Int × List Int) (Int × List Int)) :=
  if (decide (st31.2.1 < (st31.2.2.length : Int))) then
  Option.bind (idx st31.2.2 st31.2.1) fun x50 =>
  some (.next ((wI64 (st31.1 + 1)), (wI64 (st31.2.1 + 1)), (st31.2.2.set (Int.toNat st31.2.1) st31.1)))
  else
  some (.done (st31.1, st31.2.2))

def m_laws_markInt64S (n : Nat) (a_0 : List Int) (k_1 : Int) : Option (Int × List Int) :=
  Option.bind (loopN (m_laws_markInt64S_l1 n) n (k_1, 0, a_0)) fun q59 =>
  some (q59.1, q59.2)

def m_laws_heldInt64S_l1 (n : Nat) (a_0 : List Int) (st4 : Int × Int) : Option (Step (Int × Int) ((Int) ⊕ (Int))) :=
  if (decide (st4.2 < (a_0.length : Int))) then
  Option.bind (idx a_0 st4.2) fun x23 =>
  if (x23 != st4.1) then
  some (.done (.inr (-1)))
  else
  some (.next ((wI64 (st4.1 + 1)), (wI64 (st4.2 + 1))))
  else
  some (.done (.inl st4.1))

def m_laws_heldInt64S (n : Nat) (a_0 : List Int) (k_1 : Int) : Option (Int) :=
  Option.bind (loopN (m_laws_heldInt64S_l1 n a_0) n (k_1, 0)) fun t15 =>
  match t15 with
  | .inl q28 =>
  some q28
  | .inr r =>
  some r

def m_laws_FnExactRaiseFor (n : Nat) (aShort_0 : Int) (aInside_1 : Int) (aHeel_2 : Int) (aSole_3 : Int) : Option (Bool) :=
  Option.bind (m_spec_RaiseFor n aShort_0 aInside_1 aHeel_2 aSole_3) fun x3 =>
  Option.bind (m_impl_RaiseFor n aShort_0 aInside_1 aHeel_2 aSole_3) fun x15 =>
  Option.bind (Option.bind (m_laws_eqInt64S n x15.1 x3.1) fun x39 =>
  if (!x39) then
  some true
  else
  some (x15.2 != x3.2)) fun x37 =>
  if x37 then
  some false
  else
  Option.bind (m_laws_markInt64S n x15.1 1) fun x56 =>
  Option.bind (m_laws_heldInt64S n x56.2 1) fun x68 =>
  if (decide (x68 < 0)) then
  some false
  else
  if (x68 != x56.1) then
  some false
  else
  Option.bind (m_impl_RaiseFor n aShort_0 aInside_1 aHeel_2 aSole_3) fun x85 =>
  Option.bind (Option.bind (m_laws_eqInt64S n x85.1 x3.1) fun x109 =>
  if (!x109) then
  some true
  else
  some (x85.2 != x3.2)) fun x107 =>
  if x107 then
  some false
  else
  Option.bind (m_laws_heldInt64S n x56.2 1) fun x126 =>
  if (decide (x126 < 0)) then
  some false
  else
  if (x126 != x56.1) then
  some false
  else
  some true

def m_spec_l22One (n : Nat) (c_0 : SChange) : Option (Bool) :=
  Option.bind (m_spec_l22Most n c_0.Kind) fun x11 =>
  Option.bind (if (c_0.Amount != 0) then
  Option.bind (m_spec_l00In n c_0.Amount (wI64 (0 - x11)) x11) fun x32 =>
  some x32
  else
  some false) fun x29 =>
  some x29

def m_spec_l22Ok_l1 (n : Nat) (list_0 : List SChange) (st4 : Int) : Option (Step (Int) ((Unit) ⊕ (Bool))) :=
  if (decide (st4 < (list_0.length : Int))) then
  Option.bind (idx list_0 st4) fun x22 =>
  Option.bind (m_spec_l22One n x22) fun x24 =>
  if (!x24) then
  some (.done (.inr false))
  else
  some (.next (wI64 (st4 + 1)))
  else
  some (.done (.inl ()))

def m_spec_l22Ok (n : Nat) (list_0 : List SChange) : Option (Bool) :=
  Option.bind (loopN (m_spec_l22Ok_l1 n list_0) n 0) fun t15 =>
  match t15 with
  | .inl q35 =>
  some (decide ((list_0.length : Int) ≤ 20))
  | .inr r =>
  some r

def m_spec_ValidChanges (n : Nat) (list_0 : List SChange) : Option (Bool) :=
  Option.bind (m_spec_l22Ok n list_0) fun x3 =>
  some x3

def m_impl_validChange (n : Nat) (c_0 : SChange) : Option (Bool) :=
  Option.bind (m_impl_mostChange n c_0.Kind) fun x11 =>
  Option.bind (if (decide (x11 > 0)) then
  if (c_0.Amount != 0) then
  Option.bind (m_impl_within n c_0.Amount (wI64 (0 - x11)) x11) fun x34 =>
  some x34
  else
  some false
  else
  some false) fun x30 =>
  some x30

def m_impl_ValidChanges_1 (n : Nat) (c_0 : SChange) : Option (Bool) :=
  Option.bind (m_impl_validChange n c_0) fun x11 =>
  some (!x11)

def m_slices_IndexFunc_impl_Change_impl_Change_f61_l1 (n : Nat) (s_0 : List SChange) (st4 : Int) : Option (Step (Int) ((Unit) ⊕ (Int))) :=
  if (decide (st4 < (s_0.length : Int))) then
  Option.bind (idx s_0 st4) fun x23 =>
  Option.bind (m_impl_ValidChanges_1 n x23) fun x25 =>
  if x25 then
  some (.done (.inr st4))
  else
  some (.next (wI64 (st4 + 1)))
  else
  some (.done (.inl ()))

def m_slices_IndexFunc_impl_Change_impl_Change_f61 (n : Nat) (s_0 : List SChange) : Option (Int) :=
  Option.bind (loopN (m_slices_IndexFunc_impl_Change_impl_Change_f61_l1 n s_0) n 0) fun t15 =>
  match t15 with
  | .inl q36 =>
  some (-1)
  | .inr r =>
  some r

def m_slices_ContainsFunc_impl_Change_impl_Change_f61 (n : Nat) (s_0 : List SChange) : Option (Bool) :=
  Option.bind (m_slices_IndexFunc_impl_Change_impl_Change_f61 n s_0) fun x3 =>
  some (decide (x3 ≥ 0))

def m_impl_ValidChanges (n : Nat) (list_0 : List SChange) : Option (Bool) :=
  Option.bind (if (decide ((list_0.length : Int) ≤ 20)) then
  Option.bind (m_slices_ContainsFunc_impl_Change_impl_Change_f61 n list_0) fun x15 =>
  some (!x15)
  else
  some false) fun x12 =>
  some x12

def m_laws_FnExactValidChanges (n : Nat) (aList_0 : List SChange) : Option (Bool) :=
  Option.bind (m_laws_szChangeS n aList_0 1048576) fun x4 =>
  if (decide (x4 < 0)) then
  some true
  else
  Option.bind (m_laws_toChangeS n aList_0) fun x17 =>
  Option.bind (m_spec_ValidChanges n x17) fun x28 =>
  Option.bind (m_laws_toChangeS n aList_0) fun x37 =>
  Option.bind (m_impl_ValidChanges n x37) fun x49 =>
  if (!(x49 == x28)) then
  some false
  else
  Option.bind (m_laws_toChangeS n aList_0) fun x63 =>
  Option.bind (m_laws_eqChangeS n x37 x63) fun x74 =>
  if (!x74) then
  some false
  else
  some true

def m_spec_l02Size (n : Nat) (n_0 : Int) : Option (Int) :=
  if (decide (n_0 < 0)) then
  some (wI64 (0 - n_0))
  else
  some n_0

def m_spec_FittingsOf_l1 (n : Nat) (c_0 : SChange) (x39 : Int) (x48 : Int) (st62 : List Int × Int) : Option (Step (List Int × Int) (List Int)) :=
  if (decide (st62.2 < x48)) then
  Option.bind (quo .i64 x39 x48) fun x83 =>
  Option.bind (rem x39 x48) fun x87 =>
  Option.bind (if (decide (st62.2 < x87)) then
  some (wI64 (x83 + 1))
  else
  some x83) fun x90 =>
  Option.bind (if (decide (c_0.Amount < 0)) then
  some (wI64 (0 - x90))
  else
  some x90) fun x99 =>
  Option.bind (app st62.1 ([x99] : List Int)) fun x114 =>
  some (.next (x114, (wI64 (st62.2 + 1))))
  else
  some (.done st62.1)

def m_spec_FittingsOf (n : Nat) (c_0 : SChange) (step_1 : Int) : Option (List Int × Int) :=
  Option.bind (m_spec_l22One n c_0) fun x12 =>
  if (!x12) then
  some (([] : List Int), 1)
  else
  Option.bind (m_spec_l00In n step_1 1 100) fun x26 =>
  if (!x26) then
  some (([] : List Int), 2)
  else
  Option.bind (m_spec_l02Size n c_0.Amount) fun x39 =>
  Option.bind (quo .i64 (wI64 ((wI64 (x39 + step_1)) - 1)) step_1) fun x48 =>
  Option.bind (loopN (m_spec_FittingsOf_l1 n c_0 x39 x48) n (([] : List Int), 0)) fun q124 =>
  some (q124, 0)

def m_impl_apart (n : Nat) (a_0 : Int) (b_1 : Int) : Option (Int) :=
  some (imax (wI64 (a_0 - b_1)) (wI64 (b_1 - a_0)))

def m_impl_FittingsOf_l1 (n : Nat) (c_0 : SChange) (x38 : Int) (x47 : Int) (st60 : List Int × Int) : Option (Step (List Int × Int) (List Int)) :=
  if (decide (st60.2 < x47)) then
  Option.bind (quo .i64 x38 x47) fun x82 =>
  Option.bind (rem x38 x47) fun x86 =>
  Option.bind (if (decide (st60.2 < x86)) then
  some (wI64 (x82 + 1))
  else
  some x82) fun x89 =>
  Option.bind (if (decide (c_0.Amount < 0)) then
  some (wI64 (0 - x89))
  else
  some x89) fun x98 =>
  Option.bind (app st60.1 ([x98] : List Int)) fun x113 =>
  some (.next (x113, (wI64 (st60.2 + 1))))
  else
  some (.done st60.1)

def m_impl_FittingsOf (n : Nat) (c_0 : SChange) (step_1 : Int) : Option (List Int × Int) :=
  Option.bind (m_impl_validChange n c_0) fun x12 =>
  if (!x12) then
  some (([] : List Int), 1)
  else
  Option.bind (m_impl_within n step_1 1 100) fun x25 =>
  if (!x25) then
  some (([] : List Int), 2)
  else
  Option.bind (m_impl_apart n c_0.Amount 0) fun x38 =>
  Option.bind (quo .i64 (wI64 ((wI64 (x38 + step_1)) - 1)) step_1) fun x47 =>
  Option.bind (loopN (m_impl_FittingsOf_l1 n c_0 x38 x47) n (([] : List Int), 0)) fun q123 =>
  some (q123, 0)

def m_laws_FnExactFittingsOf (n : Nat) (aC_0 : SChange) (aStep_1 : Int) : Option (Bool) :=
  Option.bind (m_laws_toChange n aC_0) fun x11 =>
  Option.bind (m_spec_FittingsOf n x11 aStep_1) fun x19 =>
  Option.bind (m_laws_toChange n aC_0) fun x31 =>
  Option.bind (m_impl_FittingsOf n x31 aStep_1) fun x39 =>
  Option.bind (Option.bind (m_laws_eqInt64S n x39.1 x19.1) fun x63 =>
  if (!x63) then
  some true
  else
  some (x39.2 != x19.2)) fun x61 =>
  if x61 then
  some false
  else
  Option.bind (m_laws_markInt64S n x39.1 1) fun x80 =>
  Option.bind (m_laws_heldInt64S n x80.2 1) fun x92 =>
  if (decide (x92 < 0)) then
  some false
  else
  if (x92 != x80.1) then
  some false
  else
  Option.bind (m_laws_toChange n aC_0) fun x109 =>
  Option.bind (m_impl_FittingsOf n x109 aStep_1) fun x117 =>
  Option.bind (Option.bind (m_laws_eqInt64S n x117.1 x19.1) fun x141 =>
  if (!x141) then
  some true
  else
  some (x117.2 != x19.2)) fun x139 =>
  if x139 then
  some false
  else
  Option.bind (m_laws_heldInt64S n x80.2 1) fun x158 =>
  if (decide (x158 < 0)) then
  some false
  else
  if (x158 != x80.1) then
  some false
  else
  some true

def m_spec_FirstClash_l2 (n : Nat) (list_0 : List SChange) (st16 : Int) (st34 : Int) : Option (Step (Int) ((Unit) ⊕ (Int × Int × Int))) :=
  if (decide (st34 < st16)) then
  Option.bind (Option.bind (idx list_0 st34) fun x73 =>
  Option.bind (idx list_0 st16) fun x75 =>
  if (x73.Kind == x75.Kind) then
  Option.bind (idx list_0 st34) fun x78 =>
  Option.bind (idx list_0 st16) fun x80 =>
  some (!((decide (x78.Amount < 0)) == (decide (x80.Amount < 0))))
  else
  some false) fun x71 =>
  if x71 then
  some (.done (.inr (st16, st34, 0)))
  else
  some (.next (wI64 (st34 + 1)))
  else
  some (.done (.inl ()))

def m_spec_FirstClash_l1 (n : Nat) (list_0 : List SChange) (st16 : Int) : Option (Step (Int) ((Unit) ⊕ (Int × Int × Int))) :=
  if (decide (st16 < (list_0.length : Int))) then
  Option.bind (loopN (m_spec_FirstClash_l2 n list_0 st16) n 0) fun t45 =>
  match t45 with
  | .inl q98 =>
  some (.next (wI64 (st16 + 1)))
  | .inr r =>
  some (.done (.inr r))
  else
  some (.done (.inl ()))

def m_spec_FirstClash (n : Nat) (list_0 : List SChange) : Option (Int × Int × Int) :=
  Option.bind (m_spec_l22Ok n list_0) fun x4 =>
  if (!x4) then
  some (0, 0, 1)
  else
  Option.bind (loopN (m_spec_FirstClash_l1 n list_0) n 0) fun t27 =>
  match t27 with
  | .inl q100 =>
  some (0, 0, 3)
  | .inr r =>
  some r

def m_impl_FirstClash_1 (n : Nat) (o_0 : SChange) (cap_1 : SChange) : Option (Bool) :=
  Option.bind (if (o_0.Kind == cap_1.Kind) then
  some (!((decide (o_0.Amount < 0)) == (decide (cap_1.Amount < 0))))
  else
  some false) fun x12 =>
  some x12

def m_slices_IndexFunc_impl_Change_impl_Change_f69_l1 (n : Nat) (s_0 : List SChange) (cap_1_0 : SChange) (st4 : Int) : Option (Step (Int) ((Unit) ⊕ (Int))) :=
  if (decide (st4 < (s_0.length : Int))) then
  Option.bind (idx s_0 st4) fun x23 =>
  Option.bind (m_impl_FirstClash_1 n x23 cap_1_0) fun x25 =>
  if x25 then
  some (.done (.inr st4))
  else
  some (.next (wI64 (st4 + 1)))
  else
  some (.done (.inl ()))

def m_slices_IndexFunc_impl_Change_impl_Change_f69 (n : Nat) (s_0 : List SChange) (cap_1_0 : SChange) : Option (Int) :=
  Option.bind (loopN (m_slices_IndexFunc_impl_Change_impl_Change_f69_l1 n s_0 cap_1_0) n 0) fun t15 =>
  match t15 with
  | .inl q36 =>
  some (-1)
  | .inr r =>
  some r

def m_impl_FirstClash_l1 (n : Nat) (list_0 : List SChange) (st16 : Int) : Option (Step (Int) ((Unit) ⊕ (Int × Int × Int))) :=
  if (decide (st16 < (list_0.length : Int))) then
  Option.bind (idx list_0 st16) fun x34 =>
  Option.bind (sub list_0 0 st16) fun x50 =>
  Option.bind (m_slices_IndexFunc_impl_Change_impl_Change_f69 n x50 x34) fun x58 =>
  if (decide (x58 ≥ 0)) then
  some (.done (.inr (st16, x58, 0)))
  else
  some (.next (wI64 (st16 + 1)))
  else
  some (.done (.inl ()))

def m_impl_FirstClash (n : Nat) (list_0 : List SChange) : Option (Int × Int × Int) :=
  Option.bind (m_impl_ValidChanges n list_0) fun x4 =>
  if (!x4) then
  some (0, 0, 1)
  else
  Option.bind (loopN (m_impl_FirstClash_l1 n list_0) n 0) fun t27 =>
  match t27 with
  | .inl q70 =>
  some (0, 0, 3)
  | .inr r =>
  some r

def m_laws_FnExactFirstClash (n : Nat) (aList_0 : List SChange) : Option (Bool) :=
  Option.bind (m_laws_szChangeS n aList_0 1048576) fun x4 =>
  if (decide (x4 < 0)) then
  some true
  else
  Option.bind (m_laws_toChangeS n aList_0) fun x17 =>
  Option.bind (m_spec_FirstClash n x17) fun x28 =>
  Option.bind (m_laws_toChangeS n aList_0) fun x37 =>
  Option.bind (m_impl_FirstClash n x37) fun x49 =>
  Option.bind (if (x49.1 != x28.1) then
  some true
  else
  if (x49.2.1 != x28.2.1) then
  some true
  else
  some (x49.2.2 != x28.2.2)) fun x61 =>
  if x61 then
  some false
  else
  Option.bind (m_laws_toChangeS n aList_0) fun x73 =>
  Option.bind (m_laws_eqChangeS n x37 x73) fun x84 =>
  if (!x84) then
  some false
  else
  some true

def m_laws_a2Long (n : Nat) (code_0 : List Int) (more_1 : List Int) : Option (Bool) :=
  Option.bind (if (decide ((code_0.length : Int) > 3000)) then
  some true
  else
  some (decide ((more_1.length : Int) > 3000))) fun x4 =>
  some x4

def m_spec_l00Src_next (n : Nat) (s_0_code : List Int) (s_0_at_ : Int) (s_0_seed : Int) : Option (Int × Int × Int) :=
  Option.bind (if (decide (s_0_at_ < (s_0_code.length : Int))) then
  Option.bind (idx s_0_code s_0_at_) fun x20 =>
  some (wI64 x20)
  else
  some 0) fun x18 =>
  if (decide ((wI64 (s_0_at_ + 1)) ≤ (s_0_code.length : Int))) then
  some (x18, (wI64 (s_0_at_ + 1)), (IntKind.u64.wrap ((IntKind.u64.wrap ((IntKind.u64.wrap (s_0_seed * 6364136223846793005)) + (IntKind.u64.wrap x18))) + 1442695040888963407)))
  else
  Option.bind (shr .u64 (IntKind.u64.wrap ((IntKind.u64.wrap ((IntKind.u64.wrap (s_0_seed * 6364136223846793005)) + (IntKind.u64.wrap x18))) + 1442695040888963407)) 40) fun x53 =>
  some ((wI64 (iand .u64 x53 255)), (wI64 (s_0_at_ + 1)), (IntKind.u64.wrap ((IntKind.u64.wrap ((IntKind.u64.wrap (s_0_seed * 6364136223846793005)) + (IntKind.u64.wrap x18))) + 1442695040888963407)))

def m_spec_l00Src_pick (n : Nat) (s_0_code : List Int) (s_0_at_ : Int) (s_0_seed : Int) (n_1 : Int) : Option (Int × Int × Int) :=
  if (decide (n_1 ≤ 1)) then
  some (0, s_0_at_, s_0_seed)
  else
  Option.bind (m_spec_l00Src_next n s_0_code s_0_at_ s_0_seed) fun x7 =>
  Option.bind (if (decide (n_1 > 200)) then
  Option.bind (m_spec_l00Src_next n s_0_code x7.2.1 x7.2.2) fun x50 =>
  some ((wI64 ((wI64 (x7.1 * 256)) + x50.1)), x50.2.1, x50.2.2)
  else
  some (x7.1, x7.2.1, x7.2.2)) fun x48 =>
  Option.bind (rem x48.1 n_1) fun x64 =>
  some (x64, x48.2.1, x48.2.2)

def m_spec_l00Src_one (n : Nat) (s_0_code : List Int) (s_0_at_ : Int) (s_0_seed : Int) (n_1 : Int) : Option (Bool × Int × Int) :=
  Option.bind (m_spec_l00Src_pick n s_0_code s_0_at_ s_0_seed n_1) fun x3 =>
  some ((x3.1 == 0), x3.2.1, x3.2.2)

def m_spec_l22New (n : Nat) (s_0_code : List Int) (s_0_at_ : Int) (s_0_seed : Int) : Option (SChange × Int × Int) :=
  Option.bind (m_spec_l00Src_pick n s_0_code s_0_at_ s_0_seed 5) fun x11 =>
  Option.bind (m_spec_l00Src_pick n s_0_code x11.2.1 x11.2.2 60) fun x34 =>
  Option.bind (m_spec_l00Src_one n s_0_code x34.2.1 x34.2.2 2) fun x50 =>
  Option.bind (if x50.1 then
  some (wI64 (0 - (wI64 (1 + x34.1))))
  else
  some (wI64 (1 + x34.1))) fun x77 =>
  some ((SChange.mk (wI64 (1 + x11.1)) x77), x50.2.1, x50.2.2)

def m_spec_l00From (n : Nat) (code_0 : List Int) : Option ((Int × Int)) :=
  some (0, 0)

def m_spec_A2Change (n : Nat) (code_0 : List Int) : Option (SChange) :=
  Option.bind (m_spec_l00From n code_0) fun x11 =>
  Option.bind (m_spec_l22New n code_0 x11.1 x11.2) fun x21 =>
  some x21.1

def m_laws_a2At (n : Nat) (code_0 : List Int) (at_1 : Int) (n_2 : Int) : Option (Int) :=
  Option.bind (if (decide (at_1 ≥ (code_0.length : Int))) then
  some true
  else
  some (decide (n_2 < 1))) fun x5 =>
  if x5 then
  some 0
  else
  Option.bind (idx code_0 at_1) fun x15 =>
  Option.bind (rem (wI64 x15) n_2) fun x17 =>
  some x17

def m_laws_a2Sum_l1 (n : Nat) (list_0 : List Int) (st5 : Int × Int) : Option (Step (Int × Int) (Int)) :=
  if (decide (st5.2 < (list_0.length : Int))) then
  Option.bind (idx list_0 st5.2) fun x22 =>
  some (.next ((wI64 (st5.1 + x22)), (wI64 (st5.2 + 1))))
  else
  some (.done st5.1)

def m_laws_a2Sum (n : Nat) (list_0 : List Int) : Option (Int) :=
  Option.bind (loopN (m_laws_a2Sum_l1 n list_0) n (0, 0)) fun q25 =>
  some q25

def m_laws_a2Size (n : Nat) (n_0 : Int) : Option (Int) :=
  if (decide (n_0 < 0)) then
  some (wI64 (0 - n_0))
  else
  some n_0

def m_spec_l22Draw_l1 (n : Nat) (s_0_code : List Int) (st71 : List SChange × Int × Int × Int) : Option (Step (List SChange × Int × Int × Int) (List SChange × Int × Int)) :=
  if (decide (st71.2.1 > 0)) then
  Option.bind (m_spec_l22New n s_0_code st71.2.2.1 st71.2.2.2) fun x91 =>
  Option.bind (app st71.1 ([x91.1] : List SChange)) fun x109 =>
  some (.next (x109, (wI64 (st71.2.1 - 1)), x91.2.1, x91.2.2))
  else
  some (.done (st71.1, st71.2.2.1, st71.2.2.2))

def m_spec_l22Draw (n : Nat) (s_0_code : List Int) (s_0_at_ : Int) (s_0_seed : Int) : Option (List SChange × Int × Int) :=
  Option.bind (m_spec_l00Src_pick n s_0_code s_0_at_ s_0_seed 6) fun x14 =>
  Option.bind (loopN (m_spec_l22Draw_l1 n s_0_code) n (([] : List SChange), x14.1, x14.2.1, x14.2.2)) fun q119 =>
  some (q119.1, q119.2.1, q119.2.2)

def m_spec_A2Changes (n : Nat) (code_0 : List Int) : Option (List SChange) :=
  Option.bind (m_spec_l00From n code_0) fun x3 =>
  Option.bind (m_spec_l22Draw n code_0 x3.1 x3.2) fun x13 =>
  some x13.1

def m_laws_FnFittings_l3 (n : Nat) (x269 : List SChange) (st293 : Int × Int × Int) (st319 : Int × Int × Int) : Option (Step (Int × Int × Int) (Int × Int)) :=
  Option.bind (if (decide (st319.2.2 < st293.2.2)) then
  some (decide (st319.1 < 0))
  else
  some false) fun x335 =>
  if x335 then
  Option.bind (Option.bind (idx x269 st293.2.2) fun x366 =>
  Option.bind (idx x269 st319.2.2) fun x368 =>
  if (x366.Kind == x368.Kind) then
  Option.bind (idx x269 st293.2.2) fun x371 =>
  Option.bind (idx x269 st319.2.2) fun x373 =>
  some (!((decide (x371.Amount < 0)) == (decide (x373.Amount < 0))))
  else
  some false) fun x364 =>
  Option.bind (if x364 then
  some (st293.2.2, st319.2.2)
  else
  some (st319.1, st319.2.1)) fun x391 =>
  some (.next (x391.1, x391.2, (wI64 (st319.2.2 + 1))))
  else
  some (.done (st319.1, st319.2.1))

def m_laws_FnFittings_l2 (n : Nat) (x269 : List SChange) (st293 : Int × Int × Int) : Option (Step (Int × Int × Int) (Int × Int)) :=
  Option.bind (if (decide (st293.2.2 < (x269.length : Int))) then
  some (decide (st293.1 < 0))
  else
  some false) fun x309 =>
  if x309 then
  Option.bind (loopN (m_laws_FnFittings_l3 n x269 st293) n (st293.1, st293.2.1, 0)) fun q398 =>
  some (.next (q398.1, q398.2, (wI64 (st293.2.2 + 1))))
  else
  some (.done (st293.1, st293.2.1))

def m_laws_FnFittings_l1 (n : Nat) (x37 : Int) (x46 : List Int × Int) (st132 : Int) : Option (Step (Int) ((Unit) ⊕ (Bool))) :=
  if (decide (st132 < (x46.1.length : Int))) then
  Option.bind (Option.bind (idx x46.1 st132) fun x207 =>
  Option.bind (m_laws_a2Size n x207) fun x209 =>
  if (decide (x209 > (wI64 (1 + x37)))) then
  some true
  else
  Option.bind (idx x46.1 st132) fun x219 =>
  if (x219 == 0) then
  some true
  else
  Option.bind (idx x46.1 0) fun x227 =>
  Option.bind (m_laws_a2Size n x227) fun x229 =>
  Option.bind (idx x46.1 st132) fun x233 =>
  Option.bind (m_laws_a2Size n x233) fun x235 =>
  if (decide ((wI64 (x229 - x235)) > 1)) then
  some true
  else
  Option.bind (idx x46.1 0) fun x245 =>
  Option.bind (m_laws_a2Size n x245) fun x247 =>
  Option.bind (idx x46.1 st132) fun x251 =>
  Option.bind (m_laws_a2Size n x251) fun x253 =>
  some (decide (x247 < x253))) fun x205 =>
  if x205 then
  some (.done (.inr false))
  else
  some (.next (wI64 (st132 + 1)))
  else
  some (.done (.inl ()))

def m_laws_FnFittings_l5 (n : Nat) (x960 : List SChange) (st984 : Int × Int × Int) (st1010 : Int × Int × Int) : Option (Step (Int × Int × Int) (Int × Int)) :=
  Option.bind (if (decide (st1010.2.2 < st984.2.2)) then
  some (decide (st1010.1 < 0))
  else
  some false) fun x1026 =>
  if x1026 then
  Option.bind (Option.bind (idx x960 st984.2.2) fun x1057 =>
  Option.bind (idx x960 st1010.2.2) fun x1059 =>
  if (x1057.Kind == x1059.Kind) then
  Option.bind (idx x960 st984.2.2) fun x1062 =>
  Option.bind (idx x960 st1010.2.2) fun x1064 =>
  some (!((decide (x1062.Amount < 0)) == (decide (x1064.Amount < 0))))
  else
  some false) fun x1055 =>
  Option.bind (if x1055 then
  some (st984.2.2, st1010.2.2)
  else
  some (st1010.1, st1010.2.1)) fun x1082 =>
  some (.next (x1082.1, x1082.2, (wI64 (st1010.2.2 + 1))))
  else
  some (.done (st1010.1, st1010.2.1))

def m_laws_FnFittings_l4 (n : Nat) (x960 : List SChange) (st984 : Int × Int × Int) : Option (Step (Int × Int × Int) (Int × Int)) :=
  Option.bind (if (decide (st984.2.2 < (x960.length : Int))) then
  some (decide (st984.1 < 0))
  else
  some false) fun x1000 =>
  if x1000 then
  Option.bind (loopN (m_laws_FnFittings_l5 n x960 st984) n (st984.1, st984.2.1, 0)) fun q1089 =>
  some (.next (q1089.1, q1089.2, (wI64 (st984.2.2 + 1))))
  else
  some (.done (st984.1, st984.2.1))

def m_laws_FnFittings (n : Nat) (code_0 : List Int) (more_1 : List Int) : Option (Bool) :=
  Option.bind (m_laws_a2Long n code_0 more_1) fun x4 =>
  if x4 then
  some true
  else
  Option.bind (m_spec_A2Change n code_0) fun x15 =>
  Option.bind (m_laws_a2At n more_1 0 30) fun x37 =>
  Option.bind (m_impl_FittingsOf n x15 (wI64 (1 + x37))) fun x46 =>
  Option.bind (if (x46.2 != 0) then
  some true
  else
  Option.bind (m_laws_a2Sum n x46.1) fun x99 =>
  if (x99 != x15.Amount) then
  some true
  else
  if (decide ((x46.1.length : Int) < 1)) then
  some true
  else
  Option.bind (m_laws_a2Size n x15.Amount) fun x115 =>
  some (decide ((wI64 ((wI64 ((x46.1.length : Int) - 1)) * (wI64 (1 + x37)))) ≥ x115))) fun x91 =>
  if x91 then
  some false
  else
  Option.bind (loopN (m_laws_FnFittings_l1 n x37 x46) n 0) fun t143 =>
  match t143 with
  | .inl q958 =>
  Option.bind (m_spec_A2Changes n more_1) fun x960 =>
  Option.bind (m_impl_FirstClash n x960) fun x972 =>
  Option.bind (loopN (m_laws_FnFittings_l4 n x960) n ((-1), (-1), 0)) fun q1369 =>
  Option.bind (if (decide (q1369.1 < 0)) then
  if (x972.2.2 != 3) then
  some true
  else
  if (decide (q1369.1 ≥ 0)) then
  if (x972.2.2 != 0) then
  some true
  else
  if (x972.1 != q1369.1) then
  some true
  else
  some (x972.2.1 != q1369.2)
  else
  some false
  else
  if (decide (q1369.1 ≥ 0)) then
  if (x972.2.2 != 0) then
  some true
  else
  if (x972.1 != q1369.1) then
  some true
  else
  some (x972.2.1 != q1369.2)
  else
  some false) fun x1380 =>
  if x1380 then
  some false
  else
  Option.bind (m_laws_a2At n more_1 1 200) fun x1397 =>
  Option.bind (m_laws_a2At n more_1 2 90) fun x1406 =>
  Option.bind (m_laws_a2At n more_1 3 90) fun x1415 =>
  Option.bind (m_laws_a2At n more_1 4 90) fun x1424 =>
  Option.bind (m_impl_RaiseFor n x1397 x1406 x1415 x1424) fun x1433 =>
  if (x1433.2 != 0) then
  Option.bind (if (x1433.2 == 10) then
  some (decide ((wI64 ((wI64 (x1406 + x1415)) + x1424)) < x1397))
  else
  some false) fun x1449 =>
  some x1449
  else
  Option.bind (if ((x1433.1.length : Int) == 3) then
  Option.bind (idx x1433.1 0) fun x1553 =>
  if (decide (x1553 ≥ 0)) then
  Option.bind (idx x1433.1 0) fun x1556 =>
  if (decide (x1556 ≤ x1406)) then
  Option.bind (idx x1433.1 2) fun x1559 =>
  if (decide (x1559 ≥ 0)) then
  Option.bind (idx x1433.1 2) fun x1562 =>
  if (decide (x1562 ≤ x1424)) then
  Option.bind (idx x1433.1 1) fun x1565 =>
  Option.bind (idx x1433.1 2) fun x1567 =>
  if (decide (x1565 ≥ x1567)) then
  Option.bind (idx x1433.1 1) fun x1570 =>
  Option.bind (idx x1433.1 2) fun x1572 =>
  if (decide ((wI64 (x1570 - x1572)) ≤ x1415)) then
  Option.bind (idx x1433.1 0) fun x1575 =>
  Option.bind (idx x1433.1 1) fun x1577 =>
  if ((wI64 (x1575 + x1577)) == x1397) then
  Option.bind (idx x1433.1 2) fun x1580 =>
  if (x1580 == 0) then
  some true
  else
  Option.bind (idx x1433.1 0) fun x1588 =>
  if (x1588 == x1406) then
  Option.bind (idx x1433.1 1) fun x1591 =>
  Option.bind (idx x1433.1 2) fun x1593 =>
  some ((wI64 (x1591 - x1593)) == x1415)
  else
  some false
  else
  some false
  else
  some false
  else
  some false
  else
  some false
  else
  some false
  else
  some false
  else
  some false
  else
  some false) fun x1550 =>
  some x1550
  | .inr r =>
  some r

def m_spec_UndoChanges_l1 (n : Nat) (list_0 : List SChange) (st28 : List SChange × Int) : Option (Step (List SChange × Int) (List SChange)) :=
  if (decide (st28.2 ≥ 0)) then
  Option.bind (idx list_0 st28.2) fun x53 =>
  Option.bind (idx list_0 st28.2) fun x55 =>
  Option.bind (app st28.1 ([(SChange.mk x53.Kind (wI64 (0 - x55.Amount)))] : List SChange)) fun x71 =>
  some (.next (x71, (wI64 (st28.2 - 1))))
  else
  some (.done st28.1)

def m_spec_UndoChanges (n : Nat) (list_0 : List SChange) : Option (List SChange × Int) :=
  Option.bind (m_spec_l22Ok n list_0) fun x4 =>
  if (!x4) then
  some (([] : List SChange), 1)
  else
  Option.bind (loopN (m_spec_UndoChanges_l1 n list_0) n (([] : List SChange), (wI64 ((list_0.length : Int) - 1)))) fun q81 =>
  some (q81, 0)

def m_impl_UndoChanges (n : Nat) (list_0 : List SChange) : Option (List SChange × Int) :=
  Option.bind (m_impl_ValidChanges n list_0) fun x1 =>
  if (!x1) then
  some (([] : List SChange), 1)
  else
  if list_0.length ≤ 4294967296 then
  some (list_0.reverse.map fun c => SChange.mk c.Kind (wI64 (0 - c.Amount)), 0)
  else none

def m_laws_markChangeS_l1 (n : Nat)  (st41 : Int × Int × List SChange) : Option (Step (Int × Int × List SChange) (Int × List SChange)) :=
  if (decide (st41.2.1 < (st41.2.2.length : Int))) then
  Option.bind (idx st41.2.2 st41.2.1) fun x60 =>
  Option.bind (idx (st41.2.2.set (Int.toNat st41.2.1) (SChange.mk st41.1 x60.Amount)) st41.2.1) fun x70 =>
  some (.next ((wI64 ((wI64 (st41.1 + 1)) + 1)), (wI64 (st41.2.1 + 1)), ((st41.2.2.set (Int.toNat st41.2.1) (SChange.mk st41.1 x60.Amount)).set (Int.toNat st41.2.1) (SChange.mk x70.Kind (wI64 (st41.1 + 1))))))
  else
  some (.done (st41.1, st41.2.2))

def m_laws_markChangeS (n : Nat) (a_0 : List SChange) (k_1 : Int) : Option (Int × List SChange) :=
  Option.bind (loopN (m_laws_markChangeS_l1 n) n (k_1, 0, a_0)) fun q79 =>
  some (q79.1, q79.2)

def m_laws_heldChangeS_l1 (n : Nat) (a_0 : List SChange) (st4 : Int × Int) : Option (Step (Int × Int) ((Int) ⊕ (Int))) :=
  if (decide (st4.2 < (a_0.length : Int))) then
  Option.bind (idx a_0 st4.2) fun x23 =>
  if (x23.Kind != st4.1) then
  some (.done (.inr (-1)))
  else
  Option.bind (idx a_0 st4.2) fun x30 =>
  if (x30.Amount != (wI64 (st4.1 + 1))) then
  some (.done (.inr (-1)))
  else
  some (.next ((wI64 ((wI64 (st4.1 + 1)) + 1)), (wI64 (st4.2 + 1))))
  else
  some (.done (.inl st4.1))

def m_laws_heldChangeS (n : Nat) (a_0 : List SChange) (k_1 : Int) : Option (Int) :=
  Option.bind (loopN (m_laws_heldChangeS_l1 n a_0) n (k_1, 0)) fun t15 =>
  match t15 with
  | .inl q35 =>
  some q35
  | .inr r =>
  some r

def m_laws_FnExactUndoChanges (n : Nat) (aList_0 : List SChange) : Option (Bool) :=
  Option.bind (m_laws_szChangeS n aList_0 1048576) fun x4 =>
  if (decide (x4 < 0)) then
  some true
  else
  Option.bind (m_laws_toChangeS n aList_0) fun x17 =>
  Option.bind (m_spec_UndoChanges n x17) fun x28 =>
  Option.bind (m_laws_toChangeS n aList_0) fun x40 =>
  Option.bind (m_impl_UndoChanges n x40) fun x52 =>
  Option.bind (Option.bind (m_laws_eqChangeS n x52.1 x28.1) fun x76 =>
  if (!x76) then
  some true
  else
  some (x52.2 != x28.2)) fun x74 =>
  if x74 then
  some false
  else
  Option.bind (m_laws_toChangeS n aList_0) fun x93 =>
  Option.bind (m_laws_eqChangeS n x40 x93) fun x104 =>
  if (!x104) then
  some false
  else
  Option.bind (m_laws_markChangeS n x40 1) fun x116 =>
  Option.bind (if (decide (x116.1 < 0)) then
  some true
  else
  Option.bind (m_laws_eqChangeS n x52.1 x28.1) fun x141 =>
  if (!x141) then
  some true
  else
  some (x52.2 != x28.2)) fun x138 =>
  if x138 then
  some false
  else
  Option.bind (m_laws_markChangeS n x52.1 1) fun x158 =>
  Option.bind (m_laws_heldChangeS n x158.2 1) fun x170 =>
  if (decide (x170 < 0)) then
  some false
  else
  if (x170 != x158.1) then
  some false
  else
  Option.bind (m_laws_toChangeS n aList_0) fun x187 =>
  Option.bind (m_impl_UndoChanges n x187) fun x198 =>
  Option.bind (Option.bind (m_laws_eqChangeS n x198.1 x28.1) fun x222 =>
  if (!x222) then
  some true
  else
  some (x198.2 != x28.2)) fun x220 =>
  if x220 then
  some false
  else
  Option.bind (m_laws_heldChangeS n x158.2 1) fun x239 =>
  if (decide (x239 < 0)) then
  some false
  else
  if (x239 != x158.1) then
  some false
  else
  some true

def m_spec_l22Of_l1 (n : Nat) (m_0 : List Int) (st14 : List SChange × Int) : Option (Step (List SChange × Int) ((List SChange) ⊕ (List SChange × Int))) :=
  if (decide (st14.2 < (m_0.length : Int))) then
  Option.bind (idx m_0 st14.2) fun x35 =>
  Option.bind (idx m_0 st14.2) fun x52 =>
  if (x52 == 0) then
  some (.next (st14.1, (wI64 (st14.2 + 1))))
  else
  Option.bind (m_spec_l22One n (SChange.mk (wI64 (st14.2 + 1)) x35)) fun x57 =>
  if (!x57) then
  some (.done (.inr (([] : List SChange), 5)))
  else
  Option.bind (app st14.1 ([(SChange.mk (wI64 (st14.2 + 1)) x35)] : List SChange)) fun x78 =>
  some (.next (x78, (wI64 (st14.2 + 1))))
  else
  some (.done (.inl st14.1))

def m_spec_l22Of (n : Nat) (m_0 : List Int) : Option (List SChange × Int) :=
  Option.bind (loopN (m_spec_l22Of_l1 n m_0) n (([] : List SChange), 0)) fun t28 =>
  match t28 with
  | .inl q88 =>
  some (q88, 0)
  | .inr r =>
  some r

def m_spec_MergeChanges_l1 (n : Nat) (list_0 : List SChange) (st82 : Int × List Int) : Option (Step (Int × List Int) (List Int)) :=
  if (decide (st82.1 < (list_0.length : Int))) then
  Option.bind (idx list_0 st82.1) fun x104 =>
  Option.bind (idx st82.2 (wI64 (x104.Kind - 1))) fun x106 =>
  Option.bind (idx list_0 st82.1) fun x108 =>
  Option.bind (idx st82.2 (wI64 (x104.Kind - 1))) fun x110 =>
  some (.next ((wI64 (st82.1 + 1)), (st82.2.set (Int.toNat (wI64 (x104.Kind - 1))) (wI64 (x106 + x108.Amount)))))
  else
  some (.done st82.2)

def m_spec_MergeChanges (n : Nat) (list_0 : List SChange) : Option (List SChange × Int) :=
  Option.bind (m_spec_l22Ok n list_0) fun x4 =>
  if (!x4) then
  some (([] : List SChange), 1)
  else
  Option.bind (mk (0 : Int) 5) fun x17 =>
  Option.bind (loopN (m_spec_MergeChanges_l1 n list_0) n (0, x17)) fun q134 =>
  Option.bind (m_spec_l22Of n q134) fun x136 =>
  some (x136.1, x136.2)

def m_impl_changesOf_l1 (n : Nat) (amounts_0 : List Int) (st14 : List SChange × Int) : Option (Step (List SChange × Int) (List SChange)) :=
  if (decide (st14.2 < (amounts_0.length : Int))) then
  Option.bind (idx amounts_0 st14.2) fun x35 =>
  Option.bind (if (x35 != 0) then
  Option.bind (app st14.1 ([(SChange.mk (wI64 (st14.2 + 1)) x35)] : List SChange)) fun x71 =>
  some x71
  else
  some st14.1) fun x57 =>
  some (.next (x57, (wI64 (st14.2 + 1))))
  else
  some (.done st14.1)

def m_impl_changesOf (n : Nat) (amounts_0 : List Int) : Option (List SChange × Int) :=
  Option.bind (loopN (m_impl_changesOf_l1 n amounts_0) n (([] : List SChange), 0)) fun q99 =>
  Option.bind (m_impl_ValidChanges n q99) fun x105 =>
  if (!x105) then
  some (([] : List SChange), 5)
  else
  some (q99, 0)

def m_impl_MergeChanges_l1 (n : Nat) (list_0 : List SChange) (st94 : Int × List Int) : Option (Step (Int × List Int) (List Int)) :=
  if (decide (st94.1 < (list_0.length : Int))) then
  Option.bind (idx list_0 st94.1) fun x112 =>
  Option.bind (idx st94.2 (wI64 (x112.Kind - 1))) fun x132 =>
  Option.bind (idx st94.2 (wI64 (x112.Kind - 1))) fun x134 =>
  some (.next ((wI64 (st94.1 + 1)), (st94.2.set (Int.toNat (wI64 (x112.Kind - 1))) (wI64 (x132 + x112.Amount)))))
  else
  some (.done st94.2)

def m_impl_MergeChanges (n : Nat) (list_0 : List SChange) : Option (List SChange × Int) :=
  Option.bind (m_impl_ValidChanges n list_0) fun x4 =>
  if (!x4) then
  some (([] : List SChange), 1)
  else
  Option.bind (mk (0 : Int) 5) fun x17 =>
  Option.bind (loopN (m_impl_MergeChanges_l1 n list_0) n (0, x17)) fun q158 =>
  Option.bind (m_impl_changesOf n q158) fun x160 =>
  some (x160.1, x160.2)

def m_laws_FnExactMergeChanges (n : Nat) (aList_0 : List SChange) : Option (Bool) :=
  Option.bind (m_laws_szChangeS n aList_0 1048576) fun x4 =>
  if (decide (x4 < 0)) then
  some true
  else
  Option.bind (m_laws_toChangeS n aList_0) fun x17 =>
  Option.bind (m_spec_MergeChanges n x17) fun x28 =>
  Option.bind (m_laws_toChangeS n aList_0) fun x40 =>
  Option.bind (m_impl_MergeChanges n x40) fun x52 =>
  Option.bind (Option.bind (m_laws_eqChangeS n x52.1 x28.1) fun x76 =>
  if (!x76) then
  some true
  else
  some (x52.2 != x28.2)) fun x74 =>
  if x74 then
  some false
  else
  Option.bind (m_laws_toChangeS n aList_0) fun x93 =>
  Option.bind (m_laws_eqChangeS n x40 x93) fun x104 =>
  if (!x104) then
  some false
  else
  Option.bind (m_laws_markChangeS n x40 1) fun x116 =>
  Option.bind (if (decide (x116.1 < 0)) then
  some true
  else
  Option.bind (m_laws_eqChangeS n x52.1 x28.1) fun x141 =>
  if (!x141) then
  some true
  else
  some (x52.2 != x28.2)) fun x138 =>
  if x138 then
  some false
  else
  Option.bind (m_laws_markChangeS n x52.1 1) fun x158 =>
  Option.bind (m_laws_heldChangeS n x158.2 1) fun x170 =>
  if (decide (x170 < 0)) then
  some false
  else
  if (x170 != x158.1) then
  some false
  else
  Option.bind (m_laws_toChangeS n aList_0) fun x187 =>
  Option.bind (m_impl_MergeChanges n x187) fun x198 =>
  Option.bind (Option.bind (m_laws_eqChangeS n x198.1 x28.1) fun x222 =>
  if (!x222) then
  some true
  else
  some (x198.2 != x28.2)) fun x220 =>
  if x220 then
  some false
  else
  Option.bind (m_laws_heldChangeS n x158.2 1) fun x239 =>
  if (decide (x239 < 0)) then
  some false
  else
  if (x239 != x158.1) then
  some false
  else
  some true

def m_laws_szLast (n : Nat) (a_0 : SLast) (left_1 : Int) : Option (Int) :=
  if (decide ((wI64 (left_1 - (a_0.Name.length : Int))) < 0)) then
  some (-1)
  else
  some (wI64 (left_1 - (a_0.Name.length : Int)))

def m_spec_l01Small (n : Nat) (c_0 : Int) : Option (Bool) :=
  Option.bind (if (decide (c_0 ≥ 97)) then
  some (decide (c_0 ≤ 122))
  else
  some false) fun x4 =>
  some x4

def m_spec_l01Digit (n : Nat) (c_0 : Int) : Option (Bool) :=
  Option.bind (if (decide (c_0 ≥ 48)) then
  some (decide (c_0 ≤ 57))
  else
  some false) fun x4 =>
  some x4

def m_spec_IsName_l1 (n : Nat) (s_0 : List UInt8) (st38 : Int) : Option (Step (Int) ((Unit) ⊕ (Bool))) :=
  if (decide (st38 < (s_0.length : Int))) then
  Option.bind (Option.bind (idx s_0 st38) fun x82 =>
  Option.bind (m_spec_l01Small n (x82.toNat : Int)) fun x84 =>
  if (!x84) then
  Option.bind (idx s_0 st38) fun x93 =>
  Option.bind (m_spec_l01Digit n (x93.toNat : Int)) fun x95 =>
  if (!x95) then
  Option.bind (idx s_0 st38) fun x104 =>
  some ((x104.toNat : Int) != 45)
  else
  some false
  else
  some false) fun x80 =>
  if x80 then
  some (.done (.inr false))
  else
  some (.next (wI64 (st38 + 1)))
  else
  some (.done (.inl ()))

def m_spec_IsName (n : Nat) (s_0 : List UInt8) : Option (Bool) :=
  Option.bind (if (s_0 == []) then
  some true
  else
  if (decide ((s_0.length : Int) > 12)) then
  some true
  else
  Option.bind (idx s_0 0) fun x20 =>
  Option.bind (m_spec_l01Small n (x20.toNat : Int)) fun x22 =>
  some (!x22)) fun x16 =>
  if x16 then
  some false
  else
  Option.bind (loopN (m_spec_IsName_l1 n s_0) n 0) fun t49 =>
  match t49 with
  | .inl q113 =>
  some true
  | .inr r =>
  some r

def m_spec_l02One (n : Nat) (n_0 : Int) : Option (Bool) :=
  Option.bind (m_spec_l00In n n_0 500 5000) fun x3 =>
  some x3

def m_spec_l02Foot (n : Nat) (f_0 : SFoot) : Option (Bool) :=
  Option.bind (Option.bind (m_spec_l02One n f_0.Length) fun x48 =>
  if x48 then
  Option.bind (m_spec_l02One n f_0.Ball) fun x57 =>
  if x57 then
  Option.bind (m_spec_l02One n f_0.Instep) fun x66 =>
  if x66 then
  Option.bind (m_spec_l02One n f_0.Heel) fun x75 =>
  some x75
  else
  some false
  else
  some false
  else
  some false) fun x46 =>
  some x46

def m_spec_l04Foot (n : Nat) (x_0 : SLast) : Option (SFoot) :=
  some (SFoot.mk x_0.Length x_0.Ball x_0.Instep x_0.Heel)

def m_spec_l04One (n : Nat) (x_0 : SLast) : Option (Bool) :=
  Option.bind (Option.bind (m_spec_IsName n x_0.Name) fun x47 =>
  if x47 then
  Option.bind (m_spec_l04Foot n x_0) fun x56 =>
  Option.bind (m_spec_l02Foot n x56) fun x64 =>
  if x64 then
  Option.bind (m_spec_l00In n x_0.Pitch 0 1000) fun x73 =>
  some x73
  else
  some false
  else
  some false) fun x45 =>
  some x45

def m_spec_l22Five (n : Nat) (x_0 : SLast) : Option (List Int) :=
  some ([x_0.Length, x_0.Ball, x_0.Instep, x_0.Heel, x_0.Pitch] : List Int)

def m_spec_ChangesBetween_l1 (n : Nat) (x65 : List Int) (st140 : Int × List Int) : Option (Step (Int × List Int) (List Int)) :=
  if (decide (st140.1 < (x65.length : Int))) then
  Option.bind (idx st140.2 st140.1) fun x162 =>
  Option.bind (idx x65 st140.1) fun x164 =>
  Option.bind (idx st140.2 st140.1) fun x166 =>
  some (.next ((wI64 (st140.1 + 1)), (st140.2.set (Int.toNat st140.1) (wI64 (x162 - x164)))))
  else
  some (.done st140.2)

def m_spec_ChangesBetween (n : Nat) (a_0 : SLast) (b_1 : SLast) : Option (List SChange × Int) :=
  Option.bind (Option.bind (m_spec_l04One n a_0) fun x39 =>
  if (!x39) then
  some true
  else
  Option.bind (m_spec_l04One n b_1) fun x48 =>
  some (!x48)) fun x37 =>
  if x37 then
  some (([] : List SChange), 1)
  else
  Option.bind (m_spec_l22Five n a_0) fun x65 =>
  Option.bind (m_spec_l22Five n b_1) fun x77 =>
  Option.bind (loopN (m_spec_ChangesBetween_l1 n x65) n (0, x77)) fun q190 =>
  Option.bind (m_spec_l22Of n q190) fun x192 =>
  some (x192.1, x192.2)

def m_laws_toLast (n : Nat) (a_0 : SLast) : Option (SLast) :=
  some a_0

def m_impl_IsName_l1 (n : Nat) (s_0 : List UInt8) (st28 : Int) : Option (Step (Int) ((Unit) ⊕ (Bool))) :=
  if (decide (st28 < (s_0.length : Int))) then
  Option.bind (Option.bind (idx s_0 st28) fun x74 =>
  if (decide ((x74.toNat : Int) < 97)) then
  Option.bind (idx s_0 st28) fun x77 =>
  if (decide ((x77.toNat : Int) < 48)) then
  Option.bind (idx s_0 st28) fun x80 =>
  some ((x80.toNat : Int) != 45)
  else
  Option.bind (idx s_0 st28) fun x82 =>
  if (decide ((x82.toNat : Int) > 57)) then
  Option.bind (idx s_0 st28) fun x85 =>
  some ((x85.toNat : Int) != 45)
  else
  some false
  else
  Option.bind (idx s_0 st28) fun x87 =>
  if (decide ((x87.toNat : Int) > 122)) then
  Option.bind (idx s_0 st28) fun x90 =>
  if (decide ((x90.toNat : Int) < 48)) then
  Option.bind (idx s_0 st28) fun x93 =>
  some ((x93.toNat : Int) != 45)
  else
  Option.bind (idx s_0 st28) fun x95 =>
  if (decide ((x95.toNat : Int) > 57)) then
  Option.bind (idx s_0 st28) fun x98 =>
  some ((x98.toNat : Int) != 45)
  else
  some false
  else
  some false) fun x72 =>
  if x72 then
  some (.done (.inr false))
  else
  some (.next (wI64 (st28 + 1)))
  else
  some (.done (.inl ()))

def m_impl_IsName (n : Nat) (s_0 : List UInt8) : Option (Bool) :=
  Option.bind (if (decide ((s_0.length : Int) < 1)) then
  some true
  else
  if (decide ((s_0.length : Int) > 12)) then
  some true
  else
  Option.bind (idx s_0 0) fun x15 =>
  if (decide ((x15.toNat : Int) < 97)) then
  some true
  else
  Option.bind (idx s_0 0) fun x18 =>
  some (decide ((x18.toNat : Int) > 122))) fun x11 =>
  if x11 then
  some false
  else
  Option.bind (loopN (m_impl_IsName_l1 n s_0) n 1) fun t39 =>
  match t39 with
  | .inl q107 =>
  some true
  | .inr r =>
  some r

def m_impl_Foot_measures (n : Nat) (f_0 : SFoot) : Option (List Int) :=
  some ([f_0.Length, f_0.Ball, f_0.Instep, f_0.Heel] : List Int)

def m_impl_ValidFoot (n : Nat) (f_0 : SFoot) : Option (Bool) :=
  Option.bind (m_impl_Foot_measures n f_0) fun x11 =>
  Option.bind (m_impl_outside n x11 500 5000) fun x22 =>
  some (!x22)

def m_impl_Last_foot (n : Nat) (x_0 : SLast) : Option (SFoot) :=
  some (SFoot.mk x_0.Length x_0.Ball x_0.Instep x_0.Heel)

def m_impl_validLast (n : Nat) (x_0 : SLast) : Option (Bool) :=
  Option.bind (Option.bind (m_impl_IsName n x_0.Name) fun x47 =>
  if x47 then
  Option.bind (m_impl_Last_foot n x_0) fun x56 =>
  Option.bind (m_impl_ValidFoot n x56) fun x64 =>
  if x64 then
  Option.bind (m_impl_within n x_0.Pitch 0 1000) fun x73 =>
  some x73
  else
  some false
  else
  some false) fun x45 =>
  some x45

def m_impl_Last_numbers (n : Nat) (x_0 : SLast) : Option (List Int) :=
  some ([x_0.Length, x_0.Ball, x_0.Instep, x_0.Heel, x_0.Pitch] : List Int)

def m_impl_ChangesBetween_l1 (n : Nat) (x78 : List Int) (st130 : Int × List Int) : Option (Step (Int × List Int) (List Int)) :=
  if (decide (st130.1 < (x78.length : Int))) then
  Option.bind (idx x78 st130.1) fun x148 =>
  Option.bind (idx st130.2 st130.1) fun x150 =>
  Option.bind (idx st130.2 st130.1) fun x152 =>
  some (.next ((wI64 (st130.1 + 1)), (st130.2.set (Int.toNat st130.1) (wI64 (x150 - x148)))))
  else
  some (.done st130.2)

def m_impl_ChangesBetween (n : Nat) (a_0 : SLast) (b_1 : SLast) : Option (List SChange × Int) :=
  Option.bind (Option.bind (m_impl_validLast n a_0) fun x39 =>
  if (!x39) then
  some true
  else
  Option.bind (m_impl_validLast n b_1) fun x48 =>
  some (!x48)) fun x37 =>
  if x37 then
  some (([] : List SChange), 1)
  else
  Option.bind (m_impl_Last_numbers n b_1) fun x65 =>
  Option.bind (m_impl_Last_numbers n a_0) fun x78 =>
  Option.bind (loopN (m_impl_ChangesBetween_l1 n x78) n (0, x65)) fun q171 =>
  Option.bind (m_impl_changesOf n q171) fun x173 =>
  some (x173.1, x173.2)

def m_laws_FnExactChangesBetween (n : Nat) (aA_0 : SLast) (aB_1 : SLast) : Option (Bool) :=
  Option.bind (m_laws_szLast n aA_0 1048576) fun x20 =>
  if (decide (x20 < 0)) then
  some true
  else
  Option.bind (m_laws_szLast n aB_1 x20) fun x33 =>
  if (decide (x33 < 0)) then
  some true
  else
  Option.bind (m_laws_toLast n aA_0) fun x51 =>
  Option.bind (m_laws_toLast n aB_1) fun x55 =>
  Option.bind (m_spec_ChangesBetween n x51 x55) fun x64 =>
  Option.bind (m_laws_toLast n aA_0) fun x86 =>
  Option.bind (m_laws_toLast n aB_1) fun x90 =>
  Option.bind (m_impl_ChangesBetween n x86 x90) fun x99 =>
  Option.bind (Option.bind (m_laws_eqChangeS n x99.1 x64.1) fun x128 =>
  if (!x128) then
  some true
  else
  some (x99.2 != x64.2)) fun x126 =>
  if x126 then
  some false
  else
  Option.bind (m_laws_markChangeS n x99.1 1) fun x145 =>
  Option.bind (m_laws_heldChangeS n x145.2 1) fun x157 =>
  if (decide (x157 < 0)) then
  some false
  else
  if (x157 != x145.1) then
  some false
  else
  Option.bind (m_laws_toLast n aA_0) fun x179 =>
  Option.bind (m_laws_toLast n aB_1) fun x183 =>
  Option.bind (m_impl_ChangesBetween n x179 x183) fun x192 =>
  Option.bind (Option.bind (m_laws_eqChangeS n x192.1 x64.1) fun x221 =>
  if (!x221) then
  some true
  else
  some (x192.2 != x64.2)) fun x219 =>
  if x219 then
  some false
  else
  Option.bind (m_laws_heldChangeS n x145.2 1) fun x238 =>
  if (decide (x238 < 0)) then
  some false
  else
  if (x238 != x145.1) then
  some false
  else
  some true

def m_spec_ApplyChanges_l1 (n : Nat) (x_0 : SLast) (list_1 : List SChange) (st170 : Int × List Int × Int × Int × Int × Int × Int) : Option (Step (Int × List Int × Int × Int × Int × Int × Int) ((List Int × Int × Int × Int × Int × Int) ⊕ (SLast × Int))) :=
  if (decide (st170.1 < (list_1.length : Int))) then
  Option.bind (idx list_1 st170.1) fun x193 =>
  Option.bind (idx st170.2.1 (wI64 (x193.Kind - 1))) fun x195 =>
  Option.bind (idx list_1 st170.1) fun x197 =>
  Option.bind (idx st170.2.1 (wI64 (x193.Kind - 1))) fun x199 =>
  Option.bind (idx (st170.2.1.set (Int.toNat (wI64 (x193.Kind - 1))) (wI64 (x195 + x197.Amount))) 0) fun x217 =>
  Option.bind (idx (st170.2.1.set (Int.toNat (wI64 (x193.Kind - 1))) (wI64 (x195 + x197.Amount))) 1) fun x219 =>
  Option.bind (idx (st170.2.1.set (Int.toNat (wI64 (x193.Kind - 1))) (wI64 (x195 + x197.Amount))) 2) fun x221 =>
  Option.bind (idx (st170.2.1.set (Int.toNat (wI64 (x193.Kind - 1))) (wI64 (x195 + x197.Amount))) 3) fun x223 =>
  Option.bind (idx (st170.2.1.set (Int.toNat (wI64 (x193.Kind - 1))) (wI64 (x195 + x197.Amount))) 4) fun x225 =>
  Option.bind (m_spec_l04One n (SLast.mk x_0.Name x217 x219 x221 x223 x225)) fun x238 =>
  if (!x238) then
  some (.done (.inr ((SLast.mk [] 0 0 0 0 0), 10)))
  else
  some (.next ((wI64 (st170.1 + 1)), (st170.2.1.set (Int.toNat (wI64 (x193.Kind - 1))) (wI64 (x195 + x197.Amount))), x217, x219, x221, x223, x225))
  else
  some (.done (.inl (st170.2.1, st170.2.2.1, st170.2.2.2.1, st170.2.2.2.2.1, st170.2.2.2.2.2.1, st170.2.2.2.2.2.2)))

def m_spec_ApplyChanges (n : Nat) (x_0 : SLast) (list_1 : List SChange) : Option (SLast × Int) :=
  Option.bind (Option.bind (m_spec_l04One n x_0) fun x39 =>
  if (!x39) then
  some true
  else
  Option.bind (m_spec_l22Ok n list_1) fun x48 =>
  some (!x48)) fun x37 =>
  if x37 then
  some ((SLast.mk [] 0 0 0 0 0), 1)
  else
  Option.bind (m_spec_l22Five n x_0) fun x68 =>
  Option.bind (loopN (m_spec_ApplyChanges_l1 n x_0 list_1) n (0, x68, x_0.Length, x_0.Ball, x_0.Instep, x_0.Heel, x_0.Pitch)) fun t181 =>
  match t181 with
  | .inl q259 =>
  some ((SLast.mk x_0.Name q259.2.1 q259.2.2.1 q259.2.2.2.1 q259.2.2.2.2.1 q259.2.2.2.2.2), 0)
  | .inr r =>
  some r

def m_impl_Last_changed (n : Nat) (x_0 : SLast) (c_1 : SChange) : Option (SLast) :=
  Option.bind (m_impl_Last_numbers n x_0) fun x27 =>
  Option.bind (idx x27 (wI64 (c_1.Kind - 1))) fun x44 =>
  Option.bind (idx x27 (wI64 (c_1.Kind - 1))) fun x46 =>
  Option.bind (idx (x27.set (Int.toNat (wI64 (c_1.Kind - 1))) (wI64 (x44 + c_1.Amount))) 0) fun x64 =>
  Option.bind (idx (x27.set (Int.toNat (wI64 (c_1.Kind - 1))) (wI64 (x44 + c_1.Amount))) 1) fun x66 =>
  Option.bind (idx (x27.set (Int.toNat (wI64 (c_1.Kind - 1))) (wI64 (x44 + c_1.Amount))) 2) fun x68 =>
  Option.bind (idx (x27.set (Int.toNat (wI64 (c_1.Kind - 1))) (wI64 (x44 + c_1.Amount))) 3) fun x70 =>
  Option.bind (idx (x27.set (Int.toNat (wI64 (c_1.Kind - 1))) (wI64 (x44 + c_1.Amount))) 4) fun x72 =>
  some (SLast.mk x_0.Name x64 x66 x68 x70 x72)

def m_impl_ApplyChanges_l1 (n : Nat) (list_1 : List SChange) (st138 : Int × List UInt8 × Int × Int × Int × Int × Int) : Option (Step (Int × List UInt8 × Int × Int × Int × Int × Int) ((List UInt8 × Int × Int × Int × Int × Int) ⊕ (SLast × Int))) :=
  if (decide (st138.1 < (list_1.length : Int))) then
  Option.bind (idx list_1 st138.1) fun x156 =>
  Option.bind (m_impl_Last_changed n (SLast.mk st138.2.1 st138.2.2.1 st138.2.2.2.1 st138.2.2.2.2.1 st138.2.2.2.2.2.1 st138.2.2.2.2.2.2) x156) fun x172 =>
  Option.bind (m_impl_validLast n x172) fun x186 =>
  if (!x186) then
  some (.done (.inr ((SLast.mk [] 0 0 0 0 0), 10)))
  else
  some (.next ((wI64 (st138.1 + 1)), x172.Name, x172.Length, x172.Ball, x172.Instep, x172.Heel, x172.Pitch))
  else
  some (.done (.inl (st138.2.1, st138.2.2.1, st138.2.2.2.1, st138.2.2.2.2.1, st138.2.2.2.2.2.1, st138.2.2.2.2.2.2)))

def m_impl_ApplyChanges (n : Nat) (x_0 : SLast) (list_1 : List SChange) : Option (SLast × Int) :=
  Option.bind (Option.bind (m_impl_validLast n x_0) fun x39 =>
  if (!x39) then
  some true
  else
  Option.bind (m_impl_ValidChanges n list_1) fun x48 =>
  some (!x48)) fun x37 =>
  if x37 then
  some ((SLast.mk [] 0 0 0 0 0), 1)
  else
  Option.bind (loopN (m_impl_ApplyChanges_l1 n list_1) n (0, x_0.Name, x_0.Length, x_0.Ball, x_0.Instep, x_0.Heel, x_0.Pitch)) fun t149 =>
  match t149 with
  | .inl q207 =>
  some ((SLast.mk q207.1 q207.2.1 q207.2.2.1 q207.2.2.2.1 q207.2.2.2.2.1 q207.2.2.2.2.2), 0)
  | .inr r =>
  some r

def m_laws_eqLast (n : Nat) (a_0 : SLast) (b_1 : SLast) : Option (Bool) :=
  if (!(a_0.Name == b_1.Name)) then
  some false
  else
  if (a_0.Length != b_1.Length) then
  some false
  else
  if (a_0.Ball != b_1.Ball) then
  some false
  else
  if (a_0.Instep != b_1.Instep) then
  some false
  else
  if (a_0.Heel != b_1.Heel) then
  some false
  else
  if (a_0.Pitch != b_1.Pitch) then
  some false
  else
  some true

def m_laws_FnExactApplyChanges (n : Nat) (aX_0 : SLast) (aList_1 : List SChange) : Option (Bool) :=
  Option.bind (m_laws_szLast n aX_0 1048576) fun x12 =>
  if (decide (x12 < 0)) then
  some true
  else
  Option.bind (m_laws_szChangeS n aList_1 x12) fun x25 =>
  if (decide (x25 < 0)) then
  some true
  else
  Option.bind (m_laws_toLast n aX_0) fun x38 =>
  Option.bind (m_laws_toChangeS n aList_1) fun x46 =>
  Option.bind (m_spec_ApplyChanges n x38 x46) fun x57 =>
  Option.bind (m_laws_toChangeS n aList_1) fun x79 =>
  Option.bind (m_laws_toLast n aX_0) fun x91 =>
  Option.bind (m_impl_ApplyChanges n x91 x79) fun x99 =>
  Option.bind (Option.bind (m_laws_eqLast n x99.1 x57.1) fun x133 =>
  if (!x133) then
  some true
  else
  some (x99.2 != x57.2)) fun x131 =>
  if x131 then
  some false
  else
  Option.bind (m_laws_toChangeS n aList_1) fun x150 =>
  Option.bind (m_laws_eqChangeS n x79 x150) fun x161 =>
  if (!x161) then
  some false
  else
  some true

end Go.Gv
