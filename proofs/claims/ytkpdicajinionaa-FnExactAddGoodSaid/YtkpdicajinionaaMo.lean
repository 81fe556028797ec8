/- What each function computes, as a Lean function that may fail. -/
import Derived.Test.YtkpdicajinionaaDa
namespace Go.Gv
open Go Go.RowKit

def m_laws_szGood (n : Nat) (a_0 : SGood) (left_1 : Int) : Option (Int) :=
  if (decide ((wI64 (left_1 - (a_0.Name.length : Int))) < 0)) then
  some (-1)
  else
  some (wI64 (left_1 - (a_0.Name.length : Int)))

def m_laws_szGoodS_l1 (n : Nat) (a_0 : List SGood) (st9 : Int × Int) : Option (Step (Int × Int) ((Int) ⊕ (Int))) :=
  if (decide (st9.2 < (a_0.length : Int))) then
  Option.bind (idx a_0 st9.2) fun x27 =>
  Option.bind (m_laws_szGood n x27 st9.1) fun x29 =>
  if (decide (x29 < 0)) then
  some (.done (.inr (-1)))
  else
  some (.next (x29, (wI64 (st9.2 + 1))))
  else
  some (.done (.inl st9.1))

def m_laws_szGoodS (n : Nat) (a_0 : List SGood) (left_1 : Int) : Option (Int) :=
  if (decide ((wI64 (left_1 - (a_0.length : Int))) < 0)) then
  some (-1)
  else
  Option.bind (loopN (m_laws_szGoodS_l1 n a_0) n ((wI64 (left_1 - (a_0.length : Int))), 0)) fun t20 =>
  match t20 with
  | .inl q41 =>
  some q41
  | .inr r =>
  some r

def m_spec_SameGoods_l1 (n : Nat) (a_0 : List SGood) (b_1 : List SGood) (st8 : Int) : Option (Step (Int) ((Unit) ⊕ (Bool))) :=
  if (decide (st8 < (a_0.length : Int))) then
  Option.bind (idx a_0 st8) fun x26 =>
  Option.bind (idx b_1 st8) fun x28 =>
  if (!(decide (x26 = x28))) then
  some (.done (.inr false))
  else
  some (.next (wI64 (st8 + 1)))
  else
  some (.done (.inl ()))

def m_spec_SameGoods (n : Nat) (a_0 : List SGood) (b_1 : List SGood) : Option (Bool) :=
  if ((a_0.length : Int) != (b_1.length : Int)) then
  some false
  else
  Option.bind (loopN (m_spec_SameGoods_l1 n a_0 b_1) n 0) fun t19 =>
  match t19 with
  | .inl q38 =>
  some true
  | .inr r =>
  some r

def m_laws_toGood (n : Nat) (a_0 : SGood) : Option (SGood) :=
  some a_0

def m_laws_toGoodS_l1 (n : Nat) (a_0 : List SGood) (st51 : Int × List SGood) : Option (Step (Int × List SGood) (List SGood)) :=
  if (decide (st51.1 < (a_0.length : Int))) then
  Option.bind (idx a_0 st51.1) fun x68 =>
  Option.bind (m_laws_toGood n x68) fun x70 =>
  Option.bind (idx st51.2 st51.1) fun x78 =>
  some (.next ((wI64 (st51.1 + 1)), (st51.2.set (Int.toNat st51.1) x70)))
  else
  some (.done st51.2)

def m_laws_toGoodS (n : Nat) (a_0 : List SGood) : Option (List SGood) :=
  Option.bind (mk ((SGood.mk [] 0 0 0) : SGood) (a_0.length : Int)) fun x3 =>
  Option.bind (loopN (m_laws_toGoodS_l1 n a_0) n (0, x3)) fun q86 =>
  some q86

def m_slices_Equal_impl_Good_impl_Good_l1 (n : Nat) (s1_0 : List SGood) (s2_1 : List SGood) (st8 : Int) : Option (Step (Int) ((Unit) ⊕ (Bool))) :=
  if (decide (st8 < (s1_0.length : Int))) then
  Option.bind (idx s1_0 st8) fun x27 =>
  Option.bind (idx s2_1 st8) fun x29 =>
  if (!(decide (x27 = x29))) then
  some (.done (.inr false))
  else
  some (.next (wI64 (st8 + 1)))
  else
  some (.done (.inl ()))

def m_slices_Equal_impl_Good_impl_Good (n : Nat) (s1_0 : List SGood) (s2_1 : List SGood) : Option (Bool) :=
  if ((s1_0.length : Int) != (s2_1.length : Int)) then
  some false
  else
  Option.bind (loopN (m_slices_Equal_impl_Good_impl_Good_l1 n s1_0 s2_1) n 0) fun t19 =>
  match t19 with
  | .inl q39 =>
  some true
  | .inr r =>
  some r

def m_impl_SameGoods (n : Nat) (a_0 : List SGood) (b_1 : List SGood) : Option (Bool) :=
  Option.bind (m_slices_Equal_impl_Good_impl_Good n a_0 b_1) fun x3 =>
  some x3

def m_laws_eqGood (n : Nat) (a_0 : SGood) (b_1 : SGood) : Option (Bool) :=
  if (!(a_0.Name == b_1.Name)) then
  some false
  else
  if (a_0.OnHand != b_1.OnHand) then
  some false
  else
  if (a_0.Reserved != b_1.Reserved) then
  some false
  else
  if (a_0.Least != b_1.Least) then
  some false
  else
  some true

def m_laws_eqGoodS_l1 (n : Nat) (a_0 : List SGood) (b_1 : List SGood) (st8 : Int) : Option (Step (Int) ((Unit) ⊕ (Bool))) :=
  if (decide (st8 < (a_0.length : Int))) then
  Option.bind (idx a_0 st8) fun x26 =>
  Option.bind (idx b_1 st8) fun x28 =>
  Option.bind (m_laws_eqGood n x26 x28) fun x30 =>
  if (!x30) then
  some (.done (.inr false))
  else
  some (.next (wI64 (st8 + 1)))
  else
  some (.done (.inl ()))

def m_laws_eqGoodS (n : Nat) (a_0 : List SGood) (b_1 : List SGood) : Option (Bool) :=
  if ((a_0.length : Int) != (b_1.length : Int)) then
  some false
  else
  Option.bind (loopN (m_laws_eqGoodS_l1 n a_0 b_1) n 0) fun t19 =>
  match t19 with
  | .inl q42 =>
  some true
  | .inr r =>
  some r

def m_laws_FnExactSameGoods (n : Nat) (aA_0 : List SGood) (aB_1 : List SGood) : Option (Bool) :=
  Option.bind (m_laws_szGoodS n aA_0 1048576) fun x4 =>
  if (decide (x4 < 0)) then
  some true
  else
  Option.bind (m_laws_szGoodS n aB_1 x4) fun x17 =>
  if (decide (x17 < 0)) then
  some true
  else
  Option.bind (m_laws_toGoodS n aA_0) fun x30 =>
  Option.bind (m_laws_toGoodS n aB_1) fun x41 =>
  Option.bind (m_spec_SameGoods n x30 x41) fun x52 =>
  Option.bind (m_laws_toGoodS n aA_0) fun x61 =>
  Option.bind (m_laws_toGoodS n aB_1) fun x73 =>
  Option.bind (m_impl_SameGoods n x61 x73) fun x85 =>
  if (!(x85 == x52)) then
  some false
  else
  Option.bind (m_laws_toGoodS n aA_0) fun x99 =>
  Option.bind (m_laws_eqGoodS n x61 x99) fun x110 =>
  if (!x110) then
  some false
  else
  Option.bind (m_laws_toGoodS n aB_1) fun x122 =>
  Option.bind (m_laws_eqGoodS n x73 x122) fun x133 =>
  if (!x133) then
  some false
  else
  some true

def m_spec_l00In (n : Nat) (n_0 : Int) (low_1 : Int) (high_2 : Int) : Option (Bool) :=
  Option.bind (if (decide (n_0 ≥ low_1)) then
  some (decide (n_0 ≤ high_2))
  else
  some false) fun x4 =>
  some x4

def m_spec_l23Many (n : Nat) (n_0 : Int) : Option (Bool) :=
  Option.bind (m_spec_l00In n n_0 0 1000000) fun x3 =>
  some x3

def m_spec_l01Small (n : Nat) (c_0 : Int) : Option (Bool) :=
  Option.bind (if (decide (c_0 ≥ 97)) then
  some (decide (c_0 ≤ 122))
  else
  some false) fun x4 =>
  some x4

def m_spec_l01Digit (n : Nat) (c_0 : Int) : Option (Bool) :=
  Option.bind (if (decide (c_0 ≥ 48)) then
  some (decide (c_0 ≤ 57))
  else
  some false) fun x4 =>
  some x4

def m_spec_IsName_l1 (n : Nat) (s_0 : List UInt8) (st38 : Int) : Option (Step (Int) ((Unit) ⊕ (Bool))) :=
  if (decide (st38 < (s_0.length : Int))) then
  Option.bind (Option.bind (idx s_0 st38) fun x82 =>
  Option.bind (m_spec_l01Small n (x82.toNat : Int)) fun x84 =>
  if (!x84) then
  Option.bind (idx s_0 st38) fun x93 =>
  Option.bind (m_spec_l01Digit n (x93.toNat : Int)) fun x95 =>
  if (!x95) then
  Option.bind (idx s_0 st38) fun x104 =>
  some ((x104.toNat : Int) != 45)
  else
  some false
  else
  some false) fun x80 =>
  if x80 then
  some (.done (.inr false))
  else
  some (.next (wI64 (st38 + 1)))
  else
  some (.done (.inl ()))

def m_spec_IsName (n : Nat) (s_0 : List UInt8) : Option (Bool) :=
  Option.bind (if (s_0 == []) then
  some true
  else
  if (decide ((s_0.length : Int) > 12)) then
  some true
  else
  Option.bind (idx s_0 0) fun x20 =>
  Option.bind (m_spec_l01Small n (x20.toNat : Int)) fun x22 =>
  some (!x22)) fun x16 =>
  if x16 then
  some false
  else
  Option.bind (loopN (m_spec_IsName_l1 n s_0) n 0) fun t49 =>
  match t49 with
  | .inl q113 =>
  some true
  | .inr r =>
  some r

def m_spec_l23One (n : Nat) (g_0 : SGood) : Option (Bool) :=
  Option.bind (Option.bind (m_spec_IsName n g_0.Name) fun x44 =>
  if x44 then
  Option.bind (m_spec_l23Many n g_0.OnHand) fun x49 =>
  if x49 then
  Option.bind (m_spec_l00In n g_0.Reserved 0 g_0.OnHand) fun x54 =>
  if x54 then
  Option.bind (m_spec_l23Many n g_0.Least) fun x59 =>
  some x59
  else
  some false
  else
  some false
  else
  some false) fun x42 =>
  some x42

def m_spec_l23Ok_l1 (n : Nat) (list_0 : List SGood) (st4 : Int) : Option (Step (Int) ((Unit) ⊕ (Bool))) :=
  if (decide (st4 < (list_0.length : Int))) then
  Option.bind (Option.bind (idx list_0 st4) fun x51 =>
  Option.bind (m_spec_l23One n x51) fun x53 =>
  if (!x53) then
  some true
  else
  if (decide (st4 > 0)) then
  Option.bind (idx list_0 (wI64 (st4 - 1))) fun x64 =>
  Option.bind (idx list_0 st4) fun x66 =>
  some (!strLt x64.Name x66.Name)
  else
  some false) fun x49 =>
  if x49 then
  some (.done (.inr false))
  else
  some (.next (wI64 (st4 + 1)))
  else
  some (.done (.inl ()))

def m_spec_l23Ok (n : Nat) (list_0 : List SGood) : Option (Bool) :=
  Option.bind (loopN (m_spec_l23Ok_l1 n list_0) n 0) fun t15 =>
  match t15 with
  | .inl q85 =>
  some (decide ((list_0.length : Int) ≤ 40))
  | .inr r =>
  some r

def m_spec_ValidGoods (n : Nat) (list_0 : List SGood) : Option (Bool) :=
  Option.bind (m_spec_l23Ok n list_0) fun x3 =>
  some x3

def m_impl_within (n : Nat) (n_0 : Int) (low_1 : Int) (high_2 : Int) : Option (Bool) :=
  Option.bind (if (decide (n_0 ≥ low_1)) then
  some (decide (n_0 ≤ high_2))
  else
  some false) fun x4 =>
  some x4

def m_impl_IsName_l1 (n : Nat) (s_0 : List UInt8) (st28 : Int) : Option (Step (Int) ((Unit) ⊕ (Bool))) :=
  if (decide (st28 < (s_0.length : Int))) then
  Option.bind (Option.bind (idx s_0 st28) fun x74 =>
  if (decide ((x74.toNat : Int) < 97)) then
  Option.bind (idx s_0 st28) fun x77 =>
  if (decide ((x77.toNat : Int) < 48)) then
  Option.bind (idx s_0 st28) fun x80 =>
  some ((x80.toNat : Int) != 45)
  else
  Option.bind (idx s_0 st28) fun x82 =>
  if (decide ((x82.toNat : Int) > 57)) then
  Option.bind (idx s_0 st28) fun x85 =>
  some ((x85.toNat : Int) != 45)
  else
  some false
  else
  Option.bind (idx s_0 st28) fun x87 =>
  if (decide ((x87.toNat : Int) > 122)) then
  Option.bind (idx s_0 st28) fun x90 =>
  if (decide ((x90.toNat : Int) < 48)) then
  Option.bind (idx s_0 st28) fun x93 =>
  some ((x93.toNat : Int) != 45)
  else
  Option.bind (idx s_0 st28) fun x95 =>
  if (decide ((x95.toNat : Int) > 57)) then
  Option.bind (idx s_0 st28) fun x98 =>
  some ((x98.toNat : Int) != 45)
  else
  some false
  else
  some false) fun x72 =>
  if x72 then
  some (.done (.inr false))
  else
  some (.next (wI64 (st28 + 1)))
  else
  some (.done (.inl ()))

def m_impl_IsName (n : Nat) (s_0 : List UInt8) : Option (Bool) :=
  Option.bind (if (decide ((s_0.length : Int) < 1)) then
  some true
  else
  if (decide ((s_0.length : Int) > 12)) then
  some true
  else
  Option.bind (idx s_0 0) fun x15 =>
  if (decide ((x15.toNat : Int) < 97)) then
  some true
  else
  Option.bind (idx s_0 0) fun x18 =>
  some (decide ((x18.toNat : Int) > 122))) fun x11 =>
  if x11 then
  some false
  else
  Option.bind (loopN (m_impl_IsName_l1 n s_0) n 1) fun t39 =>
  match t39 with
  | .inl q107 =>
  some true
  | .inr r =>
  some r

def m_impl_validGood (n : Nat) (g_0 : SGood) : Option (Bool) :=
  Option.bind (Option.bind (m_impl_IsName n g_0.Name) fun x48 =>
  if x48 then
  Option.bind (m_impl_within n g_0.OnHand 0 1000000) fun x57 =>
  if x57 then
  Option.bind (m_impl_within n g_0.Reserved 0 g_0.OnHand) fun x66 =>
  if x66 then
  Option.bind (m_impl_within n g_0.Least 0 1000000) fun x75 =>
  some x75
  else
  some false
  else
  some false
  else
  some false) fun x46 =>
  some x46

def m_impl_ValidGoods_l1 (n : Nat) (list_0 : List SGood) (st4 : Int) : Option (Step (Int) ((Unit) ⊕ (Bool))) :=
  if (decide (st4 < (list_0.length : Int))) then
  Option.bind (idx list_0 st4) fun x22 =>
  Option.bind (Option.bind (m_impl_validGood n x22) fun x63 =>
  if (!x63) then
  some true
  else
  if (decide (st4 > 0)) then
  Option.bind (idx list_0 (wI64 (st4 - 1))) fun x74 =>
  some (!strLt x74.Name x22.Name)
  else
  some false) fun x61 =>
  if x61 then
  some (.done (.inr false))
  else
  some (.next (wI64 (st4 + 1)))
  else
  some (.done (.inl ()))

def m_impl_ValidGoods (n : Nat) (list_0 : List SGood) : Option (Bool) :=
  Option.bind (loopN (m_impl_ValidGoods_l1 n list_0) n 0) fun t15 =>
  match t15 with
  | .inl q93 =>
  some (decide ((list_0.length : Int) ≤ 40))
  | .inr r =>
  some r

def m_laws_FnExactValidGoods (n : Nat) (aList_0 : List SGood) : Option (Bool) :=
  Option.bind (m_laws_szGoodS n aList_0 1048576) fun x4 =>
  if (decide (x4 < 0)) then
  some true
  else
  Option.bind (m_laws_toGoodS n aList_0) fun x17 =>
  Option.bind (m_spec_ValidGoods n x17) fun x28 =>
  Option.bind (m_laws_toGoodS n aList_0) fun x37 =>
  Option.bind (m_impl_ValidGoods n x37) fun x49 =>
  if (!(x49 == x28)) then
  some false
  else
  Option.bind (m_laws_toGoodS n aList_0) fun x63 =>
  Option.bind (m_laws_eqGoodS n x37 x63) fun x74 =>
  if (!x74) then
  some false
  else
  some true

def m_spec_ShortGoods_l1 (n : Nat) (list_0 : List SGood) (st28 : List STake × Int) : Option (Step (List STake × Int) (List STake)) :=
  if (decide (st28.2 < (list_0.length : Int))) then
  Option.bind (idx list_0 st28.2) fun x49 =>
  Option.bind (idx list_0 st28.2) fun x51 =>
  Option.bind (idx list_0 st28.2) fun x59 =>
  Option.bind (if (decide ((wI64 (x49.OnHand - x51.Reserved)) < x59.Least)) then
  Option.bind (idx list_0 st28.2) fun x104 =>
  Option.bind (idx list_0 st28.2) fun x106 =>
  Option.bind (app st28.1 ([(STake.mk x104.Name (wI64 (x106.Least - (wI64 (x49.OnHand - x51.Reserved)))))] : List STake)) fun x122 =>
  some x122
  else
  some st28.1) fun x94 =>
  some (.next (x94, (wI64 (st28.2 + 1))))
  else
  some (.done st28.1)

def m_spec_ShortGoods (n : Nat) (list_0 : List SGood) : Option (List STake × Int) :=
  Option.bind (m_spec_l23Ok n list_0) fun x4 =>
  if (!x4) then
  some (([] : List STake), 1)
  else
  Option.bind (loopN (m_spec_ShortGoods_l1 n list_0) n (([] : List STake), 0)) fun q136 =>
  some (q136, 0)

def m_impl_ShortGoods_l1 (n : Nat) (list_0 : List SGood) (st28 : List STake × Int) : Option (Step (List STake × Int) (List STake)) :=
  if (decide (st28.2 < (list_0.length : Int))) then
  Option.bind (idx list_0 st28.2) fun x49 =>
  Option.bind (if (decide ((wI64 (x49.Least - (wI64 (x49.OnHand - x49.Reserved)))) > 0)) then
  Option.bind (app st28.1 ([(STake.mk x49.Name (wI64 (x49.Least - (wI64 (x49.OnHand - x49.Reserved)))))] : List STake)) fun x99 =>
  some x99
  else
  some st28.1) fun x85 =>
  some (.next (x85, (wI64 (st28.2 + 1))))
  else
  some (.done st28.1)

def m_impl_ShortGoods (n : Nat) (list_0 : List SGood) : Option (List STake × Int) :=
  Option.bind (m_impl_ValidGoods n list_0) fun x4 =>
  if (!x4) then
  some (([] : List STake), 1)
  else
  Option.bind (loopN (m_impl_ShortGoods_l1 n list_0) n (([] : List STake), 0)) fun q113 =>
  some (q113, 0)

def m_laws_eqTake (n : Nat) (a_0 : STake) (b_1 : STake) : Option (Bool) :=
  if (!(a_0.Name == b_1.Name)) then
  some false
  else
  if (a_0.Many != b_1.Many) then
  some false
  else
  some true

def m_laws_eqTakeS_l1 (n : Nat) (a_0 : List STake) (b_1 : List STake) (st8 : Int) : Option (Step (Int) ((Unit) ⊕ (Bool))) :=
  if (decide (st8 < (a_0.length : Int))) then
  Option.bind (idx a_0 st8) fun x26 =>
  Option.bind (idx b_1 st8) fun x28 =>
  Option.bind (m_laws_eqTake n x26 x28) fun x30 =>
  if (!x30) then
  some (.done (.inr false))
  else
  some (.next (wI64 (st8 + 1)))
  else
  some (.done (.inl ()))

def m_laws_eqTakeS (n : Nat) (a_0 : List STake) (b_1 : List STake) : Option (Bool) :=
  if ((a_0.length : Int) != (b_1.length : Int)) then
  some false
  else
  Option.bind (loopN (m_laws_eqTakeS_l1 n a_0 b_1) n 0) fun t19 =>
  match t19 with
  | .inl q42 =>
  some true
  | .inr r =>
  some r

def m_laws_markText_l1 (n : Nat)  (st8 : Int × List UInt8) : Option (Step (Int × List UInt8) (List UInt8)) :=
  if (decide (st8.1 > 0)) then
  Option.bind (app (ofBytes ([(IntKind.u8.wrap (wI64 (48 + (Int.tmod st8.1 10))))] : List Int)) st8.2) fun x34 =>
  some (.next ((wI64 (Int.tdiv st8.1 10)), x34))
  else
  some (.done st8.2)

def m_laws_markText (n : Nat) (k_0 : Int) : Option (List UInt8) :=
  if (decide (k_0 ≤ 0)) then
  some [109, 48]
  else
  Option.bind (loopN (m_laws_markText_l1 n) n (k_0, [])) fun q39 =>
  Option.bind (app [109] q39) fun x41 =>
  some x41

def m_laws_markGoodS_l1 (n : Nat)  (st69 : Int × Int × List SGood) : Option (Step (Int × Int × List SGood) (Int × List SGood)) :=
  if (decide (st69.2.1 < (st69.2.2.length : Int))) then
  Option.bind (m_laws_markText n st69.1) fun x88 =>
  Option.bind (idx st69.2.2 st69.2.1) fun x96 =>
  Option.bind (idx (st69.2.2.set (Int.toNat st69.2.1) (SGood.mk x88 x96.OnHand x96.Reserved x96.Least)) st69.2.1) fun x106 =>
  Option.bind (idx ((st69.2.2.set (Int.toNat st69.2.1) (SGood.mk x88 x96.OnHand x96.Reserved x96.Least)).set (Int.toNat st69.2.1) (SGood.mk x106.Name (wI64 (st69.1 + 1)) x106.Reserved x106.Least)) st69.2.1) fun x116 =>
  Option.bind (idx (((st69.2.2.set (Int.toNat st69.2.1) (SGood.mk x88 x96.OnHand x96.Reserved x96.Least)).set (Int.toNat st69.2.1) (SGood.mk x106.Name (wI64 (st69.1 + 1)) x106.Reserved x106.Least)).set (Int.toNat st69.2.1) (SGood.mk x116.Name x116.OnHand (wI64 ((wI64 (st69.1 + 1)) + 1)) x116.Least)) st69.2.1) fun x126 =>
  some (.next ((wI64 ((wI64 ((wI64 ((wI64 (st69.1 + 1)) + 1)) + 1)) + 1)), (wI64 (st69.2.1 + 1)), ((((st69.2.2.set (Int.toNat st69.2.1) (SGood.mk x88 x96.OnHand x96.Reserved x96.Least)).set (Int.toNat st69.2.1) (SGood.mk x106.Name (wI64 (st69.1 + 1)) x106.Reserved x106.Least)).set (Int.toNat st69.2.1) (SGood.mk x116.Name x116.OnHand (wI64 ((wI64 (st69.1 + 1)) + 1)) x116.Least)).set (Int.toNat st69.2.1) (SGood.mk x126.Name x126.OnHand x126.Reserved (wI64 ((wI64 ((wI64 (st69.1 + 1)) + 1)) + 1))))))
  else
  some (.done (st69.1, st69.2.2))

def m_laws_markGoodS (n : Nat) (a_0 : List SGood) (k_1 : Int) : Option (Int × List SGood) :=
  Option.bind (loopN (m_laws_markGoodS_l1 n) n (k_1, 0, a_0)) fun q135 =>
  some (q135.1, q135.2)

def m_laws_markTakeS_l1 (n : Nat)  (st49 : Int × Int × List STake) : Option (Step (Int × Int × List STake) (Int × List STake)) :=
  if (decide (st49.2.1 < (st49.2.2.length : Int))) then
  Option.bind (m_laws_markText n st49.1) fun x68 =>
  Option.bind (idx st49.2.2 st49.2.1) fun x76 =>
  Option.bind (idx (st49.2.2.set (Int.toNat st49.2.1) (STake.mk x68 x76.Many)) st49.2.1) fun x86 =>
  some (.next ((wI64 ((wI64 (st49.1 + 1)) + 1)), (wI64 (st49.2.1 + 1)), ((st49.2.2.set (Int.toNat st49.2.1) (STake.mk x68 x76.Many)).set (Int.toNat st49.2.1) (STake.mk x86.Name (wI64 (st49.1 + 1))))))
  else
  some (.done (st49.1, st49.2.2))

def m_laws_markTakeS (n : Nat) (a_0 : List STake) (k_1 : Int) : Option (Int × List STake) :=
  Option.bind (loopN (m_laws_markTakeS_l1 n) n (k_1, 0, a_0)) fun q95 =>
  some (q95.1, q95.2)

def m_laws_heldTakeS_l1 (n : Nat) (a_0 : List STake) (st4 : Int × Int) : Option (Step (Int × Int) ((Int) ⊕ (Int))) :=
  if (decide (st4.2 < (a_0.length : Int))) then
  Option.bind (idx a_0 st4.2) fun x23 =>
  Option.bind (m_laws_markText n st4.1) fun x25 =>
  if (!(x23.Name == x25)) then
  some (.done (.inr (-1)))
  else
  Option.bind (idx a_0 st4.2) fun x39 =>
  if (x39.Many != (wI64 (st4.1 + 1))) then
  some (.done (.inr (-1)))
  else
  some (.next ((wI64 ((wI64 (st4.1 + 1)) + 1)), (wI64 (st4.2 + 1))))
  else
  some (.done (.inl st4.1))

def m_laws_heldTakeS (n : Nat) (a_0 : List STake) (k_1 : Int) : Option (Int) :=
  Option.bind (loopN (m_laws_heldTakeS_l1 n a_0) n (k_1, 0)) fun t15 =>
  match t15 with
  | .inl q44 =>
  some q44
  | .inr r =>
  some r

def m_laws_FnExactShortGoods (n : Nat) (aList_0 : List SGood) : Option (Bool) :=
  Option.bind (m_laws_szGoodS n aList_0 1048576) fun x4 =>
  if (decide (x4 < 0)) then
  some true
  else
  Option.bind (m_laws_toGoodS n aList_0) fun x17 =>
  Option.bind (m_spec_ShortGoods n x17) fun x28 =>
  Option.bind (m_laws_toGoodS n aList_0) fun x40 =>
  Option.bind (m_impl_ShortGoods n x40) fun x52 =>
  Option.bind (Option.bind (m_laws_eqTakeS n x52.1 x28.1) fun x76 =>
  if (!x76) then
  some true
  else
  some (x52.2 != x28.2)) fun x74 =>
  if x74 then
  some false
  else
  Option.bind (m_laws_toGoodS n aList_0) fun x93 =>
  Option.bind (m_laws_eqGoodS n x40 x93) fun x104 =>
  if (!x104) then
  some false
  else
  Option.bind (m_laws_markGoodS n x40 1) fun x116 =>
  Option.bind (if (decide (x116.1 < 0)) then
  some true
  else
  Option.bind (m_laws_eqTakeS n x52.1 x28.1) fun x141 =>
  if (!x141) then
  some true
  else
  some (x52.2 != x28.2)) fun x138 =>
  if x138 then
  some false
  else
  Option.bind (m_laws_markTakeS n x52.1 1) fun x158 =>
  Option.bind (m_laws_heldTakeS n x158.2 1) fun x170 =>
  if (decide (x170 < 0)) then
  some false
  else
  if (x170 != x158.1) then
  some false
  else
  Option.bind (m_laws_toGoodS n aList_0) fun x187 =>
  Option.bind (m_impl_ShortGoods n x187) fun x198 =>
  Option.bind (Option.bind (m_laws_eqTakeS n x198.1 x28.1) fun x222 =>
  if (!x222) then
  some true
  else
  some (x198.2 != x28.2)) fun x220 =>
  if x220 then
  some false
  else
  Option.bind (m_laws_heldTakeS n x158.2 1) fun x239 =>
  if (decide (x239 < 0)) then
  some false
  else
  if (x239 != x158.1) then
  some false
  else
  some true

def m_spec_l23Find_l1 (n : Nat) (list_0 : List SGood) (name_1 : List UInt8) (st4 : Int) : Option (Step (Int) ((Unit) ⊕ (Int))) :=
  if (decide (st4 < (list_0.length : Int))) then
  Option.bind (idx list_0 st4) fun x22 =>
  if (x22.Name == name_1) then
  some (.done (.inr st4))
  else
  some (.next (wI64 (st4 + 1)))
  else
  some (.done (.inl ()))

def m_spec_l23Find (n : Nat) (list_0 : List SGood) (name_1 : List UInt8) : Option (Int) :=
  Option.bind (loopN (m_spec_l23Find_l1 n list_0 name_1) n 0) fun t15 =>
  match t15 with
  | .inl q27 =>
  some (-1)
  | .inr r =>
  some r

def m_spec_l23Named (n : Nat) (list_0 : List SGood) (name_1 : List UInt8) (many_2 : Int) : Option (Int × Int) :=
  Option.bind (m_spec_l23Ok n list_0) fun x4 =>
  if (!x4) then
  some (0, 1)
  else
  Option.bind (m_spec_l00In n many_2 1 1000000) fun x16 =>
  if (!x16) then
  some (0, 2)
  else
  Option.bind (m_spec_l23Find n list_0 name_1) fun x27 =>
  if (decide (x27 < 0)) then
  some (0, 3)
  else
  some (x27, 0)

def m_spec_ReserveGood (n : Nat) (list_0 : List SGood) (name_1 : List UInt8) (many_2 : Int) : Option (List SGood × Int) :=
  Option.bind (m_spec_l23Named n list_0 name_1 many_2) fun x3 =>
  Option.bind (if (x3.2 == 0) then
  Option.bind (idx list_0 x3.1) fun x31 =>
  Option.bind (idx list_0 x3.1) fun x33 =>
  some (decide ((wI64 (x31.Reserved + many_2)) > x33.OnHand))
  else
  some false) fun x28 =>
  Option.bind (if x28 then
  some 10
  else
  some x3.2) fun x50 =>
  if (x50 != 0) then
  some (([] : List SGood), x50)
  else
  Option.bind (app ([] : List SGood) list_0) fun x72 =>
  Option.bind (idx x72 x3.1) fun x82 =>
  Option.bind (idx x72 x3.1) fun x104 =>
  some ((x72.set (Int.toNat x3.1) (SGood.mk x82.Name x82.OnHand (wI64 (x82.Reserved + many_2)) x82.Least)), 0)

def m_cmp_isNaN_string (n : Nat) (x_0 : List UInt8) : Option (Bool) :=
  some (!(x_0 == x_0))

def m_cmp_Compare_string (n : Nat) (x_0 : List UInt8) (y_1 : List UInt8) : Option (Int) :=
  Option.bind (m_cmp_isNaN_string n x_0) fun x3 =>
  Option.bind (m_cmp_isNaN_string n y_1) fun x12 =>
  if x3 then
  if x12 then
  some 0
  else
  some (-1)
  else
  if x12 then
  some 1
  else
  if (strLt x_0 y_1) then
  some (-1)
  else
  if (!(strLt x_0 y_1 || x_0 == y_1)) then
  some 1
  else
  some 0

def m_impl_goodPlace_1 (n : Nat) (g_0 : SGood) (name_1 : List UInt8) : Option (Int) :=
  Option.bind (m_cmp_Compare_string n g_0.Name name_1) fun x11 =>
  some x11

def m_slices_BinarySearchFunc_impl_Good_impl_Good_string_f84_l1 (n : Nat) (x_0 : List SGood) (target_1 : List UInt8) (st5 : Int × Int) : Option (Step (Int × Int) (Int)) :=
  if (decide (st5.1 < st5.2)) then
  Option.bind (shr .u64 (IntKind.u64.wrap (wI64 (st5.1 + st5.2))) 1) fun x22 =>
  Option.bind (idx x_0 (wI64 x22)) fun x25 =>
  Option.bind (m_impl_goodPlace_1 n x25 target_1) fun x27 =>
  Option.bind (if (decide (x27 < 0)) then
  some ((wI64 ((wI64 x22) + 1)), st5.2)
  else
  some (st5.1, (wI64 x22))) fun x36 =>
  some (.next (x36.1, x36.2))
  else
  some (.done st5.1)

def m_slices_BinarySearchFunc_impl_Good_impl_Good_string_f84 (n : Nat) (x_0 : List SGood) (target_1 : List UInt8) : Option (Int × Bool) :=
  Option.bind (loopN (m_slices_BinarySearchFunc_impl_Good_impl_Good_string_f84_l1 n x_0 target_1) n (0, (x_0.length : Int))) fun q71 =>
  Option.bind (if (decide (q71 < (x_0.length : Int))) then
  Option.bind (idx x_0 q71) fun x87 =>
  Option.bind (m_impl_goodPlace_1 n x87 target_1) fun x89 =>
  some (q71, (x89 == 0))
  else
  some (q71, false)) fun x84 =>
  some (x84.1, x84.2)

def m_impl_goodPlace (n : Nat) (list_0 : List SGood) (name_1 : List UInt8) : Option (Int × Bool) :=
  Option.bind (m_slices_BinarySearchFunc_impl_Good_impl_Good_string_f84 n list_0 name_1) fun x3 =>
  some (x3.1, x3.2)

def m_impl_goodCode (n : Nat) (list_0 : List SGood) (name_1 : List UInt8) (many_2 : Int) : Option (Int × Int) :=
  Option.bind (m_impl_ValidGoods n list_0) fun x4 =>
  if (!x4) then
  some (0, 1)
  else
  Option.bind (m_impl_within n many_2 1 1000000) fun x15 =>
  if (!x15) then
  some (0, 2)
  else
  Option.bind (m_impl_goodPlace n list_0 name_1) fun x26 =>
  if (!x26.2) then
  some (0, 3)
  else
  some (x26.1, 0)

def m_slices_Clone_impl_Good_impl_Good (n : Nat) (s_0 : List SGood) : Option (List SGood) :=
    Option.bind (app ([] : List SGood) s_0) fun x18 =>
    some x18

def m_impl_ReserveGood (n : Nat) (list_0 : List SGood) (name_1 : List UInt8) (many_2 : Int) : Option (List SGood × Int) :=
  Option.bind (m_impl_goodCode n list_0 name_1 many_2) fun x3 =>
  if (x3.2 != 0) then
  some (([] : List SGood), x3.2)
  else
  Option.bind (idx list_0 x3.1) fun x18 =>
  Option.bind (idx list_0 x3.1) fun x20 =>
  if (decide ((wI64 (x18.OnHand - x20.Reserved)) < many_2)) then
  some (([] : List SGood), 10)
  else
  Option.bind (m_slices_Clone_impl_Good_impl_Good n list_0) fun x32 =>
  Option.bind (idx x32 x3.1) fun x44 =>
  Option.bind (idx x32 x3.1) fun x46 =>
  some ((x32.set (Int.toNat x3.1) (SGood.mk x46.Name x46.OnHand (wI64 (x44.Reserved + many_2)) x46.Least)), 0)

def m_laws_heldGoodS_l1 (n : Nat) (a_0 : List SGood) (st4 : Int × Int) : Option (Step (Int × Int) ((Int) ⊕ (Int))) :=
  if (decide (st4.2 < (a_0.length : Int))) then
  Option.bind (idx a_0 st4.2) fun x23 =>
  Option.bind (m_laws_markText n st4.1) fun x25 =>
  if (!(x23.Name == x25)) then
  some (.done (.inr (-1)))
  else
  Option.bind (idx a_0 st4.2) fun x39 =>
  if (x39.OnHand != (wI64 (st4.1 + 1))) then
  some (.done (.inr (-1)))
  else
  Option.bind (idx a_0 st4.2) fun x46 =>
  if (x46.Reserved != (wI64 ((wI64 (st4.1 + 1)) + 1))) then
  some (.done (.inr (-1)))
  else
  Option.bind (idx a_0 st4.2) fun x53 =>
  if (x53.Least != (wI64 ((wI64 ((wI64 (st4.1 + 1)) + 1)) + 1))) then
  some (.done (.inr (-1)))
  else
  some (.next ((wI64 ((wI64 ((wI64 ((wI64 (st4.1 + 1)) + 1)) + 1)) + 1)), (wI64 (st4.2 + 1))))
  else
  some (.done (.inl st4.1))

def m_laws_heldGoodS (n : Nat) (a_0 : List SGood) (k_1 : Int) : Option (Int) :=
  Option.bind (loopN (m_laws_heldGoodS_l1 n a_0) n (k_1, 0)) fun t15 =>
  match t15 with
  | .inl q58 =>
  some q58
  | .inr r =>
  some r

def m_laws_FnExactReserveGood (n : Nat) (aList_0 : List SGood) (aName_1 : List UInt8) (aMany_2 : Int) : Option (Bool) :=
  if (decide ((aName_1.length : Int) > 1048576)) then
  some true
  else
  Option.bind (m_laws_szGoodS n aList_0 1048576) fun x8 =>
  if (decide (x8 < 0)) then
  some true
  else
  Option.bind (m_laws_toGoodS n aList_0) fun x21 =>
  Option.bind (m_spec_ReserveGood n x21 aName_1 aMany_2) fun x32 =>
  Option.bind (m_laws_toGoodS n aList_0) fun x44 =>
  Option.bind (m_impl_ReserveGood n x44 aName_1 aMany_2) fun x56 =>
  Option.bind (Option.bind (m_laws_eqGoodS n x56.1 x32.1) fun x80 =>
  if (!x80) then
  some true
  else
  some (x56.2 != x32.2)) fun x78 =>
  if x78 then
  some false
  else
  Option.bind (m_laws_toGoodS n aList_0) fun x97 =>
  Option.bind (m_laws_eqGoodS n x44 x97) fun x108 =>
  if (!x108) then
  some false
  else
  Option.bind (m_laws_markGoodS n x44 1) fun x120 =>
  Option.bind (if (decide (x120.1 < 0)) then
  some true
  else
  Option.bind (m_laws_eqGoodS n x56.1 x32.1) fun x145 =>
  if (!x145) then
  some true
  else
  some (x56.2 != x32.2)) fun x142 =>
  if x142 then
  some false
  else
  Option.bind (m_laws_markGoodS n x56.1 1) fun x162 =>
  Option.bind (m_laws_heldGoodS n x162.2 1) fun x174 =>
  if (decide (x174 < 0)) then
  some false
  else
  if (x174 != x162.1) then
  some false
  else
  Option.bind (m_laws_toGoodS n aList_0) fun x191 =>
  Option.bind (m_impl_ReserveGood n x191 aName_1 aMany_2) fun x202 =>
  Option.bind (Option.bind (m_laws_eqGoodS n x202.1 x32.1) fun x226 =>
  if (!x226) then
  some true
  else
  some (x202.2 != x32.2)) fun x224 =>
  if x224 then
  some false
  else
  Option.bind (m_laws_heldGoodS n x162.2 1) fun x243 =>
  if (decide (x243 < 0)) then
  some false
  else
  if (x243 != x162.1) then
  some false
  else
  some true

def m_spec_UseReserved (n : Nat) (list_0 : List SGood) (name_1 : List UInt8) (many_2 : Int) : Option (List SGood × Int) :=
  Option.bind (m_spec_l23Named n list_0 name_1 many_2) fun x3 =>
  Option.bind (if (x3.2 == 0) then
  Option.bind (idx list_0 x3.1) fun x19 =>
  some (decide (many_2 > x19.Reserved))
  else
  some false) fun x16 =>
  Option.bind (if x16 then
  some 6
  else
  some x3.2) fun x26 =>
  if (x26 != 0) then
  some (([] : List SGood), x26)
  else
  Option.bind (app ([] : List SGood) list_0) fun x48 =>
  Option.bind (idx x48 x3.1) fun x58 =>
  Option.bind (idx x48 x3.1) fun x86 =>
  some ((x48.set (Int.toNat x3.1) (SGood.mk x58.Name (wI64 (x58.OnHand - many_2)) (wI64 (x58.Reserved - many_2)) x58.Least)), 0)

def m_impl_UseReserved (n : Nat) (list_0 : List SGood) (name_1 : List UInt8) (many_2 : Int) : Option (List SGood × Int) :=
  Option.bind (m_impl_goodCode n list_0 name_1 many_2) fun x3 =>
  if (x3.2 != 0) then
  some (([] : List SGood), x3.2)
  else
  Option.bind (idx list_0 x3.1) fun x18 =>
  if (decide (x18.Reserved < many_2)) then
  some (([] : List SGood), 6)
  else
  Option.bind (m_slices_Clone_impl_Good_impl_Good n list_0) fun x25 =>
  Option.bind (idx x25 x3.1) fun x37 =>
  Option.bind (idx x25 x3.1) fun x39 =>
  Option.bind (idx (x25.set (Int.toNat x3.1) (SGood.mk x39.Name x39.OnHand (wI64 (x37.Reserved - many_2)) x39.Least)) x3.1) fun x47 =>
  Option.bind (idx (x25.set (Int.toNat x3.1) (SGood.mk x39.Name x39.OnHand (wI64 (x37.Reserved - many_2)) x39.Least)) x3.1) fun x49 =>
  some (((x25.set (Int.toNat x3.1) (SGood.mk x39.Name x39.OnHand (wI64 (x37.Reserved - many_2)) x39.Least)).set (Int.toNat x3.1) (SGood.mk x49.Name (wI64 (x47.OnHand - many_2)) x49.Reserved x49.Least)), 0)

def m_laws_FnExactUseReserved (n : Nat) (aList_0 : List SGood) (aName_1 : List UInt8) (aMany_2 : Int) : Option (Bool) :=
  if (decide ((aName_1.length : Int) > 1048576)) then
  some true
  else
  Option.bind (m_laws_szGoodS n aList_0 1048576) fun x8 =>
  if (decide (x8 < 0)) then
  some true
  else
  Option.bind (m_laws_toGoodS n aList_0) fun x21 =>
  Option.bind (m_spec_UseReserved n x21 aName_1 aMany_2) fun x32 =>
  Option.bind (m_laws_toGoodS n aList_0) fun x44 =>
  Option.bind (m_impl_UseReserved n x44 aName_1 aMany_2) fun x56 =>
  Option.bind (Option.bind (m_laws_eqGoodS n x56.1 x32.1) fun x80 =>
  if (!x80) then
  some true
  else
  some (x56.2 != x32.2)) fun x78 =>
  if x78 then
  some false
  else
  Option.bind (m_laws_toGoodS n aList_0) fun x97 =>
  Option.bind (m_laws_eqGoodS n x44 x97) fun x108 =>
  if (!x108) then
  some false
  else
  Option.bind (m_laws_markGoodS n x44 1) fun x120 =>
  Option.bind (if (decide (x120.1 < 0)) then
  some true
  else
  Option.bind (m_laws_eqGoodS n x56.1 x32.1) fun x145 =>
  if (!x145) then
  some true
  else
  some (x56.2 != x32.2)) fun x142 =>
  if x142 then
  some false
  else
  Option.bind (m_laws_markGoodS n x56.1 1) fun x162 =>
  Option.bind (m_laws_heldGoodS n x162.2 1) fun x174 =>
  if (decide (x174 < 0)) then
  some false
  else
  if (x174 != x162.1) then
  some false
  else
  Option.bind (m_laws_toGoodS n aList_0) fun x191 =>
  Option.bind (m_impl_UseReserved n x191 aName_1 aMany_2) fun x202 =>
  Option.bind (Option.bind (m_laws_eqGoodS n x202.1 x32.1) fun x226 =>
  if (!x226) then
  some true
  else
  some (x202.2 != x32.2)) fun x224 =>
  if x224 then
  some false
  else
  Option.bind (m_laws_heldGoodS n x162.2 1) fun x243 =>
  if (decide (x243 < 0)) then
  some false
  else
  if (x243 != x162.1) then
  some false
  else
  some true

def m_laws_szTake (n : Nat) (a_0 : STake) (left_1 : Int) : Option (Int) :=
  if (decide ((wI64 (left_1 - (a_0.Name.length : Int))) < 0)) then
  some (-1)
  else
  some (wI64 (left_1 - (a_0.Name.length : Int)))

def m_spec_l23Take (n : Nat) (t_0 : STake) : Option (Bool) :=
  Option.bind (m_spec_l00In n t_0.Many (-1000000) 1000000) fun x3 =>
  some x3

def m_spec_l23Change (n : Nat) (list_0 : List SGood) (t_1 : STake) : Option (Int × List SGood) :=
  Option.bind (m_spec_l23Find n list_0 t_1.Name) fun x3 =>
  if (decide (x3 < 0)) then
  some (3, list_0)
  else
  Option.bind (idx list_0 x3) fun x16 =>
  if (decide ((wI64 (x16.OnHand + t_1.Many)) < x16.Reserved)) then
  some (6, list_0)
  else
  Option.bind (m_spec_l23Many n (wI64 (x16.OnHand + t_1.Many))) fun x53 =>
  if (!x53) then
  some (5, list_0)
  else
  Option.bind (idx list_0 x3) fun x64 =>
  some (0, (list_0.set (Int.toNat x3) (SGood.mk x16.Name (wI64 (x16.OnHand + t_1.Many)) x16.Reserved x16.Least)))

def m_spec_l23Change_o1 (n : Nat) (list_0 : List SGood) (t_1 : STake) : Option (Int × List SGood) :=
  Option.bind (m_spec_l23Find n list_0 t_1.Name) fun x3 =>
  if (decide (x3 < 0)) then
  some (3, list_0)
  else
  Option.bind (idx list_0 x3) fun x16 =>
  if (decide ((wI64 (x16.OnHand + t_1.Many)) < x16.Reserved)) then
  some (6, list_0)
  else
  Option.bind (m_spec_l23Many n (wI64 (x16.OnHand + t_1.Many))) fun x53 =>
  if (!x53) then
  some (5, list_0)
  else
  Option.bind (idx list_0 x3) fun x64 =>
  some (0, (list_0.set (Int.toNat x3) (SGood.mk x16.Name (wI64 (x16.OnHand + t_1.Many)) x16.Reserved x16.Least)))

def m_spec_ChangeGood (n : Nat) (list_0 : List SGood) (t_1 : STake) : Option (List SGood × Int) :=
  Option.bind (m_spec_l23Ok n list_0) fun x12 =>
  if (!x12) then
  some (([] : List SGood), 1)
  else
  Option.bind (m_spec_l23Take n t_1) fun x26 =>
  if (!x26) then
  some (([] : List SGood), 2)
  else
  Option.bind (app ([] : List SGood) list_0) fun x48 =>
  Option.bind (m_spec_l23Change_o1 n x48 t_1) fun x58 =>
  if (x58.1 != 0) then
  some (([] : List SGood), x58.1)
  else
  some (x58.2, 0)

def m_laws_toTake (n : Nat) (a_0 : STake) : Option (STake) :=
  some a_0

def m_impl_isTake (n : Nat) (t_0 : STake) : Option (Bool) :=
  Option.bind (m_impl_within n t_0.Many (-1000000) 1000000) fun x11 =>
  some x11

def m_impl_taken (n : Nat) (list_0 : List SGood) (t_1 : STake) : Option (List SGood × Int) :=
  Option.bind (m_impl_goodPlace n list_0 t_1.Name) fun x11 =>
  if (!x11.2) then
  some (([] : List SGood), 3)
  else
  Option.bind (m_slices_Clone_impl_Good_impl_Good n list_0) fun x26 =>
  Option.bind (idx x26 x11.1) fun x43 =>
  Option.bind (idx x26 x11.1) fun x45 =>
  Option.bind (idx (x26.set (Int.toNat x11.1) (SGood.mk x45.Name (wI64 (x43.OnHand + t_1.Many)) x45.Reserved x45.Least)) x11.1) fun x59 =>
  Option.bind (idx (x26.set (Int.toNat x11.1) (SGood.mk x45.Name (wI64 (x43.OnHand + t_1.Many)) x45.Reserved x45.Least)) x11.1) fun x61 =>
  if (decide (x59.OnHand < x61.Reserved)) then
  some (([] : List SGood), 6)
  else
  Option.bind (idx (x26.set (Int.toNat x11.1) (SGood.mk x45.Name (wI64 (x43.OnHand + t_1.Many)) x45.Reserved x45.Least)) x11.1) fun x73 =>
  if (decide (x73.OnHand > 1000000)) then
  some (([] : List SGood), 5)
  else
  some ((x26.set (Int.toNat x11.1) (SGood.mk x45.Name (wI64 (x43.OnHand + t_1.Many)) x45.Reserved x45.Least)), 0)

def m_impl_ChangeGood (n : Nat) (list_0 : List SGood) (t_1 : STake) : Option (List SGood × Int) :=
  Option.bind (m_impl_ValidGoods n list_0) fun x12 =>
  if (!x12) then
  some (([] : List SGood), 1)
  else
  Option.bind (m_impl_isTake n t_1) fun x25 =>
  if (!x25) then
  some (([] : List SGood), 2)
  else
  Option.bind (m_impl_taken n list_0 t_1) fun x38 =>
  some (x38.1, x38.2)

def m_laws_FnExactChangeGood (n : Nat) (aList_0 : List SGood) (aT_1 : STake) : Option (Bool) :=
  Option.bind (m_laws_szGoodS n aList_0 1048576) fun x12 =>
  if (decide (x12 < 0)) then
  some true
  else
  Option.bind (m_laws_szTake n aT_1 x12) fun x25 =>
  if (decide (x25 < 0)) then
  some true
  else
  Option.bind (m_laws_toGoodS n aList_0) fun x48 =>
  Option.bind (m_laws_toTake n aT_1) fun x69 =>
  Option.bind (m_spec_ChangeGood n x48 x69) fun x77 =>
  Option.bind (m_laws_toGoodS n aList_0) fun x94 =>
  Option.bind (m_laws_toTake n aT_1) fun x106 =>
  Option.bind (m_impl_ChangeGood n x94 x106) fun x114 =>
  Option.bind (Option.bind (m_laws_eqGoodS n x114.1 x77.1) fun x138 =>
  if (!x138) then
  some true
  else
  some (x114.2 != x77.2)) fun x136 =>
  if x136 then
  some false
  else
  Option.bind (m_laws_toGoodS n aList_0) fun x155 =>
  Option.bind (m_laws_eqGoodS n x94 x155) fun x166 =>
  if (!x166) then
  some false
  else
  Option.bind (m_laws_markGoodS n x94 1) fun x178 =>
  Option.bind (if (decide (x178.1 < 0)) then
  some true
  else
  Option.bind (m_laws_eqGoodS n x114.1 x77.1) fun x203 =>
  if (!x203) then
  some true
  else
  some (x114.2 != x77.2)) fun x200 =>
  if x200 then
  some false
  else
  Option.bind (m_laws_markGoodS n x114.1 1) fun x220 =>
  Option.bind (m_laws_heldGoodS n x220.2 1) fun x232 =>
  if (decide (x232 < 0)) then
  some false
  else
  if (x232 != x220.1) then
  some false
  else
  Option.bind (m_laws_toGoodS n aList_0) fun x259 =>
  Option.bind (m_laws_toTake n aT_1) fun x280 =>
  Option.bind (m_impl_ChangeGood n x259 x280) fun x288 =>
  Option.bind (Option.bind (m_laws_eqGoodS n x288.1 x77.1) fun x317 =>
  if (!x317) then
  some true
  else
  some (x288.2 != x77.2)) fun x315 =>
  if x315 then
  some false
  else
  Option.bind (m_laws_heldGoodS n x220.2 1) fun x334 =>
  if (decide (x334 < 0)) then
  some false
  else
  if (x334 != x220.1) then
  some false
  else
  some true

def m_laws_szTakeS_l1 (n : Nat) (a_0 : List STake) (st9 : Int × Int) : Option (Step (Int × Int) ((Int) ⊕ (Int))) :=
  if (decide (st9.2 < (a_0.length : Int))) then
  Option.bind (idx a_0 st9.2) fun x27 =>
  Option.bind (m_laws_szTake n x27 st9.1) fun x29 =>
  if (decide (x29 < 0)) then
  some (.done (.inr (-1)))
  else
  some (.next (x29, (wI64 (st9.2 + 1))))
  else
  some (.done (.inl st9.1))

def m_laws_szTakeS (n : Nat) (a_0 : List STake) (left_1 : Int) : Option (Int) :=
  if (decide ((wI64 (left_1 - (a_0.length : Int))) < 0)) then
  some (-1)
  else
  Option.bind (loopN (m_laws_szTakeS_l1 n a_0) n ((wI64 (left_1 - (a_0.length : Int))), 0)) fun t20 =>
  match t20 with
  | .inl q41 =>
  some q41
  | .inr r =>
  some r

def m_spec_l23Takes_l1 (n : Nat) (takes_1 : List STake) (st16 : Int) : Option (Step (Int) ((Unit) ⊕ (Int))) :=
  if (decide (st16 < (takes_1.length : Int))) then
  Option.bind (idx takes_1 st16) fun x34 =>
  Option.bind (m_spec_l23Take n x34) fun x36 =>
  if (!x36) then
  some (.done (.inr 2))
  else
  some (.next (wI64 (st16 + 1)))
  else
  some (.done (.inl ()))

def m_spec_l23Takes (n : Nat) (list_0 : List SGood) (takes_1 : List STake) : Option (Int) :=
  Option.bind (m_spec_l23Ok n list_0) fun x4 =>
  if (!x4) then
  some 1
  else
  Option.bind (loopN (m_spec_l23Takes_l1 n takes_1) n 0) fun t27 =>
  match t27 with
  | .inl q51 =>
  if (decide ((takes_1.length : Int) > 60)) then
  some 2
  else
  some 0
  | .inr r =>
  some r

def m_spec_CanMake_l3 (n : Nat) (needs_1 : List STake) (st72 : Int × Int) (st107 : Int × Int) : Option (Step (Int × Int) (Int)) :=
  if (decide (st107.2 < (needs_1.length : Int))) then
  Option.bind (idx needs_1 st107.2) fun x125 =>
  Option.bind (idx needs_1 st72.2) fun x127 =>
  Option.bind (if (x125.Name == x127.Name) then
  Option.bind (idx needs_1 st107.2) fun x139 =>
  some (wI64 (st107.1 + x139.Many))
  else
  some st107.1) fun x137 =>
  some (.next (x137, (wI64 (st107.2 + 1))))
  else
  some (.done st107.1)

def m_spec_CanMake_l2 (n : Nat) (list_0 : List SGood) (needs_1 : List STake) (st72 : Int × Int) : Option (Step (Int × Int) ((Int) ⊕ (Int × Int))) :=
  if (decide (st72.2 < (needs_1.length : Int))) then
  Option.bind (idx needs_1 st72.2) fun x90 =>
  Option.bind (m_spec_l23Find n list_0 x90.Name) fun x92 =>
  if (decide (x92 < 0)) then
  some (.done (.inr (0, 3)))
  else
  Option.bind (loopN (m_spec_CanMake_l3 n needs_1 st72) n (0, 0)) fun q173 =>
  Option.bind (idx list_0 x92) fun x175 =>
  Option.bind (idx list_0 x92) fun x177 =>
  Option.bind (quo .i64 (wI64 (x175.OnHand - x177.Reserved)) q173) fun x179 =>
  Option.bind (if (decide (st72.1 < 0)) then
  some true
  else
  some (decide (x179 < st72.1))) fun x188 =>
  Option.bind (if x188 then
  some x179
  else
  some st72.1) fun x196 =>
  some (.next (x196, (wI64 (st72.2 + 1))))
  else
  some (.done (.inl st72.1))

def m_spec_CanMake_l1 (n : Nat) (needs_1 : List STake) (st13 : Int × Int) : Option (Step (Int × Int) (Int)) :=
  Option.bind (if (decide (st13.2 < (needs_1.length : Int))) then
  some (st13.1 == 0)
  else
  some false) fun x29 =>
  if x29 then
  Option.bind (idx needs_1 st13.2) fun x39 =>
  Option.bind (if (decide (x39.Many < 1)) then
  some 2
  else
  some st13.1) fun x42 =>
  some (.next (x42, (wI64 (st13.2 + 1))))
  else
  some (.done st13.1)

def m_spec_CanMake_l5 (n : Nat) (needs_1 : List STake) (st230 : Int × Int) (st265 : Int × Int) : Option (Step (Int × Int) (Int)) :=
  if (decide (st265.2 < (needs_1.length : Int))) then
  Option.bind (idx needs_1 st265.2) fun x283 =>
  Option.bind (idx needs_1 st230.2) fun x285 =>
  Option.bind (if (x283.Name == x285.Name) then
  Option.bind (idx needs_1 st265.2) fun x297 =>
  some (wI64 (st265.1 + x297.Many))
  else
  some st265.1) fun x295 =>
  some (.next (x295, (wI64 (st265.2 + 1))))
  else
  some (.done st265.1)

def m_spec_CanMake_l4 (n : Nat) (list_0 : List SGood) (needs_1 : List STake) (st230 : Int × Int) : Option (Step (Int × Int) ((Int) ⊕ (Int × Int))) :=
  if (decide (st230.2 < (needs_1.length : Int))) then
  Option.bind (idx needs_1 st230.2) fun x248 =>
  Option.bind (m_spec_l23Find n list_0 x248.Name) fun x250 =>
  if (decide (x250 < 0)) then
  some (.done (.inr (0, 3)))
  else
  Option.bind (loopN (m_spec_CanMake_l5 n needs_1 st230) n (0, 0)) fun q331 =>
  Option.bind (idx list_0 x250) fun x333 =>
  Option.bind (idx list_0 x250) fun x335 =>
  Option.bind (quo .i64 (wI64 (x333.OnHand - x335.Reserved)) q331) fun x337 =>
  Option.bind (if (decide (st230.1 < 0)) then
  some true
  else
  some (decide (x337 < st230.1))) fun x346 =>
  Option.bind (if x346 then
  some x337
  else
  some st230.1) fun x354 =>
  some (.next (x354, (wI64 (st230.2 + 1))))
  else
  some (.done (.inl st230.1))

def m_spec_CanMake (n : Nat) (list_0 : List SGood) (needs_1 : List STake) : Option (Int × Int) :=
  Option.bind (m_spec_l23Takes n list_0 needs_1) fun x3 =>
  Option.bind (loopN (m_spec_CanMake_l1 n needs_1) n (x3, 0)) fun q205 =>
  Option.bind (if (q205 == 0) then
  some ((needs_1.length : Int) == 0)
  else
  some false) fun x209 =>
  Option.bind (if x209 then
  some 6
  else
  some q205) fun x217 =>
  if (x217 != 0) then
  some (0, x217)
  else
  Option.bind (loopN (m_spec_CanMake_l4 n list_0 needs_1) n ((-1), 0)) fun t241 =>
  match t241 with
  | .inl q361 =>
  some (q361, 0)
  | .inr r =>
  some r

def m_laws_toTakeS_l1 (n : Nat) (a_0 : List STake) (st51 : Int × List STake) : Option (Step (Int × List STake) (List STake)) :=
  if (decide (st51.1 < (a_0.length : Int))) then
  Option.bind (idx a_0 st51.1) fun x68 =>
  Option.bind (m_laws_toTake n x68) fun x70 =>
  Option.bind (idx st51.2 st51.1) fun x78 =>
  some (.next ((wI64 (st51.1 + 1)), (st51.2.set (Int.toNat st51.1) x70)))
  else
  some (.done st51.2)

def m_laws_toTakeS (n : Nat) (a_0 : List STake) : Option (List STake) :=
  Option.bind (mk ((STake.mk [] 0) : STake) (a_0.length : Int)) fun x3 =>
  Option.bind (loopN (m_laws_toTakeS_l1 n a_0) n (0, x3)) fun q86 =>
  some q86

def m_impl_CanMake_1 (n : Nat) (t_0 : STake) : Option (Bool) :=
  Option.bind (m_impl_within n t_0.Many 1 1000000) fun x11 =>
  some (!x11)

def m_slices_IndexFunc_impl_Take_impl_Take_f66_l1 (n : Nat) (s_0 : List STake) (st4 : Int) : Option (Step (Int) ((Unit) ⊕ (Int))) :=
  if (decide (st4 < (s_0.length : Int))) then
  Option.bind (idx s_0 st4) fun x23 =>
  Option.bind (m_impl_CanMake_1 n x23) fun x25 =>
  if x25 then
  some (.done (.inr st4))
  else
  some (.next (wI64 (st4 + 1)))
  else
  some (.done (.inl ()))

def m_slices_IndexFunc_impl_Take_impl_Take_f66 (n : Nat) (s_0 : List STake) : Option (Int) :=
  Option.bind (loopN (m_slices_IndexFunc_impl_Take_impl_Take_f66_l1 n s_0) n 0) fun t15 =>
  match t15 with
  | .inl q36 =>
  some (-1)
  | .inr r =>
  some r

def m_slices_ContainsFunc_impl_Take_impl_Take_f66 (n : Nat) (s_0 : List STake) : Option (Bool) :=
  Option.bind (m_slices_IndexFunc_impl_Take_impl_Take_f66 n s_0) fun x3 =>
  some (decide (x3 ≥ 0))

def m_impl_CanMake_l2 (n : Nat) (list_0 : List SGood) (x45 : List Int) (st126 : Int × Int) : Option (Step (Int × Int) (Int)) :=
  if (decide (st126.2 < (x45.length : Int))) then
  Option.bind (idx x45 st126.2) fun x144 =>
  if (x144 == 0) then
  some (.next (st126.1, (wI64 (st126.2 + 1))))
  else
  Option.bind (idx list_0 st126.2) fun x150 =>
  Option.bind (idx list_0 st126.2) fun x152 =>
  Option.bind (quo .i64 (wI64 (x150.OnHand - x152.Reserved)) x144) fun x154 =>
  Option.bind (if (decide (st126.1 < 0)) then
  some true
  else
  some (decide (x154 < st126.1))) fun x163 =>
  Option.bind (if x163 then
  some x154
  else
  some st126.1) fun x171 =>
  some (.next (x171, (wI64 (st126.2 + 1))))
  else
  some (.done st126.1)

def m_impl_CanMake_l3 (n : Nat) (list_0 : List SGood) (st180 : Int × List Int) (st248 : Int × Int) : Option (Step (Int × Int) (Int)) :=
  if (decide (st248.2 < (st180.2.length : Int))) then
  Option.bind (idx st180.2 st248.2) fun x266 =>
  if (x266 == 0) then
  some (.next (st248.1, (wI64 (st248.2 + 1))))
  else
  Option.bind (idx list_0 st248.2) fun x272 =>
  Option.bind (idx list_0 st248.2) fun x274 =>
  Option.bind (quo .i64 (wI64 (x272.OnHand - x274.Reserved)) x266) fun x276 =>
  Option.bind (if (decide (st248.1 < 0)) then
  some true
  else
  some (decide (x276 < st248.1))) fun x285 =>
  Option.bind (if x285 then
  some x276
  else
  some st248.1) fun x293 =>
  some (.next (x293, (wI64 (st248.2 + 1))))
  else
  some (.done st248.1)

def m_impl_CanMake_l1 (n : Nat) (list_0 : List SGood) (needs_1 : List STake) (st180 : Int × List Int) : Option (Step (Int × List Int) ((List Int) ⊕ (Int × Int))) :=
  if (decide (st180.1 < (needs_1.length : Int))) then
  Option.bind (idx needs_1 st180.1) fun x198 =>
  Option.bind (m_impl_goodPlace n list_0 x198.Name) fun x214 =>
  if (!x214.2) then
  some (.done (.inr (0, 3)))
  else
  Option.bind (idx st180.2 x214.1) fun x231 =>
  Option.bind (idx st180.2 x214.1) fun x233 =>
  some (.next ((wI64 (st180.1 + 1)), (st180.2.set (Int.toNat x214.1) (wI64 (x231 + x198.Many)))))
  else
  some (.done (.inl st180.2))

def m_impl_CanMake_l4 (n : Nat) (list_0 : List SGood) (q302 : List Int) (st306 : Int × Int) : Option (Step (Int × Int) (Int)) :=
  if (decide (st306.2 < (q302.length : Int))) then
  Option.bind (idx q302 st306.2) fun x324 =>
  if (x324 == 0) then
  some (.next (st306.1, (wI64 (st306.2 + 1))))
  else
  Option.bind (idx list_0 st306.2) fun x330 =>
  Option.bind (idx list_0 st306.2) fun x332 =>
  Option.bind (quo .i64 (wI64 (x330.OnHand - x332.Reserved)) x324) fun x334 =>
  Option.bind (if (decide (st306.1 < 0)) then
  some true
  else
  some (decide (x334 < st306.1))) fun x343 =>
  Option.bind (if x343 then
  some x334
  else
  some st306.1) fun x351 =>
  some (.next (x351, (wI64 (st306.2 + 1))))
  else
  some (.done st306.1)

def m_impl_CanMake (n : Nat) (list_0 : List SGood) (needs_1 : List STake) : Option (Int × Int) :=
  Option.bind (m_impl_ValidGoods n list_0) fun x4 =>
  if (!x4) then
  some (0, 1)
  else
  Option.bind (if (decide ((needs_1.length : Int) > 60)) then
  some true
  else
  Option.bind (m_slices_ContainsFunc_impl_Take_impl_Take_f66 n needs_1) fun x27 =>
  some x27) fun x24 =>
  if x24 then
  some (0, 2)
  else
  if ((needs_1.length : Int) == 0) then
  some (0, 6)
  else
  Option.bind (mk (0 : Int) (list_0.length : Int)) fun x45 =>
  Option.bind (loopN (m_impl_CanMake_l1 n list_0 needs_1) n (0, x45)) fun t191 =>
  match t191 with
  | .inl q302 =>
  Option.bind (loopN (m_impl_CanMake_l4 n list_0 q302) n ((-1), 0)) fun q358 =>
  some (q358, 0)
  | .inr r =>
  some r

def m_laws_FnExactCanMake (n : Nat) (aList_0 : List SGood) (aNeeds_1 : List STake) : Option (Bool) :=
  Option.bind (m_laws_szGoodS n aList_0 1048576) fun x4 =>
  if (decide (x4 < 0)) then
  some true
  else
  Option.bind (m_laws_szTakeS n aNeeds_1 x4) fun x17 =>
  if (decide (x17 < 0)) then
  some true
  else
  Option.bind (m_laws_toGoodS n aList_0) fun x30 =>
  Option.bind (m_laws_toTakeS n aNeeds_1) fun x41 =>
  Option.bind (m_spec_CanMake n x30 x41) fun x52 =>
  Option.bind (m_laws_toGoodS n aList_0) fun x61 =>
  Option.bind (m_laws_toTakeS n aNeeds_1) fun x73 =>
  Option.bind (m_impl_CanMake n x61 x73) fun x85 =>
  Option.bind (if (x85.1 != x52.1) then
  some true
  else
  some (x85.2 != x52.2)) fun x96 =>
  if x96 then
  some false
  else
  Option.bind (m_laws_toGoodS n aList_0) fun x107 =>
  Option.bind (m_laws_eqGoodS n x61 x107) fun x118 =>
  if (!x118) then
  some false
  else
  Option.bind (m_laws_toTakeS n aNeeds_1) fun x130 =>
  Option.bind (m_laws_eqTakeS n x73 x130) fun x141 =>
  if (!x141) then
  some false
  else
  some true

def m_spec_AddGood_l1 (n : Nat) (list_0 : List SGood) (g_1 : SGood) (st60 : Int) : Option (Step (Int) (Int)) :=
  Option.bind (if (decide (st60 > 0)) then
  Option.bind (idx list_0 (wI64 (st60 - 1))) fun x91 =>
  some (!(strLt x91.Name g_1.Name || x91.Name == g_1.Name))
  else
  some false) fun x88 =>
  if x88 then
  some (.next (wI64 (st60 - 1)))
  else
  some (.done st60)

def m_spec_AddGood (n : Nat) (list_0 : List SGood) (g_1 : SGood) : Option (List SGood × Int) :=
  Option.bind (m_spec_l23Ok n list_0) fun x12 =>
  if (!x12) then
  some (([] : List SGood), 1)
  else
  Option.bind (m_spec_l23One n g_1) fun x26 =>
  if (!x26) then
  some (([] : List SGood), 2)
  else
  Option.bind (m_spec_l23Find n list_0 g_1.Name) fun x40 =>
  if (decide (x40 ≥ 0)) then
  some (([] : List SGood), 4)
  else
  if (decide ((list_0.length : Int) ≥ 40)) then
  some (([] : List SGood), 5)
  else
  Option.bind (loopN (m_spec_AddGood_l1 n list_0 g_1) n (list_0.length : Int)) fun q172 =>
  Option.bind (sub list_0 0 q172) fun x183 =>
  Option.bind (app ([] : List SGood) x183) fun x191 =>
  Option.bind (app x191 ([g_1] : List SGood)) fun x210 =>
  Option.bind (sub list_0 q172 (list_0.length : Int)) fun x220 =>
  Option.bind (app x210 x220) fun x228 =>
  some (x228, 0)

def m_slices_Reverse_impl_Good_impl_Good_l1 (n : Nat)  (st49 : Int × Int × List SGood) : Option (Step (Int × Int × List SGood) (List SGood)) :=
  if (decide (st49.1 < st49.2.1)) then
  Option.bind (idx st49.2.2 st49.2.1) fun x72 =>
  Option.bind (idx st49.2.2 st49.1) fun x74 =>
  Option.bind (idx st49.2.2 st49.1) fun x76 =>
  Option.bind (idx (st49.2.2.set (Int.toNat st49.1) x72) st49.2.1) fun x89 =>
  some (.next ((wI64 (st49.1 + 1)), (wI64 (st49.2.1 - 1)), ((st49.2.2.set (Int.toNat st49.1) x72).set (Int.toNat st49.2.1) x74)))
  else
  some (.done st49.2.2)

def m_slices_Reverse_impl_Good_impl_Good (n : Nat) (s_0 : List SGood) : Option (List SGood) :=
  Option.bind (loopN (m_slices_Reverse_impl_Good_impl_Good_l1 n) n (0, (wI64 ((s_0.length : Int) - 1)), s_0)) fun q97 =>
  some q97

def m_slices_Insert_impl_Good_impl_Good (n : Nat) (s_0 : List SGood) (i_1 : Int) (v_2 : List SGood) : Option (List SGood) :=
  if 0 ≤ i_1 ∧ i_1 ≤ (s_0.length : Int) ∧ v_2.isEmpty = false ∧ s_0.length + v_2.length ≤ big then
  some (s_0.take i_1.toNat ++ v_2 ++ s_0.drop i_1.toNat)
  else none

def m_impl_AddGood (n : Nat) (list_0 : List SGood) (g_1 : SGood) : Option (List SGood × Int) :=
  Option.bind (m_impl_ValidGoods n list_0) fun x12 =>
  if (!x12) then
  some (([] : List SGood), 1)
  else
  Option.bind (m_impl_validGood n g_1) fun x25 =>
  if (!x25) then
  some (([] : List SGood), 2)
  else
  Option.bind (m_impl_goodPlace n list_0 g_1.Name) fun x38 =>
  if x38.2 then
  some (([] : List SGood), 4)
  else
  if ((list_0.length : Int) == 40) then
  some (([] : List SGood), 5)
  else
  Option.bind (m_slices_Clone_impl_Good_impl_Good n list_0) fun x77 =>
  Option.bind (m_slices_Insert_impl_Good_impl_Good n x77 x38.1 ([g_1] : List SGood)) fun x121 =>
  some (x121, 0)

def m_laws_FnExactAddGood (n : Nat) (aList_0 : List SGood) (aG_1 : SGood) : Option (Bool) :=
  Option.bind (m_laws_szGoodS n aList_0 1048576) fun x12 =>
  if (decide (x12 < 0)) then
  some true
  else
  Option.bind (m_laws_szGood n aG_1 x12) fun x25 =>
  if (decide (x25 < 0)) then
  some true
  else
  Option.bind (m_laws_toGoodS n aList_0) fun x48 =>
  Option.bind (m_laws_toGood n aG_1) fun x69 =>
  Option.bind (m_spec_AddGood n x48 x69) fun x77 =>
  Option.bind (m_laws_toGoodS n aList_0) fun x94 =>
  Option.bind (m_laws_toGood n aG_1) fun x106 =>
  Option.bind (m_impl_AddGood n x94 x106) fun x114 =>
  Option.bind (Option.bind (m_laws_eqGoodS n x114.1 x77.1) fun x138 =>
  if (!x138) then
  some true
  else
  some (x114.2 != x77.2)) fun x136 =>
  if x136 then
  some false
  else
  Option.bind (m_laws_toGoodS n aList_0) fun x155 =>
  Option.bind (m_laws_eqGoodS n x94 x155) fun x166 =>
  if (!x166) then
  some false
  else
  Option.bind (m_laws_markGoodS n x94 1) fun x178 =>
  Option.bind (if (decide (x178.1 < 0)) then
  some true
  else
  Option.bind (m_laws_eqGoodS n x114.1 x77.1) fun x203 =>
  if (!x203) then
  some true
  else
  some (x114.2 != x77.2)) fun x200 =>
  if x200 then
  some false
  else
  Option.bind (m_laws_markGoodS n x114.1 1) fun x220 =>
  Option.bind (m_laws_heldGoodS n x220.2 1) fun x232 =>
  if (decide (x232 < 0)) then
  some false
  else
  if (x232 != x220.1) then
  some false
  else
  Option.bind (m_laws_toGoodS n aList_0) fun x259 =>
  Option.bind (m_laws_toGood n aG_1) fun x280 =>
  Option.bind (m_impl_AddGood n x259 x280) fun x288 =>
  Option.bind (Option.bind (m_laws_eqGoodS n x288.1 x77.1) fun x317 =>
  if (!x317) then
  some true
  else
  some (x288.2 != x77.2)) fun x315 =>
  if x315 then
  some false
  else
  Option.bind (m_laws_heldGoodS n x220.2 1) fun x334 =>
  if (decide (x334 < 0)) then
  some false
  else
  if (x334 != x220.1) then
  some false
  else
  some true

def m_spec_ChangeGoods_l1 (n : Nat) (list_0 : List SGood) (takes_1 : List STake) (st89 : Int × List SGood) : Option (Step (Int × List SGood) ((List SGood) ⊕ (List SGood × Int × Int))) :=
  if (decide (st89.1 < (takes_1.length : Int))) then
  Option.bind (idx takes_1 st89.1) fun x107 =>
  Option.bind (m_spec_l23Change n st89.2 x107) fun x109 =>
  if (x109.1 != 0) then
  Option.bind (app ([] : List SGood) list_0) fun x130 =>
  some (.done (.inr (x130, st89.1, 0)))
  else
  some (.next ((wI64 (st89.1 + 1)), x109.2))
  else
  some (.done (.inl st89.2))

def m_spec_ChangeGoods (n : Nat) (list_0 : List SGood) (takes_1 : List STake) : Option (List SGood × Int × Int) :=
  Option.bind (m_spec_l23Takes n list_0 takes_1) fun x3 =>
  if (x3 != 0) then
  some (([] : List SGood), 0, x3)
  else
  Option.bind (app ([] : List SGood) list_0) fun x27 =>
  Option.bind (loopN (m_spec_ChangeGoods_l1 n list_0 takes_1) n (0, x27)) fun t100 =>
  match t100 with
  | .inl q140 =>
  some (q140, (-1), 0)
  | .inr r =>
  some r

def m_impl_ChangeGoods_1 (n : Nat) (t_0 : STake) : Option (Bool) :=
  Option.bind (m_impl_isTake n t_0) fun x11 =>
  some (!x11)

def m_slices_IndexFunc_impl_Take_impl_Take_f71_l1 (n : Nat) (s_0 : List STake) (st4 : Int) : Option (Step (Int) ((Unit) ⊕ (Int))) :=
  if (decide (st4 < (s_0.length : Int))) then
  Option.bind (idx s_0 st4) fun x23 =>
  Option.bind (m_impl_ChangeGoods_1 n x23) fun x25 =>
  if x25 then
  some (.done (.inr st4))
  else
  some (.next (wI64 (st4 + 1)))
  else
  some (.done (.inl ()))

def m_slices_IndexFunc_impl_Take_impl_Take_f71 (n : Nat) (s_0 : List STake) : Option (Int) :=
  Option.bind (loopN (m_slices_IndexFunc_impl_Take_impl_Take_f71_l1 n s_0) n 0) fun t15 =>
  match t15 with
  | .inl q36 =>
  some (-1)
  | .inr r =>
  some r

def m_slices_ContainsFunc_impl_Take_impl_Take_f71 (n : Nat) (s_0 : List STake) : Option (Bool) :=
  Option.bind (m_slices_IndexFunc_impl_Take_impl_Take_f71 n s_0) fun x3 =>
  some (decide (x3 ≥ 0))

def m_impl_ChangeGoods_l1 (n : Nat) (list_0 : List SGood) (takes_1 : List STake) (st59 : List SGood × Int) : Option (Step (List SGood × Int) ((List SGood) ⊕ (List SGood × Int × Int))) :=
  if (decide (st59.2 < (takes_1.length : Int))) then
  Option.bind (idx takes_1 st59.2) fun x80 =>
  Option.bind (m_impl_taken n st59.1 x80) fun x96 =>
  if (x96.2 != 0) then
  Option.bind (m_slices_Clone_impl_Good_impl_Good n list_0) fun x111 =>
  some (.done (.inr (x111, st59.2, 0)))
  else
  some (.next (x96.1, (wI64 (st59.2 + 1))))
  else
  some (.done (.inl st59.1))

def m_impl_ChangeGoods (n : Nat) (list_0 : List SGood) (takes_1 : List STake) : Option (List SGood × Int × Int) :=
  Option.bind (m_impl_ValidGoods n list_0) fun x4 =>
  if (!x4) then
  some (([] : List SGood), 0, 1)
  else
  Option.bind (if (decide ((takes_1.length : Int) > 60)) then
  some true
  else
  Option.bind (m_slices_ContainsFunc_impl_Take_impl_Take_f71 n takes_1) fun x29 =>
  some x29) fun x26 =>
  if x26 then
  some (([] : List SGood), 0, 2)
  else
  Option.bind (m_slices_Clone_impl_Good_impl_Good n list_0) fun x46 =>
  Option.bind (loopN (m_impl_ChangeGoods_l1 n list_0 takes_1) n (x46, 0)) fun t73 =>
  match t73 with
  | .inl q123 =>
  some (q123, (-1), 0)
  | .inr r =>
  some r

def m_laws_FnExactChangeGoods (n : Nat) (aList_0 : List SGood) (aTakes_1 : List STake) : Option (Bool) :=
  Option.bind (m_laws_szGoodS n aList_0 1048576) fun x4 =>
  if (decide (x4 < 0)) then
  some true
  else
  Option.bind (m_laws_szTakeS n aTakes_1 x4) fun x17 =>
  if (decide (x17 < 0)) then
  some true
  else
  Option.bind (m_laws_toGoodS n aList_0) fun x30 =>
  Option.bind (m_laws_toTakeS n aTakes_1) fun x41 =>
  Option.bind (m_spec_ChangeGoods n x30 x41) fun x52 =>
  Option.bind (m_laws_toGoodS n aList_0) fun x64 =>
  Option.bind (m_laws_toTakeS n aTakes_1) fun x76 =>
  Option.bind (m_impl_ChangeGoods n x64 x76) fun x88 =>
  Option.bind (Option.bind (m_laws_eqGoodS n x88.1 x52.1) fun x113 =>
  if (!x113) then
  some true
  else
  if (x88.2.1 != x52.2.1) then
  some true
  else
  some (x88.2.2 != x52.2.2)) fun x111 =>
  if x111 then
  some false
  else
  Option.bind (m_laws_toGoodS n aList_0) fun x131 =>
  Option.bind (m_laws_eqGoodS n x64 x131) fun x142 =>
  if (!x142) then
  some false
  else
  Option.bind (m_laws_toTakeS n aTakes_1) fun x154 =>
  Option.bind (m_laws_eqTakeS n x76 x154) fun x165 =>
  if (!x165) then
  some false
  else
  Option.bind (m_laws_markGoodS n x64 1) fun x177 =>
  Option.bind (m_laws_markTakeS n x76 x177.1) fun x188 =>
  Option.bind (if (decide (x188.1 < 0)) then
  some true
  else
  Option.bind (m_laws_eqGoodS n x88.1 x52.1) fun x214 =>
  if (!x214) then
  some true
  else
  if (x88.2.1 != x52.2.1) then
  some true
  else
  some (x88.2.2 != x52.2.2)) fun x211 =>
  if x211 then
  some false
  else
  Option.bind (m_laws_markGoodS n x88.1 1) fun x232 =>
  Option.bind (m_laws_heldGoodS n x232.2 1) fun x244 =>
  if (decide (x244 < 0)) then
  some false
  else
  if (x244 != x232.1) then
  some false
  else
  Option.bind (m_laws_toGoodS n aList_0) fun x261 =>
  Option.bind (m_laws_toTakeS n aTakes_1) fun x272 =>
  Option.bind (m_impl_ChangeGoods n x261 x272) fun x283 =>
  Option.bind (Option.bind (m_laws_eqGoodS n x283.1 x52.1) fun x308 =>
  if (!x308) then
  some true
  else
  if (x283.2.1 != x52.2.1) then
  some true
  else
  some (x283.2.2 != x52.2.2)) fun x306 =>
  if x306 then
  some false
  else
  Option.bind (m_laws_heldGoodS n x232.2 1) fun x326 =>
  if (decide (x326 < 0)) then
  some false
  else
  if (x326 != x232.1) then
  some false
  else
  some true

def m_laws_f6big (n : Nat) (code_0 : List Int) : Option (Bool) :=
  some (decide ((code_0.length : Int) > 4096))

def m_spec_l00Src_next (n : Nat) (s_0_code : List Int) (s_0_at_ : Int) (s_0_seed : Int) : Option (Int × Int × Int) :=
  Option.bind (if (decide (s_0_at_ < (s_0_code.length : Int))) then
  Option.bind (idx s_0_code s_0_at_) fun x20 =>
  some (wI64 x20)
  else
  some 0) fun x18 =>
  if (decide ((wI64 (s_0_at_ + 1)) ≤ (s_0_code.length : Int))) then
  some (x18, (wI64 (s_0_at_ + 1)), (IntKind.u64.wrap ((IntKind.u64.wrap ((IntKind.u64.wrap (s_0_seed * 6364136223846793005)) + (IntKind.u64.wrap x18))) + 1442695040888963407)))
  else
  Option.bind (shr .u64 (IntKind.u64.wrap ((IntKind.u64.wrap ((IntKind.u64.wrap (s_0_seed * 6364136223846793005)) + (IntKind.u64.wrap x18))) + 1442695040888963407)) 40) fun x53 =>
  some ((wI64 (iand .u64 x53 255)), (wI64 (s_0_at_ + 1)), (IntKind.u64.wrap ((IntKind.u64.wrap ((IntKind.u64.wrap (s_0_seed * 6364136223846793005)) + (IntKind.u64.wrap x18))) + 1442695040888963407)))

def m_spec_l00Src_pick (n : Nat) (s_0_code : List Int) (s_0_at_ : Int) (s_0_seed : Int) (n_1 : Int) : Option (Int × Int × Int) :=
  if (decide (n_1 ≤ 1)) then
  some (0, s_0_at_, s_0_seed)
  else
  Option.bind (m_spec_l00Src_next n s_0_code s_0_at_ s_0_seed) fun x7 =>
  Option.bind (if (decide (n_1 > 200)) then
  Option.bind (m_spec_l00Src_next n s_0_code x7.2.1 x7.2.2) fun x50 =>
  some ((wI64 ((wI64 (x7.1 * 256)) + x50.1)), x50.2.1, x50.2.2)
  else
  some (x7.1, x7.2.1, x7.2.2)) fun x48 =>
  Option.bind (rem x48.1 n_1) fun x64 =>
  some (x64, x48.2.1, x48.2.2)

def m_spec_l00Src_one (n : Nat) (s_0_code : List Int) (s_0_at_ : Int) (s_0_seed : Int) (n_1 : Int) : Option (Bool × Int × Int) :=
  Option.bind (m_spec_l00Src_pick n s_0_code s_0_at_ s_0_seed n_1) fun x3 =>
  some ((x3.1 == 0), x3.2.1, x3.2.2)

def m_spec_l23Names (n : Nat)  : Option (List (List UInt8)) :=
  some ([[99, 97, 108, 102], [99, 111, 114, 107], [101, 121, 101, 108, 101, 116], [104, 101, 101, 108, 45, 51], [108, 97, 99, 101], [110, 97, 105, 108], [116, 104, 114, 101, 97, 100], [119, 97, 120]] : List (List UInt8))

def m_spec_l23New (n : Nat) (s_0_code : List Int) (s_0_at_ : Int) (s_0_seed : Int) (name_1 : List UInt8) : Option (SGood × Int × Int) :=
  Option.bind (m_spec_l00Src_pick n s_0_code s_0_at_ s_0_seed 120) fun x11 =>
  Option.bind (m_spec_l00Src_pick n s_0_code x11.2.1 x11.2.2 (wI64 (x11.1 + 1))) fun x34 =>
  Option.bind (m_spec_l00Src_one n s_0_code x34.2.1 x34.2.2 2) fun x50 =>
  Option.bind (if x50.1 then
  some 0
  else
  some x34.1) fun x77 =>
  Option.bind (m_spec_l00Src_pick n s_0_code x50.2.1 x50.2.2 60) fun x89 =>
  some ((SGood.mk name_1 x11.1 x77 x89.1), x89.2.1, x89.2.2)

def m_spec_l23Draw_l1 (n : Nat) (s_0_code : List Int) (x13 : List (List UInt8)) (st188 : List SGood × Int × Int × Int) : Option (Step (List SGood × Int × Int × Int) (List SGood × Int × Int)) :=
  if (decide (st188.2.1 < (x13.length : Int))) then
  Option.bind (m_spec_l00Src_one n s_0_code st188.2.2.1 st188.2.2.2 2) fun x209 =>
  Option.bind (if x209.1 then
  Option.bind (idx x13 st188.2.1) fun x316 =>
  Option.bind (m_spec_l23New n s_0_code x209.2.1 x209.2.2 x316) fun x318 =>
  Option.bind (app st188.1 ([x318.1] : List SGood)) fun x336 =>
  some (x336, x318.2.1, x318.2.2)
  else
  some (st188.1, x209.2.1, x209.2.2)) fun x311 =>
  some (.next (x311.1, (wI64 (st188.2.1 + 1)), x311.2.1, x311.2.2))
  else
  some (.done (st188.1, st188.2.2.1, st188.2.2.2))

def m_spec_l23Draw (n : Nat) (s_0_code : List Int) (s_0_at_ : Int) (s_0_seed : Int) : Option (List SGood × Int × Int) :=
  Option.bind (m_spec_l23Names n ) fun x13 =>
  Option.bind (loopN (m_spec_l23Draw_l1 n s_0_code x13) n (([] : List SGood), 0, s_0_at_, s_0_seed)) fun q350 =>
  some (q350.1, q350.2.1, q350.2.2)

def m_spec_l00Src_among (n : Nat) (s_0_code : List Int) (s_0_at_ : Int) (s_0_seed : Int) (list_1 : List Int) : Option (Int × Int × Int) :=
  Option.bind (m_spec_l00Src_pick n s_0_code s_0_at_ s_0_seed (list_1.length : Int)) fun x3 =>
  Option.bind (idx list_1 x3.1) fun x12 =>
  some (x12, x3.2.1, x3.2.2)

def m_spec_l00Src_text (n : Nat) (s_0_code : List Int) (s_0_at_ : Int) (s_0_seed : Int) (list_1 : List (List UInt8)) : Option (List UInt8 × Int × Int) :=
  Option.bind (m_spec_l00Src_pick n s_0_code s_0_at_ s_0_seed (list_1.length : Int)) fun x3 =>
  Option.bind (idx list_1 x3.1) fun x12 =>
  some (x12, x3.2.1, x3.2.2)

def m_spec_l00Src_text_o1 (n : Nat) (s_0_code : List Int) (s_0_at_ : Int) (s_0_seed : Int) (list_1 : List (List UInt8)) : Option (List UInt8 × Int × Int) :=
  Option.bind (m_spec_l00Src_pick n s_0_code s_0_at_ s_0_seed (list_1.length : Int)) fun x3 =>
  Option.bind (idx list_1 x3.1) fun x12 =>
  some (x12, x3.2.1, x3.2.2)

def m_spec_l00Src_among_o1 (n : Nat) (s_0_code : List Int) (s_0_at_ : Int) (s_0_seed : Int) (list_1 : List Int) : Option (Int × Int × Int) :=
  Option.bind (m_spec_l00Src_pick n s_0_code s_0_at_ s_0_seed (list_1.length : Int)) fun x3 =>
  Option.bind (idx list_1 x3.1) fun x12 =>
  some (x12, x3.2.1, x3.2.2)

def m_spec_l23Spoil (n : Nat) (s_0_code : List Int) (s_0_at_ : Int) (s_0_seed : Int) (g_1_Name : List UInt8) (g_1_OnHand : Int) (g_1_Reserved : Int) (g_1_Least : Int) : Option (Int × Int × List UInt8 × Int × Int × Int) :=
  Option.bind (m_spec_l00Src_pick n s_0_code s_0_at_ s_0_seed 4) fun x2 =>
  Option.bind (if (x2.1 == 0) then
  Option.bind (m_spec_l00Src_text_o1 n s_0_code x2.2.1 x2.2.2 ([[], [67, 97, 108, 102], [122, 122]] : List (List UInt8))) fun x7001 =>
  some (x7001.2.1, x7001.2.2, x7001.1, g_1_OnHand, g_1_Reserved, g_1_Least)
  else
  Option.bind (if (x2.1 == 1) then
  Option.bind (m_spec_l00Src_among_o1 n s_0_code x2.2.1 x2.2.2 ([(-1), 0, 1000000, 1000001] : List Int)) fun x8749 =>
  some (x8749.2.1, x8749.2.2, x8749.1, g_1_Reserved, g_1_Least)
  else
  Option.bind (if (x2.1 == 2) then
  Option.bind (m_spec_l00Src_among_o1 n s_0_code x2.2.1 x2.2.2 ([(-1), g_1_OnHand, (wI64 (g_1_OnHand + 1)), (-9223372036854775808)] : List Int)) fun x9193 =>
  some (x9193.2.1, x9193.2.2, x9193.1, g_1_Least)
  else
  Option.bind (if (x2.1 == 3) then
  Option.bind (m_spec_l00Src_among_o1 n s_0_code x2.2.1 x2.2.2 ([(-1), 0, 1000000, 1000001] : List Int)) fun x9291 =>
  some (x9291.2.1, x9291.2.2, x9291.1)
  else
  some (x2.2.1, x2.2.2, g_1_Least)) fun x9280 =>
  some (x9280.1, x9280.2.1, g_1_Reserved, x9280.2.2)) fun x9172 =>
  some (x9172.1, x9172.2.1, g_1_OnHand, x9172.2.2.1, x9172.2.2.2)) fun x8738 =>
  some (x8738.1, x8738.2.1, g_1_Name, x8738.2.2.1, x8738.2.2.2.1, x8738.2.2.2.2)) fun x6990 =>
  some (x6990.1, x6990.2.1, x6990.2.2.1, x6990.2.2.2.1, x6990.2.2.2.2.1, x6990.2.2.2.2.2)

def m_spec_l23Spoil_o1 (n : Nat) (s_0_code : List Int) (s_0_at_ : Int) (s_0_seed : Int) (g_1 : List SGood) (i1_ : Int) (e1_ : SGood) : Option (List SGood × Int × Int) :=
  Option.bind (m_spec_l00Src_pick n s_0_code s_0_at_ s_0_seed 4) fun x2 =>
  Option.bind (if (x2.1 == 0) then
  Option.bind (m_spec_l00Src_text_o1 n s_0_code x2.2.1 x2.2.2 ([[], [67, 97, 108, 102], [122, 122]] : List (List UInt8))) fun x7319 =>
  some (x7319.2.1, x7319.2.2, (g_1.set (Int.toNat i1_) (SGood.mk x7319.1 e1_.OnHand e1_.Reserved e1_.Least)))
  else
  Option.bind (if (x2.1 == 1) then
  Option.bind (m_spec_l00Src_among_o1 n s_0_code x2.2.1 x2.2.2 ([(-1), 0, 1000000, 1000001] : List Int)) fun x9146 =>
  some (x9146.2.1, x9146.2.2, (g_1.set (Int.toNat i1_) (SGood.mk e1_.Name x9146.1 e1_.Reserved e1_.Least)))
  else
  Option.bind (if (x2.1 == 2) then
  Option.bind (m_spec_l00Src_among_o1 n s_0_code x2.2.1 x2.2.2 ([(-1), e1_.OnHand, (wI64 (e1_.OnHand + 1)), (-9223372036854775808)] : List Int)) fun x9609 =>
  some (x9609.2.1, x9609.2.2, (g_1.set (Int.toNat i1_) (SGood.mk e1_.Name e1_.OnHand x9609.1 e1_.Least)))
  else
  Option.bind (if (x2.1 == 3) then
  Option.bind (m_spec_l00Src_among_o1 n s_0_code x2.2.1 x2.2.2 ([(-1), 0, 1000000, 1000001] : List Int)) fun x9711 =>
  some (x9711.2.1, x9711.2.2, (g_1.set (Int.toNat i1_) (SGood.mk e1_.Name e1_.OnHand e1_.Reserved x9711.1)))
  else
  some (x2.2.1, x2.2.2, g_1)) fun x9700 =>
  some (x9700.1, x9700.2.1, x9700.2.2)) fun x9588 =>
  some (x9588.1, x9588.2.1, x9588.2.2)) fun x9135 =>
  some (x9135.1, x9135.2.1, x9135.2.2)) fun x7308 =>
  some (x7308.2.2, x7308.1, x7308.2.1)

def m_spec_l23Bent_l1 (n : Nat)  (st47 : List SGood × Int) : Option (Step (List SGood × Int) (List SGood)) :=
  if (decide (st47.2 > 0)) then
  Option.bind (app [103] (ofBytes ([(IntKind.u8.wrap (wI64 (97 + (wI64 (Int.tdiv (st47.1.length : Int) 26))))), (IntKind.u8.wrap (wI64 (97 + (Int.tmod (st47.1.length : Int) 26))))] : List Int))) fun x77 =>
  Option.bind (app st47.1 ([(SGood.mk x77 9 0 0)] : List SGood)) fun x88 =>
  some (.next (x88, (wI64 (st47.2 - 1))))
  else
  some (.done st47.1)

def m_spec_l23Bent_l2 (n : Nat)  (st126 : List SGood × Int) : Option (Step (List SGood × Int) (List SGood)) :=
  if (decide (st126.2 > 0)) then
  Option.bind (app [103] (ofBytes ([(IntKind.u8.wrap (wI64 (97 + (wI64 (Int.tdiv (st126.1.length : Int) 26))))), (IntKind.u8.wrap (wI64 (97 + (Int.tmod (st126.1.length : Int) 26))))] : List Int))) fun x156 =>
  Option.bind (app st126.1 ([(SGood.mk x156 9 0 0)] : List SGood)) fun x167 =>
  some (.next (x167, (wI64 (st126.2 - 1))))
  else
  some (.done st126.1)

def m_spec_l23Bent_l3 (n : Nat)  (st200 : List SGood × Int) : Option (Step (List SGood × Int) (List SGood)) :=
  if (decide (st200.2 > 0)) then
  Option.bind (app [103] (ofBytes ([(IntKind.u8.wrap (wI64 (97 + (wI64 (Int.tdiv (st200.1.length : Int) 26))))), (IntKind.u8.wrap (wI64 (97 + (Int.tmod (st200.1.length : Int) 26))))] : List Int))) fun x230 =>
  Option.bind (app st200.1 ([(SGood.mk x230 9 0 0)] : List SGood)) fun x241 =>
  some (.next (x241, (wI64 (st200.2 - 1))))
  else
  some (.done st200.1)

def m_spec_l23Bent_l4 (n : Nat)  (st279 : List SGood × Int) : Option (Step (List SGood × Int) (List SGood)) :=
  if (decide (st279.2 > 0)) then
  Option.bind (app [103] (ofBytes ([(IntKind.u8.wrap (wI64 (97 + (wI64 (Int.tdiv (st279.1.length : Int) 26))))), (IntKind.u8.wrap (wI64 (97 + (Int.tmod (st279.1.length : Int) 26))))] : List Int))) fun x309 =>
  Option.bind (app st279.1 ([(SGood.mk x309 9 0 0)] : List SGood)) fun x320 =>
  some (.next (x320, (wI64 (st279.2 - 1))))
  else
  some (.done st279.1)

def m_spec_l23Bent (n : Nat) (s_0_code : List Int) (s_0_at_ : Int) (s_0_seed : Int) : Option (List SGood × Int × Int) :=
  Option.bind (m_spec_l23Draw n s_0_code s_0_at_ s_0_seed) fun x3 =>
  Option.bind (m_spec_l00Src_one n s_0_code x3.2.1 x3.2.2 24) fun x17 =>
  Option.bind (if x17.1 then
  Option.bind (m_spec_l00Src_pick n s_0_code x17.2.1 x17.2.2 2) fun x270 =>
  Option.bind (loopN (m_spec_l23Bent_l4 n) n (([] : List SGood), (wI64 (40 + x270.1)))) fun q329 =>
  some (q329, x270.2.1, x270.2.2)
  else
  some (x3.1, x17.2.1, x17.2.2)) fun x254 =>
  Option.bind (if (decide ((x254.1.length : Int) > 0)) then
  Option.bind (m_spec_l00Src_one n s_0_code x254.2.1 x254.2.2 10) fun x374 =>
  some (x374.1, x374.2.1, x374.2.2)
  else
  some (false, x254.2.1, x254.2.2)) fun x371 =>
  Option.bind (if x371.1 then
  Option.bind (m_spec_l00Src_pick n s_0_code x371.2.1 x371.2.2 (x254.1.length : Int)) fun x455 =>
  Option.bind (idx x254.1 x455.1) fun x464 =>
  Option.bind (m_spec_l23Spoil_o1 n s_0_code x455.2.1 x455.2.2 x254.1 x455.1 x464) fun x466 =>
  some (x466.1, x466.2.1, x466.2.2)
  else
  some (x254.1, x371.2.1, x371.2.2)) fun x453 =>
  some (x453.1, x453.2.1, x453.2.2)

def m_spec_l00From (n : Nat) (code_0 : List Int) : Option ((Int × Int)) :=
  some (0, 0)

def m_spec_l23Name (n : Nat) (s_0_code : List Int) (s_0_at_ : Int) (s_0_seed : Int) (list_1 : List SGood) : Option (List UInt8 × Int × Int) :=
  Option.bind (if (decide ((list_1.length : Int) > 0)) then
  Option.bind (m_spec_l00Src_one n s_0_code s_0_at_ s_0_seed 6) fun x39 =>
  some ((!x39.1), x39.2.1, x39.2.2)
  else
  some (false, s_0_at_, s_0_seed)) fun x36 =>
  if x36.1 then
  Option.bind (m_spec_l00Src_pick n s_0_code x36.2.1 x36.2.2 (list_1.length : Int)) fun x54 =>
  Option.bind (idx list_1 x54.1) fun x63 =>
  some (x63.Name, x54.2.1, x54.2.2)
  else
  Option.bind (m_spec_l23Names n ) fun x66 =>
  Option.bind (m_spec_l00Src_text_o1 n s_0_code x36.2.1 x36.2.2 x66) fun x77 =>
  some (x77.1, x77.2.1, x77.2.2)

def m_spec_l23Name_o1 (n : Nat) (s_0_code : List Int) (s_0_at_ : Int) (s_0_seed : Int) (list_1 : List SGood) : Option (List UInt8 × Int × Int) :=
  Option.bind (if (decide ((list_1.length : Int) > 0)) then
  Option.bind (m_spec_l00Src_one n s_0_code s_0_at_ s_0_seed 6) fun x39 =>
  some ((!x39.1), x39.2.1, x39.2.2)
  else
  some (false, s_0_at_, s_0_seed)) fun x36 =>
  if x36.1 then
  Option.bind (m_spec_l00Src_pick n s_0_code x36.2.1 x36.2.2 (list_1.length : Int)) fun x54 =>
  Option.bind (idx list_1 x54.1) fun x63 =>
  some (x63.Name, x54.2.1, x54.2.2)
  else
  Option.bind (m_spec_l23Names n ) fun x66 =>
  Option.bind (m_spec_l00Src_text_o1 n s_0_code x36.2.1 x36.2.2 x66) fun x77 =>
  some (x77.1, x77.2.1, x77.2.2)

def m_spec_l23Ask (n : Nat) (code_0 : List Int) : Option (List SGood × List UInt8 × Int) :=
  Option.bind (m_spec_l00From n code_0) fun x3 =>
  Option.bind (m_spec_l23Bent n code_0 x3.1 x3.2) fun x14 =>
  Option.bind (m_spec_l23Name_o1 n code_0 x14.2.1 x14.2.2 x14.1) fun x27 =>
  Option.bind (m_spec_l00Src_one n code_0 x27.2.1 x27.2.2 8) fun x38 =>
  if x38.1 then
  Option.bind (m_spec_l00Src_among_o1 n code_0 x38.2.1 x38.2.2 ([(-1), 0, 1, 1000000, 1000001] : List Int)) fun x58 =>
  some (x14.1, x27.1, x58.1)
  else
  Option.bind (m_spec_l00Src_pick n code_0 x38.2.1 x38.2.2 60) fun x68 =>
  some (x14.1, x27.1, (wI64 (1 + x68.1)))

def m_spec_DrawReserveGood (n : Nat) (code_0 : List Int) : Option (List SGood × List UInt8 × Int) :=
  Option.bind (m_spec_l23Ask n code_0) fun x3 =>
  some (x3.1, x3.2.1, x3.2.2)

def m_spec_DrawUseReserved (n : Nat) (code_0 : List Int) : Option (List SGood × List UInt8 × Int) :=
  Option.bind (m_spec_l23Ask n code_0) fun x3 =>
  some (x3.1, x3.2.1, x3.2.2)

def m_spec_DrawShortGoods (n : Nat) (code_0 : List Int) : Option (List SGood) :=
  Option.bind (m_spec_l00From n code_0) fun x3 =>
  Option.bind (m_spec_l23Bent n code_0 x3.1 x3.2) fun x13 =>
  some x13.1

def m_spec_DrawCanMake_l1 (n : Nat) (code_0 : List Int) (x14 : List SGood × Int × Int) (st283 : List STake × Int × Int × Int) : Option (Step (List STake × Int × Int × Int) (List STake × Int × Int)) :=
  if (decide (st283.2.1 > 0)) then
  Option.bind (m_spec_l23Name_o1 n code_0 st283.2.2.1 st283.2.2.2 x14.1) fun x304 =>
  Option.bind (m_spec_l00Src_pick n code_0 x304.2.1 x304.2.2 9) fun x327 =>
  Option.bind (app st283.1 ([(STake.mk x304.1 (wI64 (1 + x327.1)))] : List STake)) fun x350 =>
  some (.next (x350, (wI64 (st283.2.1 - 1)), x327.2.1, x327.2.2))
  else
  some (.done (st283.1, st283.2.2.1, st283.2.2.2))

def m_spec_DrawCanMake (n : Nat) (code_0 : List Int) : Option (List SGood × List STake) :=
  Option.bind (m_spec_l00From n code_0) fun x3 =>
  Option.bind (m_spec_l23Bent n code_0 x3.1 x3.2) fun x14 =>
  Option.bind (m_spec_l00Src_pick n code_0 x14.2.1 x14.2.2 5) fun x38 =>
  Option.bind (loopN (m_spec_DrawCanMake_l1 n code_0 x14) n (([] : List STake), x38.1, x38.2.1, x38.2.2)) fun q519 =>
  Option.bind (if (decide ((q519.1.length : Int) > 0)) then
  Option.bind (m_spec_l00Src_one n code_0 q519.2.1 q519.2.2 10) fun x560 =>
  some (x560.1, x560.2.1, x560.2.2)
  else
  some (false, q519.2.1, q519.2.2)) fun x557 =>
  Option.bind (if x557.1 then
  Option.bind (m_spec_l00Src_among_o1 n code_0 x557.2.1 x557.2.2 ([(-1), 0, 1, 1000000, 1000001] : List Int)) fun x662 =>
  Option.bind (idx q519.1 0) fun x671 =>
  some ((q519.1.set (Int.toNat 0) (STake.mk x671.Name x662.1)), x662.2.1, x662.2.2)
  else
  some (q519.1, x557.2.1, x557.2.2)) fun x651 =>
  some (x14.1, x651.1)

def m_laws_FnReserves_l2 (n : Nat) (x123 : List SGood × List STake) (x147 : Int × Int) (st363 : List STake × Int) : Option (Step (List STake × Int) ((List STake) ⊕ (Bool))) :=
  if (decide (st363.2 < (x123.2.length : Int))) then
  Option.bind (idx x123.2 st363.2) fun x385 =>
  if (decide (x385.Many > 1000)) then
  some (.done (.inr true))
  else
  Option.bind (idx x123.2 st363.2) fun x394 =>
  Option.bind (idx x123.2 st363.2) fun x396 =>
  Option.bind (app st363.1 ([(STake.mk x394.Name (wI64 ((wI64 (0 - x147.1)) * x396.Many)))] : List STake)) fun x412 =>
  some (.next (x412, (wI64 (st363.2 + 1))))
  else
  some (.done (.inl st363.1))

def m_laws_FnReserves_l3 (n : Nat) (x123 : List SGood × List STake) (x147 : Int × Int) (st705 : List STake × Int) : Option (Step (List STake × Int) ((List STake) ⊕ (Bool))) :=
  if (decide (st705.2 < (x123.2.length : Int))) then
  Option.bind (idx x123.2 st705.2) fun x727 =>
  if (decide (x727.Many > 1000)) then
  some (.done (.inr true))
  else
  Option.bind (idx x123.2 st705.2) fun x736 =>
  Option.bind (idx x123.2 st705.2) fun x738 =>
  Option.bind (app st705.1 ([(STake.mk x736.Name (wI64 ((wI64 (0 - x147.1)) * x738.Many)))] : List STake)) fun x754 =>
  some (.next (x754, (wI64 (st705.2 + 1))))
  else
  some (.done (.inl st705.1))

def m_laws_FnReserves_l4 (n : Nat) (x123 : List SGood × List STake) (x147 : Int × Int) (st1047 : List STake × Int) : Option (Step (List STake × Int) ((List STake) ⊕ (Bool))) :=
  if (decide (st1047.2 < (x123.2.length : Int))) then
  Option.bind (idx x123.2 st1047.2) fun x1069 =>
  if (decide (x1069.Many > 1000)) then
  some (.done (.inr true))
  else
  Option.bind (idx x123.2 st1047.2) fun x1078 =>
  Option.bind (idx x123.2 st1047.2) fun x1080 =>
  Option.bind (app st1047.1 ([(STake.mk x1078.Name (wI64 ((wI64 (0 - x147.1)) * x1080.Many)))] : List STake)) fun x1096 =>
  some (.next (x1096, (wI64 (st1047.2 + 1))))
  else
  some (.done (.inl st1047.1))

def m_laws_FnReserves_l1 (n : Nat) (x99 : List STake × Int) (x111 : List STake × Int) (st213 : Int) : Option (Step (Int) ((Unit) ⊕ (Bool))) :=
  if (decide (st213 < (x111.1.length : Int))) then
  Option.bind (Option.bind (idx x99.1 st213) fun x250 =>
  Option.bind (idx x111.1 st213) fun x252 =>
  if (!(decide (x250 = x252))) then
  some true
  else
  Option.bind (idx x111.1 st213) fun x260 =>
  some (decide (x260.Many < 1))) fun x248 =>
  if x248 then
  some (.done (.inr false))
  else
  some (.next (wI64 (st213 + 1)))
  else
  some (.done (.inl ()))

def m_laws_FnReserves_l5 (n : Nat) (x123 : List SGood × List STake) (x147 : Int × Int) (st1453 : List STake × Int) : Option (Step (List STake × Int) ((List STake) ⊕ (Bool))) :=
  if (decide (st1453.2 < (x123.2.length : Int))) then
  Option.bind (idx x123.2 st1453.2) fun x1475 =>
  if (decide (x1475.Many > 1000)) then
  some (.done (.inr true))
  else
  Option.bind (idx x123.2 st1453.2) fun x1484 =>
  Option.bind (idx x123.2 st1453.2) fun x1486 =>
  Option.bind (app st1453.1 ([(STake.mk x1484.Name (wI64 ((wI64 (0 - x147.1)) * x1486.Many)))] : List STake)) fun x1502 =>
  some (.next (x1502, (wI64 (st1453.2 + 1))))
  else
  some (.done (.inl st1453.1))

def m_laws_FnReserves_l6 (n : Nat) (x123 : List SGood × List STake) (x147 : Int × Int) (st1795 : List STake × Int) : Option (Step (List STake × Int) ((List STake) ⊕ (Bool))) :=
  if (decide (st1795.2 < (x123.2.length : Int))) then
  Option.bind (idx x123.2 st1795.2) fun x1817 =>
  if (decide (x1817.Many > 1000)) then
  some (.done (.inr true))
  else
  Option.bind (idx x123.2 st1795.2) fun x1826 =>
  Option.bind (idx x123.2 st1795.2) fun x1828 =>
  Option.bind (app st1795.1 ([(STake.mk x1826.Name (wI64 ((wI64 (0 - x147.1)) * x1828.Many)))] : List STake)) fun x1844 =>
  some (.next (x1844, (wI64 (st1795.2 + 1))))
  else
  some (.done (.inl st1795.1))

def m_laws_FnReserves_l7 (n : Nat) (x123 : List SGood × List STake) (x147 : Int × Int) (st2137 : List STake × Int) : Option (Step (List STake × Int) ((List STake) ⊕ (Bool))) :=
  if (decide (st2137.2 < (x123.2.length : Int))) then
  Option.bind (idx x123.2 st2137.2) fun x2159 =>
  if (decide (x2159.Many > 1000)) then
  some (.done (.inr true))
  else
  Option.bind (idx x123.2 st2137.2) fun x2168 =>
  Option.bind (idx x123.2 st2137.2) fun x2170 =>
  Option.bind (app st2137.1 ([(STake.mk x2168.Name (wI64 ((wI64 (0 - x147.1)) * x2170.Many)))] : List STake)) fun x2186 =>
  some (.next (x2186, (wI64 (st2137.2 + 1))))
  else
  some (.done (.inl st2137.1))

def m_laws_FnReserves (n : Nat) (code_0 : List Int) : Option (Bool) :=
  Option.bind (m_laws_f6big n code_0) fun x4 =>
  if x4 then
  some true
  else
  Option.bind (m_spec_DrawReserveGood n code_0) fun x15 =>
  Option.bind (m_impl_ReserveGood n x15.1 x15.2.1 x15.2.2) fun x27 =>
  Option.bind (m_spec_ReserveGood n x15.1 x15.2.1 x15.2.2) fun x39 =>
  Option.bind (m_spec_DrawUseReserved n code_0) fun x51 =>
  Option.bind (m_impl_UseReserved n x51.1 x51.2.1 x51.2.2) fun x63 =>
  Option.bind (m_spec_UseReserved n x51.1 x51.2.1 x51.2.2) fun x75 =>
  Option.bind (m_spec_DrawShortGoods n code_0) fun x87 =>
  Option.bind (m_impl_ShortGoods n x87) fun x99 =>
  Option.bind (m_spec_ShortGoods n x87) fun x111 =>
  Option.bind (m_spec_DrawCanMake n code_0) fun x123 =>
  Option.bind (m_impl_CanMake n x123.1 x123.2) fun x138 =>
  Option.bind (m_spec_CanMake n x123.1 x123.2) fun x147 =>
  Option.bind (if (x27.2 != x39.2) then
  some true
  else
  Option.bind (m_spec_SameGoods n x27.1 x39.1) fun x183 =>
  if (!x183) then
  some true
  else
  if (x63.2 != x75.2) then
  some true
  else
  Option.bind (m_spec_SameGoods n x63.1 x75.1) fun x193 =>
  if (!x193) then
  some true
  else
  if (x99.2 != x111.2) then
  some true
  else
  if ((x99.1.length : Int) != (x111.1.length : Int)) then
  some true
  else
  if (x138.2 != x147.2) then
  some true
  else
  some (x138.1 != x147.1)) fun x180 =>
  if x180 then
  some false
  else
  Option.bind (loopN (m_laws_FnReserves_l1 n x99 x111) n 0) fun t224 =>
  match t224 with
  | .inl q1362 =>
  (if (x99.2 == 0) then
  Option.bind (app ([] : List STake) x111.1) fun x1376 =>
  Option.bind (m_impl_ChangeGoods n x87 x1376) fun x1386 =>
  if (x1386.2.2 != 0) then
  some false
  else
  if (x1386.2.1 == (-1)) then
  Option.bind (m_impl_ShortGoods n x1386.1) fun x1404 =>
  Option.bind (if (x1404.2 != 0) then
  some true
  else
  some ((x1404.1.length : Int) != 0)) fun x1417 =>
  if x1417 then
  some false
  else
  Option.bind (if (x138.2 == 0) then
  if (decide (x147.1 > 0)) then
  if (decide (x147.1 < 1000)) then
  some (decide ((x123.2.length : Int) < 20))
  else
  some false
  else
  some false
  else
  some false) fun x1431 =>
  if x1431 then
  Option.bind (loopN (m_laws_FnReserves_l5 n x123 x147) n (([] : List STake), 0)) fun t1467 =>
  match t1467 with
  | .inl q1610 =>
  Option.bind (m_impl_ChangeGoods n x123.1 q1610) fun x1615 =>
  Option.bind (if (x1615.2.2 != 0) then
  some true
  else
  some (x1615.2.1 != (-1))) fun x1629 =>
  if x1629 then
  some false
  else
  Option.bind (m_impl_CanMake n x1615.1 x123.2) fun x1639 =>
  Option.bind (if (x1639.2 != 0) then
  some true
  else
  some (x1639.1 != 0)) fun x1649 =>
  if x1649 then
  some false
  else
  if (x27.2 != 0) then
  some true
  else
  Option.bind (m_impl_UseReserved n x27.1 x15.2.1 x15.2.2) fun x1663 =>
  Option.bind (m_spec_ChangeGood n x15.1 (STake.mk x15.2.1 (wI64 (0 - x15.2.2)))) fun x1675 =>
  Option.bind (if (x1663.2 == 0) then
  if (x1675.2 == 0) then
  Option.bind (m_spec_SameGoods n x1663.1 x1675.1) fun x1701 =>
  some x1701
  else
  some false
  else
  some false) fun x1697 =>
  some x1697
  | .inr r =>
  some r
  else
  if (x27.2 != 0) then
  some true
  else
  Option.bind (m_impl_UseReserved n x27.1 x15.2.1 x15.2.2) fun x1718 =>
  Option.bind (m_spec_ChangeGood n x15.1 (STake.mk x15.2.1 (wI64 (0 - x15.2.2)))) fun x1730 =>
  Option.bind (if (x1718.2 == 0) then
  if (x1730.2 == 0) then
  Option.bind (m_spec_SameGoods n x1718.1 x1730.1) fun x1756 =>
  some x1756
  else
  some false
  else
  some false) fun x1752 =>
  some x1752
  else
  Option.bind (if (x138.2 == 0) then
  if (decide (x147.1 > 0)) then
  if (decide (x147.1 < 1000)) then
  some (decide ((x123.2.length : Int) < 20))
  else
  some false
  else
  some false
  else
  some false) fun x1773 =>
  if x1773 then
  Option.bind (loopN (m_laws_FnReserves_l6 n x123 x147) n (([] : List STake), 0)) fun t1809 =>
  match t1809 with
  | .inl q1952 =>
  Option.bind (m_impl_ChangeGoods n x123.1 q1952) fun x1957 =>
  Option.bind (if (x1957.2.2 != 0) then
  some true
  else
  some (x1957.2.1 != (-1))) fun x1971 =>
  if x1971 then
  some false
  else
  Option.bind (m_impl_CanMake n x1957.1 x123.2) fun x1981 =>
  Option.bind (if (x1981.2 != 0) then
  some true
  else
  some (x1981.1 != 0)) fun x1991 =>
  if x1991 then
  some false
  else
  if (x27.2 != 0) then
  some true
  else
  Option.bind (m_impl_UseReserved n x27.1 x15.2.1 x15.2.2) fun x2005 =>
  Option.bind (m_spec_ChangeGood n x15.1 (STake.mk x15.2.1 (wI64 (0 - x15.2.2)))) fun x2017 =>
  Option.bind (if (x2005.2 == 0) then
  if (x2017.2 == 0) then
  Option.bind (m_spec_SameGoods n x2005.1 x2017.1) fun x2043 =>
  some x2043
  else
  some false
  else
  some false) fun x2039 =>
  some x2039
  | .inr r =>
  some r
  else
  if (x27.2 != 0) then
  some true
  else
  Option.bind (m_impl_UseReserved n x27.1 x15.2.1 x15.2.2) fun x2060 =>
  Option.bind (m_spec_ChangeGood n x15.1 (STake.mk x15.2.1 (wI64 (0 - x15.2.2)))) fun x2072 =>
  Option.bind (if (x2060.2 == 0) then
  if (x2072.2 == 0) then
  Option.bind (m_spec_SameGoods n x2060.1 x2072.1) fun x2098 =>
  some x2098
  else
  some false
  else
  some false) fun x2094 =>
  some x2094
  else
  Option.bind (if (x138.2 == 0) then
  if (decide (x147.1 > 0)) then
  if (decide (x147.1 < 1000)) then
  some (decide ((x123.2.length : Int) < 20))
  else
  some false
  else
  some false
  else
  some false) fun x2115 =>
  if x2115 then
  Option.bind (loopN (m_laws_FnReserves_l7 n x123 x147) n (([] : List STake), 0)) fun t2151 =>
  match t2151 with
  | .inl q2294 =>
  Option.bind (m_impl_ChangeGoods n x123.1 q2294) fun x2299 =>
  Option.bind (if (x2299.2.2 != 0) then
  some true
  else
  some (x2299.2.1 != (-1))) fun x2313 =>
  if x2313 then
  some false
  else
  Option.bind (m_impl_CanMake n x2299.1 x123.2) fun x2323 =>
  Option.bind (if (x2323.2 != 0) then
  some true
  else
  some (x2323.1 != 0)) fun x2333 =>
  if x2333 then
  some false
  else
  if (x27.2 != 0) then
  some true
  else
  Option.bind (m_impl_UseReserved n x27.1 x15.2.1 x15.2.2) fun x2347 =>
  Option.bind (m_spec_ChangeGood n x15.1 (STake.mk x15.2.1 (wI64 (0 - x15.2.2)))) fun x2359 =>
  Option.bind (if (x2347.2 == 0) then
  if (x2359.2 == 0) then
  Option.bind (m_spec_SameGoods n x2347.1 x2359.1) fun x2385 =>
  some x2385
  else
  some false
  else
  some false) fun x2381 =>
  some x2381
  | .inr r =>
  some r
  else
  if (x27.2 != 0) then
  some true
  else
  Option.bind (m_impl_UseReserved n x27.1 x15.2.1 x15.2.2) fun x2402 =>
  Option.bind (m_spec_ChangeGood n x15.1 (STake.mk x15.2.1 (wI64 (0 - x15.2.2)))) fun x2414 =>
  Option.bind (if (x2402.2 == 0) then
  if (x2414.2 == 0) then
  Option.bind (m_spec_SameGoods n x2402.1 x2414.1) fun x2440 =>
  some x2440
  else
  some false
  else
  some false) fun x2436 =>
  some x2436)
  | .inr r =>
  some r

end Go.Gv
