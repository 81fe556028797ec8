/- What each function computes, as a Lean function that may fail. -/
import Derived.Test.YtkpdicajinionaaDoorMh
namespace Go.Gv
open Go Go.RowKit

def m_laws_szGood (n : Nat) (a_0 : SGood) (left_1 : Int) : Option (Int) :=
  if (decide ((wI64 (left_1 - (a_0.Name.length : Int))) < 0)) then
  some (-1)
  else
  some (wI64 (left_1 - (a_0.Name.length : Int)))

def m_spec_l01Digit (n : Nat) (c_0 : Int) : Option (Bool) :=
  Option.bind (if (decide (c_0 ≥ 48)) then
  some (decide (c_0 ≤ 57))
  else
  some false) fun x4 =>
  some x4

def m_spec_l01Small (n : Nat) (c_0 : Int) : Option (Bool) :=
  Option.bind (if (decide (c_0 ≥ 97)) then
  some (decide (c_0 ≤ 122))
  else
  some false) fun x4 =>
  some x4

def m_spec_IsName_l1 (n : Nat) (s_0 : List UInt8) (st38 : Int) : Option (Step (Int) ((Unit) ⊕ (Bool))) :=
  if (decide (st38 < (s_0.length : Int))) then
  Option.bind (Option.bind (idx s_0 st38) fun x82 =>
  Option.bind (m_spec_l01Small n (x82.toNat : Int)) fun x84 =>
  if (!x84) then
  Option.bind (idx s_0 st38) fun x93 =>
  Option.bind (m_spec_l01Digit n (x93.toNat : Int)) fun x95 =>
  if (!x95) then
  Option.bind (idx s_0 st38) fun x104 =>
  some ((x104.toNat : Int) != 45)
  else
  some false
  else
  some false) fun x80 =>
  if x80 then
  some (.done (.inr false))
  else
  some (.next (wI64 (st38 + 1)))
  else
  some (.done (.inl ()))

def m_spec_IsName (n : Nat) (s_0 : List UInt8) : Option (Bool) :=
  Option.bind (if (s_0 == []) then
  some true
  else
  if (decide ((s_0.length : Int) > 12)) then
  some true
  else
  Option.bind (idx s_0 0) fun x20 =>
  Option.bind (m_spec_l01Small n (x20.toNat : Int)) fun x22 =>
  some (!x22)) fun x16 =>
  if x16 then
  some false
  else
  Option.bind (loopN (m_spec_IsName_l1 n s_0) n 0) fun t49 =>
  match t49 with
  | .inl q113 =>
  some true
  | .inr r =>
  some r

def m_spec_l00In (n : Nat) (n_0 : Int) (low_1 : Int) (high_2 : Int) : Option (Bool) :=
  Option.bind (if (decide (n_0 ≥ low_1)) then
  some (decide (n_0 ≤ high_2))
  else
  some false) fun x4 =>
  some x4

def m_spec_l23Many (n : Nat) (n_0 : Int) : Option (Bool) :=
  Option.bind (m_spec_l00In n n_0 0 1000000) fun x3 =>
  some x3

def m_spec_l23One (n : Nat) (g_0 : SGood) : Option (Bool) :=
  Option.bind (Option.bind (m_spec_IsName n g_0.Name) fun x44 =>
  if x44 then
  Option.bind (m_spec_l23Many n g_0.OnHand) fun x49 =>
  if x49 then
  Option.bind (m_spec_l00In n g_0.Reserved 0 g_0.OnHand) fun x54 =>
  if x54 then
  Option.bind (m_spec_l23Many n g_0.Least) fun x59 =>
  some x59
  else
  some false
  else
  some false
  else
  some false) fun x42 =>
  some x42

def m_spec_l01Dec_l1 (n : Nat)  (st14 : List Int × Int) : Option (Step (List Int × Int) (List Int)) :=
  if (st14.2 != 0) then
  Option.bind (if (decide ((Int.tmod st14.2 10) < 0)) then
  some (wI64 (0 - (Int.tmod st14.2 10)))
  else
  some (Int.tmod st14.2 10)) fun x38 =>
  Option.bind (app ([(IntKind.u8.wrap (wI64 (48 + x38)))] : List Int) st14.1) fun x53 =>
  some (.next (x53, (wI64 (Int.tdiv st14.2 10))))
  else
  some (.done st14.1)

def m_spec_l01Dec (n : Nat) (n_0 : Int) : Option (List UInt8) :=
  Option.bind (loopN (m_spec_l01Dec_l1 n) n (([] : List Int), n_0)) fun q73 =>
  if ((q73.length : Int) == 0) then
  some [48]
  else
  if (decide (n_0 < 0)) then
  Option.bind (app [45] (ofBytes q73)) fun x85 =>
  some x85
  else
  some (ofBytes q73)

def m_spec_l23Text (n : Nat) (g_0 : SGood) : Option (List UInt8) :=
  Option.bind (app g_0.Name [32]) fun x3 =>
  Option.bind (m_spec_l01Dec n g_0.OnHand) fun x5 =>
  Option.bind (app x3 x5) fun x9 =>
  Option.bind (app x9 [45]) fun x11 =>
  Option.bind (m_spec_l01Dec n g_0.Reserved) fun x13 =>
  Option.bind (app x11 x13) fun x17 =>
  Option.bind (app x17 [32, 108, 101, 97, 115, 116, 32]) fun x19 =>
  Option.bind (m_spec_l01Dec n g_0.Least) fun x21 =>
  Option.bind (app x19 x21) fun x25 =>
  some x25

def m_spec_GoodText (n : Nat) (g_0 : SGood) : Option (List UInt8) :=
  Option.bind (m_spec_l23One n g_0) fun x12 =>
  if (!x12) then
  some []
  else
  Option.bind (m_spec_l23Text n g_0) fun x23 =>
  some x23

def m_laws_toGood (n : Nat) (a_0 : SGood) : Option (SGood) :=
  some a_0

def m_impl_IsName_l1 (n : Nat) (s_0 : List UInt8) (st28 : Int) : Option (Step (Int) ((Unit) ⊕ (Bool))) :=
  if (decide (st28 < (s_0.length : Int))) then
  Option.bind (Option.bind (idx s_0 st28) fun x74 =>
  if (decide ((x74.toNat : Int) < 97)) then
  Option.bind (idx s_0 st28) fun x77 =>
  if (decide ((x77.toNat : Int) < 48)) then
  Option.bind (idx s_0 st28) fun x80 =>
  some ((x80.toNat : Int) != 45)
  else
  Option.bind (idx s_0 st28) fun x82 =>
  if (decide ((x82.toNat : Int) > 57)) then
  Option.bind (idx s_0 st28) fun x85 =>
  some ((x85.toNat : Int) != 45)
  else
  some false
  else
  Option.bind (idx s_0 st28) fun x87 =>
  if (decide ((x87.toNat : Int) > 122)) then
  Option.bind (idx s_0 st28) fun x90 =>
  if (decide ((x90.toNat : Int) < 48)) then
  Option.bind (idx s_0 st28) fun x93 =>
  some ((x93.toNat : Int) != 45)
  else
  Option.bind (idx s_0 st28) fun x95 =>
  if (decide ((x95.toNat : Int) > 57)) then
  Option.bind (idx s_0 st28) fun x98 =>
  some ((x98.toNat : Int) != 45)
  else
  some false
  else
  some false) fun x72 =>
  if x72 then
  some (.done (.inr false))
  else
  some (.next (wI64 (st28 + 1)))
  else
  some (.done (.inl ()))

def m_impl_IsName (n : Nat) (s_0 : List UInt8) : Option (Bool) :=
  Option.bind (if (decide ((s_0.length : Int) < 1)) then
  some true
  else
  if (decide ((s_0.length : Int) > 12)) then
  some true
  else
  Option.bind (idx s_0 0) fun x15 =>
  if (decide ((x15.toNat : Int) < 97)) then
  some true
  else
  Option.bind (idx s_0 0) fun x18 =>
  some (decide ((x18.toNat : Int) > 122))) fun x11 =>
  if x11 then
  some false
  else
  Option.bind (loopN (m_impl_IsName_l1 n s_0) n 1) fun t39 =>
  match t39 with
  | .inl q107 =>
  some true
  | .inr r =>
  some r

def m_impl_within (n : Nat) (n_0 : Int) (low_1 : Int) (high_2 : Int) : Option (Bool) :=
  Option.bind (if (decide (n_0 ≥ low_1)) then
  some (decide (n_0 ≤ high_2))
  else
  some false) fun x4 =>
  some x4

def m_impl_validGood (n : Nat) (g_0 : SGood) : Option (Bool) :=
  Option.bind (Option.bind (m_impl_IsName n g_0.Name) fun x48 =>
  if x48 then
  Option.bind (m_impl_within n g_0.OnHand 0 1000000) fun x57 =>
  if x57 then
  Option.bind (m_impl_within n g_0.Reserved 0 g_0.OnHand) fun x66 =>
  if x66 then
  Option.bind (m_impl_within n g_0.Least 0 1000000) fun x75 =>
  some x75
  else
  some false
  else
  some false
  else
  some false) fun x46 =>
  some x46

def m_impl_Decimal (n : Nat) (n_0 : Int) : Option (List UInt8) :=
  Option.bind (m_strconv_FormatInt n n_0 10) fun x3 =>
  some x3

def m_impl_GoodText (n : Nat) (g_0 : SGood) : Option (List UInt8) :=
  Option.bind (m_impl_validGood n g_0) fun x12 =>
  if (!x12) then
  some []
  else
  Option.bind (app g_0.Name [32]) fun x23 =>
  Option.bind (m_impl_Decimal n g_0.OnHand) fun x25 =>
  Option.bind (app x23 x25) fun x29 =>
  Option.bind (app x29 [45]) fun x31 =>
  Option.bind (m_impl_Decimal n g_0.Reserved) fun x33 =>
  Option.bind (app x31 x33) fun x37 =>
  Option.bind (app x37 [32, 108, 101, 97, 115, 116, 32]) fun x39 =>
  Option.bind (m_impl_Decimal n g_0.Least) fun x41 =>
  Option.bind (app x39 x41) fun x45 =>
  some x45

def m_laws_FnExactGoodText (n : Nat) (aG_0 : SGood) : Option (Bool) :=
  Option.bind (m_laws_szGood n aG_0 1048576) fun x12 =>
  if (decide (x12 < 0)) then
  some true
  else
  Option.bind (m_laws_toGood n aG_0) fun x25 =>
  Option.bind (m_spec_GoodText n x25) fun x33 =>
  Option.bind (m_laws_toGood n aG_0) fun x42 =>
  Option.bind (m_impl_GoodText n x42) fun x50 =>
  if (!(x50 == x33)) then
  some false
  else
  some true

def m_spec_l01Split_l1 (n : Nat) (s_0 : List UInt8) (by_1 : Int) (st15 : List (List UInt8) × Int × Int) : Option (Step (List (List UInt8) × Int × Int) (List (List UInt8) × Int)) :=
  if (decide (st15.2.2 < (s_0.length : Int))) then
  Option.bind (idx s_0 st15.2.2) fun x36 =>
  Option.bind (if ((x36.toNat : Int) == by_1) then
  Option.bind (sub s_0 st15.2.1 st15.2.2) fun x66 =>
  Option.bind (app st15.1 ([x66] : List (List UInt8))) fun x77 =>
  some (x77, (wI64 (st15.2.2 + 1)))
  else
  some (st15.1, st15.2.1)) fun x60 =>
  some (.next (x60.1, x60.2, (wI64 (st15.2.2 + 1))))
  else
  some (.done (st15.1, st15.2.1))

def m_spec_l01Split (n : Nat) (s_0 : List UInt8) (by_1 : Int) : Option (List (List UInt8)) :=
  Option.bind (loopN (m_spec_l01Split_l1 n s_0 by_1) n (([] : List (List UInt8)), 0, 0)) fun q111 =>
  Option.bind (sub s_0 q111.2 (s_0.length : Int)) fun x116 =>
  Option.bind (app q111.1 ([x116] : List (List UInt8))) fun x127 =>
  some x127

def m_spec_l01Number_l1 (n : Nat) (x20 : List UInt8) (st43 : Int × Int) : Option (Step (Int × Int) ((Int) ⊕ (Int × Bool))) :=
  if (decide (st43.2 < (x20.length : Int))) then
  Option.bind (idx x20 st43.2) fun x62 =>
  Option.bind (m_spec_l01Digit n (x62.toNat : Int)) fun x64 =>
  if (!x64) then
  some (.done (.inr (0, false)))
  else
  Option.bind (idx x20 st43.2) fun x74 =>
  some (.next ((wI64 ((wI64 (10 * st43.1)) + (wI64 (IntKind.u8.wrap ((x74.toNat : Int) - 48))))), (wI64 (st43.2 + 1))))
  else
  some (.done (.inl st43.1))

def m_spec_l01Number (n : Nat) (s_0 : List UInt8) : Option (Int × Bool) :=
  Option.bind (if (!(s_0 == [])) then
  Option.bind (idx s_0 0) fun x11 =>
  some ((x11.toNat : Int) == 45)
  else
  some false) fun x8 =>
  Option.bind (if x8 then
  Option.bind (sub s_0 1 (s_0.length : Int)) fun x22 =>
  some x22
  else
  some s_0) fun x20 =>
  Option.bind (if (decide ((x20.length : Int) < 1)) then
  some true
  else
  some (decide ((x20.length : Int) > 18))) fun x31 =>
  if x31 then
  some (0, false)
  else
  Option.bind (loopN (m_spec_l01Number_l1 n x20) n (0, 0)) fun t54 =>
  match t54 with
  | .inl q98 =>
  Option.bind (if (decide ((x20.length : Int) < (s_0.length : Int))) then
  some (wI64 (0 - q98))
  else
  some q98) fun x102 =>
  Option.bind (m_spec_l01Dec n x102) fun x110 =>
  if (!(x110 == s_0)) then
  some (0, false)
  else
  some (x102, true)
  | .inr r =>
  some r

def m_spec_ReadGood (n : Nat) (s_0 : List UInt8) : Option (SGood × Bool) :=
  Option.bind (m_spec_l01Split n s_0 32) fun x11 =>
  Option.bind (if ((x11.length : Int) != 4) then
  some true
  else
  Option.bind (idx x11 2) fun x30 =>
  some (!(x30 == [108, 101, 97, 115, 116]))) fun x27 =>
  if x27 then
  some ((SGood.mk [] 0 0 0), false)
  else
  Option.bind (idx x11 1) fun x44 =>
  Option.bind (m_spec_l01Split n x44 45) fun x46 =>
  if ((x46.length : Int) != 2) then
  some ((SGood.mk [] 0 0 0), false)
  else
  Option.bind (idx x46 0) fun x67 =>
  Option.bind (m_spec_l01Number n x67) fun x69 =>
  Option.bind (idx x46 1) fun x78 =>
  Option.bind (m_spec_l01Number n x78) fun x80 =>
  Option.bind (idx x11 3) fun x89 =>
  Option.bind (m_spec_l01Number n x89) fun x91 =>
  Option.bind (idx x11 0) fun x100 =>
  Option.bind (if (!x69.2) then
  some true
  else
  if (!x80.2) then
  some true
  else
  if (!x91.2) then
  some true
  else
  Option.bind (m_spec_l23One n (SGood.mk x100 x69.1 x80.1 x91.1)) fun x133 =>
  some (!x133)) fun x128 =>
  if x128 then
  some ((SGood.mk [] 0 0 0), false)
  else
  some ((SGood.mk x100 x69.1 x80.1 x91.1), true)

def m_impl_ReadDecimal (n : Nat) (s_0 : List UInt8) : Option (Int × Bool) :=
  Option.bind (if (decide ((s_0.length : Int) > 19)) then
  some true
  else
  Option.bind (m_strings_TrimPrefix n s_0 [45]) fun x16 =>
  some (decide ((x16.length : Int) > 18))) fun x13 =>
  if x13 then
  some (0, false)
  else
  Option.bind (m_strconv_ParseInt n s_0 10 64) fun x31 =>
  Option.bind (if x31.2 then
  some true
  else
  Option.bind (m_impl_Decimal n x31.1) fun x55 =>
  some (!(x55 == s_0))) fun x52 =>
  if x52 then
  some (0, false)
  else
  some (x31.1, true)

def m_impl_readNumbers_l1 (n : Nat) (x3 : List (List UInt8)) (st32 : List Int × Int) : Option (Step (List Int × Int) ((List Int) ⊕ (List Int × Bool))) :=
  if (decide (st32.2 < (x3.length : Int))) then
  Option.bind (idx x3 st32.2) fun x53 =>
  Option.bind (m_impl_ReadDecimal n x53) fun x56 =>
  if (!x56.2) then
  some (.done (.inr (([] : List Int), false)))
  else
  Option.bind (app st32.1 ([x56.1] : List Int)) fun x79 =>
  some (.next (x79, (wI64 (st32.2 + 1))))
  else
  some (.done (.inl st32.1))

def m_impl_readNumbers (n : Nat) (s_0 : List UInt8) (separator_1 : List UInt8) (count_2 : Int) : Option (List Int × Bool) :=
  Option.bind (m_strings_SplitN n s_0 separator_1 (wI64 (count_2 + 1))) fun x3 =>
  if ((x3.length : Int) != count_2) then
  some (([] : List Int), false)
  else
  Option.bind (loopN (m_impl_readNumbers_l1 n x3) n (([] : List Int), 0)) fun t46 =>
  match t46 with
  | .inl q89 =>
  some (q89, true)
  | .inr r =>
  some r

def m_impl_ReadGood (n : Nat) (s_0 : List UInt8) : Option (SGood × Bool) :=
  Option.bind (m_strings_Split n s_0 [32]) fun x11 =>
  if ((x11.length : Int) != 4) then
  some ((SGood.mk [] 0 0 0), false)
  else
  Option.bind (idx x11 1) fun x32 =>
  Option.bind (m_impl_readNumbers n x32 [45] 2) fun x34 =>
  Option.bind (idx x11 3) fun x46 =>
  Option.bind (m_impl_ReadDecimal n x46) fun x48 =>
  Option.bind (if (!x34.2) then
  some true
  else
  some (!x48.2)) fun x59 =>
  if x59 then
  some ((SGood.mk [] 0 0 0), false)
  else
  Option.bind (idx x11 0) fun x93 =>
  Option.bind (idx x34.1 0) fun x95 =>
  Option.bind (idx x34.1 1) fun x97 =>
  Option.bind (m_impl_GoodText n (SGood.mk x93 x95 x97 x48.1)) fun x115 =>
  if (!(x115 == s_0)) then
  some ((SGood.mk [] 0 0 0), false)
  else
  some ((SGood.mk x93 x95 x97 x48.1), true)

def m_laws_eqGood (n : Nat) (a_0 : SGood) (b_1 : SGood) : Option (Bool) :=
  if (!(a_0.Name == b_1.Name)) then
  some false
  else
  if (a_0.OnHand != b_1.OnHand) then
  some false
  else
  if (a_0.Reserved != b_1.Reserved) then
  some false
  else
  if (a_0.Least != b_1.Least) then
  some false
  else
  some true

def m_laws_FnExactReadGood (n : Nat) (aS_0 : List UInt8) : Option (Bool) :=
  if (decide ((aS_0.length : Int) > 1048576)) then
  some true
  else
  Option.bind (m_spec_ReadGood n aS_0) fun x7 =>
  Option.bind (m_impl_ReadGood n aS_0) fun x29 =>
  Option.bind (Option.bind (m_laws_eqGood n x29.1 x7.1) fun x63 =>
  if (!x63) then
  some true
  else
  some (!(x29.2 == x7.2))) fun x61 =>
  if x61 then
  some false
  else
  some true

end Go.Gv
