/- What each function computes, as a Lean function that may fail. -/
import Derived.Test.YtkjjjbfpecmieaaDa
namespace Go.Gv
open Go Go.RowKit

def m_spec_l00In (n : Nat) (n_0 : Int) (low_1 : Int) (high_2 : Int) : Option (Bool) :=
  Option.bind (if (decide (n_0 ≥ low_1)) then
  some (decide (n_0 ≤ high_2))
  else
  some false) fun x4 =>
  some x4

def m_spec_TroubleName (n : Nat) (code_0 : Int) : Option (List UInt8) :=
  Option.bind (m_spec_l00In n code_0 1 ((([[119, 111, 114, 100], [99, 111, 117, 110, 116], [110, 117, 109, 98, 101, 114], [110, 97, 109, 101], [116, 119, 105, 99, 101], [108, 97, 99, 107, 115]] : List (List UInt8)).length) : Int)) fun x14 =>
  if (!x14) then
  some []
  else
  Option.bind (idx ([[119, 111, 114, 100], [99, 111, 117, 110, 116], [110, 117, 109, 98, 101, 114], [110, 97, 109, 101], [116, 119, 105, 99, 101], [108, 97, 99, 107, 115]] : List (List UInt8)) (wI64 (code_0 - 1))) fun x25 =>
  some x25

def m_impl_within (n : Nat) (n_0 : Int) (low_1 : Int) (high_2 : Int) : Option (Bool) :=
  Option.bind (if (decide (n_0 ≥ low_1)) then
  some (decide (n_0 ≤ high_2))
  else
  some false) fun x4 =>
  some x4

def m_impl_TroubleName (n : Nat) (code_0 : Int) : Option (List UInt8) :=
  Option.bind (m_impl_within n code_0 1 6) fun x4 =>
  if (!x4) then
  some []
  else
  Option.bind (idx ([[], [119, 111, 114, 100], [99, 111, 117, 110, 116], [110, 117, 109, 98, 101, 114], [110, 97, 109, 101], [116, 119, 105, 99, 101], [108, 97, 99, 107, 115]] : List (List UInt8)) code_0) fun x15 =>
  some x15

def m_laws_FnExactTroubleName (n : Nat) (aCode_0 : Int) : Option (Bool) :=
  Option.bind (m_spec_TroubleName n aCode_0) fun x3 =>
  Option.bind (m_impl_TroubleName n aCode_0) fun x12 =>
  if (!(x12 == x3)) then
  some false
  else
  some true

def m_spec_StyleWords (n : Nat)  : Option (List (List UInt8)) :=
  some ([[117, 112, 112, 101, 114], [108, 105, 110, 105, 110, 103], [115, 111, 108, 101], [104, 101, 101, 108], [101, 121, 101, 108, 101, 116, 115], [115, 116, 105, 116, 99, 104]] : List (List UInt8))

def m_impl_StyleWords (n : Nat)  : Option (List (List UInt8)) :=
  some ([[117, 112, 112, 101, 114], [108, 105, 110, 105, 110, 103], [115, 111, 108, 101], [104, 101, 101, 108], [101, 121, 101, 108, 101, 116, 115], [115, 116, 105, 116, 99, 104]] : List (List UInt8))

def m_laws_eqStringS_l1 (n : Nat) (a_0 : List (List UInt8)) (b_1 : List (List UInt8)) (st8 : Int) : Option (Step (Int) ((Unit) ⊕ (Bool))) :=
  if (decide (st8 < (a_0.length : Int))) then
  Option.bind (idx a_0 st8) fun x26 =>
  Option.bind (idx b_1 st8) fun x28 =>
  if (!(x26 == x28)) then
  some (.done (.inr false))
  else
  some (.next (wI64 (st8 + 1)))
  else
  some (.done (.inl ()))

def m_laws_eqStringS (n : Nat) (a_0 : List (List UInt8)) (b_1 : List (List UInt8)) : Option (Bool) :=
  if ((a_0.length : Int) != (b_1.length : Int)) then
  some false
  else
  Option.bind (loopN (m_laws_eqStringS_l1 n a_0 b_1) n 0) fun t19 =>
  match t19 with
  | .inl q38 =>
  some true
  | .inr r =>
  some r

def m_laws_markText_l1 (n : Nat)  (st8 : Int × List UInt8) : Option (Step (Int × List UInt8) (List UInt8)) :=
  if (decide (st8.1 > 0)) then
  Option.bind (app (ofBytes ([(IntKind.u8.wrap (wI64 (48 + (Int.tmod st8.1 10))))] : List Int)) st8.2) fun x34 =>
  some (.next ((wI64 (Int.tdiv st8.1 10)), x34))
  else
  some (.done st8.2)

def m_laws_markText (n : Nat) (k_0 : Int) : Option (List UInt8) :=
  if (decide (k_0 ≤ 0)) then
  some [109, 48]
  else
  Option.bind (loopN (m_laws_markText_l1 n) n (k_0, [])) fun q39 =>
  Option.bind (app [109] q39) fun x41 =>
  some x41

def m_laws_markStringS_l1 (n : Nat)  (st39 : Int × Int × List (List UInt8)) : Option (Step (Int × Int × List (List UInt8)) (Int × List (List UInt8))) :=
  if (decide (st39.2.1 < (st39.2.2.length : Int))) then
  Option.bind (m_laws_markText n st39.1) fun x58 =>
  Option.bind (idx st39.2.2 st39.2.1) fun x66 =>
  some (.next ((wI64 (st39.1 + 1)), (wI64 (st39.2.1 + 1)), (st39.2.2.set (Int.toNat st39.2.1) x58)))
  else
  some (.done (st39.1, st39.2.2))

def m_laws_markStringS (n : Nat) (a_0 : List (List UInt8)) (k_1 : Int) : Option (Int × List (List UInt8)) :=
  Option.bind (loopN (m_laws_markStringS_l1 n) n (k_1, 0, a_0)) fun q75 =>
  some (q75.1, q75.2)

def m_laws_heldStringS_l1 (n : Nat) (a_0 : List (List UInt8)) (st4 : Int × Int) : Option (Step (Int × Int) ((Int) ⊕ (Int))) :=
  if (decide (st4.2 < (a_0.length : Int))) then
  Option.bind (idx a_0 st4.2) fun x23 =>
  Option.bind (m_laws_markText n st4.1) fun x25 =>
  if (!(x23 == x25)) then
  some (.done (.inr (-1)))
  else
  some (.next ((wI64 (st4.1 + 1)), (wI64 (st4.2 + 1))))
  else
  some (.done (.inl st4.1))

def m_laws_heldStringS (n : Nat) (a_0 : List (List UInt8)) (k_1 : Int) : Option (Int) :=
  Option.bind (loopN (m_laws_heldStringS_l1 n a_0) n (k_1, 0)) fun t15 =>
  match t15 with
  | .inl q37 =>
  some q37
  | .inr r =>
  some r

def m_laws_FnExactStyleWords (n : Nat)  : Option (Bool) :=
  Option.bind (m_spec_StyleWords n ) fun x3 =>
  Option.bind (m_impl_StyleWords n ) fun x15 =>
  Option.bind (m_laws_eqStringS n x15 x3) fun x28 =>
  if (!x28) then
  some false
  else
  Option.bind (m_laws_markStringS n x15 1) fun x40 =>
  Option.bind (m_laws_heldStringS n x40.2 1) fun x52 =>
  if (decide (x52 < 0)) then
  some false
  else
  if (x52 != x40.1) then
  some false
  else
  Option.bind (m_impl_StyleWords n ) fun x69 =>
  Option.bind (m_laws_eqStringS n x69 x3) fun x82 =>
  if (!x82) then
  some false
  else
  Option.bind (m_laws_heldStringS n x40.2 1) fun x94 =>
  if (decide (x94 < 0)) then
  some false
  else
  if (x94 != x40.1) then
  some false
  else
  some true

def m_laws_szStyle (n : Nat) (a_0 : SStyle) (left_1 : Int) : Option (Int) :=
  if (decide ((wI64 (left_1 - (a_0.Upper.length : Int))) < 0)) then
  some (-1)
  else
  if (decide ((wI64 ((wI64 (left_1 - (a_0.Upper.length : Int))) - (a_0.Color.length : Int))) < 0)) then
  some (-1)
  else
  if (decide ((wI64 ((wI64 ((wI64 (left_1 - (a_0.Upper.length : Int))) - (a_0.Color.length : Int))) - (a_0.Lining.length : Int))) < 0)) then
  some (-1)
  else
  if (decide ((wI64 ((wI64 ((wI64 ((wI64 (left_1 - (a_0.Upper.length : Int))) - (a_0.Color.length : Int))) - (a_0.Lining.length : Int))) - (a_0.Sole.length : Int))) < 0)) then
  some (-1)
  else
  some (wI64 ((wI64 ((wI64 ((wI64 (left_1 - (a_0.Upper.length : Int))) - (a_0.Color.length : Int))) - (a_0.Lining.length : Int))) - (a_0.Sole.length : Int)))

def m_spec_l01Dec_l1 (n : Nat)  (st14 : List Int × Int) : Option (Step (List Int × Int) (List Int)) :=
  if (st14.2 != 0) then
  Option.bind (if (decide ((Int.tmod st14.2 10) < 0)) then
  some (wI64 (0 - (Int.tmod st14.2 10)))
  else
  some (Int.tmod st14.2 10)) fun x38 =>
  Option.bind (app ([(IntKind.u8.wrap (wI64 (48 + x38)))] : List Int) st14.1) fun x53 =>
  some (.next (x53, (wI64 (Int.tdiv st14.2 10))))
  else
  some (.done st14.1)

def m_spec_l01Dec (n : Nat) (n_0 : Int) : Option (List UInt8) :=
  Option.bind (loopN (m_spec_l01Dec_l1 n) n (([] : List Int), n_0)) fun q73 =>
  if ((q73.length : Int) == 0) then
  some [48]
  else
  if (decide (n_0 < 0)) then
  Option.bind (app [45] (ofBytes q73)) fun x85 =>
  some x85
  else
  some (ofBytes q73)

def m_spec_l01Small (n : Nat) (c_0 : Int) : Option (Bool) :=
  Option.bind (if (decide (c_0 ≥ 97)) then
  some (decide (c_0 ≤ 122))
  else
  some false) fun x4 =>
  some x4

def m_spec_l01Digit (n : Nat) (c_0 : Int) : Option (Bool) :=
  Option.bind (if (decide (c_0 ≥ 48)) then
  some (decide (c_0 ≤ 57))
  else
  some false) fun x4 =>
  some x4

def m_spec_IsName_l1 (n : Nat) (s_0 : List UInt8) (st26 : Int) : Option (Step (Int) ((Unit) ⊕ (Bool))) :=
  if (decide (st26 < (s_0.length : Int))) then
  Option.bind (Option.bind (idx s_0 st26) fun x44 =>
  Option.bind (m_spec_l01Small n (x44.toNat : Int)) fun x46 =>
  if (!x46) then
  Option.bind (idx s_0 st26) fun x55 =>
  Option.bind (m_spec_l01Digit n (x55.toNat : Int)) fun x57 =>
  if (!x57) then
  Option.bind (idx s_0 st26) fun x66 =>
  some ((x66.toNat : Int) != 45)
  else
  some false
  else
  some false) fun x68 =>
  if x68 then
  some (.done (.inr false))
  else
  some (.next (wI64 (st26 + 1)))
  else
  some (.done (.inl ()))

def m_spec_IsName (n : Nat) (s_0 : List UInt8) : Option (Bool) :=
  Option.bind (if (s_0 == []) then
  some true
  else
  if (decide ((s_0.length : Int) > 12)) then
  some true
  else
  Option.bind (idx s_0 0) fun x6 =>
  Option.bind (m_spec_l01Small n (x6.toNat : Int)) fun x8 =>
  some (!x8)) fun x16 =>
  if x16 then
  some false
  else
  Option.bind (loopN (m_spec_IsName_l1 n s_0) n 0) fun t37 =>
  match t37 with
  | .inl q77 =>
  some true
  | .inr r =>
  some r

def m_spec_l24Word_l1 (n : Nat) (word_0 : List UInt8) (x3 : List (List UInt8)) (st16 : Int) : Option (Step (Int) ((Unit) ⊕ (Int))) :=
  if (decide (st16 < (x3.length : Int))) then
  Option.bind (idx x3 st16) fun x34 =>
  if (x34 == word_0) then
  some (.done (.inr st16))
  else
  some (.next (wI64 (st16 + 1)))
  else
  some (.done (.inl ()))

def m_spec_l24Word (n : Nat) (word_0 : List UInt8) : Option (Int) :=
  Option.bind (m_spec_StyleWords n ) fun x3 =>
  Option.bind (loopN (m_spec_l24Word_l1 n word_0 x3) n 0) fun t27 =>
  match t27 with
  | .inl q39 =>
  some (-1)
  | .inr r =>
  some r

def m_spec_l24Count (n : Nat) (kind_0 : Int) (words_1 : Int) : Option (Bool) :=
  Option.bind (if (kind_0 == 0) then
  some (kind_0 == 0)
  else
  some (kind_0 == 2)) fun x7 =>
  if x7 then
  some (words_1 == 3)
  else
  if (kind_0 == 5) then
  Option.bind (if (words_1 == 2) then
  some true
  else
  some (words_1 == 3)) fun x19 =>
  some x19
  else
  some (words_1 == 2)

def m_spec_l01Number_l1 (n : Nat) (x17 : List UInt8) (st39 : Int × Int) : Option (Step (Int × Int) ((Int) ⊕ (Int × Bool))) :=
  if (decide (st39.2 < (x17.length : Int))) then
  Option.bind (idx x17 st39.2) fun x58 =>
  Option.bind (m_spec_l01Digit n (x58.toNat : Int)) fun x60 =>
  if (!x60) then
  some (.done (.inr (0, false)))
  else
  Option.bind (idx x17 st39.2) fun x70 =>
  some (.next ((wI64 ((wI64 (10 * st39.1)) + (wI64 (IntKind.u8.wrap ((x70.toNat : Int) - 48))))), (wI64 (st39.2 + 1))))
  else
  some (.done (.inl st39.1))

def m_spec_l01Number (n : Nat) (s_0 : List UInt8) : Option (Int × Bool) :=
  Option.bind (if (!(s_0 == [])) then
  Option.bind (idx s_0 0) fun x6 =>
  some ((x6.toNat : Int) == 45)
  else
  some false) fun x8 =>
  Option.bind (if x8 then
  Option.bind (sub s_0 1 (s_0.length : Int)) fun x19 =>
  some x19
  else
  some s_0) fun x17 =>
  Option.bind (if (decide ((x17.length : Int) < 1)) then
  some true
  else
  some (decide ((x17.length : Int) > 18))) fun x28 =>
  if x28 then
  some (0, false)
  else
  Option.bind (loopN (m_spec_l01Number_l1 n x17) n (0, 0)) fun t50 =>
  match t50 with
  | .inl q94 =>
  Option.bind (if (decide ((x17.length : Int) < (s_0.length : Int))) then
  some (wI64 (0 - q94))
  else
  some q94) fun x98 =>
  Option.bind (m_spec_l01Dec n x98) fun x106 =>
  if (!(x106 == s_0)) then
  some (0, false)
  else
  some (x98, true)
  | .inr r =>
  some r

def m_spec_l24Number (n : Nat) (word_0 : List UInt8) (low_1 : Int) (high_2 : Int) : Option (Bool) :=
  Option.bind (m_spec_l01Number n word_0) fun x3 =>
  Option.bind (if x3.2 then
  Option.bind (m_spec_l00In n x3.1 low_1 high_2) fun x13 =>
  some x13
  else
  some false) fun x21 =>
  some x21

def m_spec_l24Problem (n : Nat) (w_0 : List (List UInt8)) : Option (Int) :=
  if ((w_0.length : Int) == 0) then
  some 1
  else
  Option.bind (idx w_0 0) fun x7 =>
  Option.bind (m_spec_l24Word n x7) fun x9 =>
  if (decide (x9 < 0)) then
  some 1
  else
  Option.bind (m_spec_l24Count n x9 (w_0.length : Int)) fun x23 =>
  if (!x23) then
  some 2
  else
  Option.bind (if (decide (x9 ≤ 2)) then
  Option.bind (idx w_0 1) fun x36 =>
  Option.bind (m_spec_IsName n x36) fun x38 =>
  if (!x38) then
  some true
  else
  if (x9 == 0) then
  Option.bind (idx w_0 2) fun x48 =>
  Option.bind (m_spec_IsName n x48) fun x50 =>
  some (!x50)
  else
  some false
  else
  if (x9 == 0) then
  Option.bind (idx w_0 2) fun x59 =>
  Option.bind (m_spec_IsName n x59) fun x61 =>
  some (!x61)
  else
  some false) fun x69 =>
  if x69 then
  some 4
  else
  Option.bind (if (x9 == 2) then
  Option.bind (idx w_0 2) fun x370 =>
  Option.bind (m_spec_l24Number n x370 10 300) fun x372 =>
  some x372
  else
  Option.bind (if (x9 == 3) then
  Option.bind (idx w_0 1) fun x518 =>
  Option.bind (m_spec_l24Number n x518 0 1200) fun x520 =>
  some x520
  else
  Option.bind (if (x9 == 4) then
  Option.bind (idx w_0 1) fun x590 =>
  Option.bind (m_spec_l24Number n x590 1 12) fun x592 =>
  some x592
  else
  Option.bind (if (x9 == 5) then
  Option.bind (Option.bind (idx w_0 1) fun x624 =>
  Option.bind (m_spec_l24Number n x624 10 80) fun x626 =>
  if x626 then
  if ((w_0.length : Int) == 2) then
  some true
  else
  Option.bind (idx w_0 2) fun x636 =>
  some (x636 == [100, 111, 117, 98, 108, 101])
  else
  some false) fun x638 =>
  some x638
  else
  some true) fun x622 =>
  some x622) fun x588 =>
  some x588) fun x516 =>
  some x516) fun x368 =>
  if (!x368) then
  some 3
  else
  some 0

def m_spec_l01Split_l1 (n : Nat) (s_0 : List UInt8) (by_1 : Int) (st15 : List (List UInt8) × Int × Int) : Option (Step (List (List UInt8) × Int × Int) (List (List UInt8) × Int)) :=
  if (decide (st15.2.2 < (s_0.length : Int))) then
  Option.bind (idx s_0 st15.2.2) fun x36 =>
  Option.bind (if ((x36.toNat : Int) == by_1) then
  Option.bind (sub s_0 st15.2.1 st15.2.2) fun x66 =>
  Option.bind (app st15.1 ([x66] : List (List UInt8))) fun x77 =>
  some (x77, (wI64 (st15.2.2 + 1)))
  else
  some (st15.1, st15.2.1)) fun x60 =>
  some (.next (x60.1, x60.2, (wI64 (st15.2.2 + 1))))
  else
  some (.done (st15.1, st15.2.1))

def m_spec_l01Split (n : Nat) (s_0 : List UInt8) (by_1 : Int) : Option (List (List UInt8)) :=
  Option.bind (loopN (m_spec_l01Split_l1 n s_0 by_1) n (([] : List (List UInt8)), 0, 0)) fun q111 =>
  Option.bind (sub s_0 q111.2 (s_0.length : Int)) fun x116 =>
  Option.bind (app q111.1 ([x116] : List (List UInt8))) fun x127 =>
  some x127

def m_spec_SplitWords_l1 (n : Nat) (x3 : List (List UInt8)) (st26 : List (List UInt8) × Int) : Option (Step (List (List UInt8) × Int) (List (List UInt8))) :=
  if (decide (st26.2 < (x3.length : Int))) then
  Option.bind (idx x3 st26.2) fun x47 =>
  Option.bind (if (!(x47 == [])) then
  Option.bind (idx x3 st26.2) fun x75 =>
  Option.bind (app st26.1 ([x75] : List (List UInt8))) fun x86 =>
  some x86
  else
  some st26.1) fun x70 =>
  some (.next (x70, (wI64 (st26.2 + 1))))
  else
  some (.done st26.1)

def m_spec_SplitWords (n : Nat) (s_0 : List UInt8) : Option (List (List UInt8)) :=
  Option.bind (m_spec_l01Split n s_0 32) fun x3 =>
  Option.bind (loopN (m_spec_SplitWords_l1 n x3) n (([] : List (List UInt8)), 0)) fun q100 =>
  some q100

def m_impl_IsName_l1 (n : Nat) (s_0 : List UInt8) (st21 : Int) : Option (Step (Int) ((Unit) ⊕ (Bool))) :=
  if (decide (st21 < (s_0.length : Int))) then
  Option.bind (Option.bind (idx s_0 st21) fun x39 =>
  if (decide ((x39.toNat : Int) < 97)) then
  Option.bind (idx s_0 st21) fun x42 =>
  if (decide ((x42.toNat : Int) < 48)) then
  Option.bind (idx s_0 st21) fun x45 =>
  some ((x45.toNat : Int) != 45)
  else
  Option.bind (idx s_0 st21) fun x47 =>
  if (decide ((x47.toNat : Int) > 57)) then
  Option.bind (idx s_0 st21) fun x50 =>
  some ((x50.toNat : Int) != 45)
  else
  some false
  else
  Option.bind (idx s_0 st21) fun x52 =>
  if (decide ((x52.toNat : Int) > 122)) then
  Option.bind (idx s_0 st21) fun x55 =>
  if (decide ((x55.toNat : Int) < 48)) then
  Option.bind (idx s_0 st21) fun x58 =>
  some ((x58.toNat : Int) != 45)
  else
  Option.bind (idx s_0 st21) fun x60 =>
  if (decide ((x60.toNat : Int) > 57)) then
  Option.bind (idx s_0 st21) fun x63 =>
  some ((x63.toNat : Int) != 45)
  else
  some false
  else
  some false) fun x65 =>
  if x65 then
  some (.done (.inr false))
  else
  some (.next (wI64 (st21 + 1)))
  else
  some (.done (.inl ()))

def m_impl_IsName (n : Nat) (s_0 : List UInt8) : Option (Bool) :=
  Option.bind (if (decide ((s_0.length : Int) < 1)) then
  some true
  else
  if (decide ((s_0.length : Int) > 12)) then
  some true
  else
  Option.bind (idx s_0 0) fun x6 =>
  if (decide ((x6.toNat : Int) < 97)) then
  some true
  else
  Option.bind (idx s_0 0) fun x9 =>
  some (decide ((x9.toNat : Int) > 122))) fun x11 =>
  if x11 then
  some false
  else
  Option.bind (loopN (m_impl_IsName_l1 n s_0) n 1) fun t32 =>
  match t32 with
  | .inl q74 =>
  some true
  | .inr r =>
  some r

def m_impl_ValidStyle (n : Nat) (x_0 : SStyle) : Option (Bool) :=
  Option.bind (Option.bind (m_impl_IsName n x_0.Upper) fun x11 =>
  if x11 then
  Option.bind (m_impl_IsName n x_0.Color) fun x20 =>
  if x20 then
  if (x_0.Lining == []) then
  Option.bind (m_impl_IsName n x_0.Sole) fun x30 =>
  if x30 then
  Option.bind (m_impl_within n x_0.Thick 10 300) fun x39 =>
  if x39 then
  Option.bind (m_impl_within n x_0.Heel 0 1200) fun x48 =>
  if x48 then
  Option.bind (m_impl_within n x_0.Eyelets 0 12) fun x57 =>
  if x57 then
  if (x_0.Density == 0) then
  if (!x_0.Double) then
  some true
  else
  Option.bind (m_impl_within n x_0.Density 10 80) fun x68 =>
  some x68
  else
  Option.bind (m_impl_within n x_0.Density 10 80) fun x76 =>
  some x76
  else
  some false
  else
  some false
  else
  some false
  else
  some false
  else
  Option.bind (m_impl_IsName n x_0.Lining) fun x84 =>
  if x84 then
  Option.bind (m_impl_IsName n x_0.Sole) fun x93 =>
  if x93 then
  Option.bind (m_impl_within n x_0.Thick 10 300) fun x102 =>
  if x102 then
  Option.bind (m_impl_within n x_0.Heel 0 1200) fun x111 =>
  if x111 then
  Option.bind (m_impl_within n x_0.Eyelets 0 12) fun x120 =>
  if x120 then
  if (x_0.Density == 0) then
  if (!x_0.Double) then
  some true
  else
  Option.bind (m_impl_within n x_0.Density 10 80) fun x131 =>
  some x131
  else
  Option.bind (m_impl_within n x_0.Density 10 80) fun x139 =>
  some x139
  else
  some false
  else
  some false
  else
  some false
  else
  some false
  else
  some false
  else
  some false
  else
  some false) fun x147 =>
  some x147

end Go.Gv
