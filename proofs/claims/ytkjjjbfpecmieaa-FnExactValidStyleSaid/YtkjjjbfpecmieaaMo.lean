/- What each function computes, as a Lean function that may fail. -/
import Derived.Test.YtkjjjbfpecmieaaDa
namespace Go.Gv
open Go Go.RowKit

def m_spec_l00In (n : Nat) (n_0 : Int) (low_1 : Int) (high_2 : Int) : Option (Bool) :=
  Option.bind (if (decide (n_0 ≥ low_1)) then
  some (decide (n_0 ≤ high_2))
  else
  some false) fun x4 =>
  some x4

def m_spec_TroubleName (n : Nat) (code_0 : Int) : Option (List UInt8) :=
  Option.bind (m_spec_l00In n code_0 1 ((([[119, 111, 114, 100], [99, 111, 117, 110, 116], [110, 117, 109, 98, 101, 114], [110, 97, 109, 101], [116, 119, 105, 99, 101], [108, 97, 99, 107, 115]] : List (List UInt8)).length) : Int)) fun x14 =>
  if (!x14) then
  some []
  else
  Option.bind (idx ([[119, 111, 114, 100], [99, 111, 117, 110, 116], [110, 117, 109, 98, 101, 114], [110, 97, 109, 101], [116, 119, 105, 99, 101], [108, 97, 99, 107, 115]] : List (List UInt8)) (wI64 (code_0 - 1))) fun x25 =>
  some x25

def m_impl_within (n : Nat) (n_0 : Int) (low_1 : Int) (high_2 : Int) : Option (Bool) :=
  Option.bind (if (decide (n_0 ≥ low_1)) then
  some (decide (n_0 ≤ high_2))
  else
  some false) fun x4 =>
  some x4

def m_impl_TroubleName (n : Nat) (code_0 : Int) : Option (List UInt8) :=
  Option.bind (m_impl_within n code_0 1 6) fun x4 =>
  if (!x4) then
  some []
  else
  Option.bind (idx ([[], [119, 111, 114, 100], [99, 111, 117, 110, 116], [110, 117, 109, 98, 101, 114], [110, 97, 109, 101], [116, 119, 105, 99, 101], [108, 97, 99, 107, 115]] : List (List UInt8)) code_0) fun x15 =>
  some x15

def m_laws_FnExactTroubleName (n : Nat) (aCode_0 : Int) : Option (Bool) :=
  Option.bind (m_spec_TroubleName n aCode_0) fun x3 =>
  Option.bind (m_impl_TroubleName n aCode_0) fun x12 =>
  if (!(x12 == x3)) then
  some false
  else
  some true

def m_spec_StyleWords (n : Nat)  : Option (List (List UInt8)) :=
  some ([[117, 112, 112, 101, 114], [108, 105, 110, 105, 110, 103], [115, 111, 108, 101], [104, 101, 101, 108], [101, 121, 101, 108, 101, 116, 115], [115, 116, 105, 116, 99, 104]] : List (List UInt8))

def m_impl_StyleWords (n : Nat)  : Option (List (List UInt8)) :=
  some ([[117, 112, 112, 101, 114], [108, 105, 110, 105, 110, 103], [115, 111, 108, 101], [104, 101, 101, 108], [101, 121, 101, 108, 101, 116, 115], [115, 116, 105, 116, 99, 104]] : List (List UInt8))

def m_laws_eqStringS_l1 (n : Nat) (a_0 : List (List UInt8)) (b_1 : List (List UInt8)) (st8 : Int) : Option (Step (Int) ((Unit) ⊕ (Bool))) :=
  if (decide (st8 < (a_0.length : Int))) then
  Option.bind (idx a_0 st8) fun x26 =>
  Option.bind (idx b_1 st8) fun x28 =>
  if (!(x26 == x28)) then
  some (.done (.inr false))
  else
  some (.next (wI64 (st8 + 1)))
  else
  some (.done (.inl ()))

def m_laws_eqStringS (n : Nat) (a_0 : List (List UInt8)) (b_1 : List (List UInt8)) : Option (Bool) :=
  if ((a_0.length : Int) != (b_1.length : Int)) then
  some false
  else
  Option.bind (loopN (m_laws_eqStringS_l1 n a_0 b_1) n 0) fun t19 =>
  match t19 with
  | .inl q38 =>
  some true
  | .inr r =>
  some r

def m_laws_markText_l1 (n : Nat)  (st8 : Int × List UInt8) : Option (Step (Int × List UInt8) (List UInt8)) :=
  if (decide (st8.1 > 0)) then
  Option.bind (app (ofBytes ([(IntKind.u8.wrap (wI64 (48 + (Int.tmod st8.1 10))))] : List Int)) st8.2) fun x34 =>
  some (.next ((wI64 (Int.tdiv st8.1 10)), x34))
  else
  some (.done st8.2)

def m_laws_markText (n : Nat) (k_0 : Int) : Option (List UInt8) :=
  if (decide (k_0 ≤ 0)) then
  some [109, 48]
  else
  Option.bind (loopN (m_laws_markText_l1 n) n (k_0, [])) fun q39 =>
  Option.bind (app [109] q39) fun x41 =>
  some x41

def m_laws_markStringS_l1 (n : Nat)  (st39 : Int × Int × List (List UInt8)) : Option (Step (Int × Int × List (List UInt8)) (Int × List (List UInt8))) :=
  if (decide (st39.2.1 < (st39.2.2.length : Int))) then
  Option.bind (m_laws_markText n st39.1) fun x58 =>
  Option.bind (idx st39.2.2 st39.2.1) fun x66 =>
  some (.next ((wI64 (st39.1 + 1)), (wI64 (st39.2.1 + 1)), (st39.2.2.set (Int.toNat st39.2.1) x58)))
  else
  some (.done (st39.1, st39.2.2))

def m_laws_markStringS (n : Nat) (a_0 : List (List UInt8)) (k_1 : Int) : Option (Int × List (List UInt8)) :=
  Option.bind (loopN (m_laws_markStringS_l1 n) n (k_1, 0, a_0)) fun q75 =>
  some (q75.1, q75.2)

def m_laws_heldStringS_l1 (n : Nat) (a_0 : List (List UInt8)) (st4 : Int × Int) : Option (Step (Int × Int) ((Int) ⊕ (Int))) :=
  if (decide (st4.2 < (a_0.length : Int))) then
  Option.bind (idx a_0 st4.2) fun x23 =>
  Option.bind (m_laws_markText n st4.1) fun x25 =>
  if (!(x23 == x25)) then
  some (.done (.inr (-1)))
  else
  some (.next ((wI64 (st4.1 + 1)), (wI64 (st4.2 + 1))))
  else
  some (.done (.inl st4.1))

def m_laws_heldStringS (n : Nat) (a_0 : List (List UInt8)) (k_1 : Int) : Option (Int) :=
  Option.bind (loopN (m_laws_heldStringS_l1 n a_0) n (k_1, 0)) fun t15 =>
  match t15 with
  | .inl q37 =>
  some q37
  | .inr r =>
  some r

def m_laws_FnExactStyleWords (n : Nat)  : Option (Bool) :=
  Option.bind (m_spec_StyleWords n ) fun x3 =>
  Option.bind (m_impl_StyleWords n ) fun x15 =>
  Option.bind (m_laws_eqStringS n x15 x3) fun x28 =>
  if (!x28) then
  some false
  else
  Option.bind (m_laws_markStringS n x15 1) fun x40 =>
  Option.bind (m_laws_heldStringS n x40.2 1) fun x52 =>
  if (decide (x52 < 0)) then
  some false
  else
  if (x52 != x40.1) then
  some false
  else
  Option.bind (m_impl_StyleWords n ) fun x69 =>
  Option.bind (m_laws_eqStringS n x69 x3) fun x82 =>
  if (!x82) then
  some false
  else
  Option.bind (m_laws_heldStringS n x40.2 1) fun x94 =>
  if (decide (x94 < 0)) then
  some false
  else
  if (x94 != x40.1) then
  some false
  else
  some true

def m_laws_szStyle (n : Nat) (a_0 : SStyle) (left_1 : Int) : Option (Int) :=
  if (decide ((wI64 (left_1 - (a_0.Upper.length : Int))) < 0)) then
  some (-1)
  else
  if (decide ((wI64 ((wI64 (left_1 - (a_0.Upper.length : Int))) - (a_0.Color.length : Int))) < 0)) then
  some (-1)
  else
  if (decide ((wI64 ((wI64 ((wI64 (left_1 - (a_0.Upper.length : Int))) - (a_0.Color.length : Int))) - (a_0.Lining.length : Int))) < 0)) then
  some (-1)
  else
  if (decide ((wI64 ((wI64 ((wI64 ((wI64 (left_1 - (a_0.Upper.length : Int))) - (a_0.Color.length : Int))) - (a_0.Lining.length : Int))) - (a_0.Sole.length : Int))) < 0)) then
  some (-1)
  else
  some (wI64 ((wI64 ((wI64 ((wI64 (left_1 - (a_0.Upper.length : Int))) - (a_0.Color.length : Int))) - (a_0.Lining.length : Int))) - (a_0.Sole.length : Int)))

def m_spec_l01Dec_l1 (n : Nat)  (st14 : List Int × Int) : Option (Step (List Int × Int) (List Int)) :=
  if (st14.2 != 0) then
  Option.bind (if (decide ((Int.tmod st14.2 10) < 0)) then
  some (wI64 (0 - (Int.tmod st14.2 10)))
  else
  some (Int.tmod st14.2 10)) fun x38 =>
  Option.bind (app ([(IntKind.u8.wrap (wI64 (48 + x38)))] : List Int) st14.1) fun x53 =>
  some (.next (x53, (wI64 (Int.tdiv st14.2 10))))
  else
  some (.done st14.1)

def m_spec_l01Dec (n : Nat) (n_0 : Int) : Option (List UInt8) :=
  Option.bind (loopN (m_spec_l01Dec_l1 n) n (([] : List Int), n_0)) fun q73 =>
  if ((q73.length : Int) == 0) then
  some [48]
  else
  if (decide (n_0 < 0)) then
  Option.bind (app [45] (ofBytes q73)) fun x85 =>
  some x85
  else
  some (ofBytes q73)

def m_spec_l24Texts (n : Nat) (x_0 : SStyle) : Option (List (List UInt8)) :=
  Option.bind (app [117, 112, 112, 101, 114, 32] x_0.Upper) fun x8 =>
  Option.bind (app x8 [32]) fun x10 =>
  Option.bind (app x10 x_0.Color) fun x12 =>
  Option.bind (app [115, 111, 108, 101, 32] x_0.Sole) fun x14 =>
  Option.bind (app x14 [32]) fun x16 =>
  Option.bind (m_spec_l01Dec n x_0.Thick) fun x18 =>
  Option.bind (app x16 x18) fun x22 =>
  Option.bind (if (!(x_0.Lining == [])) then
  Option.bind (app [108, 105, 110, 105, 110, 103, 32] x_0.Lining) fun x72 =>
  Option.bind (idx ([x12, [], x22, [], [], []] : List (List UInt8)) 1) fun x74 =>
  some (([x12, [], x22, [], [], []] : List (List UInt8)).set (Int.toNat 1) x72)
  else
  some ([x12, [], x22, [], [], []] : List (List UInt8))) fun x70 =>
  Option.bind (if (x_0.Heel != 0) then
  Option.bind (m_spec_l01Dec n x_0.Heel) fun x143 =>
  Option.bind (app [104, 101, 101, 108, 32] x143) fun x151 =>
  Option.bind (idx x70 3) fun x153 =>
  some (x70.set (Int.toNat 3) x151)
  else
  some x70) fun x141 =>
  Option.bind (if (x_0.Eyelets != 0) then
  Option.bind (m_spec_l01Dec n x_0.Eyelets) fun x222 =>
  Option.bind (app [101, 121, 101, 108, 101, 116, 115, 32] x222) fun x230 =>
  Option.bind (idx x141 4) fun x232 =>
  some (x141.set (Int.toNat 4) x230)
  else
  some x141) fun x220 =>
  Option.bind (if (x_0.Density != 0) then
  some true
  else
  some x_0.Double) fun x246 =>
  Option.bind (if x246 then
  Option.bind (m_spec_l01Dec n x_0.Density) fun x309 =>
  Option.bind (app [115, 116, 105, 116, 99, 104, 32] x309) fun x317 =>
  Option.bind (idx x220 5) fun x319 =>
  some (x220.set (Int.toNat 5) x317)
  else
  some x220) fun x307 =>
  Option.bind (if x_0.Double then
  Option.bind (idx x307 5) fun x370 =>
  Option.bind (app x370 [32, 100, 111, 117, 98, 108, 101]) fun x372 =>
  Option.bind (idx x307 5) fun x374 =>
  some (x307.set (Int.toNat 5) x372)
  else
  some x307) fun x368 =>
  some x368

def m_spec_l01Small (n : Nat) (c_0 : Int) : Option (Bool) :=
  Option.bind (if (decide (c_0 ≥ 97)) then
  some (decide (c_0 ≤ 122))
  else
  some false) fun x4 =>
  some x4

def m_spec_l01Digit (n : Nat) (c_0 : Int) : Option (Bool) :=
  Option.bind (if (decide (c_0 ≥ 48)) then
  some (decide (c_0 ≤ 57))
  else
  some false) fun x4 =>
  some x4

def m_spec_IsName_l1 (n : Nat) (s_0 : List UInt8) (st38 : Int) : Option (Step (Int) ((Unit) ⊕ (Bool))) :=
  if (decide (st38 < (s_0.length : Int))) then
  Option.bind (Option.bind (idx s_0 st38) fun x82 =>
  Option.bind (m_spec_l01Small n (x82.toNat : Int)) fun x84 =>
  if (!x84) then
  Option.bind (idx s_0 st38) fun x93 =>
  Option.bind (m_spec_l01Digit n (x93.toNat : Int)) fun x95 =>
  if (!x95) then
  Option.bind (idx s_0 st38) fun x104 =>
  some ((x104.toNat : Int) != 45)
  else
  some false
  else
  some false) fun x80 =>
  if x80 then
  some (.done (.inr false))
  else
  some (.next (wI64 (st38 + 1)))
  else
  some (.done (.inl ()))

def m_spec_IsName (n : Nat) (s_0 : List UInt8) : Option (Bool) :=
  Option.bind (if (s_0 == []) then
  some true
  else
  if (decide ((s_0.length : Int) > 12)) then
  some true
  else
  Option.bind (idx s_0 0) fun x20 =>
  Option.bind (m_spec_l01Small n (x20.toNat : Int)) fun x22 =>
  some (!x22)) fun x16 =>
  if x16 then
  some false
  else
  Option.bind (loopN (m_spec_IsName_l1 n s_0) n 0) fun t49 =>
  match t49 with
  | .inl q113 =>
  some true
  | .inr r =>
  some r

def m_spec_l24Word_l1 (n : Nat) (word_0 : List UInt8) (x3 : List (List UInt8)) (st16 : Int) : Option (Step (Int) ((Unit) ⊕ (Int))) :=
  if (decide (st16 < (x3.length : Int))) then
  Option.bind (idx x3 st16) fun x34 =>
  if (x34 == word_0) then
  some (.done (.inr st16))
  else
  some (.next (wI64 (st16 + 1)))
  else
  some (.done (.inl ()))

def m_spec_l24Word (n : Nat) (word_0 : List UInt8) : Option (Int) :=
  Option.bind (m_spec_StyleWords n ) fun x3 =>
  Option.bind (loopN (m_spec_l24Word_l1 n word_0 x3) n 0) fun t27 =>
  match t27 with
  | .inl q39 =>
  some (-1)
  | .inr r =>
  some r

def m_spec_l24Count (n : Nat) (kind_0 : Int) (words_1 : Int) : Option (Bool) :=
  Option.bind (if (kind_0 == 0) then
  some (kind_0 == 0)
  else
  some (kind_0 == 2)) fun x7 =>
  if x7 then
  some (words_1 == 3)
  else
  if (kind_0 == 5) then
  Option.bind (if (words_1 == 2) then
  some true
  else
  some (words_1 == 3)) fun x19 =>
  some x19
  else
  some (words_1 == 2)

def m_spec_l01Number_l1 (n : Nat) (x20 : List UInt8) (st43 : Int × Int) : Option (Step (Int × Int) ((Int) ⊕ (Int × Bool))) :=
  if (decide (st43.2 < (x20.length : Int))) then
  Option.bind (idx x20 st43.2) fun x62 =>
  Option.bind (m_spec_l01Digit n (x62.toNat : Int)) fun x64 =>
  if (!x64) then
  some (.done (.inr (0, false)))
  else
  Option.bind (idx x20 st43.2) fun x74 =>
  some (.next ((wI64 ((wI64 (10 * st43.1)) + (wI64 (IntKind.u8.wrap ((x74.toNat : Int) - 48))))), (wI64 (st43.2 + 1))))
  else
  some (.done (.inl st43.1))

def m_spec_l01Number (n : Nat) (s_0 : List UInt8) : Option (Int × Bool) :=
  Option.bind (if (!(s_0 == [])) then
  Option.bind (idx s_0 0) fun x11 =>
  some ((x11.toNat : Int) == 45)
  else
  some false) fun x8 =>
  Option.bind (if x8 then
  Option.bind (sub s_0 1 (s_0.length : Int)) fun x22 =>
  some x22
  else
  some s_0) fun x20 =>
  Option.bind (if (decide ((x20.length : Int) < 1)) then
  some true
  else
  some (decide ((x20.length : Int) > 18))) fun x31 =>
  if x31 then
  some (0, false)
  else
  Option.bind (loopN (m_spec_l01Number_l1 n x20) n (0, 0)) fun t54 =>
  match t54 with
  | .inl q98 =>
  Option.bind (if (decide ((x20.length : Int) < (s_0.length : Int))) then
  some (wI64 (0 - q98))
  else
  some q98) fun x102 =>
  Option.bind (m_spec_l01Dec n x102) fun x110 =>
  if (!(x110 == s_0)) then
  some (0, false)
  else
  some (x102, true)
  | .inr r =>
  some r

def m_spec_l24Number (n : Nat) (word_0 : List UInt8) (low_1 : Int) (high_2 : Int) : Option (Bool) :=
  Option.bind (m_spec_l01Number n word_0) fun x3 =>
  Option.bind (if x3.2 then
  Option.bind (m_spec_l00In n x3.1 low_1 high_2) fun x24 =>
  some x24
  else
  some false) fun x21 =>
  some x21

def m_spec_l24Problem (n : Nat) (w_0 : List (List UInt8)) : Option (Int) :=
  if ((w_0.length : Int) == 0) then
  some 1
  else
  Option.bind (idx w_0 0) fun x7 =>
  Option.bind (m_spec_l24Word n x7) fun x9 =>
  if (decide (x9 < 0)) then
  some 1
  else
  Option.bind (m_spec_l24Count n x9 (w_0.length : Int)) fun x23 =>
  if (!x23) then
  some 2
  else
  Option.bind (if (decide (x9 ≤ 2)) then
  Option.bind (idx w_0 1) fun x72 =>
  Option.bind (m_spec_IsName n x72) fun x74 =>
  if (!x74) then
  some true
  else
  if (x9 == 0) then
  Option.bind (idx w_0 2) fun x84 =>
  Option.bind (m_spec_IsName n x84) fun x86 =>
  some (!x86)
  else
  some false
  else
  if (x9 == 0) then
  Option.bind (idx w_0 2) fun x95 =>
  Option.bind (m_spec_IsName n x95) fun x97 =>
  some (!x97)
  else
  some false) fun x69 =>
  if x69 then
  some 4
  else
  Option.bind (if (x9 == 2) then
  Option.bind (idx w_0 2) fun x516 =>
  Option.bind (m_spec_l24Number n x516 10 300) fun x518 =>
  some x518
  else
  Option.bind (if (x9 == 3) then
  Option.bind (idx w_0 1) fun x720 =>
  Option.bind (m_spec_l24Number n x720 0 1200) fun x722 =>
  some x722
  else
  Option.bind (if (x9 == 4) then
  Option.bind (idx w_0 1) fun x820 =>
  Option.bind (m_spec_l24Number n x820 1 12) fun x822 =>
  some x822
  else
  Option.bind (if (x9 == 5) then
  Option.bind (Option.bind (idx w_0 1) fun x884 =>
  Option.bind (m_spec_l24Number n x884 10 80) fun x886 =>
  if x886 then
  if ((w_0.length : Int) == 2) then
  some true
  else
  Option.bind (idx w_0 2) fun x896 =>
  some (x896 == [100, 111, 117, 98, 108, 101])
  else
  some false) fun x882 =>
  some x882
  else
  some true) fun x866 =>
  some x866) fun x818 =>
  some x818) fun x718 =>
  some x718) fun x514 =>
  if (!x514) then
  some 3
  else
  some 0

def m_spec_l01Split_l1 (n : Nat) (s_0 : List UInt8) (by_1 : Int) (st15 : List (List UInt8) × Int × Int) : Option (Step (List (List UInt8) × Int × Int) (List (List UInt8) × Int)) :=
  if (decide (st15.2.2 < (s_0.length : Int))) then
  Option.bind (idx s_0 st15.2.2) fun x36 =>
  Option.bind (if ((x36.toNat : Int) == by_1) then
  Option.bind (sub s_0 st15.2.1 st15.2.2) fun x66 =>
  Option.bind (app st15.1 ([x66] : List (List UInt8))) fun x77 =>
  some (x77, (wI64 (st15.2.2 + 1)))
  else
  some (st15.1, st15.2.1)) fun x60 =>
  some (.next (x60.1, x60.2, (wI64 (st15.2.2 + 1))))
  else
  some (.done (st15.1, st15.2.1))

def m_spec_l01Split (n : Nat) (s_0 : List UInt8) (by_1 : Int) : Option (List (List UInt8)) :=
  Option.bind (loopN (m_spec_l01Split_l1 n s_0 by_1) n (([] : List (List UInt8)), 0, 0)) fun q111 =>
  Option.bind (sub s_0 q111.2 (s_0.length : Int)) fun x116 =>
  Option.bind (app q111.1 ([x116] : List (List UInt8))) fun x127 =>
  some x127

def m_spec_SplitWords_l1 (n : Nat) (x3 : List (List UInt8)) (st26 : List (List UInt8) × Int) : Option (Step (List (List UInt8) × Int) (List (List UInt8))) :=
  if (decide (st26.2 < (x3.length : Int))) then
  Option.bind (idx x3 st26.2) fun x47 =>
  Option.bind (if (!(x47 == [])) then
  Option.bind (idx x3 st26.2) fun x75 =>
  Option.bind (app st26.1 ([x75] : List (List UInt8))) fun x86 =>
  some x86
  else
  some st26.1) fun x70 =>
  some (.next (x70, (wI64 (st26.2 + 1))))
  else
  some (.done st26.1)

def m_spec_SplitWords (n : Nat) (s_0 : List UInt8) : Option (List (List UInt8)) :=
  Option.bind (m_spec_l01Split n s_0 32) fun x3 =>
  Option.bind (loopN (m_spec_SplitWords_l1 n x3) n (([] : List (List UInt8)), 0)) fun q100 =>
  some q100

def m_spec_l24Ok_l1 (n : Nat) (x3 : List (List UInt8)) (st16 : Int) : Option (Step (Int) ((Unit) ⊕ (Bool))) :=
  if (decide (st16 < (x3.length : Int))) then
  Option.bind (Option.bind (idx x3 st16) fun x60 =>
  if (!(x60 == [])) then
  Option.bind (idx x3 st16) fun x63 =>
  Option.bind (m_spec_SplitWords n x63) fun x65 =>
  Option.bind (m_spec_l24Problem n x65) fun x76 =>
  some (x76 != 0)
  else
  some false) fun x58 =>
  if x58 then
  some (.done (.inr false))
  else
  some (.next (wI64 (st16 + 1)))
  else
  some (.done (.inl ()))

def m_spec_l24Ok (n : Nat) (x_0 : SStyle) : Option (Bool) :=
  Option.bind (m_spec_l24Texts n x_0) fun x3 =>
  Option.bind (loopN (m_spec_l24Ok_l1 n x3) n 0) fun t27 =>
  match t27 with
  | .inl q169 =>
  Option.bind (Option.bind (m_spec_IsName n x_0.Upper) fun x209 =>
  if x209 then
  Option.bind (m_spec_IsName n x_0.Color) fun x218 =>
  if x218 then
  Option.bind (m_spec_IsName n x_0.Sole) fun x227 =>
  if x227 then
  if (x_0.Lining == []) then
  some true
  else
  Option.bind (m_spec_IsName n x_0.Lining) fun x237 =>
  some x237
  else
  some false
  else
  some false
  else
  some false) fun x207 =>
  some x207
  | .inr r =>
  some r

def m_spec_ValidStyle (n : Nat) (x_0 : SStyle) : Option (Bool) :=
  Option.bind (m_spec_l24Ok n x_0) fun x11 =>
  some x11

def m_laws_toStyle (n : Nat) (a_0 : SStyle) : Option (SStyle) :=
  some a_0

def m_impl_IsName_l1 (n : Nat) (s_0 : List UInt8) (st28 : Int) : Option (Step (Int) ((Unit) ⊕ (Bool))) :=
  if (decide (st28 < (s_0.length : Int))) then
  Option.bind (Option.bind (idx s_0 st28) fun x74 =>
  if (decide ((x74.toNat : Int) < 97)) then
  Option.bind (idx s_0 st28) fun x77 =>
  if (decide ((x77.toNat : Int) < 48)) then
  Option.bind (idx s_0 st28) fun x80 =>
  some ((x80.toNat : Int) != 45)
  else
  Option.bind (idx s_0 st28) fun x82 =>
  if (decide ((x82.toNat : Int) > 57)) then
  Option.bind (idx s_0 st28) fun x85 =>
  some ((x85.toNat : Int) != 45)
  else
  some false
  else
  Option.bind (idx s_0 st28) fun x87 =>
  if (decide ((x87.toNat : Int) > 122)) then
  Option.bind (idx s_0 st28) fun x90 =>
  if (decide ((x90.toNat : Int) < 48)) then
  Option.bind (idx s_0 st28) fun x93 =>
  some ((x93.toNat : Int) != 45)
  else
  Option.bind (idx s_0 st28) fun x95 =>
  if (decide ((x95.toNat : Int) > 57)) then
  Option.bind (idx s_0 st28) fun x98 =>
  some ((x98.toNat : Int) != 45)
  else
  some false
  else
  some false) fun x72 =>
  if x72 then
  some (.done (.inr false))
  else
  some (.next (wI64 (st28 + 1)))
  else
  some (.done (.inl ()))

def m_impl_IsName (n : Nat) (s_0 : List UInt8) : Option (Bool) :=
  Option.bind (if (decide ((s_0.length : Int) < 1)) then
  some true
  else
  if (decide ((s_0.length : Int) > 12)) then
  some true
  else
  Option.bind (idx s_0 0) fun x15 =>
  if (decide ((x15.toNat : Int) < 97)) then
  some true
  else
  Option.bind (idx s_0 0) fun x18 =>
  some (decide ((x18.toNat : Int) > 122))) fun x11 =>
  if x11 then
  some false
  else
  Option.bind (loopN (m_impl_IsName_l1 n s_0) n 1) fun t39 =>
  match t39 with
  | .inl q107 =>
  some true
  | .inr r =>
  some r

def m_impl_ValidStyle (n : Nat) (x_0 : SStyle) : Option (Bool) :=
  Option.bind (Option.bind (m_impl_IsName n x_0.Upper) fun x149 =>
  if x149 then
  Option.bind (m_impl_IsName n x_0.Color) fun x158 =>
  if x158 then
  if (x_0.Lining == []) then
  Option.bind (m_impl_IsName n x_0.Sole) fun x168 =>
  if x168 then
  Option.bind (m_impl_within n x_0.Thick 10 300) fun x177 =>
  if x177 then
  Option.bind (m_impl_within n x_0.Heel 0 1200) fun x186 =>
  if x186 then
  Option.bind (m_impl_within n x_0.Eyelets 0 12) fun x195 =>
  if x195 then
  if (x_0.Density == 0) then
  if (!x_0.Double) then
  some true
  else
  Option.bind (m_impl_within n x_0.Density 10 80) fun x206 =>
  some x206
  else
  Option.bind (m_impl_within n x_0.Density 10 80) fun x214 =>
  some x214
  else
  some false
  else
  some false
  else
  some false
  else
  some false
  else
  Option.bind (m_impl_IsName n x_0.Lining) fun x222 =>
  if x222 then
  Option.bind (m_impl_IsName n x_0.Sole) fun x231 =>
  if x231 then
  Option.bind (m_impl_within n x_0.Thick 10 300) fun x240 =>
  if x240 then
  Option.bind (m_impl_within n x_0.Heel 0 1200) fun x249 =>
  if x249 then
  Option.bind (m_impl_within n x_0.Eyelets 0 12) fun x258 =>
  if x258 then
  if (x_0.Density == 0) then
  if (!x_0.Double) then
  some true
  else
  Option.bind (m_impl_within n x_0.Density 10 80) fun x269 =>
  some x269
  else
  Option.bind (m_impl_within n x_0.Density 10 80) fun x277 =>
  some x277
  else
  some false
  else
  some false
  else
  some false
  else
  some false
  else
  some false
  else
  some false
  else
  some false) fun x147 =>
  some x147

def m_laws_FnExactValidStyle (n : Nat) (aX_0 : SStyle) : Option (Bool) :=
  Option.bind (m_laws_szStyle n aX_0 1048576) fun x12 =>
  if (decide (x12 < 0)) then
  some true
  else
  Option.bind (m_laws_toStyle n aX_0) fun x25 =>
  Option.bind (m_spec_ValidStyle n x25) fun x33 =>
  Option.bind (m_laws_toStyle n aX_0) fun x42 =>
  Option.bind (m_impl_ValidStyle n x42) fun x50 =>
  if (!(x50 == x33)) then
  some false
  else
  some true

end Go.Gv
