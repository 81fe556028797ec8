/- What each function computes, as a Lean function that may fail. -/
import Derived.Test.YtkjjjbfpecmieaaDoorMh
namespace Go.Gv
open Go Go.RowKit

def m_spec_l01Split_l1 (n : Nat) (s_0 : List UInt8) (by_1 : Int) (st15 : List (List UInt8) × Int × Int) : Option (Step (List (List UInt8) × Int × Int) (List (List UInt8) × Int)) :=
  if (decide (st15.2.2 < (s_0.length : Int))) then
  Option.bind (idx s_0 st15.2.2) fun x36 =>
  Option.bind (if ((x36.toNat : Int) == by_1) then
  Option.bind (sub s_0 st15.2.1 st15.2.2) fun x66 =>
  Option.bind (app st15.1 ([x66] : List (List UInt8))) fun x77 =>
  some (x77, (wI64 (st15.2.2 + 1)))
  else
  some (st15.1, st15.2.1)) fun x60 =>
  some (.next (x60.1, x60.2, (wI64 (st15.2.2 + 1))))
  else
  some (.done (st15.1, st15.2.1))

def m_spec_l01Split (n : Nat) (s_0 : List UInt8) (by_1 : Int) : Option (List (List UInt8)) :=
  Option.bind (loopN (m_spec_l01Split_l1 n s_0 by_1) n (([] : List (List UInt8)), 0, 0)) fun q111 =>
  Option.bind (sub s_0 q111.2 (s_0.length : Int)) fun x116 =>
  Option.bind (app q111.1 ([x116] : List (List UInt8))) fun x127 =>
  some x127

def m_spec_l24Read (n : Nat) (s_0 : List UInt8) : Option (List (List UInt8) × Bool) :=
  if (decide ((s_0.length : Int) > 300)) then
  some (([] : List (List UInt8)), false)
  else
  Option.bind (m_spec_l01Split n s_0 59) fun x9 =>
  some (x9, (decide ((x9.length : Int) ≤ 12)))

def m_spec_ClausesOf (n : Nat) (s_0 : List UInt8) : Option (List (List UInt8) × Int) :=
  Option.bind (m_spec_l24Read n s_0) fun x3 =>
  if (!x3.2) then
  some (([] : List (List UInt8)), 5)
  else
  some (x3.1, 0)

def m_impl_clausesOf (n : Nat) (s_0 : List UInt8) : Option (List (List UInt8) × Bool) :=
  if (decide ((s_0.length : Int) > 300)) then
  some (([] : List (List UInt8)), false)
  else
  Option.bind (m_strings_Split n s_0 [59]) fun x9 =>
  some (x9, (decide ((x9.length : Int) ≤ 12)))

def m_impl_ClausesOf (n : Nat) (s_0 : List UInt8) : Option (List (List UInt8) × Int) :=
  Option.bind (m_impl_clausesOf n s_0) fun x3 =>
  if (!x3.2) then
  some (([] : List (List UInt8)), 5)
  else
  some (x3.1, 0)

def m_laws_eqStringS_l1 (n : Nat) (a_0 : List (List UInt8)) (b_1 : List (List UInt8)) (st8 : Int) : Option (Step (Int) ((Unit) ⊕ (Bool))) :=
  if (decide (st8 < (a_0.length : Int))) then
  Option.bind (idx a_0 st8) fun x26 =>
  Option.bind (idx b_1 st8) fun x28 =>
  if (!(x26 == x28)) then
  some (.done (.inr false))
  else
  some (.next (wI64 (st8 + 1)))
  else
  some (.done (.inl ()))

def m_laws_eqStringS (n : Nat) (a_0 : List (List UInt8)) (b_1 : List (List UInt8)) : Option (Bool) :=
  if ((a_0.length : Int) != (b_1.length : Int)) then
  some false
  else
  Option.bind (loopN (m_laws_eqStringS_l1 n a_0 b_1) n 0) fun t19 =>
  match t19 with
  | .inl q38 =>
  some true
  | .inr r =>
  some r

def m_laws_markText_l1 (n : Nat)  (st8 : Int × List UInt8) : Option (Step (Int × List UInt8) (List UInt8)) :=
  if (decide (st8.1 > 0)) then
  Option.bind (app (ofBytes ([(IntKind.u8.wrap (wI64 (48 + (Int.tmod st8.1 10))))] : List Int)) st8.2) fun x34 =>
  some (.next ((wI64 (Int.tdiv st8.1 10)), x34))
  else
  some (.done st8.2)

def m_laws_markText (n : Nat) (k_0 : Int) : Option (List UInt8) :=
  if (decide (k_0 ≤ 0)) then
  some [109, 48]
  else
  Option.bind (loopN (m_laws_markText_l1 n) n (k_0, [])) fun q39 =>
  Option.bind (app [109] q39) fun x41 =>
  some x41

def m_laws_markStringS_l1 (n : Nat)  (st39 : Int × Int × List (List UInt8)) : Option (Step (Int × Int × List (List UInt8)) (Int × List (List UInt8))) :=
  if (decide (st39.2.1 < (st39.2.2.length : Int))) then
  Option.bind (m_laws_markText n st39.1) fun x58 =>
  Option.bind (idx st39.2.2 st39.2.1) fun x66 =>
  some (.next ((wI64 (st39.1 + 1)), (wI64 (st39.2.1 + 1)), (st39.2.2.set (Int.toNat st39.2.1) x58)))
  else
  some (.done (st39.1, st39.2.2))

def m_laws_markStringS (n : Nat) (a_0 : List (List UInt8)) (k_1 : Int) : Option (Int × List (List UInt8)) :=
  Option.bind (loopN (m_laws_markStringS_l1 n) n (k_1, 0, a_0)) fun q75 =>
  some (q75.1, q75.2)

def m_laws_heldStringS_l1 (n : Nat) (a_0 : List (List UInt8)) (st4 : Int × Int) : Option (Step (Int × Int) ((Int) ⊕ (Int))) :=
  if (decide (st4.2 < (a_0.length : Int))) then
  Option.bind (idx a_0 st4.2) fun x23 =>
  Option.bind (m_laws_markText n st4.1) fun x25 =>
  if (!(x23 == x25)) then
  some (.done (.inr (-1)))
  else
  some (.next ((wI64 (st4.1 + 1)), (wI64 (st4.2 + 1))))
  else
  some (.done (.inl st4.1))

def m_laws_heldStringS (n : Nat) (a_0 : List (List UInt8)) (k_1 : Int) : Option (Int) :=
  Option.bind (loopN (m_laws_heldStringS_l1 n a_0) n (k_1, 0)) fun t15 =>
  match t15 with
  | .inl q37 =>
  some q37
  | .inr r =>
  some r

def m_laws_FnExactClausesOf (n : Nat) (aS_0 : List UInt8) : Option (Bool) :=
  if (decide ((aS_0.length : Int) > 1048576)) then
  some true
  else
  Option.bind (m_spec_ClausesOf n aS_0) fun x7 =>
  Option.bind (m_impl_ClausesOf n aS_0) fun x19 =>
  Option.bind (Option.bind (m_laws_eqStringS n x19.1 x7.1) fun x43 =>
  if (!x43) then
  some true
  else
  some (x19.2 != x7.2)) fun x41 =>
  if x41 then
  some false
  else
  Option.bind (m_laws_markStringS n x19.1 1) fun x60 =>
  Option.bind (m_laws_heldStringS n x60.2 1) fun x72 =>
  if (decide (x72 < 0)) then
  some false
  else
  if (x72 != x60.1) then
  some false
  else
  Option.bind (m_impl_ClausesOf n aS_0) fun x89 =>
  Option.bind (Option.bind (m_laws_eqStringS n x89.1 x7.1) fun x113 =>
  if (!x113) then
  some true
  else
  some (x89.2 != x7.2)) fun x111 =>
  if x111 then
  some false
  else
  Option.bind (m_laws_heldStringS n x60.2 1) fun x130 =>
  if (decide (x130 < 0)) then
  some false
  else
  if (x130 != x60.1) then
  some false
  else
  some true

def m_laws_szStyle (n : Nat) (a_0 : SStyle) (left_1 : Int) : Option (Int) :=
  if (decide ((wI64 (left_1 - (a_0.Upper.length : Int))) < 0)) then
  some (-1)
  else
  if (decide ((wI64 ((wI64 (left_1 - (a_0.Upper.length : Int))) - (a_0.Color.length : Int))) < 0)) then
  some (-1)
  else
  if (decide ((wI64 ((wI64 ((wI64 (left_1 - (a_0.Upper.length : Int))) - (a_0.Color.length : Int))) - (a_0.Lining.length : Int))) < 0)) then
  some (-1)
  else
  if (decide ((wI64 ((wI64 ((wI64 ((wI64 (left_1 - (a_0.Upper.length : Int))) - (a_0.Color.length : Int))) - (a_0.Lining.length : Int))) - (a_0.Sole.length : Int))) < 0)) then
  some (-1)
  else
  some (wI64 ((wI64 ((wI64 ((wI64 (left_1 - (a_0.Upper.length : Int))) - (a_0.Color.length : Int))) - (a_0.Lining.length : Int))) - (a_0.Sole.length : Int)))

def m_spec_l01Dec_l1 (n : Nat)  (st14 : List Int × Int) : Option (Step (List Int × Int) (List Int)) :=
  if (st14.2 != 0) then
  Option.bind (if (decide ((Int.tmod st14.2 10) < 0)) then
  some (wI64 (0 - (Int.tmod st14.2 10)))
  else
  some (Int.tmod st14.2 10)) fun x38 =>
  Option.bind (app ([(IntKind.u8.wrap (wI64 (48 + x38)))] : List Int) st14.1) fun x53 =>
  some (.next (x53, (wI64 (Int.tdiv st14.2 10))))
  else
  some (.done st14.1)

def m_spec_l01Dec (n : Nat) (n_0 : Int) : Option (List UInt8) :=
  Option.bind (loopN (m_spec_l01Dec_l1 n) n (([] : List Int), n_0)) fun q73 =>
  if ((q73.length : Int) == 0) then
  some [48]
  else
  if (decide (n_0 < 0)) then
  Option.bind (app [45] (ofBytes q73)) fun x85 =>
  some x85
  else
  some (ofBytes q73)

def m_spec_l24Texts (n : Nat) (x_0 : SStyle) : Option (List (List UInt8)) :=
  Option.bind (app [117, 112, 112, 101, 114, 32] x_0.Upper) fun x8 =>
  Option.bind (app x8 [32]) fun x10 =>
  Option.bind (app x10 x_0.Color) fun x12 =>
  Option.bind (app [115, 111, 108, 101, 32] x_0.Sole) fun x14 =>
  Option.bind (app x14 [32]) fun x16 =>
  Option.bind (m_spec_l01Dec n x_0.Thick) fun x18 =>
  Option.bind (app x16 x18) fun x22 =>
  Option.bind (if (!(x_0.Lining == [])) then
  Option.bind (app [108, 105, 110, 105, 110, 103, 32] x_0.Lining) fun x72 =>
  Option.bind (idx ([x12, [], x22, [], [], []] : List (List UInt8)) 1) fun x74 =>
  some (([x12, [], x22, [], [], []] : List (List UInt8)).set (Int.toNat 1) x72)
  else
  some ([x12, [], x22, [], [], []] : List (List UInt8))) fun x70 =>
  Option.bind (if (x_0.Heel != 0) then
  Option.bind (m_spec_l01Dec n x_0.Heel) fun x143 =>
  Option.bind (app [104, 101, 101, 108, 32] x143) fun x151 =>
  Option.bind (idx x70 3) fun x153 =>
  some (x70.set (Int.toNat 3) x151)
  else
  some x70) fun x141 =>
  Option.bind (if (x_0.Eyelets != 0) then
  Option.bind (m_spec_l01Dec n x_0.Eyelets) fun x222 =>
  Option.bind (app [101, 121, 101, 108, 101, 116, 115, 32] x222) fun x230 =>
  Option.bind (idx x141 4) fun x232 =>
  some (x141.set (Int.toNat 4) x230)
  else
  some x141) fun x220 =>
  Option.bind (if (x_0.Density != 0) then
  some true
  else
  some x_0.Double) fun x246 =>
  Option.bind (if x246 then
  Option.bind (m_spec_l01Dec n x_0.Density) fun x309 =>
  Option.bind (app [115, 116, 105, 116, 99, 104, 32] x309) fun x317 =>
  Option.bind (idx x220 5) fun x319 =>
  some (x220.set (Int.toNat 5) x317)
  else
  some x220) fun x307 =>
  Option.bind (if x_0.Double then
  Option.bind (idx x307 5) fun x370 =>
  Option.bind (app x370 [32, 100, 111, 117, 98, 108, 101]) fun x372 =>
  Option.bind (idx x307 5) fun x374 =>
  some (x307.set (Int.toNat 5) x372)
  else
  some x307) fun x368 =>
  some x368

def m_spec_l01Small (n : Nat) (c_0 : Int) : Option (Bool) :=
  Option.bind (if (decide (c_0 ≥ 97)) then
  some (decide (c_0 ≤ 122))
  else
  some false) fun x4 =>
  some x4

def m_spec_l01Digit (n : Nat) (c_0 : Int) : Option (Bool) :=
  Option.bind (if (decide (c_0 ≥ 48)) then
  some (decide (c_0 ≤ 57))
  else
  some false) fun x4 =>
  some x4

def m_spec_IsName_l1 (n : Nat) (s_0 : List UInt8) (st38 : Int) : Option (Step (Int) ((Unit) ⊕ (Bool))) :=
  if (decide (st38 < (s_0.length : Int))) then
  Option.bind (Option.bind (idx s_0 st38) fun x82 =>
  Option.bind (m_spec_l01Small n (x82.toNat : Int)) fun x84 =>
  if (!x84) then
  Option.bind (idx s_0 st38) fun x93 =>
  Option.bind (m_spec_l01Digit n (x93.toNat : Int)) fun x95 =>
  if (!x95) then
  Option.bind (idx s_0 st38) fun x104 =>
  some ((x104.toNat : Int) != 45)
  else
  some false
  else
  some false) fun x80 =>
  if x80 then
  some (.done (.inr false))
  else
  some (.next (wI64 (st38 + 1)))
  else
  some (.done (.inl ()))

def m_spec_IsName (n : Nat) (s_0 : List UInt8) : Option (Bool) :=
  Option.bind (if (s_0 == []) then
  some true
  else
  if (decide ((s_0.length : Int) > 12)) then
  some true
  else
  Option.bind (idx s_0 0) fun x20 =>
  Option.bind (m_spec_l01Small n (x20.toNat : Int)) fun x22 =>
  some (!x22)) fun x16 =>
  if x16 then
  some false
  else
  Option.bind (loopN (m_spec_IsName_l1 n s_0) n 0) fun t49 =>
  match t49 with
  | .inl q113 =>
  some true
  | .inr r =>
  some r

def m_spec_StyleWords (n : Nat)  : Option (List (List UInt8)) :=
  some ([[117, 112, 112, 101, 114], [108, 105, 110, 105, 110, 103], [115, 111, 108, 101], [104, 101, 101, 108], [101, 121, 101, 108, 101, 116, 115], [115, 116, 105, 116, 99, 104]] : List (List UInt8))

def m_spec_l24Word_l1 (n : Nat) (word_0 : List UInt8) (x3 : List (List UInt8)) (st16 : Int) : Option (Step (Int) ((Unit) ⊕ (Int))) :=
  if (decide (st16 < (x3.length : Int))) then
  Option.bind (idx x3 st16) fun x34 =>
  if (x34 == word_0) then
  some (.done (.inr st16))
  else
  some (.next (wI64 (st16 + 1)))
  else
  some (.done (.inl ()))

def m_spec_l24Word (n : Nat) (word_0 : List UInt8) : Option (Int) :=
  Option.bind (m_spec_StyleWords n ) fun x3 =>
  Option.bind (loopN (m_spec_l24Word_l1 n word_0 x3) n 0) fun t27 =>
  match t27 with
  | .inl q39 =>
  some (-1)
  | .inr r =>
  some r

def m_spec_l24Count (n : Nat) (kind_0 : Int) (words_1 : Int) : Option (Bool) :=
  Option.bind (if (kind_0 == 0) then
  some (kind_0 == 0)
  else
  some (kind_0 == 2)) fun x7 =>
  if x7 then
  some (words_1 == 3)
  else
  if (kind_0 == 5) then
  Option.bind (if (words_1 == 2) then
  some true
  else
  some (words_1 == 3)) fun x19 =>
  some x19
  else
  some (words_1 == 2)

def m_spec_l01Number_l1 (n : Nat) (x20 : List UInt8) (st43 : Int × Int) : Option (Step (Int × Int) ((Int) ⊕ (Int × Bool))) :=
  if (decide (st43.2 < (x20.length : Int))) then
  Option.bind (idx x20 st43.2) fun x62 =>
  Option.bind (m_spec_l01Digit n (x62.toNat : Int)) fun x64 =>
  if (!x64) then
  some (.done (.inr (0, false)))
  else
  Option.bind (idx x20 st43.2) fun x74 =>
  some (.next ((wI64 ((wI64 (10 * st43.1)) + (wI64 (IntKind.u8.wrap ((x74.toNat : Int) - 48))))), (wI64 (st43.2 + 1))))
  else
  some (.done (.inl st43.1))

def m_spec_l01Number (n : Nat) (s_0 : List UInt8) : Option (Int × Bool) :=
  Option.bind (if (!(s_0 == [])) then
  Option.bind (idx s_0 0) fun x11 =>
  some ((x11.toNat : Int) == 45)
  else
  some false) fun x8 =>
  Option.bind (if x8 then
  Option.bind (sub s_0 1 (s_0.length : Int)) fun x22 =>
  some x22
  else
  some s_0) fun x20 =>
  Option.bind (if (decide ((x20.length : Int) < 1)) then
  some true
  else
  some (decide ((x20.length : Int) > 18))) fun x31 =>
  if x31 then
  some (0, false)
  else
  Option.bind (loopN (m_spec_l01Number_l1 n x20) n (0, 0)) fun t54 =>
  match t54 with
  | .inl q98 =>
  Option.bind (if (decide ((x20.length : Int) < (s_0.length : Int))) then
  some (wI64 (0 - q98))
  else
  some q98) fun x102 =>
  Option.bind (m_spec_l01Dec n x102) fun x110 =>
  if (!(x110 == s_0)) then
  some (0, false)
  else
  some (x102, true)
  | .inr r =>
  some r

def m_spec_l00In (n : Nat) (n_0 : Int) (low_1 : Int) (high_2 : Int) : Option (Bool) :=
  Option.bind (if (decide (n_0 ≥ low_1)) then
  some (decide (n_0 ≤ high_2))
  else
  some false) fun x4 =>
  some x4

def m_spec_l24Number (n : Nat) (word_0 : List UInt8) (low_1 : Int) (high_2 : Int) : Option (Bool) :=
  Option.bind (m_spec_l01Number n word_0) fun x3 =>
  Option.bind (if x3.2 then
  Option.bind (m_spec_l00In n x3.1 low_1 high_2) fun x24 =>
  some x24
  else
  some false) fun x21 =>
  some x21

def m_spec_l24Problem (n : Nat) (w_0 : List (List UInt8)) : Option (Int) :=
  if ((w_0.length : Int) == 0) then
  some 1
  else
  Option.bind (idx w_0 0) fun x7 =>
  Option.bind (m_spec_l24Word n x7) fun x9 =>
  if (decide (x9 < 0)) then
  some 1
  else
  Option.bind (m_spec_l24Count n x9 (w_0.length : Int)) fun x23 =>
  if (!x23) then
  some 2
  else
  Option.bind (if (decide (x9 ≤ 2)) then
  Option.bind (idx w_0 1) fun x72 =>
  Option.bind (m_spec_IsName n x72) fun x74 =>
  if (!x74) then
  some true
  else
  if (x9 == 0) then
  Option.bind (idx w_0 2) fun x84 =>
  Option.bind (m_spec_IsName n x84) fun x86 =>
  some (!x86)
  else
  some false
  else
  if (x9 == 0) then
  Option.bind (idx w_0 2) fun x95 =>
  Option.bind (m_spec_IsName n x95) fun x97 =>
  some (!x97)
  else
  some false) fun x69 =>
  if x69 then
  some 4
  else
  Option.bind (if (x9 == 2) then
  Option.bind (idx w_0 2) fun x516 =>
  Option.bind (m_spec_l24Number n x516 10 300) fun x518 =>
  some x518
  else
  Option.bind (if (x9 == 3) then
  Option.bind (idx w_0 1) fun x720 =>
  Option.bind (m_spec_l24Number n x720 0 1200) fun x722 =>
  some x722
  else
  Option.bind (if (x9 == 4) then
  Option.bind (idx w_0 1) fun x820 =>
  Option.bind (m_spec_l24Number n x820 1 12) fun x822 =>
  some x822
  else
  Option.bind (if (x9 == 5) then
  Option.bind (Option.bind (idx w_0 1) fun x884 =>
  Option.bind (m_spec_l24Number n x884 10 80) fun x886 =>
  if x886 then
  if ((w_0.length : Int) == 2) then
  some true
  else
  Option.bind (idx w_0 2) fun x896 =>
  some (x896 == [100, 111, 117, 98, 108, 101])
  else
  some false) fun x882 =>
  some x882
  else
  some true) fun x866 =>
  some x866) fun x818 =>
  some x818) fun x718 =>
  some x718) fun x514 =>
  if (!x514) then
  some 3
  else
  some 0

def m_spec_SplitWords_l1 (n : Nat) (x3 : List (List UInt8)) (st26 : List (List UInt8) × Int) : Option (Step (List (List UInt8) × Int) (List (List UInt8))) :=
  if (decide (st26.2 < (x3.length : Int))) then
  Option.bind (idx x3 st26.2) fun x47 =>
  Option.bind (if (!(x47 == [])) then
  Option.bind (idx x3 st26.2) fun x75 =>
  Option.bind (app st26.1 ([x75] : List (List UInt8))) fun x86 =>
  some x86
  else
  some st26.1) fun x70 =>
  some (.next (x70, (wI64 (st26.2 + 1))))
  else
  some (.done st26.1)

def m_spec_SplitWords (n : Nat) (s_0 : List UInt8) : Option (List (List UInt8)) :=
  Option.bind (m_spec_l01Split n s_0 32) fun x3 =>
  Option.bind (loopN (m_spec_SplitWords_l1 n x3) n (([] : List (List UInt8)), 0)) fun q100 =>
  some q100

def m_spec_l24Ok_l1 (n : Nat) (x3 : List (List UInt8)) (st16 : Int) : Option (Step (Int) ((Unit) ⊕ (Bool))) :=
  if (decide (st16 < (x3.length : Int))) then
  Option.bind (Option.bind (idx x3 st16) fun x60 =>
  if (!(x60 == [])) then
  Option.bind (idx x3 st16) fun x63 =>
  Option.bind (m_spec_SplitWords n x63) fun x65 =>
  Option.bind (m_spec_l24Problem n x65) fun x76 =>
  some (x76 != 0)
  else
  some false) fun x58 =>
  if x58 then
  some (.done (.inr false))
  else
  some (.next (wI64 (st16 + 1)))
  else
  some (.done (.inl ()))

def m_spec_l24Ok (n : Nat) (x_0 : SStyle) : Option (Bool) :=
  Option.bind (m_spec_l24Texts n x_0) fun x3 =>
  Option.bind (loopN (m_spec_l24Ok_l1 n x3) n 0) fun t27 =>
  match t27 with
  | .inl q169 =>
  Option.bind (Option.bind (m_spec_IsName n x_0.Upper) fun x209 =>
  if x209 then
  Option.bind (m_spec_IsName n x_0.Color) fun x218 =>
  if x218 then
  Option.bind (m_spec_IsName n x_0.Sole) fun x227 =>
  if x227 then
  if (x_0.Lining == []) then
  some true
  else
  Option.bind (m_spec_IsName n x_0.Lining) fun x237 =>
  some x237
  else
  some false
  else
  some false
  else
  some false) fun x207 =>
  some x207
  | .inr r =>
  some r

def m_spec_DiffStyles_l1 (n : Nat) (x65 : List (List UInt8)) (x77 : List (List UInt8)) (x89 : List (List UInt8)) (st112 : List (List UInt8) × Int) : Option (Step (List (List UInt8) × Int) (List (List UInt8))) :=
  if (decide (st112.2 < (x89.length : Int))) then
  Option.bind (idx x65 st112.2) fun x133 =>
  Option.bind (idx x77 st112.2) fun x135 =>
  Option.bind (if (!(x133 == x135)) then
  Option.bind (idx x89 st112.2) fun x168 =>
  Option.bind (app st112.1 ([x168] : List (List UInt8))) fun x179 =>
  some x179
  else
  some st112.1) fun x163 =>
  some (.next (x163, (wI64 (st112.2 + 1))))
  else
  some (.done st112.1)

def m_spec_DiffStyles (n : Nat) (a_0 : SStyle) (b_1 : SStyle) : Option (List (List UInt8) × Int) :=
  Option.bind (Option.bind (m_spec_l24Ok n a_0) fun x39 =>
  if (!x39) then
  some true
  else
  Option.bind (m_spec_l24Ok n b_1) fun x48 =>
  some (!x48)) fun x37 =>
  if x37 then
  some (([] : List (List UInt8)), 1)
  else
  Option.bind (m_spec_l24Texts n a_0) fun x65 =>
  Option.bind (m_spec_l24Texts n b_1) fun x77 =>
  Option.bind (m_spec_StyleWords n ) fun x89 =>
  Option.bind (loopN (m_spec_DiffStyles_l1 n x65 x77 x89) n (([] : List (List UInt8)), 0)) fun q193 =>
  some (q193, 0)

def m_laws_toStyle (n : Nat) (a_0 : SStyle) : Option (SStyle) :=
  some a_0

def m_impl_IsName_l1 (n : Nat) (s_0 : List UInt8) (st28 : Int) : Option (Step (Int) ((Unit) ⊕ (Bool))) :=
  if (decide (st28 < (s_0.length : Int))) then
  Option.bind (Option.bind (idx s_0 st28) fun x74 =>
  if (decide ((x74.toNat : Int) < 97)) then
  Option.bind (idx s_0 st28) fun x77 =>
  if (decide ((x77.toNat : Int) < 48)) then
  Option.bind (idx s_0 st28) fun x80 =>
  some ((x80.toNat : Int) != 45)
  else
  Option.bind (idx s_0 st28) fun x82 =>
  if (decide ((x82.toNat : Int) > 57)) then
  Option.bind (idx s_0 st28) fun x85 =>
  some ((x85.toNat : Int) != 45)
  else
  some false
  else
  Option.bind (idx s_0 st28) fun x87 =>
  if (decide ((x87.toNat : Int) > 122)) then
  Option.bind (idx s_0 st28) fun x90 =>
  if (decide ((x90.toNat : Int) < 48)) then
  Option.bind (idx s_0 st28) fun x93 =>
  some ((x93.toNat : Int) != 45)
  else
  Option.bind (idx s_0 st28) fun x95 =>
  if (decide ((x95.toNat : Int) > 57)) then
  Option.bind (idx s_0 st28) fun x98 =>
  some ((x98.toNat : Int) != 45)
  else
  some false
  else
  some false) fun x72 =>
  if x72 then
  some (.done (.inr false))
  else
  some (.next (wI64 (st28 + 1)))
  else
  some (.done (.inl ()))

def m_impl_IsName (n : Nat) (s_0 : List UInt8) : Option (Bool) :=
  Option.bind (if (decide ((s_0.length : Int) < 1)) then
  some true
  else
  if (decide ((s_0.length : Int) > 12)) then
  some true
  else
  Option.bind (idx s_0 0) fun x15 =>
  if (decide ((x15.toNat : Int) < 97)) then
  some true
  else
  Option.bind (idx s_0 0) fun x18 =>
  some (decide ((x18.toNat : Int) > 122))) fun x11 =>
  if x11 then
  some false
  else
  Option.bind (loopN (m_impl_IsName_l1 n s_0) n 1) fun t39 =>
  match t39 with
  | .inl q107 =>
  some true
  | .inr r =>
  some r

def m_impl_within (n : Nat) (n_0 : Int) (low_1 : Int) (high_2 : Int) : Option (Bool) :=
  Option.bind (if (decide (n_0 ≥ low_1)) then
  some (decide (n_0 ≤ high_2))
  else
  some false) fun x4 =>
  some x4

def m_impl_ValidStyle (n : Nat) (x_0 : SStyle) : Option (Bool) :=
  Option.bind (Option.bind (m_impl_IsName n x_0.Upper) fun x149 =>
  if x149 then
  Option.bind (m_impl_IsName n x_0.Color) fun x158 =>
  if x158 then
  if (x_0.Lining == []) then
  Option.bind (m_impl_IsName n x_0.Sole) fun x168 =>
  if x168 then
  Option.bind (m_impl_within n x_0.Thick 10 300) fun x177 =>
  if x177 then
  Option.bind (m_impl_within n x_0.Heel 0 1200) fun x186 =>
  if x186 then
  Option.bind (m_impl_within n x_0.Eyelets 0 12) fun x195 =>
  if x195 then
  if (x_0.Density == 0) then
  if (!x_0.Double) then
  some true
  else
  Option.bind (m_impl_within n x_0.Density 10 80) fun x206 =>
  some x206
  else
  Option.bind (m_impl_within n x_0.Density 10 80) fun x214 =>
  some x214
  else
  some false
  else
  some false
  else
  some false
  else
  some false
  else
  Option.bind (m_impl_IsName n x_0.Lining) fun x222 =>
  if x222 then
  Option.bind (m_impl_IsName n x_0.Sole) fun x231 =>
  if x231 then
  Option.bind (m_impl_within n x_0.Thick 10 300) fun x240 =>
  if x240 then
  Option.bind (m_impl_within n x_0.Heel 0 1200) fun x249 =>
  if x249 then
  Option.bind (m_impl_within n x_0.Eyelets 0 12) fun x258 =>
  if x258 then
  if (x_0.Density == 0) then
  if (!x_0.Double) then
  some true
  else
  Option.bind (m_impl_within n x_0.Density 10 80) fun x269 =>
  some x269
  else
  Option.bind (m_impl_within n x_0.Density 10 80) fun x277 =>
  some x277
  else
  some false
  else
  some false
  else
  some false
  else
  some false
  else
  some false
  else
  some false
  else
  some false) fun x147 =>
  some x147

def m_impl_StyleWords (n : Nat)  : Option (List (List UInt8)) :=
  some ([[117, 112, 112, 101, 114], [108, 105, 110, 105, 110, 103], [115, 111, 108, 101], [104, 101, 101, 108], [101, 121, 101, 108, 101, 116, 115], [115, 116, 105, 116, 99, 104]] : List (List UInt8))

def m_impl_Decimal (n : Nat) (n_0 : Int) : Option (List UInt8) :=
  Option.bind (m_strconv_FormatInt n n_0 10) fun x3 =>
  some x3

def m_impl_Style_clause (n : Nat) (x_0 : SStyle) (word_1 : List UInt8) : Option (List UInt8) :=
  Option.bind (if (word_1 == [117, 112, 112, 101, 114]) then
  Option.bind (app [117, 112, 112, 101, 114, 32] x_0.Upper) fun x2339 =>
  Option.bind (app x2339 [32]) fun x2341 =>
  Option.bind (app x2341 x_0.Color) fun x2343 =>
  some x2343
  else
  Option.bind (if (word_1 == [108, 105, 110, 105, 110, 103]) then
  Option.bind (if (!(x_0.Lining == [])) then
  Option.bind (app [108, 105, 110, 105, 110, 103, 32] x_0.Lining) fun x3509 =>
  some x3509
  else
  some []) fun x3507 =>
  some x3507
  else
  Option.bind (if (word_1 == [115, 111, 108, 101]) then
  Option.bind (app [115, 111, 108, 101, 32] x_0.Sole) fun x4086 =>
  Option.bind (app x4086 [32]) fun x4088 =>
  Option.bind (m_impl_Decimal n x_0.Thick) fun x4090 =>
  Option.bind (app x4088 x4090) fun x4094 =>
  some x4094
  else
  Option.bind (if (word_1 == [104, 101, 101, 108]) then
  Option.bind (if (decide (x_0.Heel > 0)) then
  Option.bind (m_impl_Decimal n x_0.Heel) fun x4391 =>
  Option.bind (app [104, 101, 101, 108, 32] x4391) fun x4399 =>
  some x4399
  else
  some []) fun x4389 =>
  some x4389
  else
  Option.bind (if (word_1 == [101, 121, 101, 108, 101, 116, 115]) then
  Option.bind (if (decide (x_0.Eyelets > 0)) then
  Option.bind (m_impl_Decimal n x_0.Eyelets) fun x4541 =>
  Option.bind (app [101, 121, 101, 108, 101, 116, 115, 32] x4541) fun x4549 =>
  some x4549
  else
  some []) fun x4539 =>
  some x4539
  else
  Option.bind (if (word_1 == [115, 116, 105, 116, 99, 104]) then
  Option.bind (if (decide (x_0.Density > 0)) then
  Option.bind (m_impl_Decimal n x_0.Density) fun x4615 =>
  Option.bind (app [115, 116, 105, 116, 99, 104, 32] x4615) fun x4623 =>
  some x4623
  else
  some []) fun x4613 =>
  Option.bind (if x_0.Double then
  Option.bind (app x4613 [32, 100, 111, 117, 98, 108, 101]) fun x4635 =>
  some x4635
  else
  some x4613) fun x4633 =>
  some x4633
  else
  some []) fun x4598 =>
  some x4598) fun x4525 =>
  some x4525) fun x4375 =>
  some x4375) fun x4084 =>
  some x4084) fun x3501 =>
  some x3501) fun x2337 =>
  some x2337

def m_impl_DiffStyles_1 (n : Nat) (word_0 : List UInt8) (cap_1 : SStyle) (cap_2 : SStyle) : Option (Bool) :=
  Option.bind (m_impl_Style_clause n cap_1 word_0) fun x3 =>
  Option.bind (m_impl_Style_clause n cap_2 word_0) fun x7 =>
  some (x3 == x7)

def m_slices_IndexFunc_string_string_f36_l1 (n : Nat) (s_0 : List (List UInt8)) (cap_1_0 : SStyle) (cap_1_1 : SStyle) (st4 : Int) : Option (Step (Int) ((Unit) ⊕ (Int))) :=
  if (decide (st4 < (s_0.length : Int))) then
  Option.bind (idx s_0 st4) fun x23 =>
  Option.bind (m_impl_DiffStyles_1 n x23 cap_1_0 cap_1_1) fun x25 =>
  if x25 then
  some (.done (.inr st4))
  else
  some (.next (wI64 (st4 + 1)))
  else
  some (.done (.inl ()))

def m_slices_IndexFunc_string_string_f36 (n : Nat) (s_0 : List (List UInt8)) (cap_1_0 : SStyle) (cap_1_1 : SStyle) : Option (Int) :=
  Option.bind (loopN (m_slices_IndexFunc_string_string_f36_l1 n s_0 cap_1_0 cap_1_1) n 0) fun t15 =>
  match t15 with
  | .inl q36 =>
  some (-1)
  | .inr r =>
  some r

def m_slices_DeleteFunc_string_string_f36_o1_l1 (n : Nat) (cap_1_0 : SStyle) (cap_1_1 : SStyle) (st101 : Int × Int × List (List UInt8)) : Option (Step (Int × Int × List (List UInt8)) (Int × List (List UInt8))) :=
  if (decide (st101.2.1 < (st101.2.2.length : Int))) then
  Option.bind (idx st101.2.2 st101.2.1) fun x119 =>
  Option.bind (m_impl_DiffStyles_1 n x119 cap_1_0 cap_1_1) fun x122 =>
  Option.bind (if (!x122) then
  Option.bind (idx st101.2.2 st101.1) fun x160 =>
  some ((wI64 (st101.1 + 1)), (st101.2.2.set (Int.toNat st101.1) x119))
  else
  some (st101.1, st101.2.2)) fun x157 =>
  some (.next (x157.1, (wI64 (st101.2.1 + 1)), x157.2))
  else
  some (.done (st101.1, st101.2.2))

def m_slices_DeleteFunc_string_string_f36_o1 (n : Nat) (s_0 : List (List UInt8)) (cap_1_0 : SStyle) (cap_1_1 : SStyle) : Option (List (List UInt8)) :=
  Option.bind (m_slices_IndexFunc_string_string_f36 n s_0 cap_1_0 cap_1_1) fun x3 =>
  if (x3 == (-1)) then
  some s_0
  else
  Option.bind (loopN (m_slices_DeleteFunc_string_string_f36_o1_l1 n cap_1_0 cap_1_1) n (x3, (wI64 (x3 + 1)), s_0)) fun q185 =>
  Option.bind (sub q185.2 q185.1 (q185.2.length : Int)) fun x187 =>
  Option.bind (sub (q185.2.take (Int.toNat q185.1) ++ List.replicate (q185.2.length - Int.toNat q185.1) []) 0 q185.1) fun x197 =>
  some x197

def m_impl_DiffStyles (n : Nat) (a_0 : SStyle) (b_1 : SStyle) : Option (List (List UInt8) × Int) :=
  Option.bind (Option.bind (m_impl_ValidStyle n a_0) fun x39 =>
  if (!x39) then
  some true
  else
  Option.bind (m_impl_ValidStyle n b_1) fun x48 =>
  some (!x48)) fun x37 =>
  if x37 then
  some (([] : List (List UInt8)), 1)
  else
  Option.bind (m_impl_StyleWords n ) fun x65 =>
  Option.bind (m_slices_DeleteFunc_string_string_f36_o1 n x65 a_0 b_1) fun x76 =>
  some (x76, 0)

def m_laws_FnExactDiffStyles (n : Nat) (aA_0 : SStyle) (aB_1 : SStyle) : Option (Bool) :=
  Option.bind (m_laws_szStyle n aA_0 1048576) fun x20 =>
  if (decide (x20 < 0)) then
  some true
  else
  Option.bind (m_laws_szStyle n aB_1 x20) fun x33 =>
  if (decide (x33 < 0)) then
  some true
  else
  Option.bind (m_laws_toStyle n aA_0) fun x51 =>
  Option.bind (m_laws_toStyle n aB_1) fun x55 =>
  Option.bind (m_spec_DiffStyles n x51 x55) fun x64 =>
  Option.bind (m_laws_toStyle n aA_0) fun x86 =>
  Option.bind (m_laws_toStyle n aB_1) fun x90 =>
  Option.bind (m_impl_DiffStyles n x86 x90) fun x99 =>
  Option.bind (Option.bind (m_laws_eqStringS n x99.1 x64.1) fun x128 =>
  if (!x128) then
  some true
  else
  some (x99.2 != x64.2)) fun x126 =>
  if x126 then
  some false
  else
  Option.bind (m_laws_markStringS n x99.1 1) fun x145 =>
  Option.bind (m_laws_heldStringS n x145.2 1) fun x157 =>
  if (decide (x157 < 0)) then
  some false
  else
  if (x157 != x145.1) then
  some false
  else
  Option.bind (m_laws_toStyle n aA_0) fun x179 =>
  Option.bind (m_laws_toStyle n aB_1) fun x183 =>
  Option.bind (m_impl_DiffStyles n x179 x183) fun x192 =>
  Option.bind (Option.bind (m_laws_eqStringS n x192.1 x64.1) fun x221 =>
  if (!x221) then
  some true
  else
  some (x192.2 != x64.2)) fun x219 =>
  if x219 then
  some false
  else
  Option.bind (m_laws_heldStringS n x145.2 1) fun x238 =>
  if (decide (x238 < 0)) then
  some false
  else
  if (x238 != x145.1) then
  some false
  else
  some true

def m_spec_l24Text_l1 (n : Nat) (x3 : List (List UInt8)) (st17 : List UInt8 × Int) : Option (Step (List UInt8 × Int) (List UInt8)) :=
  if (decide (st17.2 < (x3.length : Int))) then
  Option.bind (idx x3 st17.2) fun x36 =>
  if (x36 == []) then
  some (.next (st17.1, (wI64 (st17.2 + 1))))
  else
  Option.bind (if (!(st17.1 == [])) then
  Option.bind (app st17.1 [59, 32]) fun x46 =>
  some x46
  else
  some st17.1) fun x44 =>
  Option.bind (idx x3 st17.2) fun x52 =>
  Option.bind (app x44 x52) fun x54 =>
  some (.next (x54, (wI64 (st17.2 + 1))))
  else
  some (.done st17.1)

def m_spec_l24Text (n : Nat) (x_0 : SStyle) : Option (List UInt8) :=
  Option.bind (m_spec_l24Texts n x_0) fun x3 =>
  Option.bind (loopN (m_spec_l24Text_l1 n x3) n ([], 0)) fun q57 =>
  some q57

def m_spec_StyleText (n : Nat) (x_0 : SStyle) : Option (List UInt8) :=
  Option.bind (m_spec_l24Ok n x_0) fun x12 =>
  if (!x12) then
  some []
  else
  Option.bind (m_spec_l24Text n x_0) fun x23 =>
  some x23

def m_impl_StyleText_l1 (n : Nat) (x_0 : SStyle) (x34 : List (List UInt8)) (st45 : List (List UInt8) × Int) : Option (Step (List (List UInt8) × Int) (List (List UInt8))) :=
  if (decide (st45.2 < (x34.length : Int))) then
  Option.bind (idx x34 st45.2) fun x66 =>
  Option.bind (m_impl_Style_clause n x_0 x66) fun x69 =>
  Option.bind (if (!(x69 == [])) then
  Option.bind (app st45.1 ([x69] : List (List UInt8))) fun x111 =>
  some x111
  else
  some st45.1) fun x97 =>
  some (.next (x97, (wI64 (st45.2 + 1))))
  else
  some (.done st45.1)

def m_impl_StyleText (n : Nat) (x_0 : SStyle) : Option (List UInt8) :=
  Option.bind (m_impl_ValidStyle n x_0) fun x12 =>
  if (!x12) then
  some []
  else
  Option.bind (m_impl_StyleWords n ) fun x34 =>
  Option.bind (loopN (m_impl_StyleText_l1 n x_0 x34) n (([] : List (List UInt8)), 0)) fun q133 =>
  Option.bind (m_strings_Join n q133 [59, 32]) fun x138 =>
  some x138

def m_laws_FnExactStyleText (n : Nat) (aX_0 : SStyle) : Option (Bool) :=
  Option.bind (m_laws_szStyle n aX_0 1048576) fun x12 =>
  if (decide (x12 < 0)) then
  some true
  else
  Option.bind (m_laws_toStyle n aX_0) fun x25 =>
  Option.bind (m_spec_StyleText n x25) fun x33 =>
  Option.bind (m_laws_toStyle n aX_0) fun x42 =>
  Option.bind (m_impl_StyleText n x42) fun x50 =>
  if (!(x50 == x33)) then
  some false
  else
  some true

def m_spec_l24Set (n : Nat) (x_0_Upper : List UInt8) (x_0_Color : List UInt8) (x_0_Lining : List UInt8) (x_0_Sole : List UInt8) (x_0_Thick : Int) (x_0_Heel : Int) (x_0_Eyelets : Int) (x_0_Density : Int) (x_0_Double : Bool) (w_1 : List (List UInt8)) : Option (List UInt8 × List UInt8 × List UInt8 × List UInt8 × Int × Int × Int × Int × Bool) :=
  Option.bind (idx w_1 0) fun x2 =>
  Option.bind (m_spec_l24Word n x2) fun x4 =>
  Option.bind (if (x4 == 0) then
  Option.bind (idx w_1 1) fun x94474 =>
  Option.bind (idx w_1 2) fun x94481 =>
  some (x94474, x94481, x_0_Lining, x_0_Sole, x_0_Thick, x_0_Heel, x_0_Eyelets, x_0_Density, x_0_Double)
  else
  Option.bind (if (x4 == 1) then
  Option.bind (idx w_1 1) fun x118089 =>
  some (x118089, x_0_Sole, x_0_Thick, x_0_Heel, x_0_Eyelets, x_0_Density, x_0_Double)
  else
  Option.bind (if (x4 == 2) then
  Option.bind (idx w_1 1) fun x123989 =>
  Option.bind (idx w_1 2) fun x123997 =>
  Option.bind (m_spec_l01Number n x123997) fun x123999 =>
  some (x123989, x123999.1, x_0_Heel, x_0_Eyelets, x_0_Density, x_0_Double)
  else
  Option.bind (if (x4 == 3) then
  Option.bind (idx w_1 1) fun x125465 =>
  Option.bind (m_spec_l01Number n x125465) fun x125467 =>
  some (x125467.1, x_0_Eyelets, x_0_Density, x_0_Double)
  else
  Option.bind (if (x4 == 4) then
  Option.bind (idx w_1 1) fun x125829 =>
  Option.bind (m_spec_l01Number n x125829) fun x125831 =>
  some (x125831.1, x_0_Density, x_0_Double)
  else
  Option.bind (if (x4 == 5) then
  Option.bind (idx w_1 1) fun x125917 =>
  Option.bind (m_spec_l01Number n x125917) fun x125919 =>
  some (x125919.1, ((w_1.length : Int) == 3))
  else
  some (x_0_Density, x_0_Double)) fun x125914 =>
  some (x_0_Eyelets, x125914.1, x125914.2)) fun x125826 =>
  some (x_0_Heel, x125826.1, x125826.2.1, x125826.2.2)) fun x125462 =>
  some (x_0_Sole, x_0_Thick, x125462.1, x125462.2.1, x125462.2.2.1, x125462.2.2.2)) fun x123986 =>
  some (x_0_Lining, x123986.1, x123986.2.1, x123986.2.2.1, x123986.2.2.2.1, x123986.2.2.2.2.1, x123986.2.2.2.2.2)) fun x118087 =>
  some (x_0_Upper, x_0_Color, x118087.1, x118087.2.1, x118087.2.2.1, x118087.2.2.2.1, x118087.2.2.2.2.1, x118087.2.2.2.2.2.1, x118087.2.2.2.2.2.2)) fun x94471 =>
  some (x94471.1, x94471.2.1, x94471.2.2.1, x94471.2.2.2.1, x94471.2.2.2.2.1, x94471.2.2.2.2.2.1, x94471.2.2.2.2.2.2.1, x94471.2.2.2.2.2.2.2.1, x94471.2.2.2.2.2.2.2.2)

def m_spec_l24Set_o1 (n : Nat) (x_0_Upper : List UInt8) (x_0_Color : List UInt8) (x_0_Lining : List UInt8) (x_0_Sole : List UInt8) (x_0_Thick : Int) (x_0_Heel : Int) (x_0_Eyelets : Int) (x_0_Density : Int) (x_0_Double : Bool) (w_1 : List (List UInt8)) : Option (List UInt8 × List UInt8 × List UInt8 × List UInt8 × Int × Int × Int × Int × Bool) :=
  Option.bind (idx w_1 0) fun x2 =>
  Option.bind (m_spec_l24Word n x2) fun x4 =>
  Option.bind (if (x4 == 0) then
  Option.bind (idx w_1 1) fun x94474 =>
  Option.bind (idx w_1 2) fun x94481 =>
  some (x94474, x94481, x_0_Lining, x_0_Sole, x_0_Thick, x_0_Heel, x_0_Eyelets, x_0_Density, x_0_Double)
  else
  Option.bind (if (x4 == 1) then
  Option.bind (idx w_1 1) fun x118089 =>
  some (x118089, x_0_Sole, x_0_Thick, x_0_Heel, x_0_Eyelets, x_0_Density, x_0_Double)
  else
  Option.bind (if (x4 == 2) then
  Option.bind (idx w_1 1) fun x123989 =>
  Option.bind (idx w_1 2) fun x123997 =>
  Option.bind (m_spec_l01Number n x123997) fun x123999 =>
  some (x123989, x123999.1, x_0_Heel, x_0_Eyelets, x_0_Density, x_0_Double)
  else
  Option.bind (if (x4 == 3) then
  Option.bind (idx w_1 1) fun x125465 =>
  Option.bind (m_spec_l01Number n x125465) fun x125467 =>
  some (x125467.1, x_0_Eyelets, x_0_Density, x_0_Double)
  else
  Option.bind (if (x4 == 4) then
  Option.bind (idx w_1 1) fun x125829 =>
  Option.bind (m_spec_l01Number n x125829) fun x125831 =>
  some (x125831.1, x_0_Density, x_0_Double)
  else
  Option.bind (if (x4 == 5) then
  Option.bind (idx w_1 1) fun x125917 =>
  Option.bind (m_spec_l01Number n x125917) fun x125919 =>
  some (x125919.1, ((w_1.length : Int) == 3))
  else
  some (x_0_Density, x_0_Double)) fun x125914 =>
  some (x_0_Eyelets, x125914.1, x125914.2)) fun x125826 =>
  some (x_0_Heel, x125826.1, x125826.2.1, x125826.2.2)) fun x125462 =>
  some (x_0_Sole, x_0_Thick, x125462.1, x125462.2.1, x125462.2.2.1, x125462.2.2.2)) fun x123986 =>
  some (x_0_Lining, x123986.1, x123986.2.1, x123986.2.2.1, x123986.2.2.2.1, x123986.2.2.2.2.1, x123986.2.2.2.2.2)) fun x118087 =>
  some (x_0_Upper, x_0_Color, x118087.1, x118087.2.1, x118087.2.2.1, x118087.2.2.2.1, x118087.2.2.2.2.1, x118087.2.2.2.2.2.1, x118087.2.2.2.2.2.2)) fun x94471 =>
  some (x94471.1, x94471.2.1, x94471.2.2.1, x94471.2.2.2.1, x94471.2.2.2.2.1, x94471.2.2.2.2.2.1, x94471.2.2.2.2.2.2.1, x94471.2.2.2.2.2.2.2.1, x94471.2.2.2.2.2.2.2.2)

def m_spec_l24Check_l1 (n : Nat) (clauses_0 : List (List UInt8)) (st396 : List STrouble × Int × List Bool × List UInt8 × List UInt8 × List UInt8 × List UInt8 × Int × Int × Int × Int × Bool) : Option (Step (List STrouble × Int × List Bool × List UInt8 × List UInt8 × List UInt8 × List UInt8 × Int × Int × Int × Int × Bool) (List STrouble × List Bool × List UInt8 × List UInt8 × List UInt8 × List UInt8 × Int × Int × Int × Int × Bool)) :=
  if (decide (st396.2.1 < (clauses_0.length : Int))) then
  Option.bind (idx clauses_0 st396.2.1) fun x417 =>
  Option.bind (m_spec_SplitWords n x417) fun x419 =>
  Option.bind (m_spec_l24Problem n x419) fun x431 =>
  Option.bind (if (decide ((x419.length : Int) > 0)) then
  Option.bind (idx x419 0) fun x455 =>
  Option.bind (m_spec_l24Word n x455) fun x457 =>
  some x457
  else
  some (-1)) fun x453 =>
  Option.bind (if (x431 == 0) then
  Option.bind (idx st396.2.2.1 x453) fun x477 =>
  some x477
  else
  some false) fun x474 =>
  Option.bind (if x474 then
  some 5
  else
  some x431) fun x484 =>
  Option.bind (if (decide (x453 ≥ 0)) then
  Option.bind (idx st396.2.2.1 x453) fun x518 =>
  some (st396.2.2.1.set (Int.toNat x453) true)
  else
  some st396.2.2.1) fun x516 =>
  Option.bind (if (x484 == 0) then
  Option.bind (m_spec_l24Set_o1 n st396.2.2.2.1 st396.2.2.2.2.1 st396.2.2.2.2.2.1 st396.2.2.2.2.2.2.1 st396.2.2.2.2.2.2.2.1 st396.2.2.2.2.2.2.2.2.1 st396.2.2.2.2.2.2.2.2.2.1 st396.2.2.2.2.2.2.2.2.2.2.1 st396.2.2.2.2.2.2.2.2.2.2.2 x419) fun x622 =>
  some (st396.1, x622.1, x622.2.1, x622.2.2.1, x622.2.2.2.1, x622.2.2.2.2.1, x622.2.2.2.2.2.1, x622.2.2.2.2.2.2.1, x622.2.2.2.2.2.2.2.1, x622.2.2.2.2.2.2.2.2)
  else
  Option.bind (app st396.1 ([(STrouble.mk st396.2.1 x484)] : List STrouble)) fun x640 =>
  some (x640, st396.2.2.2.1, st396.2.2.2.2.1, st396.2.2.2.2.2.1, st396.2.2.2.2.2.2.1, st396.2.2.2.2.2.2.2.1, st396.2.2.2.2.2.2.2.2.1, st396.2.2.2.2.2.2.2.2.2.1, st396.2.2.2.2.2.2.2.2.2.2.1, st396.2.2.2.2.2.2.2.2.2.2.2)) fun x617 =>
  some (.next (x617.1, (wI64 (st396.2.1 + 1)), x516, x617.2.1, x617.2.2.1, x617.2.2.2.1, x617.2.2.2.2.1, x617.2.2.2.2.2.1, x617.2.2.2.2.2.2.1, x617.2.2.2.2.2.2.2.1, x617.2.2.2.2.2.2.2.2.1, x617.2.2.2.2.2.2.2.2.2))
  else
  some (.done (st396.1, st396.2.2.1, st396.2.2.2.1, st396.2.2.2.2.1, st396.2.2.2.2.2.1, st396.2.2.2.2.2.2.1, st396.2.2.2.2.2.2.2.1, st396.2.2.2.2.2.2.2.2.1, st396.2.2.2.2.2.2.2.2.2.1, st396.2.2.2.2.2.2.2.2.2.2.1, st396.2.2.2.2.2.2.2.2.2.2.2))

def m_spec_l24Check (n : Nat) (clauses_0 : List (List UInt8)) : Option (List STrouble × SStyle) :=
  Option.bind (m_spec_StyleWords n ) fun x35 =>
  Option.bind (mk (false : Bool) (x35.length : Int)) fun x46 =>
  Option.bind (loopN (m_spec_l24Check_l1 n clauses_0) n (([] : List STrouble), 0, x46, [], [], [], [], 0, 0, 0, 0, false)) fun q733 =>
  Option.bind (Option.bind (idx q733.2.1 0) fun x746 =>
  if (!x746) then
  some true
  else
  Option.bind (idx q733.2.1 2) fun x749 =>
  some (!x749)) fun x744 =>
  Option.bind (if x744 then
  Option.bind (app q733.1 ([(STrouble.mk (clauses_0.length : Int) 6)] : List STrouble)) fun x788 =>
  some x788
  else
  some q733.1) fun x774 =>
  some (x774, (SStyle.mk q733.2.2.1 q733.2.2.2.1 q733.2.2.2.2.1 q733.2.2.2.2.2.1 q733.2.2.2.2.2.2.1 q733.2.2.2.2.2.2.2.1 q733.2.2.2.2.2.2.2.2.1 q733.2.2.2.2.2.2.2.2.2.1 q733.2.2.2.2.2.2.2.2.2.2))

def m_spec_CheckStyle (n : Nat) (s_0 : List UInt8) : Option (List STrouble × Int) :=
  Option.bind (m_spec_l24Read n s_0) fun x3 =>
  if (!x3.2) then
  some (([] : List STrouble), 5)
  else
  Option.bind (m_spec_l24Check n x3.1) fun x21 =>
  some (x21.1, 0)

def m_impl_clauseWord (n : Nat) (clause_0 : List UInt8) : Option (List UInt8) :=
  Option.bind (m_impl_SplitWords n clause_0) fun x3 =>
  if ((x3.length : Int) == 0) then
  some []
  else
  Option.bind (idx x3 0) fun x19 =>
  some x19

def m_slices_Index_string_string_l1 (n : Nat) (s_0 : List (List UInt8)) (v_1 : List UInt8) (st4 : Int) : Option (Step (Int) ((Unit) ⊕ (Int))) :=
  if (decide (st4 < (s_0.length : Int))) then
  Option.bind (idx s_0 st4) fun x23 =>
  if (v_1 == x23) then
  some (.done (.inr st4))
  else
  some (.next (wI64 (st4 + 1)))
  else
  some (.done (.inl ()))

def m_slices_Index_string_string (n : Nat) (s_0 : List (List UInt8)) (v_1 : List UInt8) : Option (Int) :=
  Option.bind (loopN (m_slices_Index_string_string_l1 n s_0 v_1) n 0) fun t15 =>
  match t15 with
  | .inl q28 =>
  some (-1)
  | .inr r =>
  some r

def m_slices_Contains_string_string (n : Nat) (s_0 : List (List UInt8)) (v_1 : List UInt8) : Option (Bool) :=
  Option.bind (m_slices_Index_string_string n s_0 v_1) fun x3 =>
  some (decide (x3 ≥ 0))

def m_impl_ReadDecimal (n : Nat) (s_0 : List UInt8) : Option (Int × Bool) :=
  Option.bind (if (decide ((s_0.length : Int) > 19)) then
  some true
  else
  Option.bind (m_strings_TrimPrefix n s_0 [45]) fun x16 =>
  some (decide ((x16.length : Int) > 18))) fun x13 =>
  if x13 then
  some (0, false)
  else
  Option.bind (m_strconv_ParseInt n s_0 10 64) fun x31 =>
  Option.bind (if x31.2 then
  some true
  else
  Option.bind (m_impl_Decimal n x31.1) fun x55 =>
  some (!(x55 == s_0))) fun x52 =>
  if x52 then
  some (0, false)
  else
  some (x31.1, true)

def m_impl_isNumber (n : Nat) (word_0 : List UInt8) (low_1 : Int) (high_2 : Int) : Option (Bool) :=
  Option.bind (m_impl_ReadDecimal n word_0) fun x3 =>
  Option.bind (if x3.2 then
  Option.bind (m_impl_within n x3.1 low_1 high_2) fun x24 =>
  some x24
  else
  some false) fun x21 =>
  some x21

def m_impl_clauseProblem (n : Nat) (clause_0 : List UInt8) : Option (Int) :=
  Option.bind (m_impl_SplitWords n clause_0) fun x3 =>
  Option.bind (m_impl_StyleWords n ) fun x16 =>
  Option.bind (m_impl_clauseWord n clause_0) fun x27 =>
  Option.bind (m_slices_Contains_string_string n x16 x27) fun x35 =>
  if (!x35) then
  some 1
  else
  Option.bind (idx x3 0) fun x49 =>
  Option.bind (if (x49 == [117, 112, 112, 101, 114]) then
  some (x49 == [117, 112, 112, 101, 114])
  else
  some (x49 == [115, 111, 108, 101])) fun x54 =>
  Option.bind (if x54 then
  some 3
  else
  Option.bind (if (x49 == [115, 116, 105, 116, 99, 104]) then
  Option.bind (if ((x3.length : Int) == 3) then
  some 3
  else
  some 2) fun x101 =>
  some x101
  else
  some 2) fun x97 =>
  some x97) fun x85 =>
  if ((x3.length : Int) != x85) then
  some 2
  else
  Option.bind (idx x3 0) fun x121 =>
  Option.bind (if (x121 == [117, 112, 112, 101, 114]) then
  Option.bind (Option.bind (idx x3 1) fun x1862 =>
  Option.bind (m_impl_IsName n x1862) fun x1864 =>
  if x1864 then
  Option.bind (idx x3 2) fun x1873 =>
  Option.bind (m_impl_IsName n x1873) fun x1875 =>
  some x1875
  else
  some false) fun x1860 =>
  some (x1860, true)
  else
  Option.bind (if (x121 == [108, 105, 110, 105, 110, 103]) then
  Option.bind (idx x3 1) fun x2719 =>
  Option.bind (m_impl_IsName n x2719) fun x2721 =>
  some (x2721, true)
  else
  Option.bind (if (x121 == [115, 111, 108, 101]) then
  Option.bind (idx x3 1) fun x3138 =>
  Option.bind (m_impl_IsName n x3138) fun x3140 =>
  Option.bind (idx x3 2) fun x3144 =>
  Option.bind (m_impl_isNumber n x3144 10 300) fun x3146 =>
  some (x3140, x3146)
  else
  Option.bind (if (x121 == [104, 101, 101, 108]) then
  Option.bind (idx x3 1) fun x3349 =>
  Option.bind (m_impl_isNumber n x3349 0 1200) fun x3351 =>
  some x3351
  else
  Option.bind (if (x121 == [101, 121, 101, 108, 101, 116, 115]) then
  Option.bind (idx x3 1) fun x3449 =>
  Option.bind (m_impl_isNumber n x3449 1 12) fun x3451 =>
  some x3451
  else
  Option.bind (if (x121 == [115, 116, 105, 116, 99, 104]) then
  Option.bind (Option.bind (idx x3 1) fun x3513 =>
  Option.bind (m_impl_isNumber n x3513 10 80) fun x3515 =>
  if x3515 then
  if ((x3.length : Int) == 2) then
  some true
  else
  Option.bind (idx x3 2) fun x3525 =>
  some (x3525 == [100, 111, 117, 98, 108, 101])
  else
  some false) fun x3511 =>
  some x3511
  else
  some true) fun x3495 =>
  some x3495) fun x3447 =>
  some x3447) fun x3347 =>
  some (true, x3347)) fun x3136 =>
  some (x3136.1, x3136.2)) fun x2717 =>
  some (x2717.1, x2717.2)) fun x1837 =>
  if (!x1837.1) then
  some 4
  else
  if (!x1837.2) then
  some 3
  else
  some 0

def m_impl_troubles_l1 (n : Nat) (clauses_0 : List (List UInt8)) (st23 : List STrouble × List (List UInt8) × Int) : Option (Step (List STrouble × List (List UInt8) × Int) (List STrouble × List (List UInt8))) :=
  if (decide (st23.2.2 < (clauses_0.length : Int))) then
  Option.bind (idx clauses_0 st23.2.2) fun x47 =>
  Option.bind (m_impl_clauseProblem n x47) fun x50 =>
  Option.bind (m_impl_clauseWord n x47) fun x58 =>
  Option.bind (if (x50 == 0) then
  Option.bind (m_slices_Contains_string_string n st23.2.1 x58) fun x80 =>
  some x80
  else
  some false) fun x77 =>
  Option.bind (if x77 then
  some 5
  else
  some x50) fun x93 =>
  Option.bind (if (x93 != 0) then
  Option.bind (app st23.1 ([(STrouble.mk st23.2.2 x93)] : List STrouble)) fun x134 =>
  some x134
  else
  some st23.1) fun x120 =>
  Option.bind (app st23.2.1 ([x58] : List (List UInt8))) fun x156 =>
  some (.next (x120, x156, (wI64 (st23.2.2 + 1))))
  else
  some (.done (st23.1, st23.2.1))

def m_impl_troubles (n : Nat) (clauses_0 : List (List UInt8)) : Option (List STrouble) :=
  Option.bind (loopN (m_impl_troubles_l1 n clauses_0) n (([] : List STrouble), ([] : List (List UInt8)), 0)) fun q254 =>
  Option.bind (Option.bind (m_slices_Contains_string_string n q254.2 [117, 112, 112, 101, 114]) fun x282 =>
  if (!x282) then
  some true
  else
  Option.bind (m_slices_Contains_string_string n q254.2 [115, 111, 108, 101]) fun x291 =>
  some (!x291)) fun x280 =>
  Option.bind (if x280 then
  Option.bind (app q254.1 ([(STrouble.mk (clauses_0.length : Int) 6)] : List STrouble)) fun x336 =>
  some x336
  else
  some q254.1) fun x322 =>
  some x322

def m_impl_CheckStyle (n : Nat) (s_0 : List UInt8) : Option (List STrouble × Int) :=
  Option.bind (m_impl_clausesOf n s_0) fun x3 =>
  if (!x3.2) then
  some (([] : List STrouble), 5)
  else
  Option.bind (m_impl_troubles n x3.1) fun x21 =>
  some (x21, 0)

def m_laws_eqTrouble (n : Nat) (a_0 : STrouble) (b_1 : STrouble) : Option (Bool) :=
  if (a_0.Clause != b_1.Clause) then
  some false
  else
  if (a_0.Code != b_1.Code) then
  some false
  else
  some true

def m_laws_eqTroubleS_l1 (n : Nat) (a_0 : List STrouble) (b_1 : List STrouble) (st8 : Int) : Option (Step (Int) ((Unit) ⊕ (Bool))) :=
  if (decide (st8 < (a_0.length : Int))) then
  Option.bind (idx a_0 st8) fun x26 =>
  Option.bind (idx b_1 st8) fun x28 =>
  Option.bind (m_laws_eqTrouble n x26 x28) fun x30 =>
  if (!x30) then
  some (.done (.inr false))
  else
  some (.next (wI64 (st8 + 1)))
  else
  some (.done (.inl ()))

def m_laws_eqTroubleS (n : Nat) (a_0 : List STrouble) (b_1 : List STrouble) : Option (Bool) :=
  if ((a_0.length : Int) != (b_1.length : Int)) then
  some false
  else
  Option.bind (loopN (m_laws_eqTroubleS_l1 n a_0 b_1) n 0) fun t19 =>
  match t19 with
  | .inl q42 =>
  some true
  | .inr r =>
  some r

def m_laws_markTroubleS_l1 (n : Nat)  (st41 : Int × Int × List STrouble) : Option (Step (Int × Int × List STrouble) (Int × List STrouble)) :=
  if (decide (st41.2.1 < (st41.2.2.length : Int))) then
  Option.bind (idx st41.2.2 st41.2.1) fun x60 =>
  Option.bind (idx (st41.2.2.set (Int.toNat st41.2.1) (STrouble.mk st41.1 x60.Code)) st41.2.1) fun x70 =>
  some (.next ((wI64 ((wI64 (st41.1 + 1)) + 1)), (wI64 (st41.2.1 + 1)), ((st41.2.2.set (Int.toNat st41.2.1) (STrouble.mk st41.1 x60.Code)).set (Int.toNat st41.2.1) (STrouble.mk x70.Clause (wI64 (st41.1 + 1))))))
  else
  some (.done (st41.1, st41.2.2))

def m_laws_markTroubleS (n : Nat) (a_0 : List STrouble) (k_1 : Int) : Option (Int × List STrouble) :=
  Option.bind (loopN (m_laws_markTroubleS_l1 n) n (k_1, 0, a_0)) fun q79 =>
  some (q79.1, q79.2)

def m_laws_heldTroubleS_l1 (n : Nat) (a_0 : List STrouble) (st4 : Int × Int) : Option (Step (Int × Int) ((Int) ⊕ (Int))) :=
  if (decide (st4.2 < (a_0.length : Int))) then
  Option.bind (idx a_0 st4.2) fun x23 =>
  if (x23.Clause != st4.1) then
  some (.done (.inr (-1)))
  else
  Option.bind (idx a_0 st4.2) fun x30 =>
  if (x30.Code != (wI64 (st4.1 + 1))) then
  some (.done (.inr (-1)))
  else
  some (.next ((wI64 ((wI64 (st4.1 + 1)) + 1)), (wI64 (st4.2 + 1))))
  else
  some (.done (.inl st4.1))

def m_laws_heldTroubleS (n : Nat) (a_0 : List STrouble) (k_1 : Int) : Option (Int) :=
  Option.bind (loopN (m_laws_heldTroubleS_l1 n a_0) n (k_1, 0)) fun t15 =>
  match t15 with
  | .inl q35 =>
  some q35
  | .inr r =>
  some r

def m_laws_FnExactCheckStyle (n : Nat) (aS_0 : List UInt8) : Option (Bool) :=
  if (decide ((aS_0.length : Int) > 1048576)) then
  some true
  else
  Option.bind (m_spec_CheckStyle n aS_0) fun x7 =>
  Option.bind (m_impl_CheckStyle n aS_0) fun x19 =>
  Option.bind (Option.bind (m_laws_eqTroubleS n x19.1 x7.1) fun x43 =>
  if (!x43) then
  some true
  else
  some (x19.2 != x7.2)) fun x41 =>
  if x41 then
  some false
  else
  Option.bind (m_laws_markTroubleS n x19.1 1) fun x60 =>
  Option.bind (m_laws_heldTroubleS n x60.2 1) fun x72 =>
  if (decide (x72 < 0)) then
  some false
  else
  if (x72 != x60.1) then
  some false
  else
  Option.bind (m_impl_CheckStyle n aS_0) fun x89 =>
  Option.bind (Option.bind (m_laws_eqTroubleS n x89.1 x7.1) fun x113 =>
  if (!x113) then
  some true
  else
  some (x89.2 != x7.2)) fun x111 =>
  if x111 then
  some false
  else
  Option.bind (m_laws_heldTroubleS n x60.2 1) fun x130 =>
  if (decide (x130 < 0)) then
  some false
  else
  if (x130 != x60.1) then
  some false
  else
  some true

def m_spec_ReadStyle (n : Nat) (s_0 : List UInt8) : Option (SStyle × Int) :=
  Option.bind (m_spec_l24Read n s_0) fun x11 =>
  if (!x11.2) then
  some ((SStyle.mk [] [] [] [] 0 0 0 0 false), 5)
  else
  Option.bind (m_spec_l24Check n x11.1) fun x32 =>
  if (decide ((x32.1.length : Int) > 0)) then
  some ((SStyle.mk [] [] [] [] 0 0 0 0 false), 7)
  else
  some (x32.2, 0)

def m_impl_Style_with_1 (n : Nat) (k_0 : Int) (cap_1 : List (List UInt8)) : Option (Int) :=
  Option.bind (idx cap_1 k_0) fun x3 =>
  Option.bind (m_impl_ReadDecimal n x3) fun x5 =>
  some x5.1

def m_impl_Style_with (n : Nat) (x_0 : SStyle) (clause_1 : List UInt8) : Option (SStyle) :=
  Option.bind (m_impl_SplitWords n clause_1) fun x19 =>
  Option.bind (idx x19 0) fun x46 =>
  Option.bind (if (x46 == [117, 112, 112, 101, 114]) then
  Option.bind (idx x19 1) fun x248596 =>
  Option.bind (idx x19 2) fun x248616 =>
  some (x248596, x248616, x_0.Lining, x_0.Sole, x_0.Thick, x_0.Heel, x_0.Eyelets, x_0.Density, x_0.Double)
  else
  Option.bind (if (x46 == [108, 105, 110, 105, 110, 103]) then
  Option.bind (idx x19 1) fun x310725 =>
  some (x310725, x_0.Sole, x_0.Thick, x_0.Heel, x_0.Eyelets, x_0.Density, x_0.Double)
  else
  Option.bind (if (x46 == [115, 111, 108, 101]) then
  Option.bind (idx x19 1) fun x326247 =>
  Option.bind (m_impl_Style_with_1 n 2 x19) fun x326249 =>
  some (x326247, x326249, x_0.Heel, x_0.Eyelets, x_0.Density, x_0.Double)
  else
  Option.bind (if (x46 == [104, 101, 101, 108]) then
  Option.bind (m_impl_Style_with_1 n 1 x19) fun x330123 =>
  some (x330123, x_0.Eyelets, x_0.Density, x_0.Double)
  else
  Option.bind (if (x46 == [101, 121, 101, 108, 101, 116, 115]) then
  Option.bind (m_impl_Style_with_1 n 1 x19) fun x331087 =>
  some (x331087, x_0.Density, x_0.Double)
  else
  Option.bind (if (x46 == [115, 116, 105, 116, 99, 104]) then
  Option.bind (m_impl_Style_with_1 n 1 x19) fun x331344 =>
  some (x331344, ((x19.length : Int) == 3))
  else
  some (x_0.Density, x_0.Double)) fun x331323 =>
  some (x_0.Eyelets, x331323.1, x331323.2)) fun x331085 =>
  some (x_0.Heel, x331085.1, x331085.2.1, x331085.2.2)) fun x330121 =>
  some (x_0.Sole, x_0.Thick, x330121.1, x330121.2.1, x330121.2.2.1, x330121.2.2.2)) fun x326240 =>
  some (x_0.Lining, x326240.1, x326240.2.1, x326240.2.2.1, x326240.2.2.2.1, x326240.2.2.2.2.1, x326240.2.2.2.2.2)) fun x310723 =>
  some (x_0.Upper, x_0.Color, x310723.1, x310723.2.1, x310723.2.2.1, x310723.2.2.2.1, x310723.2.2.2.2.1, x310723.2.2.2.2.2.1, x310723.2.2.2.2.2.2)) fun x248575 =>
  some (SStyle.mk x248575.1 x248575.2.1 x248575.2.2.1 x248575.2.2.2.1 x248575.2.2.2.2.1 x248575.2.2.2.2.2.1 x248575.2.2.2.2.2.2.1 x248575.2.2.2.2.2.2.2.1 x248575.2.2.2.2.2.2.2.2)

def m_impl_ReadStyle_l1 (n : Nat) (x11 : List (List UInt8) × Bool) (st105 : Int × List UInt8 × List UInt8 × List UInt8 × List UInt8 × Int × Int × Int × Int × Bool) : Option (Step (Int × List UInt8 × List UInt8 × List UInt8 × List UInt8 × Int × Int × Int × Int × Bool) (List UInt8 × List UInt8 × List UInt8 × List UInt8 × Int × Int × Int × Int × Bool)) :=
  if (decide (st105.1 < (x11.1.length : Int))) then
  Option.bind (idx x11.1 st105.1) fun x123 =>
  Option.bind (m_impl_Style_with n (SStyle.mk st105.2.1 st105.2.2.1 st105.2.2.2.1 st105.2.2.2.2.1 st105.2.2.2.2.2.1 st105.2.2.2.2.2.2.1 st105.2.2.2.2.2.2.2.1 st105.2.2.2.2.2.2.2.2.1 st105.2.2.2.2.2.2.2.2.2) x123) fun x125 =>
  some (.next ((wI64 (st105.1 + 1)), x125.Upper, x125.Color, x125.Lining, x125.Sole, x125.Thick, x125.Heel, x125.Eyelets, x125.Density, x125.Double))
  else
  some (.done (st105.2.1, st105.2.2.1, st105.2.2.2.1, st105.2.2.2.2.1, st105.2.2.2.2.2.1, st105.2.2.2.2.2.2.1, st105.2.2.2.2.2.2.2.1, st105.2.2.2.2.2.2.2.2.1, st105.2.2.2.2.2.2.2.2.2))

def m_impl_ReadStyle (n : Nat) (s_0 : List UInt8) : Option (SStyle × Int) :=
  Option.bind (m_impl_clausesOf n s_0) fun x11 =>
  if (!x11.2) then
  some ((SStyle.mk [] [] [] [] 0 0 0 0 false), 5)
  else
  Option.bind (m_impl_troubles n x11.1) fun x32 =>
  if (decide ((x32.length : Int) > 0)) then
  some ((SStyle.mk [] [] [] [] 0 0 0 0 false), 7)
  else
  Option.bind (loopN (m_impl_ReadStyle_l1 n x11) n (0, [], [], [], [], 0, 0, 0, 0, false)) fun q144 =>
  some ((SStyle.mk q144.1 q144.2.1 q144.2.2.1 q144.2.2.2.1 q144.2.2.2.2.1 q144.2.2.2.2.2.1 q144.2.2.2.2.2.2.1 q144.2.2.2.2.2.2.2.1 q144.2.2.2.2.2.2.2.2), 0)

def m_laws_eqStyle (n : Nat) (a_0 : SStyle) (b_1 : SStyle) : Option (Bool) :=
  if (!(a_0.Upper == b_1.Upper)) then
  some false
  else
  if (!(a_0.Color == b_1.Color)) then
  some false
  else
  if (!(a_0.Lining == b_1.Lining)) then
  some false
  else
  if (!(a_0.Sole == b_1.Sole)) then
  some false
  else
  if (a_0.Thick != b_1.Thick) then
  some false
  else
  if (a_0.Heel != b_1.Heel) then
  some false
  else
  if (a_0.Eyelets != b_1.Eyelets) then
  some false
  else
  if (a_0.Density != b_1.Density) then
  some false
  else
  if (!(a_0.Double == b_1.Double)) then
  some false
  else
  some true

def m_laws_FnExactReadStyle (n : Nat) (aS_0 : List UInt8) : Option (Bool) :=
  if (decide ((aS_0.length : Int) > 1048576)) then
  some true
  else
  Option.bind (m_spec_ReadStyle n aS_0) fun x7 =>
  Option.bind (m_impl_ReadStyle n aS_0) fun x29 =>
  Option.bind (Option.bind (m_laws_eqStyle n x29.1 x7.1) fun x63 =>
  if (!x63) then
  some true
  else
  some (x29.2 != x7.2)) fun x61 =>
  if x61 then
  some false
  else
  some true

end Go.Gv
