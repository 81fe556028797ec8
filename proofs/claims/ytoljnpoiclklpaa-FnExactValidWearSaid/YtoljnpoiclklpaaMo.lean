/- What each function computes, as a Lean function that may fail. -/
import Derived.Test.YtoljnpoiclklpaaDa
namespace Go.Gv
open Go Go.RowKit

def m_laws_szStringS_l1 (n : Nat) (a_0 : List (List UInt8)) (st9 : Int × Int) : Option (Step (Int × Int) ((Int) ⊕ (Int))) :=
  if (decide (st9.2 < (a_0.length : Int))) then
  Option.bind (idx a_0 st9.2) fun x27 =>
  if (decide ((wI64 (st9.1 - (x27.length : Int))) < 0)) then
  some (.done (.inr (-1)))
  else
  some (.next ((wI64 (st9.1 - (x27.length : Int))), (wI64 (st9.2 + 1))))
  else
  some (.done (.inl st9.1))

def m_laws_szStringS (n : Nat) (a_0 : List (List UInt8)) (left_1 : Int) : Option (Int) :=
  if (decide ((wI64 (left_1 - (a_0.length : Int))) < 0)) then
  some (-1)
  else
  Option.bind (loopN (m_laws_szStringS_l1 n a_0) n ((wI64 (left_1 - (a_0.length : Int))), 0)) fun t20 =>
  match t20 with
  | .inl q33 =>
  some q33
  | .inr r =>
  some r

def m_spec_l00In (n : Nat) (n_0 : Int) (low_1 : Int) (high_2 : Int) : Option (Bool) :=
  Option.bind (if (decide (n_0 ≥ low_1)) then
  some (decide (n_0 ≤ high_2))
  else
  some false) fun x4 =>
  some x4

def m_spec_l01Digit (n : Nat) (c_0 : Int) : Option (Bool) :=
  Option.bind (if (decide (c_0 ≥ 48)) then
  some (decide (c_0 ≤ 57))
  else
  some false) fun x4 =>
  some x4

def m_spec_l20Ok_l2 (n : Nat) (rows_0 : List (List UInt8)) (st4 : Int) (st53 : Int) : Option (Step (Int) ((Unit) ⊕ (Bool))) :=
  Option.bind (idx rows_0 st4) fun x68 =>
  if (decide (st53 < (x68.length : Int))) then
  Option.bind (idx rows_0 st4) fun x73 =>
  Option.bind (idx x73 st53) fun x75 =>
  Option.bind (m_spec_l01Digit n (x75.toNat : Int)) fun x77 =>
  if (!x77) then
  some (.done (.inr false))
  else
  some (.next (wI64 (st53 + 1)))
  else
  some (.done (.inl ()))

def m_spec_l20Ok_l1 (n : Nat) (rows_0 : List (List UInt8)) (st4 : Int) : Option (Step (Int) ((Unit) ⊕ (Bool))) :=
  if (decide (st4 < (rows_0.length : Int))) then
  Option.bind (Option.bind (idx rows_0 st4) fun x23 =>
  Option.bind (idx rows_0 0) fun x25 =>
  if ((x23.length : Int) != (x25.length : Int)) then
  some true
  else
  Option.bind (idx rows_0 st4) fun x33 =>
  Option.bind (m_spec_l00In n (x33.length : Int) 2 8) fun x35 =>
  some (!x35)) fun x44 =>
  if x44 then
  some (.done (.inr false))
  else
  Option.bind (loopN (m_spec_l20Ok_l2 n rows_0 st4) n 0) fun t64 =>
  match t64 with
  | .inl q87 =>
  some (.next (wI64 (st4 + 1)))
  | .inr r =>
  some (.done (.inr r))
  else
  some (.done (.inl ()))

def m_spec_l20Ok (n : Nat) (rows_0 : List (List UInt8)) : Option (Bool) :=
  Option.bind (loopN (m_spec_l20Ok_l1 n rows_0) n 0) fun t15 =>
  match t15 with
  | .inl q97 =>
  Option.bind (m_spec_l00In n (rows_0.length : Int) 2 12) fun x99 =>
  some x99
  | .inr r =>
  some r

def m_spec_ValidWear (n : Nat) (rows_0 : List (List UInt8)) : Option (Bool) :=
  Option.bind (m_spec_l20Ok n rows_0) fun x3 =>
  some x3

def m_laws_toStringS_l1 (n : Nat) (a_0 : List (List UInt8)) (st43 : Int × List (List UInt8)) : Option (Step (Int × List (List UInt8)) (List (List UInt8))) :=
  if (decide (st43.1 < (a_0.length : Int))) then
  Option.bind (idx a_0 st43.1) fun x60 =>
  Option.bind (idx st43.2 st43.1) fun x62 =>
  some (.next ((wI64 (st43.1 + 1)), (st43.2.set (Int.toNat st43.1) x60)))
  else
  some (.done st43.2)

def m_laws_toStringS (n : Nat) (a_0 : List (List UInt8)) : Option (List (List UInt8)) :=
  Option.bind (mk ([] : List UInt8) (a_0.length : Int)) fun x3 =>
  Option.bind (loopN (m_laws_toStringS_l1 n a_0) n (0, x3)) fun q70 =>
  some q70

def m_impl_within (n : Nat) (n_0 : Int) (low_1 : Int) (high_2 : Int) : Option (Bool) :=
  Option.bind (if (decide (n_0 ≥ low_1)) then
  some (decide (n_0 ≤ high_2))
  else
  some false) fun x4 =>
  some x4

def m_impl_ValidWear_l2 (n : Nat) (x51 : List UInt8) (st60 : Int) : Option (Step (Int) ((Unit) ⊕ (Bool))) :=
  if (decide (st60 < (x51.length : Int))) then
  Option.bind (Option.bind (idx x51 st60) fun x79 =>
  if (decide ((x79.toNat : Int) < 48)) then
  some true
  else
  Option.bind (idx x51 st60) fun x82 =>
  some (decide ((x82.toNat : Int) > 57))) fun x84 =>
  if x84 then
  some (.done (.inr false))
  else
  some (.next (wI64 (st60 + 1)))
  else
  some (.done (.inl ()))

def m_impl_ValidWear_l1 (n : Nat) (rows_0 : List (List UInt8)) (st33 : Int) : Option (Step (Int) ((Unit) ⊕ (Bool))) :=
  if (decide (st33 < (rows_0.length : Int))) then
  Option.bind (idx rows_0 st33) fun x51 =>
  Option.bind (idx rows_0 0) fun x55 =>
  if ((x51.length : Int) != (x55.length : Int)) then
  some (.done (.inr false))
  else
  Option.bind (loopN (m_impl_ValidWear_l2 n x51) n 0) fun t71 =>
  match t71 with
  | .inl q92 =>
  some (.next (wI64 (st33 + 1)))
  | .inr r =>
  some (.done (.inr r))
  else
  some (.done (.inl ()))

def m_impl_ValidWear (n : Nat) (rows_0 : List (List UInt8)) : Option (Bool) :=
  Option.bind (Option.bind (m_impl_within n (rows_0.length : Int) 2 12) fun x4 =>
  if (!x4) then
  some true
  else
  Option.bind (idx rows_0 0) fun x13 =>
  Option.bind (m_impl_within n (x13.length : Int) 2 8) fun x15 =>
  some (!x15)) fun x23 =>
  if x23 then
  some false
  else
  Option.bind (loopN (m_impl_ValidWear_l1 n rows_0) n 0) fun t44 =>
  match t44 with
  | .inl q94 =>
  some true
  | .inr r =>
  some r

def m_laws_eqStringS_l1 (n : Nat) (a_0 : List (List UInt8)) (b_1 : List (List UInt8)) (st8 : Int) : Option (Step (Int) ((Unit) ⊕ (Bool))) :=
  if (decide (st8 < (a_0.length : Int))) then
  Option.bind (idx a_0 st8) fun x26 =>
  Option.bind (idx b_1 st8) fun x28 =>
  if (!(x26 == x28)) then
  some (.done (.inr false))
  else
  some (.next (wI64 (st8 + 1)))
  else
  some (.done (.inl ()))

def m_laws_eqStringS (n : Nat) (a_0 : List (List UInt8)) (b_1 : List (List UInt8)) : Option (Bool) :=
  if ((a_0.length : Int) != (b_1.length : Int)) then
  some false
  else
  Option.bind (loopN (m_laws_eqStringS_l1 n a_0 b_1) n 0) fun t19 =>
  match t19 with
  | .inl q38 =>
  some true
  | .inr r =>
  some r

def m_laws_FnExactValidWear (n : Nat) (aRows_0 : List (List UInt8)) : Option (Bool) :=
  Option.bind (m_laws_szStringS n aRows_0 1048576) fun x4 =>
  if (decide (x4 < 0)) then
  some true
  else
  Option.bind (m_laws_toStringS n aRows_0) fun x17 =>
  Option.bind (m_spec_ValidWear n x17) fun x28 =>
  Option.bind (m_laws_toStringS n aRows_0) fun x37 =>
  Option.bind (m_impl_ValidWear n x37) fun x49 =>
  if (!(x49 == x28)) then
  some false
  else
  Option.bind (m_laws_toStringS n aRows_0) fun x63 =>
  Option.bind (m_laws_eqStringS n x37 x63) fun x74 =>
  if (!x74) then
  some false
  else
  some true

def m_spec_l20Code (n : Nat) (rows_0 : List (List UInt8)) (least_1 : Int) : Option (Int) :=
  Option.bind (m_spec_l20Ok n rows_0) fun x4 =>
  if (!x4) then
  some 1
  else
  Option.bind (m_spec_l00In n least_1 1 9) fun x16 =>
  if (!x16) then
  some 2
  else
  some 0

def m_spec_l20At (n : Nat) (rows_0 : List (List UInt8)) (y_1 : Int) (x_2 : Int) : Option (Int) :=
  Option.bind (idx rows_0 y_1) fun x3 =>
  Option.bind (idx x3 x_2) fun x5 =>
  some (wI64 (IntKind.u8.wrap ((x5.toNat : Int) - 48)))

def m_spec_WornFields_l2 (n : Nat) (rows_0 : List (List UInt8)) (least_1 : Int) (st18 : Int × Int) (st36 : Int × Int) : Option (Step (Int × Int) (Int)) :=
  Option.bind (idx rows_0 st18.2) fun x51 =>
  if (decide (st36.2 < (x51.length : Int))) then
  Option.bind (m_spec_l20At n rows_0 st18.2 st36.2) fun x56 =>
  Option.bind (if (decide (x56 ≥ least_1)) then
  some (wI64 (st36.1 + 1))
  else
  some st36.1) fun x65 =>
  some (.next (x65, (wI64 (st36.2 + 1))))
  else
  some (.done st36.1)

def m_spec_WornFields_l1 (n : Nat) (rows_0 : List (List UInt8)) (least_1 : Int) (st18 : Int × Int) : Option (Step (Int × Int) (Int)) :=
  if (decide (st18.2 < (rows_0.length : Int))) then
  Option.bind (loopN (m_spec_WornFields_l2 n rows_0 least_1 st18) n (st18.1, 0)) fun q71 =>
  some (.next (q71, (wI64 (st18.2 + 1))))
  else
  some (.done st18.1)

def m_spec_WornFields (n : Nat) (rows_0 : List (List UInt8)) (least_1 : Int) : Option (Int × Int) :=
  Option.bind (m_spec_l20Code n rows_0 least_1) fun x3 =>
  if (x3 != 0) then
  some (0, x3)
  else
  Option.bind (loopN (m_spec_WornFields_l1 n rows_0 least_1) n (0, 0)) fun q73 =>
  some (q73, 0)

def m_impl_wearCode (n : Nat) (rows_0 : List (List UInt8)) (least_1 : Int) : Option (Int) :=
  Option.bind (m_impl_ValidWear n rows_0) fun x4 =>
  if (!x4) then
  some 1
  else
  Option.bind (m_impl_within n least_1 1 9) fun x15 =>
  if (!x15) then
  some 2
  else
  some 0

def m_impl_digits_l2 (n : Nat) (x35 : List UInt8) (st38 : List Int × Int) : Option (Step (List Int × Int) (List Int)) :=
  if (decide (st38.2 < (x35.length : Int))) then
  Option.bind (idx x35 st38.2) fun x59 =>
  Option.bind (app st38.1 ([(wI64 (IntKind.u8.wrap ((x59.toNat : Int) - 48)))] : List Int)) fun x70 =>
  some (.next (x70, (wI64 (st38.2 + 1))))
  else
  some (.done st38.1)

def m_impl_digits_l1 (n : Nat) (rows_0 : List (List UInt8)) (st14 : List Int × Int) : Option (Step (List Int × Int) (List Int)) :=
  if (decide (st14.2 < (rows_0.length : Int))) then
  Option.bind (idx rows_0 st14.2) fun x35 =>
  Option.bind (loopN (m_impl_digits_l2 n x35) n (st14.1, 0)) fun q79 =>
  some (.next (q79, (wI64 (st14.2 + 1))))
  else
  some (.done st14.1)

def m_impl_digits (n : Nat) (rows_0 : List (List UInt8)) : Option (List Int) :=
  Option.bind (loopN (m_impl_digits_l1 n rows_0) n (([] : List Int), 0)) fun q84 =>
  some q84

def m_impl_WornFields_l1 (n : Nat) (least_1 : Int) (x18 : List Int) (st29 : Int × Int) : Option (Step (Int × Int) (Int)) :=
  if (decide (st29.2 < (x18.length : Int))) then
  Option.bind (idx x18 st29.2) fun x47 =>
  Option.bind (if (decide (x47 ≥ least_1)) then
  some (wI64 (st29.1 + 1))
  else
  some st29.1) fun x51 =>
  some (.next (x51, (wI64 (st29.2 + 1))))
  else
  some (.done st29.1)

def m_impl_WornFields (n : Nat) (rows_0 : List (List UInt8)) (least_1 : Int) : Option (Int × Int) :=
  Option.bind (m_impl_wearCode n rows_0 least_1) fun x4 =>
  if (x4 != 0) then
  some (0, x4)
  else
  Option.bind (m_impl_digits n rows_0) fun x18 =>
  Option.bind (loopN (m_impl_WornFields_l1 n least_1 x18) n (0, 0)) fun q58 =>
  some (q58, 0)

def m_laws_FnExactWornFields (n : Nat) (aRows_0 : List (List UInt8)) (aLeast_1 : Int) : Option (Bool) :=
  Option.bind (m_laws_szStringS n aRows_0 1048576) fun x4 =>
  if (decide (x4 < 0)) then
  some true
  else
  Option.bind (m_laws_toStringS n aRows_0) fun x17 =>
  Option.bind (m_spec_WornFields n x17 aLeast_1) fun x28 =>
  Option.bind (m_laws_toStringS n aRows_0) fun x37 =>
  Option.bind (m_impl_WornFields n x37 aLeast_1) fun x49 =>
  Option.bind (if (x49.1 != x28.1) then
  some true
  else
  some (x49.2 != x28.2)) fun x60 =>
  if x60 then
  some false
  else
  Option.bind (m_laws_toStringS n aRows_0) fun x70 =>
  Option.bind (m_laws_eqStringS n x37 x70) fun x81 =>
  if (!x81) then
  some false
  else
  some true

def m_spec_l20Mirror_l2 (n : Nat) (rows_0 : List (List UInt8)) (st14 : List (List UInt8) × Int) (st48 : List Int × Int) : Option (Step (List Int × Int) (List Int)) :=
  if (decide (st48.2 ≥ 0)) then
  Option.bind (idx rows_0 st14.2) fun x68 =>
  Option.bind (idx x68 st48.2) fun x70 =>
  Option.bind (app st48.1 ([(x70.toNat : Int)] : List Int)) fun x81 =>
  some (.next (x81, (wI64 (st48.2 - 1))))
  else
  some (.done st48.1)

def m_spec_l20Mirror_l1 (n : Nat) (rows_0 : List (List UInt8)) (st14 : List (List UInt8) × Int) : Option (Step (List (List UInt8) × Int) (List (List UInt8))) :=
  if (decide (st14.2 < (rows_0.length : Int))) then
  Option.bind (idx rows_0 st14.2) fun x46 =>
  Option.bind (loopN (m_spec_l20Mirror_l2 n rows_0 st14) n (([] : List Int), (wI64 ((x46.length : Int) - 1)))) fun q108 =>
  Option.bind (app st14.1 ([(ofBytes q108)] : List (List UInt8))) fun x121 =>
  some (.next (x121, (wI64 (st14.2 + 1))))
  else
  some (.done st14.1)

def m_spec_l20Mirror (n : Nat) (rows_0 : List (List UInt8)) : Option (List (List UInt8)) :=
  Option.bind (loopN (m_spec_l20Mirror_l1 n rows_0) n (([] : List (List UInt8)), 0)) fun q131 =>
  some q131

def m_spec_MirrorWear (n : Nat) (rows_0 : List (List UInt8)) : Option (List (List UInt8) × Int) :=
  Option.bind (m_spec_l20Ok n rows_0) fun x4 =>
  if (!x4) then
  some (([] : List (List UInt8)), 1)
  else
  Option.bind (m_spec_l20Mirror n rows_0) fun x17 =>
  some (x17, 0)

def m_laws_markText_l1 (n : Nat)  (st8 : Int × List UInt8) : Option (Step (Int × List UInt8) (List UInt8)) :=
  if (decide (st8.1 > 0)) then
  Option.bind (app (ofBytes ([(IntKind.u8.wrap (wI64 (48 + (Int.tmod st8.1 10))))] : List Int)) st8.2) fun x34 =>
  some (.next ((wI64 (Int.tdiv st8.1 10)), x34))
  else
  some (.done st8.2)

def m_laws_markText (n : Nat) (k_0 : Int) : Option (List UInt8) :=
  if (decide (k_0 ≤ 0)) then
  some [109, 48]
  else
  Option.bind (loopN (m_laws_markText_l1 n) n (k_0, [])) fun q39 =>
  Option.bind (app [109] q39) fun x41 =>
  some x41

def m_laws_markStringS_l1 (n : Nat)  (st39 : Int × Int × List (List UInt8)) : Option (Step (Int × Int × List (List UInt8)) (Int × List (List UInt8))) :=
  if (decide (st39.2.1 < (st39.2.2.length : Int))) then
  Option.bind (m_laws_markText n st39.1) fun x58 =>
  Option.bind (idx st39.2.2 st39.2.1) fun x66 =>
  some (.next ((wI64 (st39.1 + 1)), (wI64 (st39.2.1 + 1)), (st39.2.2.set (Int.toNat st39.2.1) x58)))
  else
  some (.done (st39.1, st39.2.2))

def m_laws_markStringS (n : Nat) (a_0 : List (List UInt8)) (k_1 : Int) : Option (Int × List (List UInt8)) :=
  Option.bind (loopN (m_laws_markStringS_l1 n) n (k_1, 0, a_0)) fun q75 =>
  some (q75.1, q75.2)

def m_laws_heldStringS_l1 (n : Nat) (a_0 : List (List UInt8)) (st4 : Int × Int) : Option (Step (Int × Int) ((Int) ⊕ (Int))) :=
  if (decide (st4.2 < (a_0.length : Int))) then
  Option.bind (idx a_0 st4.2) fun x23 =>
  Option.bind (m_laws_markText n st4.1) fun x25 =>
  if (!(x23 == x25)) then
  some (.done (.inr (-1)))
  else
  some (.next ((wI64 (st4.1 + 1)), (wI64 (st4.2 + 1))))
  else
  some (.done (.inl st4.1))

def m_laws_heldStringS (n : Nat) (a_0 : List (List UInt8)) (k_1 : Int) : Option (Int) :=
  Option.bind (loopN (m_laws_heldStringS_l1 n a_0) n (k_1, 0)) fun t15 =>
  match t15 with
  | .inl q37 =>
  some q37
  | .inr r =>
  some r

def m_spec_l20Two (n : Nat) (a_0 : List (List UInt8)) (b_1 : List (List UInt8)) : Option (Int) :=
  Option.bind (Option.bind (m_spec_l20Ok n a_0) fun x4 =>
  if (!x4) then
  some true
  else
  Option.bind (m_spec_l20Ok n b_1) fun x13 =>
  some (!x13)) fun x21 =>
  if x21 then
  some 1
  else
  Option.bind (if ((a_0.length : Int) != (b_1.length : Int)) then
  some true
  else
  Option.bind (idx a_0 0) fun x37 =>
  Option.bind (idx b_1 0) fun x39 =>
  some ((x37.length : Int) != (x39.length : Int))) fun x46 =>
  if x46 then
  some 9
  else
  some 0

def m_spec_l00Min (n : Nat) (a_0 : Int) (b_1 : Int) : Option (Int) :=
  if (decide (a_0 < b_1)) then
  some a_0
  else
  some b_1

def m_spec_AddWear_l2 (n : Nat) (a_0 : List (List UInt8)) (b_1 : List (List UInt8)) (st29 : List (List UInt8) × Int) (st61 : List Int × Int) : Option (Step (List Int × Int) (List Int)) :=
  Option.bind (idx a_0 st29.2) fun x79 =>
  if (decide (st61.2 < (x79.length : Int))) then
  Option.bind (m_spec_l20At n a_0 st29.2 st61.2) fun x83 =>
  Option.bind (m_spec_l20At n b_1 st29.2 st61.2) fun x91 =>
  Option.bind (m_spec_l00Min n 9 (wI64 (x83 + x91))) fun x99 =>
  Option.bind (app st61.1 ([(IntKind.u8.wrap (wI64 (48 + x99)))] : List Int)) fun x116 =>
  some (.next (x116, (wI64 (st61.2 + 1))))
  else
  some (.done st61.1)

def m_spec_AddWear_l1 (n : Nat) (a_0 : List (List UInt8)) (b_1 : List (List UInt8)) (st29 : List (List UInt8) × Int) : Option (Step (List (List UInt8) × Int) (List (List UInt8))) :=
  if (decide (st29.2 < (a_0.length : Int))) then
  Option.bind (loopN (m_spec_AddWear_l2 n a_0 b_1 st29) n (([] : List Int), 0)) fun q143 =>
  Option.bind (app st29.1 ([(ofBytes q143)] : List (List UInt8))) fun x156 =>
  some (.next (x156, (wI64 (st29.2 + 1))))
  else
  some (.done st29.1)

def m_spec_AddWear (n : Nat) (a_0 : List (List UInt8)) (b_1 : List (List UInt8)) : Option (List (List UInt8) × Int) :=
  Option.bind (m_spec_l20Two n a_0 b_1) fun x3 =>
  if (x3 != 0) then
  some (([] : List (List UInt8)), x3)
  else
  Option.bind (loopN (m_spec_AddWear_l1 n a_0 b_1) n (([] : List (List UInt8)), 0)) fun q166 =>
  some (q166, 0)

def m_impl_sameWear (n : Nat) (a_0 : List (List UInt8)) (b_1 : List (List UInt8)) : Option (Int) :=
  Option.bind (Option.bind (m_impl_ValidWear n a_0) fun x4 =>
  if (!x4) then
  some true
  else
  Option.bind (m_impl_ValidWear n b_1) fun x13 =>
  some (!x13)) fun x21 =>
  if x21 then
  some 1
  else
  Option.bind (if ((a_0.length : Int) != (b_1.length : Int)) then
  some true
  else
  Option.bind (idx a_0 0) fun x36 =>
  Option.bind (idx b_1 0) fun x38 =>
  some ((x36.length : Int) != (x38.length : Int))) fun x45 =>
  if x45 then
  some 9
  else
  some 0

def m_spec_l02Size (n : Nat) (n_0 : Int) : Option (Int) :=
  if (decide (n_0 < 0)) then
  some (wI64 (0 - n_0))
  else
  some n_0

def m_spec_l02Gcd_l1 (n : Nat)  (st3 : Int × Int) : Option (Step (Int × Int) (Int)) :=
  if (st3.2 != 0) then
  Option.bind (rem st3.1 st3.2) fun x20 =>
  some (.next (st3.2, x20))
  else
  some (.done st3.1)

def m_spec_l02Gcd (n : Nat) (a_0 : Int) (b_1 : Int) : Option (Int) :=
  Option.bind (loopN (m_spec_l02Gcd_l1 n) n (a_0, b_1)) fun q24 =>
  some q24

def m_impl_gcd_l1 (n : Nat)  (st3 : Int × Int) : Option (Step (Int × Int) (Int)) :=
  if (st3.2 != 0) then
  Option.bind (rem st3.1 st3.2) fun x19 =>
  some (.next (st3.2, x19))
  else
  some (.done st3.1)

def m_impl_gcd (n : Nat) (a_0 : Int) (b_1 : Int) : Option (Int) :=
  Option.bind (loopN (m_impl_gcd_l1 n) n (a_0, b_1)) fun q27 =>
  some (imax q27 (wI64 (0 - q27)))

def m_laws_eqFraction (n : Nat) (a_0 : SFraction) (b_1 : SFraction) : Option (Bool) :=
  if (a_0.Num != b_1.Num) then
  some false
  else
  if (a_0.Den != b_1.Den) then
  some false
  else
  some true

def m_spec_l20Half (n : Nat) (at_0 : Int) (n_1 : Int) : Option (Int) :=
  if (decide (at_0 < (wI64 (Int.tdiv n_1 2)))) then
  some 0
  else
  if (decide (at_0 ≥ (wI64 (n_1 - (wI64 (Int.tdiv n_1 2)))))) then
  some 1
  else
  some (-1)

def m_spec_l02Sum_l1 (n : Nat) (list_0 : List Int) (st5 : Int × Int) : Option (Step (Int × Int) (Int)) :=
  if (decide (st5.2 < (list_0.length : Int))) then
  Option.bind (idx list_0 st5.2) fun x22 =>
  some (.next ((wI64 (st5.1 + x22)), (wI64 (st5.2 + 1))))
  else
  some (.done st5.1)

def m_spec_l02Sum (n : Nat) (list_0 : List Int) : Option (Int) :=
  Option.bind (loopN (m_spec_l02Sum_l1 n list_0) n (0, 0)) fun q25 =>
  some q25

def m_impl_half (n : Nat) (place_0 : Int) (count_1 : Int) : Option (Int) :=
  if (decide (place_0 < (wI64 (Int.tdiv count_1 2)))) then
  some 0
  else
  if (decide (place_0 ≥ (wI64 (count_1 - (wI64 (Int.tdiv count_1 2)))))) then
  some 1
  else
  some (-1)

def m_impl_sumOf_l1 (n : Nat) (list_0 : List Int) (st5 : Int × Int) : Option (Step (Int × Int) (Int)) :=
  if (decide (st5.2 < (list_0.length : Int))) then
  Option.bind (idx list_0 st5.2) fun x23 =>
  some (.next ((wI64 (st5.1 + x23)), (wI64 (st5.2 + 1))))
  else
  some (.done st5.1)

def m_impl_sumOf (n : Nat) (list_0 : List Int) : Option (Int) :=
  Option.bind (loopN (m_impl_sumOf_l1 n list_0) n (0, 0)) fun q26 =>
  some q26

def m_laws_eqInt64S_l1 (n : Nat) (a_0 : List Int) (b_1 : List Int) (st8 : Int) : Option (Step (Int) ((Unit) ⊕ (Bool))) :=
  if (decide (st8 < (a_0.length : Int))) then
  Option.bind (idx a_0 st8) fun x26 =>
  Option.bind (idx b_1 st8) fun x28 =>
  if (x26 != x28) then
  some (.done (.inr false))
  else
  some (.next (wI64 (st8 + 1)))
  else
  some (.done (.inl ()))

def m_laws_eqInt64S (n : Nat) (a_0 : List Int) (b_1 : List Int) : Option (Bool) :=
  if ((a_0.length : Int) != (b_1.length : Int)) then
  some false
  else
  Option.bind (loopN (m_laws_eqInt64S_l1 n a_0 b_1) n 0) fun t19 =>
  match t19 with
  | .inl q38 =>
  some true
  | .inr r =>
  some r

def m_laws_markInt64S_l1 (n : Nat)  (st31 : Int × Int × List Int) : Option (Step (Int × Int × List Int) (Int × List Int)) :=
  if (decide (st31.2.1 < (st31.2.2.length : Int))) then
  Option.bind (idx st31.2.2 st31.2.1) fun x50 =>
  some (.next ((wI64 (st31.1 + 1)), (wI64 (st31.2.1 + 1)), (st31.2.2.set (Int.toNat st31.2.1) st31.1)))
  else
  some (.done (st31.1, st31.2.2))

def m_laws_markInt64S (n : Nat) (a_0 : List Int) (k_1 : Int) : Option (Int × List Int) :=
  Option.bind (loopN (m_laws_markInt64S_l1 n) n (k_1, 0, a_0)) fun q59 =>
  some (q59.1, q59.2)

def m_laws_heldInt64S_l1 (n : Nat) (a_0 : List Int) (st4 : Int × Int) : Option (Step (Int × Int) ((Int) ⊕ (Int))) :=
  if (decide (st4.2 < (a_0.length : Int))) then
  Option.bind (idx a_0 st4.2) fun x23 =>
  if (x23 != st4.1) then
  some (.done (.inr (-1)))
  else
  some (.next ((wI64 (st4.1 + 1)), (wI64 (st4.2 + 1))))
  else
  some (.done (.inl st4.1))

def m_laws_heldInt64S (n : Nat) (a_0 : List Int) (k_1 : Int) : Option (Int) :=
  Option.bind (loopN (m_laws_heldInt64S_l1 n a_0) n (k_1, 0)) fun t15 =>
  match t15 with
  | .inl q28 =>
  some q28
  | .inr r =>
  some r

def m_spec_l00Max (n : Nat) (a_0 : Int) (b_1 : Int) : Option (Int) :=
  if (decide (a_0 > b_1)) then
  some a_0
  else
  some b_1

def m_spec_PatchFor_l2 (n : Nat) (rows_0 : List (List UInt8)) (least_1 : Int) (st23 : Int × Int × Int × Int × Int) (st41 : Int × Int × Int × Int × Int) : Option (Step (Int × Int × Int × Int × Int) (Int × Int × Int × Int)) :=
  Option.bind (idx rows_0 st23.2.2.2.2) fun x56 =>
  if (decide (st41.2.2.2.2 < (x56.length : Int))) then
  Option.bind (m_spec_l20At n rows_0 st23.2.2.2.2 st41.2.2.2.2) fun x62 =>
  if (decide (x62 < least_1)) then
  some (.next (st41.1, st41.2.1, st41.2.2.1, st41.2.2.2.1, (wI64 (st41.2.2.2.2 + 1))))
  else
  Option.bind (if (decide (st41.1 < 0)) then
  some st23.2.2.2.2
  else
  some st41.1) fun x74 =>
  Option.bind (m_spec_l00Min n st41.2.1 st41.2.2.2.2) fun x82 =>
  Option.bind (m_spec_l00Max n st41.2.2.2.1 st41.2.2.2.2) fun x90 =>
  some (.next (x74, x82, st23.2.2.2.2, x90, (wI64 (st41.2.2.2.2 + 1))))
  else
  some (.done (st41.1, st41.2.1, st41.2.2.1, st41.2.2.2.1))

def m_spec_PatchFor_l1 (n : Nat) (rows_0 : List (List UInt8)) (least_1 : Int) (st23 : Int × Int × Int × Int × Int) : Option (Step (Int × Int × Int × Int × Int) (Int × Int × Int × Int)) :=
  if (decide (st23.2.2.2.2 < (rows_0.length : Int))) then
  Option.bind (loopN (m_spec_PatchFor_l2 n rows_0 least_1 st23) n (st23.1, st23.2.1, st23.2.2.1, st23.2.2.2.1, 0)) fun q98 =>
  some (.next (q98.1, q98.2.1, q98.2.2.1, q98.2.2.2, (wI64 (st23.2.2.2.2 + 1))))
  else
  some (.done (st23.1, st23.2.1, st23.2.2.1, st23.2.2.2.1))

def m_spec_PatchFor (n : Nat) (rows_0 : List (List UInt8)) (least_1 : Int) : Option (List Int × Int) :=
  Option.bind (m_spec_l20Code n rows_0 least_1) fun x3 =>
  if (x3 != 0) then
  some (([] : List Int), x3)
  else
  Option.bind (loopN (m_spec_PatchFor_l1 n rows_0 least_1) n ((-1), 8, (-1), (-1), 0)) fun q115 =>
  if (decide (q115.1 < 0)) then
  some (([] : List Int), 3)
  else
  some (([q115.1, q115.2.1, (wI64 ((wI64 (q115.2.2.1 - q115.1)) + 1)), (wI64 ((wI64 (q115.2.2.2 - q115.2.1)) + 1))] : List Int), 0)

def m_impl_PatchFor_l1 (n : Nat) (least_1 : Int) (x18 : List UInt8) (x23 : List Int) (st34 : Int × Int × Int × Int × Int) : Option (Step (Int × Int × Int × Int × Int) (Int × Int × Int × Int)) :=
  if (decide (st34.2.2.2.2 < (x23.length : Int))) then
  Option.bind (idx x23 st34.2.2.2.2) fun x52 =>
  Option.bind (if (decide (x52 ≥ least_1)) then
  Option.bind (quo .i64 st34.2.2.2.2 (x18.length : Int)) fun x69 =>
  Option.bind (rem st34.2.2.2.2 (x18.length : Int)) fun x71 =>
  some ((imin st34.1 x69), (imin st34.2.1 x71), (imax st34.2.2.1 x69), (imax st34.2.2.2.1 x71))
  else
  some (st34.1, st34.2.1, st34.2.2.1, st34.2.2.2.1)) fun x66 =>
  some (.next (x66.1, x66.2.1, x66.2.2.1, x66.2.2.2, (wI64 (st34.2.2.2.2 + 1))))
  else
  some (.done (st34.1, st34.2.1, st34.2.2.1, st34.2.2.2.1))

def m_impl_PatchFor (n : Nat) (rows_0 : List (List UInt8)) (least_1 : Int) : Option (List Int × Int) :=
  Option.bind (m_impl_wearCode n rows_0 least_1) fun x4 =>
  if (x4 != 0) then
  some (([] : List Int), x4)
  else
  Option.bind (idx rows_0 0) fun x18 =>
  Option.bind (m_impl_digits n rows_0) fun x23 =>
  Option.bind (loopN (m_impl_PatchFor_l1 n least_1 x18 x23) n ((rows_0.length : Int), (x18.length : Int), (-1), (-1), 0)) fun q98 =>
  if (decide (q98.2.2.1 < 0)) then
  some (([] : List Int), 3)
  else
  some (([q98.1, q98.2.1, (wI64 ((wI64 (q98.2.2.1 - q98.1)) + 1)), (wI64 ((wI64 (q98.2.2.2 - q98.2.1)) + 1))] : List Int), 0)

def m_laws_FnExactPatchFor (n : Nat) (aRows_0 : List (List UInt8)) (aLeast_1 : Int) : Option (Bool) :=
  Option.bind (m_laws_szStringS n aRows_0 1048576) fun x4 =>
  if (decide (x4 < 0)) then
  some true
  else
  Option.bind (m_laws_toStringS n aRows_0) fun x17 =>
  Option.bind (m_spec_PatchFor n x17 aLeast_1) fun x28 =>
  Option.bind (m_laws_toStringS n aRows_0) fun x40 =>
  Option.bind (m_impl_PatchFor n x40 aLeast_1) fun x52 =>
  Option.bind (Option.bind (m_laws_eqInt64S n x52.1 x28.1) fun x65 =>
  if (!x65) then
  some true
  else
  some (x52.2 != x28.2)) fun x74 =>
  if x74 then
  some false
  else
  Option.bind (m_laws_toStringS n aRows_0) fun x84 =>
  Option.bind (m_laws_eqStringS n x40 x84) fun x95 =>
  if (!x95) then
  some false
  else
  Option.bind (m_laws_markStringS n x40 1) fun x107 =>
  Option.bind (if (decide (x107.1 < 0)) then
  some true
  else
  Option.bind (m_laws_eqInt64S n x52.1 x28.1) fun x120 =>
  if (!x120) then
  some true
  else
  some (x52.2 != x28.2)) fun x129 =>
  if x129 then
  some false
  else
  Option.bind (m_laws_markInt64S n x52.1 1) fun x139 =>
  Option.bind (m_laws_heldInt64S n x139.2 1) fun x151 =>
  if (decide (x151 < 0)) then
  some false
  else
  if (x151 != x139.1) then
  some false
  else
  Option.bind (m_laws_toStringS n aRows_0) fun x168 =>
  Option.bind (m_impl_PatchFor n x168 aLeast_1) fun x179 =>
  Option.bind (Option.bind (m_laws_eqInt64S n x179.1 x28.1) fun x192 =>
  if (!x192) then
  some true
  else
  some (x179.2 != x28.2)) fun x201 =>
  if x201 then
  some false
  else
  Option.bind (m_laws_heldInt64S n x139.2 1) fun x211 =>
  if (decide (x211 < 0)) then
  some false
  else
  if (x211 != x139.1) then
  some false
  else
  some true

def m_laws_a2Long (n : Nat) (code_0 : List Int) (more_1 : List Int) : Option (Bool) :=
  Option.bind (if (decide ((code_0.length : Int) > 3000)) then
  some true
  else
  some (decide ((more_1.length : Int) > 3000))) fun x4 =>
  some x4

def m_impl_apart (n : Nat) (a_0 : Int) (b_1 : Int) : Option (Int) :=
  some (imax (wI64 (a_0 - b_1)) (wI64 (b_1 - a_0)))

def m_laws_a2Sum_l1 (n : Nat) (list_0 : List Int) (st5 : Int × Int) : Option (Step (Int × Int) (Int)) :=
  if (decide (st5.2 < (list_0.length : Int))) then
  Option.bind (idx list_0 st5.2) fun x22 =>
  some (.next ((wI64 (st5.1 + x22)), (wI64 (st5.2 + 1))))
  else
  some (.done st5.1)

def m_laws_a2Sum (n : Nat) (list_0 : List Int) : Option (Int) :=
  Option.bind (loopN (m_laws_a2Sum_l1 n list_0) n (0, 0)) fun q25 =>
  some q25

def m_spec_StrangeFields_l2 (n : Nat) (left_0 : List (List UInt8)) (most_2 : Int) (x38 : List (List UInt8)) (st61 : List Int × Int) (st82 : List Int × Int) : Option (Step (List Int × Int) (List Int)) :=
  Option.bind (idx left_0 st61.2) fun x100 =>
  if (decide (st82.2 < (x100.length : Int))) then
  Option.bind (m_spec_l20At n left_0 st61.2 st82.2) fun x105 =>
  Option.bind (m_spec_l20At n x38 st61.2 st82.2) fun x113 =>
  Option.bind (m_spec_l02Size n (wI64 (x105 - x113))) fun x121 =>
  Option.bind (if (decide (x121 > most_2)) then
  Option.bind (idx left_0 st61.2) fun x155 =>
  Option.bind (app st82.1 ([(wI64 ((wI64 (st61.2 * (x155.length : Int))) + st82.2))] : List Int)) fun x166 =>
  some x166
  else
  some st82.1) fun x150 =>
  some (.next (x150, (wI64 (st82.2 + 1))))
  else
  some (.done st82.1)

def m_spec_StrangeFields_l1 (n : Nat) (left_0 : List (List UInt8)) (most_2 : Int) (x38 : List (List UInt8)) (st61 : List Int × Int) : Option (Step (List Int × Int) (List Int)) :=
  if (decide (st61.2 < (left_0.length : Int))) then
  Option.bind (loopN (m_spec_StrangeFields_l2 n left_0 most_2 x38 st61) n (st61.1, 0)) fun q179 =>
  some (.next (q179, (wI64 (st61.2 + 1))))
  else
  some (.done st61.1)

def m_spec_StrangeFields (n : Nat) (left_0 : List (List UInt8)) (right_1 : List (List UInt8)) (most_2 : Int) : Option (List Int × Int) :=
  Option.bind (m_spec_l20Two n left_0 right_1) fun x3 =>
  if (x3 == 1) then
  some (([] : List Int), x3)
  else
  Option.bind (m_spec_l00In n most_2 0 9) fun x19 =>
  if (!x19) then
  some (([] : List Int), 2)
  else
  if (x3 != 0) then
  some (([] : List Int), x3)
  else
  Option.bind (m_spec_l20Mirror n right_1) fun x38 =>
  Option.bind (loopN (m_spec_StrangeFields_l1 n left_0 most_2 x38) n (([] : List Int), 0)) fun q184 =>
  some (q184, 0)

def m_laws_a2At (n : Nat) (code_0 : List Int) (at_1 : Int) (n_2 : Int) : Option (Int) :=
  Option.bind (if (decide (at_1 ≥ (code_0.length : Int))) then
  some true
  else
  some (decide (n_2 < 1))) fun x5 =>
  if x5 then
  some 0
  else
  Option.bind (idx code_0 at_1) fun x14 =>
  Option.bind (rem (wI64 x14) n_2) fun x16 =>
  some x16

end Go.Gv
