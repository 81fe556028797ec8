/- What each function computes, as a Lean function that may fail. -/
import Derived.Test.YtoljnpoiclklpaaDa
namespace Go.Gv
open Go Go.RowKit

def m_laws_szStringS_l1 (n : Nat) (a_0 : List (List UInt8)) (st9 : Int × Int) : Option (Step (Int × Int) ((Int) ⊕ (Int))) :=
  if (decide (st9.2 < (a_0.length : Int))) then
  Option.bind (idx a_0 st9.2) fun x27 =>
  if (decide ((wI64 (st9.1 - (x27.length : Int))) < 0)) then
  some (.done (.inr (-1)))
  else
  some (.next ((wI64 (st9.1 - (x27.length : Int))), (wI64 (st9.2 + 1))))
  else
  some (.done (.inl st9.1))

def m_laws_szStringS (n : Nat) (a_0 : List (List UInt8)) (left_1 : Int) : Option (Int) :=
  if (decide ((wI64 (left_1 - (a_0.length : Int))) < 0)) then
  some (-1)
  else
  Option.bind (loopN (m_laws_szStringS_l1 n a_0) n ((wI64 (left_1 - (a_0.length : Int))), 0)) fun t20 =>
  match t20 with
  | .inl q33 =>
  some q33
  | .inr r =>
  some r

def m_spec_l00In (n : Nat) (n_0 : Int) (low_1 : Int) (high_2 : Int) : Option (Bool) :=
  Option.bind (if (decide (n_0 ≥ low_1)) then
  some (decide (n_0 ≤ high_2))
  else
  some false) fun x4 =>
  some x4

def m_spec_l01Digit (n : Nat) (c_0 : Int) : Option (Bool) :=
  Option.bind (if (decide (c_0 ≥ 48)) then
  some (decide (c_0 ≤ 57))
  else
  some false) fun x4 =>
  some x4

def m_spec_l20Ok_l2 (n : Nat) (rows_0 : List (List UInt8)) (st4 : Int) (st74 : Int) : Option (Step (Int) ((Unit) ⊕ (Bool))) :=
  Option.bind (idx rows_0 st4) fun x89 =>
  if (decide (st74 < (x89.length : Int))) then
  Option.bind (idx rows_0 st4) fun x94 =>
  Option.bind (idx x94 st74) fun x96 =>
  Option.bind (m_spec_l01Digit n (x96.toNat : Int)) fun x98 =>
  if (!x98) then
  some (.done (.inr false))
  else
  some (.next (wI64 (st74 + 1)))
  else
  some (.done (.inl ()))

def m_spec_l20Ok_l1 (n : Nat) (rows_0 : List (List UInt8)) (st4 : Int) : Option (Step (Int) ((Unit) ⊕ (Bool))) :=
  if (decide (st4 < (rows_0.length : Int))) then
  Option.bind (Option.bind (idx rows_0 st4) fun x46 =>
  Option.bind (idx rows_0 0) fun x48 =>
  if ((x46.length : Int) != (x48.length : Int)) then
  some true
  else
  Option.bind (idx rows_0 st4) fun x56 =>
  Option.bind (m_spec_l00In n (x56.length : Int) 2 8) fun x58 =>
  some (!x58)) fun x44 =>
  if x44 then
  some (.done (.inr false))
  else
  Option.bind (loopN (m_spec_l20Ok_l2 n rows_0 st4) n 0) fun t85 =>
  match t85 with
  | .inl q108 =>
  some (.next (wI64 (st4 + 1)))
  | .inr r =>
  some (.done (.inr r))
  else
  some (.done (.inl ()))

def m_spec_l20Ok (n : Nat) (rows_0 : List (List UInt8)) : Option (Bool) :=
  Option.bind (loopN (m_spec_l20Ok_l1 n rows_0) n 0) fun t15 =>
  match t15 with
  | .inl q118 =>
  Option.bind (m_spec_l00In n (rows_0.length : Int) 2 12) fun x120 =>
  some x120
  | .inr r =>
  some r

def m_spec_ValidWear (n : Nat) (rows_0 : List (List UInt8)) : Option (Bool) :=
  Option.bind (m_spec_l20Ok n rows_0) fun x3 =>
  some x3

def m_laws_toStringS_l1 (n : Nat) (a_0 : List (List UInt8)) (st43 : Int × List (List UInt8)) : Option (Step (Int × List (List UInt8)) (List (List UInt8))) :=
  if (decide (st43.1 < (a_0.length : Int))) then
  Option.bind (idx a_0 st43.1) fun x60 =>
  Option.bind (idx st43.2 st43.1) fun x62 =>
  some (.next ((wI64 (st43.1 + 1)), (st43.2.set (Int.toNat st43.1) x60)))
  else
  some (.done st43.2)

def m_laws_toStringS (n : Nat) (a_0 : List (List UInt8)) : Option (List (List UInt8)) :=
  Option.bind (mk ([] : List UInt8) (a_0.length : Int)) fun x3 =>
  Option.bind (loopN (m_laws_toStringS_l1 n a_0) n (0, x3)) fun q70 =>
  some q70

def m_impl_within (n : Nat) (n_0 : Int) (low_1 : Int) (high_2 : Int) : Option (Bool) :=
  Option.bind (if (decide (n_0 ≥ low_1)) then
  some (decide (n_0 ≤ high_2))
  else
  some false) fun x4 =>
  some x4

def m_impl_ValidWear_l2 (n : Nat) (x70 : List UInt8) (st79 : Int) : Option (Step (Int) ((Unit) ⊕ (Bool))) :=
  if (decide (st79 < (x70.length : Int))) then
  Option.bind (Option.bind (idx x70 st79) fun x105 =>
  if (decide ((x105.toNat : Int) < 48)) then
  some true
  else
  Option.bind (idx x70 st79) fun x108 =>
  some (decide ((x108.toNat : Int) > 57))) fun x103 =>
  if x103 then
  some (.done (.inr false))
  else
  some (.next (wI64 (st79 + 1)))
  else
  some (.done (.inl ()))

def m_impl_ValidWear_l1 (n : Nat) (rows_0 : List (List UInt8)) (st52 : Int) : Option (Step (Int) ((Unit) ⊕ (Bool))) :=
  if (decide (st52 < (rows_0.length : Int))) then
  Option.bind (idx rows_0 st52) fun x70 =>
  Option.bind (idx rows_0 0) fun x74 =>
  if ((x70.length : Int) != (x74.length : Int)) then
  some (.done (.inr false))
  else
  Option.bind (loopN (m_impl_ValidWear_l2 n x70) n 0) fun t90 =>
  match t90 with
  | .inl q116 =>
  some (.next (wI64 (st52 + 1)))
  | .inr r =>
  some (.done (.inr r))
  else
  some (.done (.inl ()))

def m_impl_ValidWear (n : Nat) (rows_0 : List (List UInt8)) : Option (Bool) :=
  Option.bind (Option.bind (m_impl_within n (rows_0.length : Int) 2 12) fun x25 =>
  if (!x25) then
  some true
  else
  Option.bind (idx rows_0 0) fun x34 =>
  Option.bind (m_impl_within n (x34.length : Int) 2 8) fun x36 =>
  some (!x36)) fun x23 =>
  if x23 then
  some false
  else
  Option.bind (loopN (m_impl_ValidWear_l1 n rows_0) n 0) fun t63 =>
  match t63 with
  | .inl q118 =>
  some true
  | .inr r =>
  some r

def m_laws_eqStringS_l1 (n : Nat) (a_0 : List (List UInt8)) (b_1 : List (List UInt8)) (st8 : Int) : Option (Step (Int) ((Unit) ⊕ (Bool))) :=
  if (decide (st8 < (a_0.length : Int))) then
  Option.bind (idx a_0 st8) fun x26 =>
  Option.bind (idx b_1 st8) fun x28 =>
  if (!(x26 == x28)) then
  some (.done (.inr false))
  else
  some (.next (wI64 (st8 + 1)))
  else
  some (.done (.inl ()))

def m_laws_eqStringS (n : Nat) (a_0 : List (List UInt8)) (b_1 : List (List UInt8)) : Option (Bool) :=
  if ((a_0.length : Int) != (b_1.length : Int)) then
  some false
  else
  Option.bind (loopN (m_laws_eqStringS_l1 n a_0 b_1) n 0) fun t19 =>
  match t19 with
  | .inl q38 =>
  some true
  | .inr r =>
  some r

def m_laws_FnExactValidWear (n : Nat) (aRows_0 : List (List UInt8)) : Option (Bool) :=
  Option.bind (m_laws_szStringS n aRows_0 1048576) fun x4 =>
  if (decide (x4 < 0)) then
  some true
  else
  Option.bind (m_laws_toStringS n aRows_0) fun x17 =>
  Option.bind (m_spec_ValidWear n x17) fun x28 =>
  Option.bind (m_laws_toStringS n aRows_0) fun x37 =>
  Option.bind (m_impl_ValidWear n x37) fun x49 =>
  if (!(x49 == x28)) then
  some false
  else
  Option.bind (m_laws_toStringS n aRows_0) fun x63 =>
  Option.bind (m_laws_eqStringS n x37 x63) fun x74 =>
  if (!x74) then
  some false
  else
  some true

def m_spec_l20Code (n : Nat) (rows_0 : List (List UInt8)) (least_1 : Int) : Option (Int) :=
  Option.bind (m_spec_l20Ok n rows_0) fun x4 =>
  if (!x4) then
  some 1
  else
  Option.bind (m_spec_l00In n least_1 1 9) fun x16 =>
  if (!x16) then
  some 2
  else
  some 0

def m_spec_l20At (n : Nat) (rows_0 : List (List UInt8)) (y_1 : Int) (x_2 : Int) : Option (Int) :=
  Option.bind (idx rows_0 y_1) fun x3 =>
  Option.bind (idx x3 x_2) fun x5 =>
  some (wI64 (IntKind.u8.wrap ((x5.toNat : Int) - 48)))

def m_spec_WornFields_l2 (n : Nat) (rows_0 : List (List UInt8)) (least_1 : Int) (st18 : Int × Int) (st36 : Int × Int) : Option (Step (Int × Int) (Int)) :=
  Option.bind (idx rows_0 st18.2) fun x51 =>
  if (decide (st36.2 < (x51.length : Int))) then
  Option.bind (m_spec_l20At n rows_0 st18.2 st36.2) fun x56 =>
  Option.bind (if (decide (x56 ≥ least_1)) then
  some (wI64 (st36.1 + 1))
  else
  some st36.1) fun x65 =>
  some (.next (x65, (wI64 (st36.2 + 1))))
  else
  some (.done st36.1)

def m_spec_WornFields_l1 (n : Nat) (rows_0 : List (List UInt8)) (least_1 : Int) (st18 : Int × Int) : Option (Step (Int × Int) (Int)) :=
  if (decide (st18.2 < (rows_0.length : Int))) then
  Option.bind (loopN (m_spec_WornFields_l2 n rows_0 least_1 st18) n (st18.1, 0)) fun q71 =>
  some (.next (q71, (wI64 (st18.2 + 1))))
  else
  some (.done st18.1)

def m_spec_WornFields (n : Nat) (rows_0 : List (List UInt8)) (least_1 : Int) : Option (Int × Int) :=
  Option.bind (m_spec_l20Code n rows_0 least_1) fun x3 =>
  if (x3 != 0) then
  some (0, x3)
  else
  Option.bind (loopN (m_spec_WornFields_l1 n rows_0 least_1) n (0, 0)) fun q73 =>
  some (q73, 0)

def m_impl_wearCode (n : Nat) (rows_0 : List (List UInt8)) (least_1 : Int) : Option (Int) :=
  Option.bind (m_impl_ValidWear n rows_0) fun x4 =>
  if (!x4) then
  some 1
  else
  Option.bind (m_impl_within n least_1 1 9) fun x15 =>
  if (!x15) then
  some 2
  else
  some 0

def m_impl_digits_l2 (n : Nat) (x35 : List UInt8) (st38 : List Int × Int) : Option (Step (List Int × Int) (List Int)) :=
  if (decide (st38.2 < (x35.length : Int))) then
  Option.bind (idx x35 st38.2) fun x59 =>
  Option.bind (app st38.1 ([(wI64 (IntKind.u8.wrap ((x59.toNat : Int) - 48)))] : List Int)) fun x70 =>
  some (.next (x70, (wI64 (st38.2 + 1))))
  else
  some (.done st38.1)

def m_impl_digits_l1 (n : Nat) (rows_0 : List (List UInt8)) (st14 : List Int × Int) : Option (Step (List Int × Int) (List Int)) :=
  if (decide (st14.2 < (rows_0.length : Int))) then
  Option.bind (idx rows_0 st14.2) fun x35 =>
  Option.bind (loopN (m_impl_digits_l2 n x35) n (st14.1, 0)) fun q79 =>
  some (.next (q79, (wI64 (st14.2 + 1))))
  else
  some (.done st14.1)

def m_impl_digits (n : Nat) (rows_0 : List (List UInt8)) : Option (List Int) :=
  Option.bind (loopN (m_impl_digits_l1 n rows_0) n (([] : List Int), 0)) fun q84 =>
  some q84

def m_impl_WornFields_l1 (n : Nat) (least_1 : Int) (x18 : List Int) (st29 : Int × Int) : Option (Step (Int × Int) (Int)) :=
  if (decide (st29.2 < (x18.length : Int))) then
  Option.bind (idx x18 st29.2) fun x47 =>
  Option.bind (if (decide (x47 ≥ least_1)) then
  some (wI64 (st29.1 + 1))
  else
  some st29.1) fun x51 =>
  some (.next (x51, (wI64 (st29.2 + 1))))
  else
  some (.done st29.1)

def m_impl_WornFields (n : Nat) (rows_0 : List (List UInt8)) (least_1 : Int) : Option (Int × Int) :=
  Option.bind (m_impl_wearCode n rows_0 least_1) fun x4 =>
  if (x4 != 0) then
  some (0, x4)
  else
  Option.bind (m_impl_digits n rows_0) fun x18 =>
  Option.bind (loopN (m_impl_WornFields_l1 n least_1 x18) n (0, 0)) fun q58 =>
  some (q58, 0)

def m_laws_FnExactWornFields (n : Nat) (aRows_0 : List (List UInt8)) (aLeast_1 : Int) : Option (Bool) :=
  Option.bind (m_laws_szStringS n aRows_0 1048576) fun x4 =>
  if (decide (x4 < 0)) then
  some true
  else
  Option.bind (m_laws_toStringS n aRows_0) fun x17 =>
  Option.bind (m_spec_WornFields n x17 aLeast_1) fun x28 =>
  Option.bind (m_laws_toStringS n aRows_0) fun x37 =>
  Option.bind (m_impl_WornFields n x37 aLeast_1) fun x49 =>
  Option.bind (if (x49.1 != x28.1) then
  some true
  else
  some (x49.2 != x28.2)) fun x60 =>
  if x60 then
  some false
  else
  Option.bind (m_laws_toStringS n aRows_0) fun x71 =>
  Option.bind (m_laws_eqStringS n x37 x71) fun x82 =>
  if (!x82) then
  some false
  else
  some true

def m_spec_l20Mirror_l2 (n : Nat) (rows_0 : List (List UInt8)) (st14 : List (List UInt8) × Int) (st48 : List Int × Int) : Option (Step (List Int × Int) (List Int)) :=
  if (decide (st48.2 ≥ 0)) then
  Option.bind (idx rows_0 st14.2) fun x68 =>
  Option.bind (idx x68 st48.2) fun x70 =>
  Option.bind (app st48.1 ([(x70.toNat : Int)] : List Int)) fun x81 =>
  some (.next (x81, (wI64 (st48.2 - 1))))
  else
  some (.done st48.1)

def m_spec_l20Mirror_l1 (n : Nat) (rows_0 : List (List UInt8)) (st14 : List (List UInt8) × Int) : Option (Step (List (List UInt8) × Int) (List (List UInt8))) :=
  if (decide (st14.2 < (rows_0.length : Int))) then
  Option.bind (idx rows_0 st14.2) fun x46 =>
  Option.bind (loopN (m_spec_l20Mirror_l2 n rows_0 st14) n (([] : List Int), (wI64 ((x46.length : Int) - 1)))) fun q108 =>
  Option.bind (app st14.1 ([(ofBytes q108)] : List (List UInt8))) fun x121 =>
  some (.next (x121, (wI64 (st14.2 + 1))))
  else
  some (.done st14.1)

def m_spec_l20Mirror (n : Nat) (rows_0 : List (List UInt8)) : Option (List (List UInt8)) :=
  Option.bind (loopN (m_spec_l20Mirror_l1 n rows_0) n (([] : List (List UInt8)), 0)) fun q131 =>
  some q131

def m_spec_MirrorWear (n : Nat) (rows_0 : List (List UInt8)) : Option (List (List UInt8) × Int) :=
  Option.bind (m_spec_l20Ok n rows_0) fun x4 =>
  if (!x4) then
  some (([] : List (List UInt8)), 1)
  else
  Option.bind (m_spec_l20Mirror n rows_0) fun x17 =>
  some (x17, 0)

def m_slices_Reverse_byte_byte_l1 (n : Nat)  (st49 : Int × Int × List Int) : Option (Step (Int × Int × List Int) (List Int)) :=
  if (decide (st49.1 < st49.2.1)) then
  Option.bind (idx st49.2.2 st49.2.1) fun x72 =>
  Option.bind (idx st49.2.2 st49.1) fun x74 =>
  Option.bind (idx st49.2.2 st49.1) fun x76 =>
  Option.bind (idx (st49.2.2.set (Int.toNat st49.1) x72) st49.2.1) fun x89 =>
  some (.next ((wI64 (st49.1 + 1)), (wI64 (st49.2.1 - 1)), ((st49.2.2.set (Int.toNat st49.1) x72).set (Int.toNat st49.2.1) x74)))
  else
  some (.done st49.2.2)

def m_slices_Reverse_byte_byte (n : Nat) (s_0 : List Int) : Option (List Int) :=
  Option.bind (loopN (m_slices_Reverse_byte_byte_l1 n) n (0, (wI64 ((s_0.length : Int) - 1)), s_0)) fun q97 =>
  some q97

def m_impl_mirrorWear_l1 (n : Nat) (rows_0 : List (List UInt8)) (st14 : List (List UInt8) × Int) : Option (Step (List (List UInt8) × Int) (List (List UInt8))) :=
  if (decide (st14.2 < (rows_0.length : Int))) then
  Option.bind (idx rows_0 st14.2) fun x35 =>
  Option.bind (m_slices_Reverse_byte_byte n (toBytes x35)) fun x48 =>
  Option.bind (app st14.1 ([(ofBytes x48)] : List (List UInt8))) fun x67 =>
  some (.next (x67, (wI64 (st14.2 + 1))))
  else
  some (.done st14.1)

def m_impl_mirrorWear (n : Nat) (rows_0 : List (List UInt8)) : Option (List (List UInt8)) :=
  Option.bind (loopN (m_impl_mirrorWear_l1 n rows_0) n (([] : List (List UInt8)), 0)) fun q77 =>
  some q77

def m_impl_MirrorWear (n : Nat) (rows_0 : List (List UInt8)) : Option (List (List UInt8) × Int) :=
  Option.bind (m_impl_ValidWear n rows_0) fun x4 =>
  if (!x4) then
  some (([] : List (List UInt8)), 1)
  else
  Option.bind (m_impl_mirrorWear n rows_0) fun x17 =>
  some (x17, 0)

def m_laws_markText_l1 (n : Nat)  (st8 : Int × List UInt8) : Option (Step (Int × List UInt8) (List UInt8)) :=
  if (decide (st8.1 > 0)) then
  Option.bind (app (ofBytes ([(IntKind.u8.wrap (wI64 (48 + (Int.tmod st8.1 10))))] : List Int)) st8.2) fun x34 =>
  some (.next ((wI64 (Int.tdiv st8.1 10)), x34))
  else
  some (.done st8.2)

def m_laws_markText (n : Nat) (k_0 : Int) : Option (List UInt8) :=
  if (decide (k_0 ≤ 0)) then
  some [109, 48]
  else
  Option.bind (loopN (m_laws_markText_l1 n) n (k_0, [])) fun q39 =>
  Option.bind (app [109] q39) fun x41 =>
  some x41

def m_laws_markStringS_l1 (n : Nat)  (st39 : Int × Int × List (List UInt8)) : Option (Step (Int × Int × List (List UInt8)) (Int × List (List UInt8))) :=
  if (decide (st39.2.1 < (st39.2.2.length : Int))) then
  Option.bind (m_laws_markText n st39.1) fun x58 =>
  Option.bind (idx st39.2.2 st39.2.1) fun x66 =>
  some (.next ((wI64 (st39.1 + 1)), (wI64 (st39.2.1 + 1)), (st39.2.2.set (Int.toNat st39.2.1) x58)))
  else
  some (.done (st39.1, st39.2.2))

def m_laws_markStringS (n : Nat) (a_0 : List (List UInt8)) (k_1 : Int) : Option (Int × List (List UInt8)) :=
  Option.bind (loopN (m_laws_markStringS_l1 n) n (k_1, 0, a_0)) fun q75 =>
  some (q75.1, q75.2)

def m_laws_heldStringS_l1 (n : Nat) (a_0 : List (List UInt8)) (st4 : Int × Int) : Option (Step (Int × Int) ((Int) ⊕ (Int))) :=
  if (decide (st4.2 < (a_0.length : Int))) then
  Option.bind (idx a_0 st4.2) fun x23 =>
  Option.bind (m_laws_markText n st4.1) fun x25 =>
  if (!(x23 == x25)) then
  some (.done (.inr (-1)))
  else
  some (.next ((wI64 (st4.1 + 1)), (wI64 (st4.2 + 1))))
  else
  some (.done (.inl st4.1))

def m_laws_heldStringS (n : Nat) (a_0 : List (List UInt8)) (k_1 : Int) : Option (Int) :=
  Option.bind (loopN (m_laws_heldStringS_l1 n a_0) n (k_1, 0)) fun t15 =>
  match t15 with
  | .inl q37 =>
  some q37
  | .inr r =>
  some r

def m_laws_FnExactMirrorWear (n : Nat) (aRows_0 : List (List UInt8)) : Option (Bool) :=
  Option.bind (m_laws_szStringS n aRows_0 1048576) fun x4 =>
  if (decide (x4 < 0)) then
  some true
  else
  Option.bind (m_laws_toStringS n aRows_0) fun x17 =>
  Option.bind (m_spec_MirrorWear n x17) fun x28 =>
  Option.bind (m_laws_toStringS n aRows_0) fun x40 =>
  Option.bind (m_impl_MirrorWear n x40) fun x52 =>
  Option.bind (Option.bind (m_laws_eqStringS n x52.1 x28.1) fun x76 =>
  if (!x76) then
  some true
  else
  some (x52.2 != x28.2)) fun x74 =>
  if x74 then
  some false
  else
  Option.bind (m_laws_toStringS n aRows_0) fun x93 =>
  Option.bind (m_laws_eqStringS n x40 x93) fun x104 =>
  if (!x104) then
  some false
  else
  Option.bind (m_laws_markStringS n x40 1) fun x116 =>
  Option.bind (if (decide (x116.1 < 0)) then
  some true
  else
  Option.bind (m_laws_eqStringS n x52.1 x28.1) fun x141 =>
  if (!x141) then
  some true
  else
  some (x52.2 != x28.2)) fun x138 =>
  if x138 then
  some false
  else
  Option.bind (m_laws_markStringS n x52.1 1) fun x158 =>
  Option.bind (m_laws_heldStringS n x158.2 1) fun x170 =>
  if (decide (x170 < 0)) then
  some false
  else
  if (x170 != x158.1) then
  some false
  else
  Option.bind (m_laws_toStringS n aRows_0) fun x187 =>
  Option.bind (m_impl_MirrorWear n x187) fun x198 =>
  Option.bind (Option.bind (m_laws_eqStringS n x198.1 x28.1) fun x222 =>
  if (!x222) then
  some true
  else
  some (x198.2 != x28.2)) fun x220 =>
  if x220 then
  some false
  else
  Option.bind (m_laws_heldStringS n x158.2 1) fun x239 =>
  if (decide (x239 < 0)) then
  some false
  else
  if (x239 != x158.1) then
  some false
  else
  some true

def m_spec_l20Two (n : Nat) (a_0 : List (List UInt8)) (b_1 : List (List UInt8)) : Option (Int) :=
  Option.bind (Option.bind (m_spec_l20Ok n a_0) fun x23 =>
  if (!x23) then
  some true
  else
  Option.bind (m_spec_l20Ok n b_1) fun x32 =>
  some (!x32)) fun x21 =>
  if x21 then
  some 1
  else
  Option.bind (if ((a_0.length : Int) != (b_1.length : Int)) then
  some true
  else
  Option.bind (idx a_0 0) fun x71 =>
  Option.bind (idx b_1 0) fun x73 =>
  some ((x71.length : Int) != (x73.length : Int))) fun x63 =>
  if x63 then
  some 9
  else
  some 0

def m_spec_l00Min (n : Nat) (a_0 : Int) (b_1 : Int) : Option (Int) :=
  if (decide (a_0 < b_1)) then
  some a_0
  else
  some b_1

def m_spec_AddWear_l2 (n : Nat) (a_0 : List (List UInt8)) (b_1 : List (List UInt8)) (st29 : List (List UInt8) × Int) (st61 : List Int × Int) : Option (Step (List Int × Int) (List Int)) :=
  Option.bind (idx a_0 st29.2) fun x79 =>
  if (decide (st61.2 < (x79.length : Int))) then
  Option.bind (m_spec_l20At n a_0 st29.2 st61.2) fun x83 =>
  Option.bind (m_spec_l20At n b_1 st29.2 st61.2) fun x91 =>
  Option.bind (m_spec_l00Min n 9 (wI64 (x83 + x91))) fun x99 =>
  Option.bind (app st61.1 ([(IntKind.u8.wrap (wI64 (48 + x99)))] : List Int)) fun x116 =>
  some (.next (x116, (wI64 (st61.2 + 1))))
  else
  some (.done st61.1)

def m_spec_AddWear_l1 (n : Nat) (a_0 : List (List UInt8)) (b_1 : List (List UInt8)) (st29 : List (List UInt8) × Int) : Option (Step (List (List UInt8) × Int) (List (List UInt8))) :=
  if (decide (st29.2 < (a_0.length : Int))) then
  Option.bind (loopN (m_spec_AddWear_l2 n a_0 b_1 st29) n (([] : List Int), 0)) fun q143 =>
  Option.bind (app st29.1 ([(ofBytes q143)] : List (List UInt8))) fun x156 =>
  some (.next (x156, (wI64 (st29.2 + 1))))
  else
  some (.done st29.1)

def m_spec_AddWear (n : Nat) (a_0 : List (List UInt8)) (b_1 : List (List UInt8)) : Option (List (List UInt8) × Int) :=
  Option.bind (m_spec_l20Two n a_0 b_1) fun x3 =>
  if (x3 != 0) then
  some (([] : List (List UInt8)), x3)
  else
  Option.bind (loopN (m_spec_AddWear_l1 n a_0 b_1) n (([] : List (List UInt8)), 0)) fun q166 =>
  some (q166, 0)

def m_impl_sameWear (n : Nat) (a_0 : List (List UInt8)) (b_1 : List (List UInt8)) : Option (Int) :=
  Option.bind (Option.bind (m_impl_ValidWear n a_0) fun x23 =>
  if (!x23) then
  some true
  else
  Option.bind (m_impl_ValidWear n b_1) fun x32 =>
  some (!x32)) fun x21 =>
  if x21 then
  some 1
  else
  Option.bind (if ((a_0.length : Int) != (b_1.length : Int)) then
  some true
  else
  Option.bind (idx a_0 0) fun x70 =>
  Option.bind (idx b_1 0) fun x72 =>
  some ((x70.length : Int) != (x72.length : Int))) fun x62 =>
  if x62 then
  some 9
  else
  some 0

def m_impl_AddWear_l2 (n : Nat) (a_0 : List (List UInt8)) (b_1 : List (List UInt8)) (st29 : List (List UInt8) × Int) (x62 : List UInt8) (st64 : List Int × Int) : Option (Step (List Int × Int) (List Int)) :=
  if (decide (st64.2 < (x62.length : Int))) then
  Option.bind (idx a_0 st29.2) fun x90 =>
  Option.bind (idx x90 st64.2) fun x92 =>
  Option.bind (idx b_1 st29.2) fun x94 =>
  Option.bind (idx x94 st64.2) fun x96 =>
  Option.bind (app st64.1 ([(imin (IntKind.u8.wrap ((x92.toNat : Int) + (IntKind.u8.wrap ((x96.toNat : Int) - 48)))) 57)] : List Int)) fun x112 =>
  some (.next (x112, (wI64 (st64.2 + 1))))
  else
  some (.done st64.1)

def m_impl_AddWear_l1 (n : Nat) (a_0 : List (List UInt8)) (b_1 : List (List UInt8)) (st29 : List (List UInt8) × Int) : Option (Step (List (List UInt8) × Int) (List (List UInt8))) :=
  if (decide (st29.2 < (a_0.length : Int))) then
  Option.bind (idx a_0 st29.2) fun x62 =>
  Option.bind (loopN (m_impl_AddWear_l2 n a_0 b_1 st29 x62) n (([] : List Int), 0)) fun q139 =>
  Option.bind (app st29.1 ([(ofBytes q139)] : List (List UInt8))) fun x152 =>
  some (.next (x152, (wI64 (st29.2 + 1))))
  else
  some (.done st29.1)

def m_impl_AddWear (n : Nat) (a_0 : List (List UInt8)) (b_1 : List (List UInt8)) : Option (List (List UInt8) × Int) :=
  Option.bind (m_impl_sameWear n a_0 b_1) fun x4 =>
  if (x4 != 0) then
  some (([] : List (List UInt8)), x4)
  else
  Option.bind (loopN (m_impl_AddWear_l1 n a_0 b_1) n (([] : List (List UInt8)), 0)) fun q162 =>
  some (q162, 0)

def m_laws_FnExactAddWear (n : Nat) (aA_0 : List (List UInt8)) (aB_1 : List (List UInt8)) : Option (Bool) :=
  Option.bind (m_laws_szStringS n aA_0 1048576) fun x4 =>
  if (decide (x4 < 0)) then
  some true
  else
  Option.bind (m_laws_szStringS n aB_1 x4) fun x17 =>
  if (decide (x17 < 0)) then
  some true
  else
  Option.bind (m_laws_toStringS n aA_0) fun x30 =>
  Option.bind (m_laws_toStringS n aB_1) fun x41 =>
  Option.bind (m_spec_AddWear n x30 x41) fun x52 =>
  Option.bind (m_laws_toStringS n aA_0) fun x64 =>
  Option.bind (m_laws_toStringS n aB_1) fun x76 =>
  Option.bind (m_impl_AddWear n x64 x76) fun x88 =>
  Option.bind (Option.bind (m_laws_eqStringS n x88.1 x52.1) fun x112 =>
  if (!x112) then
  some true
  else
  some (x88.2 != x52.2)) fun x110 =>
  if x110 then
  some false
  else
  Option.bind (m_laws_toStringS n aA_0) fun x129 =>
  Option.bind (m_laws_eqStringS n x64 x129) fun x140 =>
  if (!x140) then
  some false
  else
  Option.bind (m_laws_toStringS n aB_1) fun x152 =>
  Option.bind (m_laws_eqStringS n x76 x152) fun x163 =>
  if (!x163) then
  some false
  else
  Option.bind (m_laws_markStringS n x64 1) fun x175 =>
  Option.bind (m_laws_markStringS n x76 x175.1) fun x186 =>
  Option.bind (if (decide (x186.1 < 0)) then
  some true
  else
  Option.bind (m_laws_eqStringS n x88.1 x52.1) fun x211 =>
  if (!x211) then
  some true
  else
  some (x88.2 != x52.2)) fun x208 =>
  if x208 then
  some false
  else
  Option.bind (m_laws_markStringS n x88.1 1) fun x228 =>
  Option.bind (m_laws_heldStringS n x228.2 1) fun x240 =>
  if (decide (x240 < 0)) then
  some false
  else
  if (x240 != x228.1) then
  some false
  else
  Option.bind (m_laws_toStringS n aA_0) fun x257 =>
  Option.bind (m_laws_toStringS n aB_1) fun x268 =>
  Option.bind (m_impl_AddWear n x257 x268) fun x279 =>
  Option.bind (Option.bind (m_laws_eqStringS n x279.1 x52.1) fun x303 =>
  if (!x303) then
  some true
  else
  some (x279.2 != x52.2)) fun x301 =>
  if x301 then
  some false
  else
  Option.bind (m_laws_heldStringS n x228.2 1) fun x320 =>
  if (decide (x320 < 0)) then
  some false
  else
  if (x320 != x228.1) then
  some false
  else
  some true

def m_spec_l02Size (n : Nat) (n_0 : Int) : Option (Int) :=
  if (decide (n_0 < 0)) then
  some (wI64 (0 - n_0))
  else
  some n_0

def m_spec_l02Gcd_l1 (n : Nat)  (st3 : Int × Int) : Option (Step (Int × Int) (Int)) :=
  if (st3.2 != 0) then
  Option.bind (rem st3.1 st3.2) fun x20 =>
  some (.next (st3.2, x20))
  else
  some (.done st3.1)

def m_spec_l02Gcd (n : Nat) (a_0 : Int) (b_1 : Int) : Option (Int) :=
  Option.bind (loopN (m_spec_l02Gcd_l1 n) n (a_0, b_1)) fun q24 =>
  some q24

def m_spec_l02Make (n : Nat) (num_0 : Int) (den_1 : Int) : Option (SFraction) :=
  Option.bind (m_spec_l02Size n num_0) fun x11 =>
  Option.bind (m_spec_l02Gcd n x11 den_1) fun x19 =>
  Option.bind (quo .i64 num_0 x19) fun x33 =>
  Option.bind (quo .i64 den_1 x19) fun x35 =>
  some (SFraction.mk x33 x35)

def m_spec_CentreOfWear_l2 (n : Nat) (rows_0 : List (List UInt8)) (st45 : Int × Int × Int × Int) (st63 : Int × Int × Int × Int) : Option (Step (Int × Int × Int × Int) (Int × Int × Int)) :=
  Option.bind (idx rows_0 st45.2.2.2) fun x78 =>
  if (decide (st63.2.2.2 < (x78.length : Int))) then
  Option.bind (m_spec_l20At n rows_0 st45.2.2.2 st63.2.2.2) fun x83 =>
  some (.next ((wI64 (st63.1 + x83)), (wI64 (st63.2.1 + (wI64 (x83 * st45.2.2.2)))), (wI64 (st63.2.2.1 + (wI64 (x83 * st63.2.2.2)))), (wI64 (st63.2.2.2 + 1))))
  else
  some (.done (st63.1, st63.2.1, st63.2.2.1))

def m_spec_CentreOfWear_l1 (n : Nat) (rows_0 : List (List UInt8)) (st45 : Int × Int × Int × Int) : Option (Step (Int × Int × Int × Int) (Int × Int × Int)) :=
  if (decide (st45.2.2.2 < (rows_0.length : Int))) then
  Option.bind (loopN (m_spec_CentreOfWear_l2 n rows_0 st45) n (st45.1, st45.2.1, st45.2.2.1, 0)) fun q93 =>
  some (.next (q93.1, q93.2.1, q93.2.2, (wI64 (st45.2.2.2 + 1))))
  else
  some (.done (st45.1, st45.2.1, st45.2.2.1))

def m_spec_CentreOfWear (n : Nat) (rows_0 : List (List UInt8)) : Option (SFraction × SFraction × Int) :=
  Option.bind (m_spec_l20Ok n rows_0) fun x20 =>
  if (!x20) then
  some ((SFraction.mk 0 0), (SFraction.mk 0 0), 1)
  else
  Option.bind (loopN (m_spec_CentreOfWear_l1 n rows_0) n (0, 0, 0, 0)) fun q135 =>
  if (q135.1 == 0) then
  some ((SFraction.mk 0 0), (SFraction.mk 0 0), 3)
  else
  Option.bind (m_spec_l02Make n q135.2.1 q135.1) fun x151 =>
  Option.bind (m_spec_l02Make n q135.2.2 q135.1) fun x159 =>
  some (x151, x159, 0)

def m_impl_gcd_l1 (n : Nat)  (st3 : Int × Int) : Option (Step (Int × Int) (Int)) :=
  if (st3.2 != 0) then
  Option.bind (rem st3.1 st3.2) fun x19 =>
  some (.next (st3.2, x19))
  else
  some (.done st3.1)

def m_impl_gcd (n : Nat) (a_0 : Int) (b_1 : Int) : Option (Int) :=
  Option.bind (loopN (m_impl_gcd_l1 n) n (a_0, b_1)) fun q27 =>
  some (imax q27 (wI64 (0 - q27)))

def m_impl_lowest (n : Nat) (num_0 : Int) (den_1 : Int) : Option (SFraction) :=
  Option.bind (if (decide (den_1 < 0)) then
  some ((wI64 (0 - num_0)), (wI64 (0 - den_1)))
  else
  some (num_0, den_1)) fun x13 =>
  Option.bind (m_impl_gcd n x13.1 x13.2) fun x20 =>
  Option.bind (quo .i64 x13.1 x20) fun x34 =>
  Option.bind (quo .i64 x13.2 x20) fun x36 =>
  some (SFraction.mk x34 x36)

def m_impl_CentreOfWear_l1 (n : Nat) (x41 : List UInt8) (x45 : List Int) (st56 : Int × Int × Int × Int) : Option (Step (Int × Int × Int × Int) (Int × Int × Int)) :=
  if (decide (st56.2.2.2 < (x45.length : Int))) then
  Option.bind (idx x45 st56.2.2.2) fun x74 =>
  Option.bind (quo .i64 st56.2.2.2 (x41.length : Int)) fun x78 =>
  Option.bind (rem st56.2.2.2 (x41.length : Int)) fun x80 =>
  some (.next ((wI64 (st56.1 + x74)), (wI64 (st56.2.1 + (wI64 (x74 * x78)))), (wI64 (st56.2.2.1 + (wI64 (x74 * x80)))), (wI64 (st56.2.2.2 + 1))))
  else
  some (.done (st56.1, st56.2.1, st56.2.2.1))

def m_impl_CentreOfWear (n : Nat) (rows_0 : List (List UInt8)) : Option (SFraction × SFraction × Int) :=
  Option.bind (m_impl_ValidWear n rows_0) fun x20 =>
  if (!x20) then
  some ((SFraction.mk 0 0), (SFraction.mk 0 0), 1)
  else
  Option.bind (idx rows_0 0) fun x41 =>
  Option.bind (m_impl_digits n rows_0) fun x45 =>
  Option.bind (loopN (m_impl_CentreOfWear_l1 n x41 x45) n (0, 0, 0, 0)) fun q123 =>
  if (q123.1 == 0) then
  some ((SFraction.mk 0 0), (SFraction.mk 0 0), 3)
  else
  Option.bind (m_impl_lowest n q123.2.1 q123.1) fun x139 =>
  Option.bind (m_impl_lowest n q123.2.2 q123.1) fun x147 =>
  some (x139, x147, 0)

def m_laws_eqFraction (n : Nat) (a_0 : SFraction) (b_1 : SFraction) : Option (Bool) :=
  if (a_0.Num != b_1.Num) then
  some false
  else
  if (a_0.Den != b_1.Den) then
  some false
  else
  some true

def m_laws_FnExactCentreOfWear (n : Nat) (aRows_0 : List (List UInt8)) : Option (Bool) :=
  Option.bind (m_laws_szStringS n aRows_0 1048576) fun x4 =>
  if (decide (x4 < 0)) then
  some true
  else
  Option.bind (m_laws_toStringS n aRows_0) fun x17 =>
  Option.bind (m_spec_CentreOfWear n x17) fun x28 =>
  Option.bind (m_laws_toStringS n aRows_0) fun x63 =>
  Option.bind (m_impl_CentreOfWear n x63) fun x75 =>
  Option.bind (Option.bind (m_laws_eqFraction n x75.1 x28.1) fun x131 =>
  if (!x131) then
  some true
  else
  Option.bind (m_laws_eqFraction n x75.2.1 x28.2.1) fun x140 =>
  if (!x140) then
  some true
  else
  some (x75.2.2 != x28.2.2)) fun x129 =>
  if x129 then
  some false
  else
  Option.bind (m_laws_toStringS n aRows_0) fun x157 =>
  Option.bind (m_laws_eqStringS n x63 x157) fun x168 =>
  if (!x168) then
  some false
  else
  some true

def m_spec_l20Half (n : Nat) (at_0 : Int) (n_1 : Int) : Option (Int) :=
  if (decide (at_0 < (wI64 (Int.tdiv n_1 2)))) then
  some 0
  else
  if (decide (at_0 ≥ (wI64 (n_1 - (wI64 (Int.tdiv n_1 2)))))) then
  some 1
  else
  some (-1)

def m_spec_l20Quarters_l2 (n : Nat) (rows_0 : List (List UInt8)) (st16 : Int) (st183 : Int × List Int) : Option (Step (Int × List Int) (List Int)) :=
  Option.bind (idx rows_0 st16) fun x198 =>
  if (decide (st183.1 < (x198.length : Int))) then
  Option.bind (m_spec_l20Half n st16 (rows_0.length : Int)) fun x203 =>
  Option.bind (idx rows_0 st16) fun x212 =>
  Option.bind (m_spec_l20Half n st183.1 (x212.length : Int)) fun x214 =>
  Option.bind (if (decide (x203 ≥ 0)) then
  some (decide (x214 ≥ 0))
  else
  some false) fun x224 =>
  Option.bind (if x224 then
  Option.bind (idx st183.2 (wI64 ((wI64 (2 * x203)) + x214))) fun x310 =>
  Option.bind (m_spec_l20At n rows_0 st16 st183.1) fun x312 =>
  Option.bind (idx st183.2 (wI64 ((wI64 (2 * x203)) + x214))) fun x316 =>
  some (st183.2.set (Int.toNat (wI64 ((wI64 (2 * x203)) + x214))) (wI64 (x310 + x312)))
  else
  some st183.2) fun x303 =>
  some (.next ((wI64 (st183.1 + 1)), x303))
  else
  some (.done st183.2)

def m_spec_l20Quarters_l3 (n : Nat) (rows_0 : List (List UInt8)) (st334 : Int × List Int) (st501 : Int × List Int) : Option (Step (Int × List Int) (List Int)) :=
  Option.bind (idx rows_0 st334.1) fun x516 =>
  if (decide (st501.1 < (x516.length : Int))) then
  Option.bind (m_spec_l20Half n st334.1 (rows_0.length : Int)) fun x521 =>
  Option.bind (idx rows_0 st334.1) fun x530 =>
  Option.bind (m_spec_l20Half n st501.1 (x530.length : Int)) fun x532 =>
  Option.bind (if (decide (x521 ≥ 0)) then
  some (decide (x532 ≥ 0))
  else
  some false) fun x542 =>
  Option.bind (if x542 then
  Option.bind (idx st501.2 (wI64 ((wI64 (2 * x521)) + x532))) fun x628 =>
  Option.bind (m_spec_l20At n rows_0 st334.1 st501.1) fun x630 =>
  Option.bind (idx st501.2 (wI64 ((wI64 (2 * x521)) + x532))) fun x634 =>
  some (st501.2.set (Int.toNat (wI64 ((wI64 (2 * x521)) + x532))) (wI64 (x628 + x630)))
  else
  some st501.2) fun x621 =>
  some (.next ((wI64 (st501.1 + 1)), x621))
  else
  some (.done st501.2)

def m_spec_l20Quarters_l1 (n : Nat) (rows_0 : List (List UInt8)) (st334 : Int × List Int) : Option (Step (Int × List Int) (List Int)) :=
  if (decide (st334.1 < (rows_0.length : Int))) then
  Option.bind (loopN (m_spec_l20Quarters_l3 n rows_0 st334) n (0, st334.2)) fun q650 =>
  some (.next ((wI64 (st334.1 + 1)), q650))
  else
  some (.done st334.2)

def m_spec_l20Quarters (n : Nat) (rows_0 : List (List UInt8)) : Option (List Int) :=
  Option.bind (mk (0 : Int) 4) fun x3 =>
  Option.bind (loopN (m_spec_l20Quarters_l1 n rows_0) n (0, x3)) fun q652 =>
  some q652

def m_spec_l02Sum_l1 (n : Nat) (list_0 : List Int) (st5 : Int × Int) : Option (Step (Int × Int) (Int)) :=
  if (decide (st5.2 < (list_0.length : Int))) then
  Option.bind (idx list_0 st5.2) fun x22 =>
  some (.next ((wI64 (st5.1 + x22)), (wI64 (st5.2 + 1))))
  else
  some (.done st5.1)

def m_spec_l02Sum (n : Nat) (list_0 : List Int) : Option (Int) :=
  Option.bind (loopN (m_spec_l02Sum_l1 n list_0) n (0, 0)) fun q25 =>
  some q25

def m_spec_DiagnoseWear_l1 (n : Nat) (x25 : List Int) (x37 : Int) (st47 : Int) : Option (Step (Int) ((Unit) ⊕ (List UInt8 × Int))) :=
  if (decide (st47 < (x25.length : Int))) then
  Option.bind (idx x25 st47) fun x65 =>
  if (decide ((wI64 (2 * x65)) > x37)) then
  Option.bind (idx ([[105, 110, 110, 101, 114, 45, 116, 111, 101], [111, 117, 116, 101, 114, 45, 116, 111, 101], [105, 110, 110, 101, 114, 45, 104, 101, 101, 108], [111, 117, 116, 101, 114, 45, 104, 101, 101, 108]] : List (List UInt8)) st47) fun x69 =>
  some (.done (.inr (x69, 0)))
  else
  some (.next (wI64 (st47 + 1)))
  else
  some (.done (.inl ()))

def m_spec_DiagnoseWear (n : Nat) (rows_0 : List (List UInt8)) : Option (List UInt8 × Int) :=
  Option.bind (m_spec_l20Ok n rows_0) fun x4 =>
  if (!x4) then
  some ([], 1)
  else
  Option.bind (m_spec_l20Quarters n rows_0) fun x25 =>
  Option.bind (m_spec_l02Sum n x25) fun x37 =>
  Option.bind (loopN (m_spec_DiagnoseWear_l1 n x25 x37) n 0) fun t58 =>
  match t58 with
  | .inl q72 =>
  some ([101, 118, 101, 110], 0)
  | .inr r =>
  some r

def m_impl_half (n : Nat) (place_0 : Int) (count_1 : Int) : Option (Int) :=
  if (decide (place_0 < (wI64 (Int.tdiv count_1 2)))) then
  some 0
  else
  if (decide (place_0 ≥ (wI64 (count_1 - (wI64 (Int.tdiv count_1 2)))))) then
  some 1
  else
  some (-1)

def m_impl_quarterSums_l1 (n : Nat) (rows_0 : List (List UInt8)) (x25 : List UInt8) (x38 : List Int) (st142 : Int × List Int) : Option (Step (Int × List Int) (List Int)) :=
  if (decide (st142.1 < (x38.length : Int))) then
  Option.bind (idx x38 st142.1) fun x160 =>
  Option.bind (quo .i64 st142.1 (x25.length : Int)) fun x163 =>
  Option.bind (m_impl_half n x163 (rows_0.length : Int)) fun x165 =>
  Option.bind (rem st142.1 (x25.length : Int)) fun x169 =>
  Option.bind (m_impl_half n x169 (x25.length : Int)) fun x171 =>
  Option.bind (if (decide (x165 ≥ 0)) then
  some (decide (x171 ≥ 0))
  else
  some false) fun x182 =>
  Option.bind (if x182 then
  Option.bind (idx st142.2 (wI64 ((wI64 (2 * x165)) + x171))) fun x221 =>
  Option.bind (idx st142.2 (wI64 ((wI64 (2 * x165)) + x171))) fun x223 =>
  some (st142.2.set (Int.toNat (wI64 ((wI64 (2 * x165)) + x171))) (wI64 (x221 + x160)))
  else
  some st142.2) fun x219 =>
  some (.next ((wI64 (st142.1 + 1)), x219))
  else
  some (.done st142.2)

def m_impl_quarterSums (n : Nat) (rows_0 : List (List UInt8)) : Option (List Int) :=
  Option.bind (mk (0 : Int) 4) fun x13 =>
  Option.bind (idx rows_0 0) fun x25 =>
  Option.bind (m_impl_digits n rows_0) fun x38 =>
  Option.bind (loopN (m_impl_quarterSums_l1 n rows_0 x25 x38) n (0, x13)) fun q235 =>
  some q235

def m_impl_sumOf_l1 (n : Nat) (list_0 : List Int) (st5 : Int × Int) : Option (Step (Int × Int) (Int)) :=
  if (decide (st5.2 < (list_0.length : Int))) then
  Option.bind (idx list_0 st5.2) fun x23 =>
  some (.next ((wI64 (st5.1 + x23)), (wI64 (st5.2 + 1))))
  else
  some (.done st5.1)

def m_impl_sumOf (n : Nat) (list_0 : List Int) : Option (Int) :=
  Option.bind (loopN (m_impl_sumOf_l1 n list_0) n (0, 0)) fun q26 =>
  some q26

def m_impl_DiagnoseWear_l1 (n : Nat) (x15 : List Int) (st28 : Int) : Option (Step (Int) ((Unit) ⊕ (List UInt8 × Int))) :=
  if (decide (st28 < 4)) then
  Option.bind (idx ([[105, 110, 110, 101, 114, 45, 116, 111, 101], [111, 117, 116, 101, 114, 45, 116, 111, 101], [105, 110, 110, 101, 114, 45, 104, 101, 101, 108], [111, 117, 116, 101, 114, 45, 104, 101, 101, 108]] : List (List UInt8)) st28) fun x46 =>
  Option.bind (idx x15 st28) fun x49 =>
  Option.bind (m_impl_sumOf n x15) fun x51 =>
  if (decide ((wI64 (2 * x49)) > x51)) then
  some (.done (.inr (x46, 0)))
  else
  some (.next (wI64 (st28 + 1)))
  else
  some (.done (.inl ()))

def m_impl_DiagnoseWear (n : Nat) (rows_0 : List (List UInt8)) : Option (List UInt8 × Int) :=
  Option.bind (m_impl_ValidWear n rows_0) fun x4 =>
  if (!x4) then
  some ([], 1)
  else
  Option.bind (m_impl_quarterSums n rows_0) fun x15 =>
  Option.bind (loopN (m_impl_DiagnoseWear_l1 n x15) n 0) fun t39 =>
  match t39 with
  | .inl q63 =>
  some ([101, 118, 101, 110], 0)
  | .inr r =>
  some r

def m_laws_FnExactDiagnoseWear (n : Nat) (aRows_0 : List (List UInt8)) : Option (Bool) :=
  Option.bind (m_laws_szStringS n aRows_0 1048576) fun x4 =>
  if (decide (x4 < 0)) then
  some true
  else
  Option.bind (m_laws_toStringS n aRows_0) fun x17 =>
  Option.bind (m_spec_DiagnoseWear n x17) fun x28 =>
  Option.bind (m_laws_toStringS n aRows_0) fun x37 =>
  Option.bind (m_impl_DiagnoseWear n x37) fun x49 =>
  Option.bind (if (!(x49.1 == x28.1)) then
  some true
  else
  some (x49.2 != x28.2)) fun x60 =>
  if x60 then
  some false
  else
  Option.bind (m_laws_toStringS n aRows_0) fun x71 =>
  Option.bind (m_laws_eqStringS n x37 x71) fun x82 =>
  if (!x82) then
  some false
  else
  some true

def m_spec_QuarterSums (n : Nat) (rows_0 : List (List UInt8)) : Option (List Int × Int) :=
  Option.bind (m_spec_l20Ok n rows_0) fun x4 =>
  if (!x4) then
  some (([] : List Int), 1)
  else
  Option.bind (m_spec_l20Quarters n rows_0) fun x17 =>
  some (x17, 0)

def m_impl_QuarterSums (n : Nat) (rows_0 : List (List UInt8)) : Option (List Int × Int) :=
  Option.bind (m_impl_ValidWear n rows_0) fun x4 =>
  if (!x4) then
  some (([] : List Int), 1)
  else
  Option.bind (m_impl_quarterSums n rows_0) fun x17 =>
  some (x17, 0)

def m_laws_eqInt64S_l1 (n : Nat) (a_0 : List Int) (b_1 : List Int) (st8 : Int) : Option (Step (Int) ((Unit) ⊕ (Bool))) :=
  if (decide (st8 < (a_0.length : Int))) then
  Option.bind (idx a_0 st8) fun x26 =>
  Option.bind (idx b_1 st8) fun x28 =>
  if (x26 != x28) then
  some (.done (.inr false))
  else
  some (.next (wI64 (st8 + 1)))
  else
  some (.done (.inl ()))

def m_laws_eqInt64S (n : Nat) (a_0 : List Int) (b_1 : List Int) : Option (Bool) :=
  if ((a_0.length : Int) != (b_1.length : Int)) then
  some false
  else
  Option.bind (loopN (m_laws_eqInt64S_l1 n a_0 b_1) n 0) fun t19 =>
  match t19 with
  | .inl q38 =>
  some true
  | .inr r =>
  some r

def m_laws_markInt64S_l1 (n : Nat)  (st31 : Int × Int × List Int) : Option (Step (Int × Int × List Int) (Int × List Int)) :=
  if (decide (st31.2.1 < (st31.2.2.length : Int))) then
  Option.bind (idx st31.2.2 st31.2.1) fun x50 =>
  some (.next ((wI64 (st31.1 + 1)), (wI64 (st31.2.1 + 1)), (st31.2.2.set (Int.toNat st31.2.1) st31.1)))
  else
  some (.done (st31.1, st31.2.2))

def m_laws_markInt64S (n : Nat) (a_0 : List Int) (k_1 : Int) : Option (Int × List Int) :=
  Option.bind (loopN (m_laws_markInt64S_l1 n) n (k_1, 0, a_0)) fun q59 =>
  some (q59.1, q59.2)

def m_laws_heldInt64S_l1 (n : Nat) (a_0 : List Int) (st4 : Int × Int) : Option (Step (Int × Int) ((Int) ⊕ (Int))) :=
  if (decide (st4.2 < (a_0.length : Int))) then
  Option.bind (idx a_0 st4.2) fun x23 =>
  if (x23 != st4.1) then
  some (.done (.inr (-1)))
  else
  some (.next ((wI64 (st4.1 + 1)), (wI64 (st4.2 + 1))))
  else
  some (.done (.inl st4.1))

def m_laws_heldInt64S (n : Nat) (a_0 : List Int) (k_1 : Int) : Option (Int) :=
  Option.bind (loopN (m_laws_heldInt64S_l1 n a_0) n (k_1, 0)) fun t15 =>
  match t15 with
  | .inl q28 =>
  some q28
  | .inr r =>
  some r

def m_laws_FnExactQuarterSums (n : Nat) (aRows_0 : List (List UInt8)) : Option (Bool) :=
  Option.bind (m_laws_szStringS n aRows_0 1048576) fun x4 =>
  if (decide (x4 < 0)) then
  some true
  else
  Option.bind (m_laws_toStringS n aRows_0) fun x17 =>
  Option.bind (m_spec_QuarterSums n x17) fun x28 =>
  Option.bind (m_laws_toStringS n aRows_0) fun x40 =>
  Option.bind (m_impl_QuarterSums n x40) fun x52 =>
  Option.bind (Option.bind (m_laws_eqInt64S n x52.1 x28.1) fun x76 =>
  if (!x76) then
  some true
  else
  some (x52.2 != x28.2)) fun x74 =>
  if x74 then
  some false
  else
  Option.bind (m_laws_toStringS n aRows_0) fun x93 =>
  Option.bind (m_laws_eqStringS n x40 x93) fun x104 =>
  if (!x104) then
  some false
  else
  Option.bind (m_laws_markStringS n x40 1) fun x116 =>
  Option.bind (if (decide (x116.1 < 0)) then
  some true
  else
  Option.bind (m_laws_eqInt64S n x52.1 x28.1) fun x141 =>
  if (!x141) then
  some true
  else
  some (x52.2 != x28.2)) fun x138 =>
  if x138 then
  some false
  else
  Option.bind (m_laws_markInt64S n x52.1 1) fun x158 =>
  Option.bind (m_laws_heldInt64S n x158.2 1) fun x170 =>
  if (decide (x170 < 0)) then
  some false
  else
  if (x170 != x158.1) then
  some false
  else
  Option.bind (m_laws_toStringS n aRows_0) fun x187 =>
  Option.bind (m_impl_QuarterSums n x187) fun x198 =>
  Option.bind (Option.bind (m_laws_eqInt64S n x198.1 x28.1) fun x222 =>
  if (!x222) then
  some true
  else
  some (x198.2 != x28.2)) fun x220 =>
  if x220 then
  some false
  else
  Option.bind (m_laws_heldInt64S n x158.2 1) fun x239 =>
  if (decide (x239 < 0)) then
  some false
  else
  if (x239 != x158.1) then
  some false
  else
  some true

def m_spec_l00Max (n : Nat) (a_0 : Int) (b_1 : Int) : Option (Int) :=
  if (decide (a_0 > b_1)) then
  some a_0
  else
  some b_1

def m_spec_PatchFor_l2 (n : Nat) (rows_0 : List (List UInt8)) (least_1 : Int) (st23 : Int × Int × Int × Int × Int) (st41 : Int × Int × Int × Int × Int) : Option (Step (Int × Int × Int × Int × Int) (Int × Int × Int × Int)) :=
  Option.bind (idx rows_0 st23.2.2.2.2) fun x56 =>
  if (decide (st41.2.2.2.2 < (x56.length : Int))) then
  Option.bind (m_spec_l20At n rows_0 st23.2.2.2.2 st41.2.2.2.2) fun x62 =>
  if (decide (x62 < least_1)) then
  some (.next (st41.1, st41.2.1, st41.2.2.1, st41.2.2.2.1, (wI64 (st41.2.2.2.2 + 1))))
  else
  Option.bind (if (decide (st41.1 < 0)) then
  some st23.2.2.2.2
  else
  some st41.1) fun x74 =>
  Option.bind (m_spec_l00Min n st41.2.1 st41.2.2.2.2) fun x82 =>
  Option.bind (m_spec_l00Max n st41.2.2.2.1 st41.2.2.2.2) fun x90 =>
  some (.next (x74, x82, st23.2.2.2.2, x90, (wI64 (st41.2.2.2.2 + 1))))
  else
  some (.done (st41.1, st41.2.1, st41.2.2.1, st41.2.2.2.1))

def m_spec_PatchFor_l1 (n : Nat) (rows_0 : List (List UInt8)) (least_1 : Int) (st23 : Int × Int × Int × Int × Int) : Option (Step (Int × Int × Int × Int × Int) (Int × Int × Int × Int)) :=
  if (decide (st23.2.2.2.2 < (rows_0.length : Int))) then
  Option.bind (loopN (m_spec_PatchFor_l2 n rows_0 least_1 st23) n (st23.1, st23.2.1, st23.2.2.1, st23.2.2.2.1, 0)) fun q98 =>
  some (.next (q98.1, q98.2.1, q98.2.2.1, q98.2.2.2, (wI64 (st23.2.2.2.2 + 1))))
  else
  some (.done (st23.1, st23.2.1, st23.2.2.1, st23.2.2.2.1))

def m_spec_PatchFor (n : Nat) (rows_0 : List (List UInt8)) (least_1 : Int) : Option (List Int × Int) :=
  Option.bind (m_spec_l20Code n rows_0 least_1) fun x3 =>
  if (x3 != 0) then
  some (([] : List Int), x3)
  else
  Option.bind (loopN (m_spec_PatchFor_l1 n rows_0 least_1) n ((-1), 8, (-1), (-1), 0)) fun q115 =>
  if (decide (q115.1 < 0)) then
  some (([] : List Int), 3)
  else
  some (([q115.1, q115.2.1, (wI64 ((wI64 (q115.2.2.1 - q115.1)) + 1)), (wI64 ((wI64 (q115.2.2.2 - q115.2.1)) + 1))] : List Int), 0)

def m_impl_PatchFor_l1 (n : Nat) (least_1 : Int) (x18 : List UInt8) (x23 : List Int) (st34 : Int × Int × Int × Int × Int) : Option (Step (Int × Int × Int × Int × Int) (Int × Int × Int × Int)) :=
  if (decide (st34.2.2.2.2 < (x23.length : Int))) then
  Option.bind (idx x23 st34.2.2.2.2) fun x52 =>
  Option.bind (if (decide (x52 ≥ least_1)) then
  Option.bind (quo .i64 st34.2.2.2.2 (x18.length : Int)) fun x69 =>
  Option.bind (rem st34.2.2.2.2 (x18.length : Int)) fun x71 =>
  some ((imin st34.1 x69), (imin st34.2.1 x71), (imax st34.2.2.1 x69), (imax st34.2.2.2.1 x71))
  else
  some (st34.1, st34.2.1, st34.2.2.1, st34.2.2.2.1)) fun x66 =>
  some (.next (x66.1, x66.2.1, x66.2.2.1, x66.2.2.2, (wI64 (st34.2.2.2.2 + 1))))
  else
  some (.done (st34.1, st34.2.1, st34.2.2.1, st34.2.2.2.1))

def m_impl_PatchFor (n : Nat) (rows_0 : List (List UInt8)) (least_1 : Int) : Option (List Int × Int) :=
  Option.bind (m_impl_wearCode n rows_0 least_1) fun x4 =>
  if (x4 != 0) then
  some (([] : List Int), x4)
  else
  Option.bind (idx rows_0 0) fun x18 =>
  Option.bind (m_impl_digits n rows_0) fun x23 =>
  Option.bind (loopN (m_impl_PatchFor_l1 n least_1 x18 x23) n ((rows_0.length : Int), (x18.length : Int), (-1), (-1), 0)) fun q98 =>
  if (decide (q98.2.2.1 < 0)) then
  some (([] : List Int), 3)
  else
  some (([q98.1, q98.2.1, (wI64 ((wI64 (q98.2.2.1 - q98.1)) + 1)), (wI64 ((wI64 (q98.2.2.2 - q98.2.1)) + 1))] : List Int), 0)

def m_laws_FnExactPatchFor (n : Nat) (aRows_0 : List (List UInt8)) (aLeast_1 : Int) : Option (Bool) :=
  Option.bind (m_laws_szStringS n aRows_0 1048576) fun x4 =>
  if (decide (x4 < 0)) then
  some true
  else
  Option.bind (m_laws_toStringS n aRows_0) fun x17 =>
  Option.bind (m_spec_PatchFor n x17 aLeast_1) fun x28 =>
  Option.bind (m_laws_toStringS n aRows_0) fun x40 =>
  Option.bind (m_impl_PatchFor n x40 aLeast_1) fun x52 =>
  Option.bind (Option.bind (m_laws_eqInt64S n x52.1 x28.1) fun x76 =>
  if (!x76) then
  some true
  else
  some (x52.2 != x28.2)) fun x74 =>
  if x74 then
  some false
  else
  Option.bind (m_laws_toStringS n aRows_0) fun x93 =>
  Option.bind (m_laws_eqStringS n x40 x93) fun x104 =>
  if (!x104) then
  some false
  else
  Option.bind (m_laws_markStringS n x40 1) fun x116 =>
  Option.bind (if (decide (x116.1 < 0)) then
  some true
  else
  Option.bind (m_laws_eqInt64S n x52.1 x28.1) fun x141 =>
  if (!x141) then
  some true
  else
  some (x52.2 != x28.2)) fun x138 =>
  if x138 then
  some false
  else
  Option.bind (m_laws_markInt64S n x52.1 1) fun x158 =>
  Option.bind (m_laws_heldInt64S n x158.2 1) fun x170 =>
  if (decide (x170 < 0)) then
  some false
  else
  if (x170 != x158.1) then
  some false
  else
  Option.bind (m_laws_toStringS n aRows_0) fun x187 =>
  Option.bind (m_impl_PatchFor n x187 aLeast_1) fun x198 =>
  Option.bind (Option.bind (m_laws_eqInt64S n x198.1 x28.1) fun x222 =>
  if (!x222) then
  some true
  else
  some (x198.2 != x28.2)) fun x220 =>
  if x220 then
  some false
  else
  Option.bind (m_laws_heldInt64S n x158.2 1) fun x239 =>
  if (decide (x239 < 0)) then
  some false
  else
  if (x239 != x158.1) then
  some false
  else
  some true

def m_laws_a2Long (n : Nat) (code_0 : List Int) (more_1 : List Int) : Option (Bool) :=
  Option.bind (if (decide ((code_0.length : Int) > 3000)) then
  some true
  else
  some (decide ((more_1.length : Int) > 3000))) fun x4 =>
  some x4

def m_spec_l00Src_next (n : Nat) (s_0_code : List Int) (s_0_at_ : Int) (s_0_seed : Int) : Option (Int × Int × Int) :=
  Option.bind (if (decide (s_0_at_ < (s_0_code.length : Int))) then
  Option.bind (idx s_0_code s_0_at_) fun x20 =>
  some (wI64 x20)
  else
  some 0) fun x18 =>
  if (decide ((wI64 (s_0_at_ + 1)) ≤ (s_0_code.length : Int))) then
  some (x18, (wI64 (s_0_at_ + 1)), (IntKind.u64.wrap ((IntKind.u64.wrap ((IntKind.u64.wrap (s_0_seed * 6364136223846793005)) + (IntKind.u64.wrap x18))) + 1442695040888963407)))
  else
  Option.bind (shr .u64 (IntKind.u64.wrap ((IntKind.u64.wrap ((IntKind.u64.wrap (s_0_seed * 6364136223846793005)) + (IntKind.u64.wrap x18))) + 1442695040888963407)) 40) fun x53 =>
  some ((wI64 (iand .u64 x53 255)), (wI64 (s_0_at_ + 1)), (IntKind.u64.wrap ((IntKind.u64.wrap ((IntKind.u64.wrap (s_0_seed * 6364136223846793005)) + (IntKind.u64.wrap x18))) + 1442695040888963407)))

def m_spec_l00Src_pick (n : Nat) (s_0_code : List Int) (s_0_at_ : Int) (s_0_seed : Int) (n_1 : Int) : Option (Int × Int × Int) :=
  if (decide (n_1 ≤ 1)) then
  some (0, s_0_at_, s_0_seed)
  else
  Option.bind (m_spec_l00Src_next n s_0_code s_0_at_ s_0_seed) fun x7 =>
  Option.bind (if (decide (n_1 > 200)) then
  Option.bind (m_spec_l00Src_next n s_0_code x7.2.1 x7.2.2) fun x50 =>
  some ((wI64 ((wI64 (x7.1 * 256)) + x50.1)), x50.2.1, x50.2.2)
  else
  some (x7.1, x7.2.1, x7.2.2)) fun x48 =>
  Option.bind (rem x48.1 n_1) fun x64 =>
  some (x64, x48.2.1, x48.2.2)

def m_spec_l00Src_one (n : Nat) (s_0_code : List Int) (s_0_at_ : Int) (s_0_seed : Int) (n_1 : Int) : Option (Bool × Int × Int) :=
  Option.bind (m_spec_l00Src_pick n s_0_code s_0_at_ s_0_seed n_1) fun x3 =>
  some ((x3.1 == 0), x3.2.1, x3.2.2)

def m_spec_l20Draw_l2 (n : Nat) (s_0_code : List Int) (columns_2 : Int) (x13 : Bool × Int × Int) (st208 : List Int × Int × Int × Int) : Option (Step (List Int × Int × Int × Int) (List Int × Int × Int)) :=
  if (decide (st208.2.1 < columns_2)) then
  Option.bind (if (!x13.1) then
  Option.bind (m_spec_l00Src_one n s_0_code st208.2.2.1 st208.2.2.2 2) fun x266 =>
  some ((!x266.1), x266.2.1, x266.2.2)
  else
  some (false, st208.2.2.1, st208.2.2.2)) fun x263 =>
  Option.bind (if x263.1 then
  Option.bind (m_spec_l00Src_pick n s_0_code x263.2.1 x263.2.2 10) fun x311 =>
  some (x311.1, x311.2.1, x311.2.2)
  else
  some (0, x263.2.1, x263.2.2)) fun x309 =>
  Option.bind (app st208.1 ([(IntKind.u8.wrap (wI64 (48 + x309.1)))] : List Int)) fun x333 =>
  some (.next (x333, (wI64 (st208.2.1 + 1)), x309.2.1, x309.2.2))
  else
  some (.done (st208.1, st208.2.2.1, st208.2.2.2))

def m_spec_l20Draw_l3 (n : Nat) (s_0_code : List Int) (columns_2 : Int) (x13 : Bool × Int × Int) (st567 : List Int × Int × Int × Int) : Option (Step (List Int × Int × Int × Int) (List Int × Int × Int)) :=
  if (decide (st567.2.1 < columns_2)) then
  Option.bind (if (!x13.1) then
  Option.bind (m_spec_l00Src_one n s_0_code st567.2.2.1 st567.2.2.2 2) fun x625 =>
  some ((!x625.1), x625.2.1, x625.2.2)
  else
  some (false, st567.2.2.1, st567.2.2.2)) fun x622 =>
  Option.bind (if x622.1 then
  Option.bind (m_spec_l00Src_pick n s_0_code x622.2.1 x622.2.2 10) fun x670 =>
  some (x670.1, x670.2.1, x670.2.2)
  else
  some (0, x622.2.1, x622.2.2)) fun x668 =>
  Option.bind (app st567.1 ([(IntKind.u8.wrap (wI64 (48 + x668.1)))] : List Int)) fun x692 =>
  some (.next (x692, (wI64 (st567.2.1 + 1)), x668.2.1, x668.2.2))
  else
  some (.done (st567.1, st567.2.2.1, st567.2.2.2))

def m_spec_l20Draw_l1 (n : Nat) (s_0_code : List Int) (rows_1 : Int) (columns_2 : Int) (x13 : Bool × Int × Int) (st383 : List (List UInt8) × Int × Int × Int) : Option (Step (List (List UInt8) × Int × Int × Int) (List (List UInt8) × Int × Int)) :=
  if (decide (st383.2.1 < rows_1)) then
  Option.bind (loopN (m_spec_l20Draw_l3 n s_0_code columns_2 x13) n (([] : List Int), 0, st383.2.2.1, st383.2.2.2)) fun q719 =>
  Option.bind (app st383.1 ([(ofBytes q719.1)] : List (List UInt8))) fun x732 =>
  some (.next (x732, (wI64 (st383.2.1 + 1)), q719.2.1, q719.2.2))
  else
  some (.done (st383.1, st383.2.2.1, st383.2.2.2))

def m_spec_l20Draw (n : Nat) (s_0_code : List Int) (s_0_at_ : Int) (s_0_seed : Int) (rows_1 : Int) (columns_2 : Int) : Option (List (List UInt8) × Int × Int) :=
  Option.bind (m_spec_l00Src_one n s_0_code s_0_at_ s_0_seed 6) fun x13 =>
  Option.bind (loopN (m_spec_l20Draw_l1 n s_0_code rows_1 columns_2 x13) n (([] : List (List UInt8)), 0, x13.2.1, x13.2.2)) fun q742 =>
  some (q742.1, q742.2.1, q742.2.2)

def m_spec_l20New (n : Nat) (s_0_code : List Int) (s_0_at_ : Int) (s_0_seed : Int) : Option (List (List UInt8) × Int × Int) :=
  Option.bind (m_spec_l00Src_pick n s_0_code s_0_at_ s_0_seed 6) fun x3 =>
  Option.bind (m_spec_l00Src_pick n s_0_code x3.2.1 x3.2.2 5) fun x13 =>
  Option.bind (m_spec_l20Draw n s_0_code x13.2.1 x13.2.2 (wI64 (2 + x3.1)) (wI64 (2 + x13.1))) fun x23 =>
  some (x23.1, x23.2.1, x23.2.2)

def m_spec_l00From (n : Nat) (code_0 : List Int) : Option ((Int × Int)) :=
  some (0, 0)

def m_spec_A2Wear (n : Nat) (code_0 : List Int) : Option (List (List UInt8)) :=
  Option.bind (m_spec_l00From n code_0) fun x3 =>
  Option.bind (m_spec_l20New n code_0 x3.1 x3.2) fun x13 =>
  some x13.1

def m_impl_apart (n : Nat) (a_0 : Int) (b_1 : Int) : Option (Int) :=
  some (imax (wI64 (a_0 - b_1)) (wI64 (b_1 - a_0)))

def m_impl_StrangeFields_l1 (n : Nat) (most_2 : Int) (x95 : List Int) (x108 : List Int) (st119 : List Int × Int) : Option (Step (List Int × Int) (List Int)) :=
  if (decide (st119.2 < (x108.length : Int))) then
  Option.bind (idx x108 st119.2) fun x140 =>
  Option.bind (idx x95 st119.2) fun x143 =>
  Option.bind (m_impl_apart n x140 x143) fun x145 =>
  Option.bind (if (decide (x145 > most_2)) then
  Option.bind (app st119.1 ([st119.2] : List Int)) fun x186 =>
  some x186
  else
  some st119.1) fun x172 =>
  some (.next (x172, (wI64 (st119.2 + 1))))
  else
  some (.done st119.1)

def m_impl_StrangeFields (n : Nat) (left_0 : List (List UInt8)) (right_1 : List (List UInt8)) (most_2 : Int) : Option (List Int × Int) :=
  Option.bind (Option.bind (m_impl_ValidWear n left_0) fun x23 =>
  if (!x23) then
  some true
  else
  Option.bind (m_impl_ValidWear n right_1) fun x32 =>
  some (!x32)) fun x21 =>
  if x21 then
  some (([] : List Int), 1)
  else
  Option.bind (m_impl_within n most_2 0 9) fun x49 =>
  if (!x49) then
  some (([] : List Int), 2)
  else
  Option.bind (m_impl_sameWear n left_0 right_1) fun x62 =>
  if (x62 != 0) then
  some (([] : List Int), 9)
  else
  Option.bind (m_impl_mirrorWear n right_1) fun x84 =>
  Option.bind (m_impl_digits n x84) fun x95 =>
  Option.bind (m_impl_digits n left_0) fun x108 =>
  Option.bind (loopN (m_impl_StrangeFields_l1 n most_2 x95 x108) n (([] : List Int), 0)) fun q200 =>
  some (q200, 0)

def m_laws_a2Sum_l1 (n : Nat) (list_0 : List Int) (st5 : Int × Int) : Option (Step (Int × Int) (Int)) :=
  if (decide (st5.2 < (list_0.length : Int))) then
  Option.bind (idx list_0 st5.2) fun x22 =>
  some (.next ((wI64 (st5.1 + x22)), (wI64 (st5.2 + 1))))
  else
  some (.done st5.1)

def m_laws_a2Sum (n : Nat) (list_0 : List Int) : Option (Int) :=
  Option.bind (loopN (m_laws_a2Sum_l1 n list_0) n (0, 0)) fun q25 =>
  some q25

def m_laws_FnWearSides_l1 (n : Nat) (x39 : List Int × Int) (st315 : List UInt8 × Int) : Option (Step (List UInt8 × Int) ((List UInt8) ⊕ (Bool))) :=
  if (decide (st315.2 < 4)) then
  Option.bind (idx x39.1 st315.2) fun x334 =>
  if (decide (x334 < 0)) then
  some (.done (.inr false))
  else
  Option.bind (idx x39.1 st315.2) fun x339 =>
  Option.bind (m_laws_a2Sum n x39.1) fun x341 =>
  Option.bind (if (decide ((wI64 (2 * x339)) > x341)) then
  Option.bind (idx ([[105, 110, 110, 101, 114, 45, 116, 111, 101], [111, 117, 116, 101, 114, 45, 116, 111, 101], [105, 110, 110, 101, 114, 45, 104, 101, 101, 108], [111, 117, 116, 101, 114, 45, 104, 101, 101, 108]] : List (List UInt8)) st315.2) fun x355 =>
  some x355
  else
  some st315.1) fun x353 =>
  some (.next (x353, (wI64 (st315.2 + 1))))
  else
  some (.done (.inl st315.1))

def m_laws_FnWearSides (n : Nat) (code_0 : List Int) : Option (Bool) :=
  Option.bind (m_laws_a2Long n code_0 ([] : List Int)) fun x4 =>
  if x4 then
  some true
  else
  Option.bind (m_spec_A2Wear n code_0) fun x15 =>
  Option.bind (m_impl_MirrorWear n x15) fun x27 =>
  Option.bind (m_impl_QuarterSums n x15) fun x39 =>
  Option.bind (m_impl_QuarterSums n x27.1) fun x51 =>
  Option.bind (m_impl_DiagnoseWear n x15) fun x63 =>
  Option.bind (m_impl_StrangeFields n x15 x27.1 0) fun x72 =>
  Option.bind (m_impl_CentreOfWear n x15) fun x84 =>
  Option.bind (if (x27.2 != 0) then
  some true
  else
  if (x39.2 != 0) then
  some true
  else
  if (x51.2 != 0) then
  some true
  else
  if ((x39.1.length : Int) != 4) then
  some true
  else
  if ((x51.1.length : Int) != 4) then
  some true
  else
  Option.bind (idx x39.1 0) fun x239 =>
  Option.bind (idx x51.1 1) fun x241 =>
  if (x239 != x241) then
  some true
  else
  Option.bind (idx x39.1 1) fun x249 =>
  Option.bind (idx x51.1 0) fun x251 =>
  if (x249 != x251) then
  some true
  else
  Option.bind (idx x39.1 2) fun x259 =>
  Option.bind (idx x51.1 3) fun x261 =>
  if (x259 != x261) then
  some true
  else
  Option.bind (idx x39.1 3) fun x269 =>
  Option.bind (idx x51.1 2) fun x271 =>
  if (x269 != x271) then
  some true
  else
  if (x63.2 != 0) then
  some true
  else
  if (x72.2 != 0) then
  some true
  else
  some ((x72.1.length : Int) != 0)) fun x207 =>
  if x207 then
  some false
  else
  Option.bind (loopN (m_laws_FnWearSides_l1 n x39) n ([101, 118, 101, 110], 0)) fun t326 =>
  match t326 with
  | .inl q498 =>
  if (!(x63.1 == q498)) then
  some false
  else
  if (x84.2.2 != 0) then
  Option.bind (if (x84.2.2 == 3) then
  Option.bind (m_laws_a2Sum n x39.1) fun x519 =>
  some (x519 == 0)
  else
  some false) fun x516 =>
  some x516
  else
  Option.bind (if (decide (x84.1.Den ≥ 1)) then
  if (decide (x84.1.Den ≤ 1000)) then
  if (decide (x84.1.Num ≥ 0)) then
  if (decide (x84.1.Num ≤ (wI64 ((wI64 ((x15.length : Int) - 1)) * x84.1.Den)))) then
  if (decide (x84.2.1.Den ≥ 1)) then
  if (decide (x84.2.1.Den ≤ 1000)) then
  if (decide (x84.2.1.Num ≥ 0)) then
  Option.bind (idx x15 0) fun x590 =>
  some (decide (x84.2.1.Num ≤ (wI64 ((wI64 ((x590.length : Int) - 1)) * x84.2.1.Den))))
  else
  some false
  else
  some false
  else
  some false
  else
  some false
  else
  some false
  else
  some false
  else
  some false) fun x581 =>
  some x581
  | .inr r =>
  some r

def m_spec_StrangeFields_l2 (n : Nat) (left_0 : List (List UInt8)) (most_2 : Int) (x38 : List (List UInt8)) (st61 : List Int × Int) (st82 : List Int × Int) : Option (Step (List Int × Int) (List Int)) :=
  Option.bind (idx left_0 st61.2) fun x100 =>
  if (decide (st82.2 < (x100.length : Int))) then
  Option.bind (m_spec_l20At n left_0 st61.2 st82.2) fun x105 =>
  Option.bind (m_spec_l20At n x38 st61.2 st82.2) fun x113 =>
  Option.bind (m_spec_l02Size n (wI64 (x105 - x113))) fun x121 =>
  Option.bind (if (decide (x121 > most_2)) then
  Option.bind (idx left_0 st61.2) fun x155 =>
  Option.bind (app st82.1 ([(wI64 ((wI64 (st61.2 * (x155.length : Int))) + st82.2))] : List Int)) fun x166 =>
  some x166
  else
  some st82.1) fun x150 =>
  some (.next (x150, (wI64 (st82.2 + 1))))
  else
  some (.done st82.1)

def m_spec_StrangeFields_l1 (n : Nat) (left_0 : List (List UInt8)) (most_2 : Int) (x38 : List (List UInt8)) (st61 : List Int × Int) : Option (Step (List Int × Int) (List Int)) :=
  if (decide (st61.2 < (left_0.length : Int))) then
  Option.bind (loopN (m_spec_StrangeFields_l2 n left_0 most_2 x38 st61) n (st61.1, 0)) fun q179 =>
  some (.next (q179, (wI64 (st61.2 + 1))))
  else
  some (.done st61.1)

def m_spec_StrangeFields (n : Nat) (left_0 : List (List UInt8)) (right_1 : List (List UInt8)) (most_2 : Int) : Option (List Int × Int) :=
  Option.bind (m_spec_l20Two n left_0 right_1) fun x3 =>
  if (x3 == 1) then
  some (([] : List Int), x3)
  else
  Option.bind (m_spec_l00In n most_2 0 9) fun x19 =>
  if (!x19) then
  some (([] : List Int), 2)
  else
  if (x3 != 0) then
  some (([] : List Int), x3)
  else
  Option.bind (m_spec_l20Mirror n right_1) fun x38 =>
  Option.bind (loopN (m_spec_StrangeFields_l1 n left_0 most_2 x38) n (([] : List Int), 0)) fun q184 =>
  some (q184, 0)

def m_laws_FnExactStrangeFields (n : Nat) (aLeft_0 : List (List UInt8)) (aRight_1 : List (List UInt8)) (aMost_2 : Int) : Option (Bool) :=
  Option.bind (m_laws_szStringS n aLeft_0 1048576) fun x4 =>
  if (decide (x4 < 0)) then
  some true
  else
  Option.bind (m_laws_szStringS n aRight_1 x4) fun x17 =>
  if (decide (x17 < 0)) then
  some true
  else
  Option.bind (m_laws_toStringS n aLeft_0) fun x30 =>
  Option.bind (m_laws_toStringS n aRight_1) fun x41 =>
  Option.bind (m_spec_StrangeFields n x30 x41 aMost_2) fun x52 =>
  Option.bind (m_laws_toStringS n aLeft_0) fun x64 =>
  Option.bind (m_laws_toStringS n aRight_1) fun x76 =>
  Option.bind (m_impl_StrangeFields n x64 x76 aMost_2) fun x88 =>
  Option.bind (Option.bind (m_laws_eqInt64S n x88.1 x52.1) fun x112 =>
  if (!x112) then
  some true
  else
  some (x88.2 != x52.2)) fun x110 =>
  if x110 then
  some false
  else
  Option.bind (m_laws_toStringS n aLeft_0) fun x129 =>
  Option.bind (m_laws_eqStringS n x64 x129) fun x140 =>
  if (!x140) then
  some false
  else
  Option.bind (m_laws_toStringS n aRight_1) fun x152 =>
  Option.bind (m_laws_eqStringS n x76 x152) fun x163 =>
  if (!x163) then
  some false
  else
  Option.bind (m_laws_markStringS n x64 1) fun x175 =>
  Option.bind (m_laws_markStringS n x76 x175.1) fun x186 =>
  Option.bind (if (decide (x186.1 < 0)) then
  some true
  else
  Option.bind (m_laws_eqInt64S n x88.1 x52.1) fun x211 =>
  if (!x211) then
  some true
  else
  some (x88.2 != x52.2)) fun x208 =>
  if x208 then
  some false
  else
  Option.bind (m_laws_markInt64S n x88.1 1) fun x228 =>
  Option.bind (m_laws_heldInt64S n x228.2 1) fun x240 =>
  if (decide (x240 < 0)) then
  some false
  else
  if (x240 != x228.1) then
  some false
  else
  Option.bind (m_laws_toStringS n aLeft_0) fun x257 =>
  Option.bind (m_laws_toStringS n aRight_1) fun x268 =>
  Option.bind (m_impl_StrangeFields n x257 x268 aMost_2) fun x279 =>
  Option.bind (Option.bind (m_laws_eqInt64S n x279.1 x52.1) fun x303 =>
  if (!x303) then
  some true
  else
  some (x279.2 != x52.2)) fun x301 =>
  if x301 then
  some false
  else
  Option.bind (m_laws_heldInt64S n x228.2 1) fun x320 =>
  if (decide (x320 < 0)) then
  some false
  else
  if (x320 != x228.1) then
  some false
  else
  some true

def m_spec_l20Area_l2 (n : Nat) (rows_0 : List (List UInt8)) (least_3 : Int) (x3 : List UInt8) (x245 : List Int) (st471 : List Int × Int × List Bool) : Option (Step (List Int × Int × List Bool) (List Int × List Bool)) :=
  if (decide (st471.2.1 < (x245.length : Int))) then
  Option.bind (idx x245 st471.2.1) fun x493 =>
  Option.bind (Option.bind (idx st471.2.2 x493) fun x519 =>
  if (!x519) then
  Option.bind (quo .i64 x493 (x3.length : Int)) fun x522 =>
  Option.bind (rem x493 (x3.length : Int)) fun x524 =>
  Option.bind (m_spec_l20At n rows_0 x522 x524) fun x526 =>
  some (decide (x526 ≥ least_3))
  else
  some false) fun x517 =>
  Option.bind (if x517 then
  Option.bind (idx st471.2.2 x493) fun x637 =>
  Option.bind (app st471.1 ([x493] : List Int)) fun x654 =>
  some (x654, (st471.2.2.set (Int.toNat x493) true))
  else
  some (st471.1, st471.2.2)) fun x631 =>
  some (.next (x631.1, (wI64 (st471.2.1 + 1)), x631.2))
  else
  some (.done (st471.1, st471.2.2))

def m_spec_l20Area_l3 (n : Nat) (rows_0 : List (List UInt8)) (least_3 : Int) (x3 : List UInt8) (x893 : List Int) (st1119 : List Int × Int × List Bool) : Option (Step (List Int × Int × List Bool) (List Int × List Bool)) :=
  if (decide (st1119.2.1 < (x893.length : Int))) then
  Option.bind (idx x893 st1119.2.1) fun x1141 =>
  Option.bind (Option.bind (idx st1119.2.2 x1141) fun x1167 =>
  if (!x1167) then
  Option.bind (quo .i64 x1141 (x3.length : Int)) fun x1170 =>
  Option.bind (rem x1141 (x3.length : Int)) fun x1172 =>
  Option.bind (m_spec_l20At n rows_0 x1170 x1172) fun x1174 =>
  some (decide (x1174 ≥ least_3))
  else
  some false) fun x1165 =>
  Option.bind (if x1165 then
  Option.bind (idx st1119.2.2 x1141) fun x1285 =>
  Option.bind (app st1119.1 ([x1141] : List Int)) fun x1302 =>
  some (x1302, (st1119.2.2.set (Int.toNat x1141) true))
  else
  some (st1119.1, st1119.2.2)) fun x1279 =>
  some (.next (x1279.1, (wI64 (st1119.2.1 + 1)), x1279.2))
  else
  some (.done (st1119.1, st1119.2.2))

def m_spec_l20Area_l1 (n : Nat) (rows_0 : List (List UInt8)) (least_3 : Int) (x3 : List UInt8) (st673 : List Int × Int × List Bool) : Option (Step (List Int × Int × List Bool) (List Int × List Bool)) :=
  if (decide (st673.2.1 < (st673.1.length : Int))) then
  Option.bind (idx st673.1 st673.2.1) fun x695 =>
  Option.bind (quo .i64 x695 (x3.length : Int)) fun x697 =>
  Option.bind (idx st673.1 st673.2.1) fun x700 =>
  Option.bind (rem x700 (x3.length : Int)) fun x702 =>
  Option.bind (if (decide (x697 > 0)) then
  Option.bind (idx st673.1 st673.2.1) fun x742 =>
  Option.bind (app ([] : List Int) ([(wI64 (x742 - (x3.length : Int)))] : List Int)) fun x753 =>
  some x753
  else
  some ([] : List Int)) fun x737 =>
  Option.bind (if (decide ((wI64 (x697 + 1)) < (rows_0.length : Int))) then
  Option.bind (idx st673.1 st673.2.1) fun x794 =>
  Option.bind (app x737 ([(wI64 (x794 + (x3.length : Int)))] : List Int)) fun x805 =>
  some x805
  else
  some x737) fun x789 =>
  Option.bind (if (decide (x702 > 0)) then
  Option.bind (idx st673.1 st673.2.1) fun x846 =>
  Option.bind (app x789 ([(wI64 (x846 - 1))] : List Int)) fun x857 =>
  some x857
  else
  some x789) fun x841 =>
  Option.bind (if (decide ((wI64 (x702 + 1)) < (x3.length : Int))) then
  Option.bind (idx st673.1 st673.2.1) fun x898 =>
  Option.bind (app x841 ([(wI64 (x898 + 1))] : List Int)) fun x909 =>
  some x909
  else
  some x841) fun x893 =>
  Option.bind (loopN (m_spec_l20Area_l3 n rows_0 least_3 x3 x893) n (st673.1, 0, st673.2.2)) fun q1316 =>
  some (.next (q1316.1, (wI64 (st673.2.1 + 1)), q1316.2))
  else
  some (.done (st673.1, st673.2.2))

def m_spec_l20Area (n : Nat) (rows_0 : List (List UInt8)) (seen_1 : List Bool) (at_2 : Int) (least_3 : Int) : Option (Int × List Bool) :=
  Option.bind (idx rows_0 0) fun x3 =>
  Option.bind (idx seen_1 at_2) fun x16 =>
  Option.bind (loopN (m_spec_l20Area_l1 n rows_0 least_3 x3) n (([at_2] : List Int), 0, (seen_1.set (Int.toNat at_2) true))) fun q1321 =>
  some ((q1321.1.length : Int), q1321.2)

def m_spec_WornAreas_l1 (n : Nat) (rows_0 : List (List UInt8)) (least_1 : Int) (x18 : List UInt8) (st241 : List Int × Int × List Bool) : Option (Step (List Int × Int × List Bool) (List Int × List Bool)) :=
  if (decide (st241.2.1 < (st241.2.2.length : Int))) then
  Option.bind (Option.bind (idx st241.2.2 st241.2.1) fun x285 =>
  if (!x285) then
  Option.bind (quo .i64 st241.2.1 (x18.length : Int)) fun x288 =>
  Option.bind (rem st241.2.1 (x18.length : Int)) fun x290 =>
  Option.bind (m_spec_l20At n rows_0 x288 x290) fun x292 =>
  some (decide (x292 ≥ least_1))
  else
  some false) fun x283 =>
  Option.bind (if x283 then
  Option.bind (m_spec_l20Area n rows_0 st241.2.2 st241.2.1 least_1) fun x405 =>
  Option.bind (app st241.1 ([x405.1] : List Int)) fun x424 =>
  some (x424, x405.2)
  else
  some (st241.1, st241.2.2)) fun x400 =>
  some (.next (x400.1, (wI64 (st241.2.1 + 1)), x400.2))
  else
  some (.done (st241.1, st241.2.2))

def m_spec_WornAreas (n : Nat) (rows_0 : List (List UInt8)) (least_1 : Int) : Option (List Int × Int) :=
  Option.bind (m_spec_l20Code n rows_0 least_1) fun x3 =>
  if (x3 != 0) then
  some (([] : List Int), x3)
  else
  Option.bind (idx rows_0 0) fun x18 =>
  Option.bind (mk (false : Bool) (wI64 ((x18.length : Int) * (rows_0.length : Int)))) fun x21 =>
  Option.bind (loopN (m_spec_WornAreas_l1 n rows_0 least_1 x18) n (([] : List Int), 0, x21)) fun q438 =>
  some (q438.1, 0)

def m_impl_area : Nat → (List Bool) → Int → Int → Option (Int × List Bool)
  | 0, _, _, _ => none
  | n + 1, worn_0, columns_1, field_2 =>
  Option.bind (if (decide (field_2 < 0)) then
  some true
  else
  if (decide (field_2 ≥ (worn_0.length : Int))) then
  some true
  else
  Option.bind (idx worn_0 field_2) fun x12 =>
  some (!x12)) fun x8 =>
  if x8 then
  some (0, worn_0)
  else
  Option.bind (idx worn_0 field_2) fun x21 =>
  Option.bind (m_impl_area n (worn_0.set (Int.toNat field_2) false) columns_1 (wI64 (field_2 - columns_1))) fun x30 =>
  Option.bind (m_impl_area n x30.2 columns_1 (wI64 (field_2 + columns_1))) fun x41 =>
  Option.bind (rem field_2 columns_1) fun x54 =>
  Option.bind (if (decide (x54 > 0)) then
  Option.bind (m_impl_area n x41.2 columns_1 (wI64 (field_2 - 1))) fun x94 =>
  some ((wI64 ((wI64 ((wI64 (1 + x30.1)) + x41.1)) + x94.1)), x94.2)
  else
  some ((wI64 ((wI64 (1 + x30.1)) + x41.1)), x41.2)) fun x92 =>
  Option.bind (rem field_2 columns_1) fun x112 =>
  Option.bind (if (decide (x112 < (wI64 (columns_1 - 1)))) then
  Option.bind (m_impl_area n x92.2 columns_1 (wI64 (field_2 + 1))) fun x152 =>
  some ((wI64 (x92.1 + x152.1)), x152.2)
  else
  some (x92.1, x92.2)) fun x150 =>
  some (x150.1, x150.2)

def m_impl_WornAreas_l2 (n : Nat) (rows_0 : List (List UInt8)) (st49 : List Bool × Int) (st174 : List Int × Int × List Bool) : Option (Step (List Int × Int × List Bool) (List Int × List Bool)) :=
  if (decide (st174.2.1 < (st49.1.length : Int))) then
  Option.bind (idx rows_0 0) fun x196 =>
  Option.bind (m_impl_area n st174.2.2 (x196.length : Int) st174.2.1) fun x198 =>
  Option.bind (if (decide (x198.1 > 0)) then
  Option.bind (app st174.1 ([x198.1] : List Int)) fun x242 =>
  some x242
  else
  some st174.1) fun x228 =>
  some (.next (x228, (wI64 (st174.2.1 + 1)), x198.2))
  else
  some (.done (st174.1, st174.2.2))

def m_impl_WornAreas_l1 (n : Nat) (least_1 : Int) (x38 : List Int) (st49 : List Bool × Int) : Option (Step (List Bool × Int) (List Bool)) :=
  if (decide (st49.2 < (x38.length : Int))) then
  Option.bind (idx x38 st49.2) fun x70 =>
  Option.bind (app st49.1 ([(decide (x70 ≥ least_1))] : List Bool)) fun x81 =>
  some (.next (x81, (wI64 (st49.2 + 1))))
  else
  some (.done st49.1)

def m_impl_WornAreas_l3 (n : Nat) (rows_0 : List (List UInt8)) (q261 : List Bool) (st349 : List Int × Int × List Bool) : Option (Step (List Int × Int × List Bool) (List Int × List Bool)) :=
  if (decide (st349.2.1 < (q261.length : Int))) then
  Option.bind (idx rows_0 0) fun x371 =>
  Option.bind (m_impl_area n st349.2.2 (x371.length : Int) st349.2.1) fun x373 =>
  Option.bind (if (decide (x373.1 > 0)) then
  Option.bind (app st349.1 ([x373.1] : List Int)) fun x417 =>
  some x417
  else
  some st349.1) fun x403 =>
  some (.next (x403, (wI64 (st349.2.1 + 1)), x373.2))
  else
  some (.done (st349.1, st349.2.2))

def m_impl_WornAreas (n : Nat) (rows_0 : List (List UInt8)) (least_1 : Int) : Option (List Int × Int) :=
  Option.bind (m_impl_wearCode n rows_0 least_1) fun x4 =>
  if (x4 != 0) then
  some (([] : List Int), x4)
  else
  Option.bind (m_impl_digits n rows_0) fun x38 =>
  Option.bind (loopN (m_impl_WornAreas_l1 n least_1 x38) n (([] : List Bool), 0)) fun q261 =>
  Option.bind (loopN (m_impl_WornAreas_l3 n rows_0 q261) n (([] : List Int), 0, q261)) fun q431 =>
  some (q431.1, 0)

def m_laws_FnExactWornAreas (n : Nat) (aRows_0 : List (List UInt8)) (aLeast_1 : Int) : Option (Bool) :=
  Option.bind (m_laws_szStringS n aRows_0 1048576) fun x4 =>
  if (decide (x4 < 0)) then
  some true
  else
  Option.bind (m_laws_toStringS n aRows_0) fun x17 =>
  Option.bind (m_spec_WornAreas n x17 aLeast_1) fun x28 =>
  Option.bind (m_laws_toStringS n aRows_0) fun x40 =>
  Option.bind (m_impl_WornAreas n x40 aLeast_1) fun x52 =>
  Option.bind (Option.bind (m_laws_eqInt64S n x52.1 x28.1) fun x76 =>
  if (!x76) then
  some true
  else
  some (x52.2 != x28.2)) fun x74 =>
  if x74 then
  some false
  else
  Option.bind (m_laws_toStringS n aRows_0) fun x93 =>
  Option.bind (m_laws_eqStringS n x40 x93) fun x104 =>
  if (!x104) then
  some false
  else
  Option.bind (m_laws_markStringS n x40 1) fun x116 =>
  Option.bind (if (decide (x116.1 < 0)) then
  some true
  else
  Option.bind (m_laws_eqInt64S n x52.1 x28.1) fun x141 =>
  if (!x141) then
  some true
  else
  some (x52.2 != x28.2)) fun x138 =>
  if x138 then
  some false
  else
  Option.bind (m_laws_markInt64S n x52.1 1) fun x158 =>
  Option.bind (m_laws_heldInt64S n x158.2 1) fun x170 =>
  if (decide (x170 < 0)) then
  some false
  else
  if (x170 != x158.1) then
  some false
  else
  Option.bind (m_laws_toStringS n aRows_0) fun x187 =>
  Option.bind (m_impl_WornAreas n x187 aLeast_1) fun x198 =>
  Option.bind (Option.bind (m_laws_eqInt64S n x198.1 x28.1) fun x222 =>
  if (!x222) then
  some true
  else
  some (x198.2 != x28.2)) fun x220 =>
  if x220 then
  some false
  else
  Option.bind (m_laws_heldInt64S n x158.2 1) fun x239 =>
  if (decide (x239 < 0)) then
  some false
  else
  if (x239 != x158.1) then
  some false
  else
  some true

def m_laws_a2At (n : Nat) (code_0 : List Int) (at_1 : Int) (n_2 : Int) : Option (Int) :=
  Option.bind (if (decide (at_1 ≥ (code_0.length : Int))) then
  some true
  else
  some (decide (n_2 < 1))) fun x5 =>
  if x5 then
  some 0
  else
  Option.bind (idx code_0 at_1) fun x15 =>
  Option.bind (rem (wI64 x15) n_2) fun x17 =>
  some x17

def m_spec_A2Like (n : Nat) (code_0 : List Int) (rows_1 : List (List UInt8)) : Option (List (List UInt8)) :=
  Option.bind (m_spec_l00From n code_0) fun x13 =>
  Option.bind (idx rows_1 0) fun x24 =>
  Option.bind (m_spec_l20Draw n code_0 x13.1 x13.2 (rows_1.length : Int) (x24.length : Int)) fun x35 =>
  some x35.1

def m_laws_FnWearAreas_l2 (n : Nat) (x15 : List (List UInt8)) (x27 : Int) (x57 : List Int × Int) (st184 : Int × Int) (st202 : Int × Int) : Option (Step (Int × Int) ((Int) ⊕ (Bool))) :=
  Option.bind (idx x15 0) fun x217 =>
  if (decide (st202.2 < (x217.length : Int))) then
  Option.bind (idx x15 st184.2) fun x223 =>
  Option.bind (idx x223 st202.2) fun x225 =>
  if (decide ((wI64 (IntKind.u8.wrap ((x225.toNat : Int) - 48))) < (wI64 (1 + x27)))) then
  some (.next (st202.1, (wI64 (st202.2 + 1))))
  else
  Option.bind (if (x57.2 != 0) then
  some true
  else
  Option.bind (idx x57.1 0) fun x279 =>
  if (decide (st184.2 < x279)) then
  some true
  else
  Option.bind (idx x57.1 0) fun x287 =>
  Option.bind (idx x57.1 2) fun x289 =>
  if (decide (st184.2 ≥ (wI64 (x287 + x289)))) then
  some true
  else
  Option.bind (idx x57.1 1) fun x297 =>
  if (decide (st202.2 < x297)) then
  some true
  else
  Option.bind (idx x57.1 1) fun x305 =>
  Option.bind (idx x57.1 3) fun x307 =>
  some (decide (st202.2 ≥ (wI64 (x305 + x307))))) fun x271 =>
  if x271 then
  some (.done (.inr false))
  else
  some (.next ((imin st202.1 st184.2), (wI64 (st202.2 + 1))))
  else
  some (.done (.inl st202.1))

def m_laws_FnWearAreas_l4 (n : Nat) (x15 : List (List UInt8)) (x378 : List (List UInt8)) (x390 : List (List UInt8) × Int) (st415 : Int) (st446 : Int) : Option (Step (Int) ((Unit) ⊕ (Bool))) :=
  Option.bind (idx x15 st415) fun x461 =>
  if (decide (st446 < (x461.length : Int))) then
  Option.bind (idx x390.1 st415) fun x466 =>
  Option.bind (idx x466 st446) fun x468 =>
  Option.bind (idx x15 st415) fun x470 =>
  Option.bind (idx x470 st446) fun x472 =>
  Option.bind (idx x378 st415) fun x474 =>
  Option.bind (idx x474 st446) fun x476 =>
  if ((wI64 (IntKind.u8.wrap ((x468.toNat : Int) - 48))) != (imin 9 (wI64 ((wI64 (IntKind.u8.wrap ((x472.toNat : Int) - 48))) + (wI64 (IntKind.u8.wrap ((x476.toNat : Int) - 48))))))) then
  some (.done (.inr false))
  else
  some (.next (wI64 (st446 + 1)))
  else
  some (.done (.inl ()))

def m_laws_FnWearAreas_l3 (n : Nat) (x15 : List (List UInt8)) (x378 : List (List UInt8)) (x390 : List (List UInt8) × Int) (st415 : Int) : Option (Step (Int) ((Unit) ⊕ (Bool))) :=
  if (decide (st415 < (x15.length : Int))) then
  Option.bind (idx x390.1 st415) fun x434 =>
  Option.bind (idx x15 st415) fun x436 =>
  if ((x434.length : Int) != (x436.length : Int)) then
  some (.done (.inr false))
  else
  Option.bind (loopN (m_laws_FnWearAreas_l4 n x15 x378 x390 st415) n 0) fun t457 =>
  match t457 with
  | .inl q485 =>
  some (.next (wI64 (st415 + 1)))
  | .inr r =>
  some (.done (.inr r))
  else
  some (.done (.inl ()))

def m_laws_FnWearAreas_l1 (n : Nat) (x15 : List (List UInt8)) (x27 : Int) (x57 : List Int × Int) (st184 : Int × Int) : Option (Step (Int × Int) ((Int) ⊕ (Bool))) :=
  if (decide (st184.2 < (x15.length : Int))) then
  Option.bind (loopN (m_laws_FnWearAreas_l2 n x15 x27 x57 st184) n (st184.1, 0)) fun t213 =>
  match t213 with
  | .inl q320 =>
  some (.next (q320, (wI64 (st184.2 + 1))))
  | .inr r =>
  some (.done (.inr r))
  else
  some (.done (.inl st184.1))

def m_laws_FnWearAreas_l6 (n : Nat) (x15 : List (List UInt8)) (x547 : List (List UInt8)) (x559 : List (List UInt8) × Int) (st584 : Int) (st615 : Int) : Option (Step (Int) ((Unit) ⊕ (Bool))) :=
  Option.bind (idx x15 st584) fun x630 =>
  if (decide (st615 < (x630.length : Int))) then
  Option.bind (idx x559.1 st584) fun x635 =>
  Option.bind (idx x635 st615) fun x637 =>
  Option.bind (idx x15 st584) fun x639 =>
  Option.bind (idx x639 st615) fun x641 =>
  Option.bind (idx x547 st584) fun x643 =>
  Option.bind (idx x643 st615) fun x645 =>
  if ((wI64 (IntKind.u8.wrap ((x637.toNat : Int) - 48))) != (imin 9 (wI64 ((wI64 (IntKind.u8.wrap ((x641.toNat : Int) - 48))) + (wI64 (IntKind.u8.wrap ((x645.toNat : Int) - 48))))))) then
  some (.done (.inr false))
  else
  some (.next (wI64 (st615 + 1)))
  else
  some (.done (.inl ()))

def m_laws_FnWearAreas_l5 (n : Nat) (x15 : List (List UInt8)) (x547 : List (List UInt8)) (x559 : List (List UInt8) × Int) (st584 : Int) : Option (Step (Int) ((Unit) ⊕ (Bool))) :=
  if (decide (st584 < (x15.length : Int))) then
  Option.bind (idx x559.1 st584) fun x603 =>
  Option.bind (idx x15 st584) fun x605 =>
  if ((x603.length : Int) != (x605.length : Int)) then
  some (.done (.inr false))
  else
  Option.bind (loopN (m_laws_FnWearAreas_l6 n x15 x547 x559 st584) n 0) fun t626 =>
  match t626 with
  | .inl q654 =>
  some (.next (wI64 (st584 + 1)))
  | .inr r =>
  some (.done (.inr r))
  else
  some (.done (.inl ()))

def m_laws_FnWearAreas (n : Nat) (code_0 : List Int) (more_1 : List Int) : Option (Bool) :=
  Option.bind (m_laws_a2Long n code_0 more_1) fun x4 =>
  if x4 then
  some true
  else
  Option.bind (m_spec_A2Wear n code_0) fun x15 =>
  Option.bind (m_laws_a2At n more_1 0 9) fun x27 =>
  Option.bind (m_impl_WornFields n x15 (wI64 (1 + x27))) fun x36 =>
  Option.bind (m_impl_WornAreas n x15 (wI64 (1 + x27))) fun x45 =>
  Option.bind (m_impl_PatchFor n x15 (wI64 (1 + x27))) fun x57 =>
  Option.bind (m_impl_MirrorWear n x15) fun x69 =>
  Option.bind (if (x36.2 != 0) then
  some true
  else
  if (x45.2 != 0) then
  some true
  else
  Option.bind (m_laws_a2Sum n x45.1) fun x107 =>
  if (x107 != x36.1) then
  some true
  else
  if (!((x36.1 == 0) == (x57.2 == 3))) then
  some true
  else
  if (x69.2 != 0) then
  some true
  else
  Option.bind (m_spec_ValidWear n x69.1) fun x118 =>
  some (!x118)) fun x103 =>
  if x103 then
  some false
  else
  Option.bind (m_impl_WornFields n x69.1 (wI64 (1 + x27))) fun x133 =>
  Option.bind (m_impl_WornAreas n x69.1 (wI64 (1 + x27))) fun x142 =>
  Option.bind (if (x133.2 != 0) then
  some true
  else
  if (x133.1 != x36.1) then
  some true
  else
  if (x142.2 != 0) then
  some true
  else
  some ((x142.1.length : Int) != (x45.1.length : Int))) fun x158 =>
  if x158 then
  some false
  else
  Option.bind (if (x57.2 == 0) then
  some ((x57.1.length : Int) != 4)
  else
  some false) fun x172 =>
  if x172 then
  some false
  else
  Option.bind (loopN (m_laws_FnWearAreas_l1 n x15 x27 x57) n (100, 0)) fun t195 =>
  match t195 with
  | .inl q489 =>
  (Option.bind (if (x57.2 == 0) then
  Option.bind (idx x57.1 0) fun x518 =>
  if (x518 != q489) then
  some true
  else
  Option.bind (idx x57.1 2) fun x526 =>
  Option.bind (idx x57.1 3) fun x528 =>
  some (decide ((wI64 (x526 * x528)) < x36.1))
  else
  some false) fun x515 =>
  if x515 then
  some false
  else
  Option.bind (m_spec_A2Like n more_1 x15) fun x547 =>
  Option.bind (m_impl_AddWear n x15 x547) fun x559 =>
  Option.bind (if (x559.2 != 0) then
  some true
  else
  some ((x559.1.length : Int) != (x15.length : Int))) fun x573 =>
  if x573 then
  some false
  else
  Option.bind (loopN (m_laws_FnWearAreas_l5 n x15 x547 x559) n 0) fun t595 =>
  match t595 with
  | .inl q656 =>
  some true
  | .inr r =>
  some r)
  | .inr r =>
  some r

end Go.Gv
