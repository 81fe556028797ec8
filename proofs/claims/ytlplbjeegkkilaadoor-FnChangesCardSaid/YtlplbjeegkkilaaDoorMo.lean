/- What each function computes, as a Lean function that may fail. -/
import Derived.Test.YtlplbjeegkkilaaDoorMh
namespace Go.Gv
open Go Go.RowKit

def m_spec_l00In (n : Nat) (n_0 : Int) (low_1 : Int) (high_2 : Int) : Option (Bool) :=
  Option.bind (if (decide (n_0 ≥ low_1)) then
  some (decide (n_0 ≤ high_2))
  else
  some false) fun x4 =>
  some x4

def m_spec_l22Most (n : Nat) (kind_0 : Int) : Option (Int) :=
  if (kind_0 == 1) then
  some 200
  else
  Option.bind (if (kind_0 == 2) then
  some (kind_0 == 2)
  else
  Option.bind (if (kind_0 == 3) then
  some (kind_0 == 3)
  else
  some (kind_0 == 4)) fun x22 =>
  some x22) fun x18 =>
  if x18 then
  some 300
  else
  if (kind_0 == 5) then
  some 150
  else
  some (-1)

def m_spec_l22One (n : Nat) (c_0 : SChange) : Option (Bool) :=
  Option.bind (m_spec_l22Most n c_0.Kind) fun x11 =>
  Option.bind (if (c_0.Amount != 0) then
  Option.bind (m_spec_l00In n c_0.Amount (wI64 (0 - x11)) x11) fun x32 =>
  some x32
  else
  some false) fun x29 =>
  some x29

def m_spec_l22Names (n : Nat)  : Option (List (List UInt8)) :=
  some ([[108, 101, 110, 103, 116, 104], [98, 97, 108, 108], [105, 110, 115, 116, 101, 112], [104, 101, 101, 108], [112, 105, 116, 99, 104]] : List (List UInt8))

def m_spec_l01Dec_l1 (n : Nat)  (st14 : List Int × Int) : Option (Step (List Int × Int) (List Int)) :=
  if (st14.2 != 0) then
  Option.bind (if (decide ((Int.tmod st14.2 10) < 0)) then
  some (wI64 (0 - (Int.tmod st14.2 10)))
  else
  some (Int.tmod st14.2 10)) fun x38 =>
  Option.bind (app ([(IntKind.u8.wrap (wI64 (48 + x38)))] : List Int) st14.1) fun x53 =>
  some (.next (x53, (wI64 (Int.tdiv st14.2 10))))
  else
  some (.done st14.1)

def m_spec_l01Dec (n : Nat) (n_0 : Int) : Option (List UInt8) :=
  Option.bind (loopN (m_spec_l01Dec_l1 n) n (([] : List Int), n_0)) fun q73 =>
  if ((q73.length : Int) == 0) then
  some [48]
  else
  if (decide (n_0 < 0)) then
  Option.bind (app [45] (ofBytes q73)) fun x85 =>
  some x85
  else
  some (ofBytes q73)

def m_spec_l02Size (n : Nat) (n_0 : Int) : Option (Int) :=
  if (decide (n_0 < 0)) then
  some (wI64 (0 - n_0))
  else
  some n_0

def m_spec_l22Text (n : Nat) (c_0 : SChange) : Option (List UInt8) :=
  Option.bind (if (decide (c_0.Amount < 0)) then
  some [45]
  else
  some [43]) fun x14 =>
  Option.bind (m_spec_l22Names n ) fun x34 =>
  Option.bind (idx x34 (wI64 (c_0.Kind - 1))) fun x69 =>
  Option.bind (app x69 [32]) fun x83 =>
  Option.bind (app x83 x14) fun x97 =>
  Option.bind (m_spec_l02Size n c_0.Amount) fun x117 =>
  Option.bind (m_spec_l01Dec n x117) fun x131 =>
  Option.bind (app x97 x131) fun x145 =>
  some x145

def m_spec_ChangeText (n : Nat) (c_0 : SChange) : Option (List UInt8) :=
  Option.bind (m_spec_l22One n c_0) fun x12 =>
  if (!x12) then
  some []
  else
  Option.bind (m_spec_l22Text n c_0) fun x23 =>
  some x23

def m_laws_toChange (n : Nat) (a_0 : SChange) : Option (SChange) :=
  some a_0

def m_impl_mostChange (n : Nat) (kind_0 : Int) : Option (Int) :=
  if (kind_0 == 1) then
  some 200
  else
  Option.bind (if (kind_0 == 2) then
  some (kind_0 == 2)
  else
  Option.bind (if (kind_0 == 3) then
  some (kind_0 == 3)
  else
  some (kind_0 == 4)) fun x22 =>
  some x22) fun x18 =>
  if x18 then
  some 300
  else
  if (kind_0 == 5) then
  some 150
  else
  some 0

def m_impl_within (n : Nat) (n_0 : Int) (low_1 : Int) (high_2 : Int) : Option (Bool) :=
  Option.bind (if (decide (n_0 ≥ low_1)) then
  some (decide (n_0 ≤ high_2))
  else
  some false) fun x4 =>
  some x4

def m_impl_validChange (n : Nat) (c_0 : SChange) : Option (Bool) :=
  Option.bind (m_impl_mostChange n c_0.Kind) fun x11 =>
  Option.bind (if (decide (x11 > 0)) then
  if (c_0.Amount != 0) then
  Option.bind (m_impl_within n c_0.Amount (wI64 (0 - x11)) x11) fun x34 =>
  some x34
  else
  some false
  else
  some false) fun x30 =>
  some x30

def m_impl_Decimal (n : Nat) (n_0 : Int) : Option (List UInt8) :=
  Option.bind (m_strconv_FormatInt n n_0 10) fun x3 =>
  some x3

def m_impl_ChangeText (n : Nat) (c_0 : SChange) : Option (List UInt8) :=
  Option.bind (m_impl_validChange n c_0) fun x12 =>
  if (!x12) then
  some []
  else
  if (decide (c_0.Amount > 0)) then
  Option.bind (idx v_changeNames c_0.Kind) fun x25 =>
  Option.bind (app x25 [32, 43]) fun x27 =>
  Option.bind (m_impl_Decimal n c_0.Amount) fun x29 =>
  Option.bind (app x27 x29) fun x33 =>
  some x33
  else
  Option.bind (idx v_changeNames c_0.Kind) fun x41 =>
  Option.bind (app x41 [32]) fun x43 =>
  Option.bind (m_impl_Decimal n c_0.Amount) fun x45 =>
  Option.bind (app x43 x45) fun x49 =>
  some x49

def m_laws_FnExactChangeText (n : Nat) (aC_0 : SChange) : Option (Bool) :=
  Option.bind (m_laws_toChange n aC_0) fun x11 =>
  Option.bind (m_spec_ChangeText n x11) fun x19 =>
  Option.bind (m_laws_toChange n aC_0) fun x28 =>
  Option.bind (m_impl_ChangeText n x28) fun x36 =>
  if (!(x36 == x19)) then
  some false
  else
  some true

def m_spec_l01Split_l1 (n : Nat) (s_0 : List UInt8) (by_1 : Int) (st15 : List (List UInt8) × Int × Int) : Option (Step (List (List UInt8) × Int × Int) (List (List UInt8) × Int)) :=
  if (decide (st15.2.2 < (s_0.length : Int))) then
  Option.bind (idx s_0 st15.2.2) fun x36 =>
  Option.bind (if ((x36.toNat : Int) == by_1) then
  Option.bind (sub s_0 st15.2.1 st15.2.2) fun x66 =>
  Option.bind (app st15.1 ([x66] : List (List UInt8))) fun x77 =>
  some (x77, (wI64 (st15.2.2 + 1)))
  else
  some (st15.1, st15.2.1)) fun x60 =>
  some (.next (x60.1, x60.2, (wI64 (st15.2.2 + 1))))
  else
  some (.done (st15.1, st15.2.1))

def m_spec_l01Split (n : Nat) (s_0 : List UInt8) (by_1 : Int) : Option (List (List UInt8)) :=
  Option.bind (loopN (m_spec_l01Split_l1 n s_0 by_1) n (([] : List (List UInt8)), 0, 0)) fun q111 =>
  Option.bind (sub s_0 q111.2 (s_0.length : Int)) fun x116 =>
  Option.bind (app q111.1 ([x116] : List (List UInt8))) fun x127 =>
  some x127

def m_spec_l01Digit (n : Nat) (c_0 : Int) : Option (Bool) :=
  Option.bind (if (decide (c_0 ≥ 48)) then
  some (decide (c_0 ≤ 57))
  else
  some false) fun x4 =>
  some x4

def m_spec_l01Number_l1 (n : Nat) (x20 : List UInt8) (st43 : Int × Int) : Option (Step (Int × Int) ((Int) ⊕ (Int × Bool))) :=
  if (decide (st43.2 < (x20.length : Int))) then
  Option.bind (idx x20 st43.2) fun x62 =>
  Option.bind (m_spec_l01Digit n (x62.toNat : Int)) fun x64 =>
  if (!x64) then
  some (.done (.inr (0, false)))
  else
  Option.bind (idx x20 st43.2) fun x74 =>
  some (.next ((wI64 ((wI64 (10 * st43.1)) + (wI64 (IntKind.u8.wrap ((x74.toNat : Int) - 48))))), (wI64 (st43.2 + 1))))
  else
  some (.done (.inl st43.1))

def m_spec_l01Number (n : Nat) (s_0 : List UInt8) : Option (Int × Bool) :=
  Option.bind (if (!(s_0 == [])) then
  Option.bind (idx s_0 0) fun x11 =>
  some ((x11.toNat : Int) == 45)
  else
  some false) fun x8 =>
  Option.bind (if x8 then
  Option.bind (sub s_0 1 (s_0.length : Int)) fun x22 =>
  some x22
  else
  some s_0) fun x20 =>
  Option.bind (if (decide ((x20.length : Int) < 1)) then
  some true
  else
  some (decide ((x20.length : Int) > 18))) fun x31 =>
  if x31 then
  some (0, false)
  else
  Option.bind (loopN (m_spec_l01Number_l1 n x20) n (0, 0)) fun t54 =>
  match t54 with
  | .inl q98 =>
  Option.bind (if (decide ((x20.length : Int) < (s_0.length : Int))) then
  some (wI64 (0 - q98))
  else
  some q98) fun x102 =>
  Option.bind (m_spec_l01Dec n x102) fun x110 =>
  if (!(x110 == s_0)) then
  some (0, false)
  else
  some (x102, true)
  | .inr r =>
  some r

def m_spec_ReadChange_l1 (n : Nat) (x11 : List (List UInt8)) (x91 : List (List UInt8)) (st257 : Int × Int) : Option (Step (Int × Int) (Int)) :=
  if (decide (st257.1 < (x91.length : Int))) then
  Option.bind (idx x91 st257.1) fun x275 =>
  Option.bind (idx x11 0) fun x277 =>
  Option.bind (if (x275 == x277) then
  some (wI64 (st257.1 + 1))
  else
  some st257.2) fun x302 =>
  some (.next ((wI64 (st257.1 + 1)), x302))
  else
  some (.done st257.2)

def m_spec_ReadChange (n : Nat) (s_0 : List UInt8) : Option (SChange × Bool) :=
  Option.bind (m_spec_l01Split n s_0 32) fun x11 =>
  Option.bind (if ((x11.length : Int) != 2) then
  some true
  else
  Option.bind (idx x11 1) fun x40 =>
  if (decide ((x40.length : Int) < 2)) then
  some true
  else
  Option.bind (idx x11 1) fun x43 =>
  Option.bind (idx x43 0) fun x45 =>
  if ((x45.toNat : Int) != 43) then
  Option.bind (idx x11 1) fun x48 =>
  Option.bind (idx x48 0) fun x50 =>
  some ((x50.toNat : Int) != 45)
  else
  some false) fun x37 =>
  if x37 then
  some ((SChange.mk 0 0), false)
  else
  Option.bind (idx x11 1) fun x64 =>
  Option.bind (sub x64 1 (x64.length : Int)) fun x66 =>
  Option.bind (m_spec_l01Number n x66) fun x68 =>
  Option.bind (m_spec_l22Names n ) fun x91 =>
  Option.bind (loopN (m_spec_ReadChange_l1 n x11 x91) n (0, 0)) fun q410 =>
  Option.bind (if (!x68.2) then
  some true
  else
  Option.bind (m_spec_l00In n x68.1 1 300) fun x425 =>
  some (!x425)) fun x422 =>
  if x422 then
  some ((SChange.mk 0 0), false)
  else
  Option.bind (idx x11 1) fun x452 =>
  Option.bind (idx x452 0) fun x454 =>
  Option.bind (if ((x454.toNat : Int) == 45) then
  some (wI64 (0 - x68.1))
  else
  some x68.1) fun x474 =>
  Option.bind (m_spec_l22One n (SChange.mk q410 x474)) fun x487 =>
  if (!x487) then
  some ((SChange.mk 0 0), false)
  else
  some ((SChange.mk q410 x474), true)

def m_impl_ReadDecimal (n : Nat) (s_0 : List UInt8) : Option (Int × Bool) :=
  Option.bind (if (decide ((s_0.length : Int) > 19)) then
  some true
  else
  Option.bind (m_strings_TrimPrefix n s_0 [45]) fun x16 =>
  some (decide ((x16.length : Int) > 18))) fun x13 =>
  if x13 then
  some (0, false)
  else
  Option.bind (m_strconv_ParseInt n s_0 10 64) fun x31 =>
  Option.bind (if x31.2 then
  some true
  else
  Option.bind (m_impl_Decimal n x31.1) fun x55 =>
  some (!(x55 == s_0))) fun x52 =>
  if x52 then
  some (0, false)
  else
  some (x31.1, true)

def m_slices_Index_string_string_l1 (n : Nat) (s_0 : List (List UInt8)) (v_1 : List UInt8) (st4 : Int) : Option (Step (Int) ((Unit) ⊕ (Int))) :=
  if (decide (st4 < (s_0.length : Int))) then
  Option.bind (idx s_0 st4) fun x23 =>
  if (v_1 == x23) then
  some (.done (.inr st4))
  else
  some (.next (wI64 (st4 + 1)))
  else
  some (.done (.inl ()))

def m_slices_Index_string_string (n : Nat) (s_0 : List (List UInt8)) (v_1 : List UInt8) : Option (Int) :=
  Option.bind (loopN (m_slices_Index_string_string_l1 n s_0 v_1) n 0) fun t15 =>
  match t15 with
  | .inl q28 =>
  some (-1)
  | .inr r =>
  some r

def m_impl_ReadChange (n : Nat) (s_0 : List UInt8) : Option (SChange × Bool) :=
  Option.bind (m_strings_Cut n s_0 [32]) fun x11 =>
  Option.bind (m_strings_TrimPrefix n x11.2.1 [43]) fun x20 =>
  Option.bind (m_impl_ReadDecimal n x20) fun x28 =>
  Option.bind (m_slices_Index_string_string n v_changeNames x11.1) fun x37 =>
  Option.bind (if (!x28.2) then
  some true
  else
  Option.bind (m_impl_ChangeText n (SChange.mk x37 x28.1)) fun x72 =>
  some (!(x72 == s_0))) fun x69 =>
  if x69 then
  some ((SChange.mk 0 0), false)
  else
  some ((SChange.mk x37 x28.1), true)

def m_laws_eqChange (n : Nat) (a_0 : SChange) (b_1 : SChange) : Option (Bool) :=
  if (a_0.Kind != b_1.Kind) then
  some false
  else
  if (a_0.Amount != b_1.Amount) then
  some false
  else
  some true

def m_laws_FnExactReadChange (n : Nat) (aS_0 : List UInt8) : Option (Bool) :=
  if (decide ((aS_0.length : Int) > 1048576)) then
  some true
  else
  Option.bind (m_spec_ReadChange n aS_0) fun x7 =>
  Option.bind (m_impl_ReadChange n aS_0) fun x29 =>
  Option.bind (Option.bind (m_laws_eqChange n x29.1 x7.1) fun x63 =>
  if (!x63) then
  some true
  else
  some (!(x29.2 == x7.2))) fun x61 =>
  if x61 then
  some false
  else
  some true

def m_laws_a2Long (n : Nat) (code_0 : List Int) (more_1 : List Int) : Option (Bool) :=
  Option.bind (if (decide ((code_0.length : Int) > 3000)) then
  some true
  else
  some (decide ((more_1.length : Int) > 3000))) fun x4 =>
  some x4

def m_spec_l00From (n : Nat) (code_0 : List Int) : Option ((Int × Int)) :=
  some (0, 0)

def m_spec_l00Min (n : Nat) (a_0 : Int) (b_1 : Int) : Option (Int) :=
  if (decide (a_0 < b_1)) then
  some a_0
  else
  some b_1

def m_spec_l00Src_next (n : Nat) (s_0_code : List Int) (s_0_at_ : Int) (s_0_seed : Int) : Option (Int × Int × Int) :=
  Option.bind (if (decide (s_0_at_ < (s_0_code.length : Int))) then
  Option.bind (idx s_0_code s_0_at_) fun x20 =>
  some (wI64 x20)
  else
  some 0) fun x18 =>
  if (decide ((wI64 (s_0_at_ + 1)) ≤ (s_0_code.length : Int))) then
  some (x18, (wI64 (s_0_at_ + 1)), (IntKind.u64.wrap ((IntKind.u64.wrap ((IntKind.u64.wrap (s_0_seed * 6364136223846793005)) + (IntKind.u64.wrap x18))) + 1442695040888963407)))
  else
  Option.bind (shr .u64 (IntKind.u64.wrap ((IntKind.u64.wrap ((IntKind.u64.wrap (s_0_seed * 6364136223846793005)) + (IntKind.u64.wrap x18))) + 1442695040888963407)) 40) fun x53 =>
  some ((wI64 (iand .u64 x53 255)), (wI64 (s_0_at_ + 1)), (IntKind.u64.wrap ((IntKind.u64.wrap ((IntKind.u64.wrap (s_0_seed * 6364136223846793005)) + (IntKind.u64.wrap x18))) + 1442695040888963407)))

def m_spec_l00Src_pick (n : Nat) (s_0_code : List Int) (s_0_at_ : Int) (s_0_seed : Int) (n_1 : Int) : Option (Int × Int × Int) :=
  if (decide (n_1 ≤ 1)) then
  some (0, s_0_at_, s_0_seed)
  else
  Option.bind (m_spec_l00Src_next n s_0_code s_0_at_ s_0_seed) fun x7 =>
  Option.bind (if (decide (n_1 > 200)) then
  Option.bind (m_spec_l00Src_next n s_0_code x7.2.1 x7.2.2) fun x50 =>
  some ((wI64 ((wI64 (x7.1 * 256)) + x50.1)), x50.2.1, x50.2.2)
  else
  some (x7.1, x7.2.1, x7.2.2)) fun x48 =>
  Option.bind (rem x48.1 n_1) fun x64 =>
  some (x64, x48.2.1, x48.2.2)

def m_spec_l00Max (n : Nat) (a_0 : Int) (b_1 : Int) : Option (Int) :=
  if (decide (a_0 > b_1)) then
  some a_0
  else
  some b_1

def m_spec_l04New (n : Nat) (s_0_code : List Int) (s_0_at_ : Int) (s_0_seed : Int) (name_1 : List UInt8) (f_2 : SFoot) : Option (SLast × Int × Int) :=
  Option.bind (m_spec_l00Src_pick n s_0_code s_0_at_ s_0_seed 40) fun x56 =>
  Option.bind (m_spec_l00Min n 5000 (wI64 (f_2.Length + (wI64 (5 * x56.1))))) fun x83 =>
  Option.bind (m_spec_l00Src_pick n s_0_code x56.2.1 x56.2.2 40) fun x154 =>
  Option.bind (m_spec_l00Max n 500 (wI64 ((wI64 (f_2.Ball + (wI64 (5 * x154.1)))) - 100))) fun x175 =>
  Option.bind (m_spec_l00Min n 5000 x175) fun x183 =>
  Option.bind (m_spec_l00Src_pick n s_0_code x154.2.1 x154.2.2 40) fun x228 =>
  Option.bind (m_spec_l00Max n 500 (wI64 ((wI64 (f_2.Instep + (wI64 (5 * x228.1)))) - 100))) fun x249 =>
  Option.bind (m_spec_l00Min n 5000 x249) fun x257 =>
  Option.bind (m_spec_l00Src_pick n s_0_code x228.2.1 x228.2.2 40) fun x302 =>
  Option.bind (m_spec_l00Max n 500 (wI64 ((wI64 (f_2.Heel + (wI64 (5 * x302.1)))) - 100))) fun x323 =>
  Option.bind (m_spec_l00Min n 5000 x323) fun x331 =>
  Option.bind (m_spec_l00Src_pick n s_0_code x302.2.1 x302.2.2 60) fun x345 =>
  some ((SLast.mk name_1 x83 x183 x257 x331 (wI64 (10 * x345.1))), x345.2.1, x345.2.2)

def m_spec_l02Draw (n : Nat) (s_0_code : List Int) (s_0_at_ : Int) (s_0_seed : Int) : Option (SFoot × Int × Int) :=
  Option.bind (m_spec_l00Src_pick n s_0_code s_0_at_ s_0_seed 130) fun x11 =>
  Option.bind (m_spec_l00Src_pick n s_0_code x11.2.1 x11.2.2 100) fun x34 =>
  Option.bind (m_spec_l00Src_pick n s_0_code x34.2.1 x34.2.2 100) fun x49 =>
  Option.bind (m_spec_l00Src_pick n s_0_code x49.2.1 x49.2.2 100) fun x64 =>
  some ((SFoot.mk (wI64 (2200 + (wI64 (5 * x11.1)))) (wI64 (2100 + (wI64 (5 * x34.1)))) (wI64 (2200 + (wI64 (5 * x49.1)))) (wI64 (3000 + (wI64 (5 * x64.1))))), x64.2.1, x64.2.2)

def m_spec_A2Last (n : Nat) (code_0 : List Int) : Option (SLast) :=
  Option.bind (m_spec_l00From n code_0) fun x11 =>
  Option.bind (m_spec_l02Draw n code_0 x11.1 x11.2) fun x22 =>
  Option.bind (m_spec_l04New n code_0 x22.2.1 x22.2.2 [100, 101, 114, 98, 121] x22.1) fun x31 =>
  some x31.1

def m_spec_l00Src_one (n : Nat) (s_0_code : List Int) (s_0_at_ : Int) (s_0_seed : Int) (n_1 : Int) : Option (Bool × Int × Int) :=
  Option.bind (m_spec_l00Src_pick n s_0_code s_0_at_ s_0_seed n_1) fun x3 =>
  some ((x3.1 == 0), x3.2.1, x3.2.2)

def m_spec_l22New (n : Nat) (s_0_code : List Int) (s_0_at_ : Int) (s_0_seed : Int) : Option (SChange × Int × Int) :=
  Option.bind (m_spec_l00Src_pick n s_0_code s_0_at_ s_0_seed 5) fun x11 =>
  Option.bind (m_spec_l00Src_pick n s_0_code x11.2.1 x11.2.2 60) fun x34 =>
  Option.bind (m_spec_l00Src_one n s_0_code x34.2.1 x34.2.2 2) fun x50 =>
  Option.bind (if x50.1 then
  some (wI64 (0 - (wI64 (1 + x34.1))))
  else
  some (wI64 (1 + x34.1))) fun x77 =>
  some ((SChange.mk (wI64 (1 + x11.1)) x77), x50.2.1, x50.2.2)

def m_spec_l22Draw_l1 (n : Nat) (s_0_code : List Int) (st71 : List SChange × Int × Int × Int) : Option (Step (List SChange × Int × Int × Int) (List SChange × Int × Int)) :=
  if (decide (st71.2.1 > 0)) then
  Option.bind (m_spec_l22New n s_0_code st71.2.2.1 st71.2.2.2) fun x91 =>
  Option.bind (app st71.1 ([x91.1] : List SChange)) fun x109 =>
  some (.next (x109, (wI64 (st71.2.1 - 1)), x91.2.1, x91.2.2))
  else
  some (.done (st71.1, st71.2.2.1, st71.2.2.2))

def m_spec_l22Draw (n : Nat) (s_0_code : List Int) (s_0_at_ : Int) (s_0_seed : Int) : Option (List SChange × Int × Int) :=
  Option.bind (m_spec_l00Src_pick n s_0_code s_0_at_ s_0_seed 6) fun x14 =>
  Option.bind (loopN (m_spec_l22Draw_l1 n s_0_code) n (([] : List SChange), x14.1, x14.2.1, x14.2.2)) fun q119 =>
  some (q119.1, q119.2.1, q119.2.2)

def m_spec_A2Changes (n : Nat) (code_0 : List Int) : Option (List SChange) :=
  Option.bind (m_spec_l00From n code_0) fun x3 =>
  Option.bind (m_spec_l22Draw n code_0 x3.1 x3.2) fun x13 =>
  some x13.1

def m_impl_IsName_l1 (n : Nat) (s_0 : List UInt8) (st28 : Int) : Option (Step (Int) ((Unit) ⊕ (Bool))) :=
  if (decide (st28 < (s_0.length : Int))) then
  Option.bind (Option.bind (idx s_0 st28) fun x74 =>
  if (decide ((x74.toNat : Int) < 97)) then
  Option.bind (idx s_0 st28) fun x77 =>
  if (decide ((x77.toNat : Int) < 48)) then
  Option.bind (idx s_0 st28) fun x80 =>
  some ((x80.toNat : Int) != 45)
  else
  Option.bind (idx s_0 st28) fun x82 =>
  if (decide ((x82.toNat : Int) > 57)) then
  Option.bind (idx s_0 st28) fun x85 =>
  some ((x85.toNat : Int) != 45)
  else
  some false
  else
  Option.bind (idx s_0 st28) fun x87 =>
  if (decide ((x87.toNat : Int) > 122)) then
  Option.bind (idx s_0 st28) fun x90 =>
  if (decide ((x90.toNat : Int) < 48)) then
  Option.bind (idx s_0 st28) fun x93 =>
  some ((x93.toNat : Int) != 45)
  else
  Option.bind (idx s_0 st28) fun x95 =>
  if (decide ((x95.toNat : Int) > 57)) then
  Option.bind (idx s_0 st28) fun x98 =>
  some ((x98.toNat : Int) != 45)
  else
  some false
  else
  some false) fun x72 =>
  if x72 then
  some (.done (.inr false))
  else
  some (.next (wI64 (st28 + 1)))
  else
  some (.done (.inl ()))

def m_impl_IsName (n : Nat) (s_0 : List UInt8) : Option (Bool) :=
  Option.bind (if (decide ((s_0.length : Int) < 1)) then
  some true
  else
  if (decide ((s_0.length : Int) > 12)) then
  some true
  else
  Option.bind (idx s_0 0) fun x15 =>
  if (decide ((x15.toNat : Int) < 97)) then
  some true
  else
  Option.bind (idx s_0 0) fun x18 =>
  some (decide ((x18.toNat : Int) > 122))) fun x11 =>
  if x11 then
  some false
  else
  Option.bind (loopN (m_impl_IsName_l1 n s_0) n 1) fun t39 =>
  match t39 with
  | .inl q107 =>
  some true
  | .inr r =>
  some r

def m_impl_outside_1 (n : Nat) (n_0 : Int) (cap_1 : Int) (cap_2 : Int) : Option (Bool) :=
  Option.bind (m_impl_within n n_0 cap_1 cap_2) fun x3 =>
  some (!x3)

def m_slices_IndexFunc_int64_int64_f86_l1 (n : Nat) (s_0 : List Int) (cap_1_0 : Int) (cap_1_1 : Int) (st4 : Int) : Option (Step (Int) ((Unit) ⊕ (Int))) :=
  if (decide (st4 < (s_0.length : Int))) then
  Option.bind (idx s_0 st4) fun x23 =>
  Option.bind (m_impl_outside_1 n x23 cap_1_0 cap_1_1) fun x25 =>
  if x25 then
  some (.done (.inr st4))
  else
  some (.next (wI64 (st4 + 1)))
  else
  some (.done (.inl ()))

def m_slices_IndexFunc_int64_int64_f86 (n : Nat) (s_0 : List Int) (cap_1_0 : Int) (cap_1_1 : Int) : Option (Int) :=
  Option.bind (loopN (m_slices_IndexFunc_int64_int64_f86_l1 n s_0 cap_1_0 cap_1_1) n 0) fun t15 =>
  match t15 with
  | .inl q36 =>
  some (-1)
  | .inr r =>
  some r

def m_slices_ContainsFunc_int64_int64_f86 (n : Nat) (s_0 : List Int) (cap_1_0 : Int) (cap_1_1 : Int) : Option (Bool) :=
  Option.bind (m_slices_IndexFunc_int64_int64_f86 n s_0 cap_1_0 cap_1_1) fun x3 =>
  some (decide (x3 ≥ 0))

def m_impl_outside (n : Nat) (list_0 : List Int) (low_1 : Int) (high_2 : Int) : Option (Bool) :=
  Option.bind (m_slices_ContainsFunc_int64_int64_f86 n list_0 low_1 high_2) fun x19 =>
  some x19

def m_impl_Foot_measures (n : Nat) (f_0 : SFoot) : Option (List Int) :=
  some ([f_0.Length, f_0.Ball, f_0.Instep, f_0.Heel] : List Int)

def m_impl_ValidFoot (n : Nat) (f_0 : SFoot) : Option (Bool) :=
  Option.bind (m_impl_Foot_measures n f_0) fun x11 =>
  Option.bind (m_impl_outside n x11 500 5000) fun x22 =>
  some (!x22)

def m_impl_Last_foot (n : Nat) (x_0 : SLast) : Option (SFoot) :=
  some (SFoot.mk x_0.Length x_0.Ball x_0.Instep x_0.Heel)

def m_impl_validLast (n : Nat) (x_0 : SLast) : Option (Bool) :=
  Option.bind (Option.bind (m_impl_IsName n x_0.Name) fun x47 =>
  if x47 then
  Option.bind (m_impl_Last_foot n x_0) fun x56 =>
  Option.bind (m_impl_ValidFoot n x56) fun x64 =>
  if x64 then
  Option.bind (m_impl_within n x_0.Pitch 0 1000) fun x73 =>
  some x73
  else
  some false
  else
  some false) fun x45 =>
  some x45

def m_impl_ValidChanges_1 (n : Nat) (c_0 : SChange) : Option (Bool) :=
  Option.bind (m_impl_validChange n c_0) fun x11 =>
  some (!x11)

def m_slices_IndexFunc_impl_Change_impl_Change_f60_l1 (n : Nat) (s_0 : List SChange) (st4 : Int) : Option (Step (Int) ((Unit) ⊕ (Int))) :=
  if (decide (st4 < (s_0.length : Int))) then
  Option.bind (idx s_0 st4) fun x23 =>
  Option.bind (m_impl_ValidChanges_1 n x23) fun x25 =>
  if x25 then
  some (.done (.inr st4))
  else
  some (.next (wI64 (st4 + 1)))
  else
  some (.done (.inl ()))

def m_slices_IndexFunc_impl_Change_impl_Change_f60 (n : Nat) (s_0 : List SChange) : Option (Int) :=
  Option.bind (loopN (m_slices_IndexFunc_impl_Change_impl_Change_f60_l1 n s_0) n 0) fun t15 =>
  match t15 with
  | .inl q36 =>
  some (-1)
  | .inr r =>
  some r

def m_slices_ContainsFunc_impl_Change_impl_Change_f60 (n : Nat) (s_0 : List SChange) : Option (Bool) :=
  Option.bind (m_slices_IndexFunc_impl_Change_impl_Change_f60 n s_0) fun x3 =>
  some (decide (x3 ≥ 0))

def m_impl_ValidChanges (n : Nat) (list_0 : List SChange) : Option (Bool) :=
  Option.bind (if (decide ((list_0.length : Int) ≤ 20)) then
  Option.bind (m_slices_ContainsFunc_impl_Change_impl_Change_f60 n list_0) fun x15 =>
  some (!x15)
  else
  some false) fun x12 =>
  some x12

def m_impl_Last_numbers (n : Nat) (x_0 : SLast) : Option (List Int) :=
  some ([x_0.Length, x_0.Ball, x_0.Instep, x_0.Heel, x_0.Pitch] : List Int)

def m_impl_Last_changed (n : Nat) (x_0 : SLast) (c_1 : SChange) : Option (SLast) :=
  Option.bind (m_impl_Last_numbers n x_0) fun x27 =>
  Option.bind (idx x27 (wI64 (c_1.Kind - 1))) fun x44 =>
  Option.bind (idx x27 (wI64 (c_1.Kind - 1))) fun x46 =>
  Option.bind (idx (x27.set (Int.toNat (wI64 (c_1.Kind - 1))) (wI64 (x44 + c_1.Amount))) 0) fun x64 =>
  Option.bind (idx (x27.set (Int.toNat (wI64 (c_1.Kind - 1))) (wI64 (x44 + c_1.Amount))) 1) fun x66 =>
  Option.bind (idx (x27.set (Int.toNat (wI64 (c_1.Kind - 1))) (wI64 (x44 + c_1.Amount))) 2) fun x68 =>
  Option.bind (idx (x27.set (Int.toNat (wI64 (c_1.Kind - 1))) (wI64 (x44 + c_1.Amount))) 3) fun x70 =>
  Option.bind (idx (x27.set (Int.toNat (wI64 (c_1.Kind - 1))) (wI64 (x44 + c_1.Amount))) 4) fun x72 =>
  some (SLast.mk x_0.Name x64 x66 x68 x70 x72)

def m_impl_ApplyChanges_l1 (n : Nat) (list_1 : List SChange) (st138 : Int × List UInt8 × Int × Int × Int × Int × Int) : Option (Step (Int × List UInt8 × Int × Int × Int × Int × Int) ((List UInt8 × Int × Int × Int × Int × Int) ⊕ (SLast × Int))) :=
  if (decide (st138.1 < (list_1.length : Int))) then
  Option.bind (idx list_1 st138.1) fun x156 =>
  Option.bind (m_impl_Last_changed n (SLast.mk st138.2.1 st138.2.2.1 st138.2.2.2.1 st138.2.2.2.2.1 st138.2.2.2.2.2.1 st138.2.2.2.2.2.2) x156) fun x172 =>
  Option.bind (m_impl_validLast n x172) fun x186 =>
  if (!x186) then
  some (.done (.inr ((SLast.mk [] 0 0 0 0 0), 10)))
  else
  some (.next ((wI64 (st138.1 + 1)), x172.Name, x172.Length, x172.Ball, x172.Instep, x172.Heel, x172.Pitch))
  else
  some (.done (.inl (st138.2.1, st138.2.2.1, st138.2.2.2.1, st138.2.2.2.2.1, st138.2.2.2.2.2.1, st138.2.2.2.2.2.2)))

def m_impl_ApplyChanges (n : Nat) (x_0 : SLast) (list_1 : List SChange) : Option (SLast × Int) :=
  Option.bind (Option.bind (m_impl_validLast n x_0) fun x39 =>
  if (!x39) then
  some true
  else
  Option.bind (m_impl_ValidChanges n list_1) fun x48 =>
  some (!x48)) fun x37 =>
  if x37 then
  some ((SLast.mk [] 0 0 0 0 0), 1)
  else
  Option.bind (loopN (m_impl_ApplyChanges_l1 n list_1) n (0, x_0.Name, x_0.Length, x_0.Ball, x_0.Instep, x_0.Heel, x_0.Pitch)) fun t149 =>
  match t149 with
  | .inl q207 =>
  some ((SLast.mk q207.1 q207.2.1 q207.2.2.1 q207.2.2.2.1 q207.2.2.2.2.1 q207.2.2.2.2.2), 0)
  | .inr r =>
  some r

def m_impl_UndoChanges (n : Nat) (list_0 : List SChange) : Option (List SChange × Int) :=
  Option.bind (m_impl_ValidChanges n list_0) fun x1 =>
  if (!x1) then
  some (([] : List SChange), 1)
  else
  if list_0.length ≤ 4294967296 then
  some (list_0.reverse.map fun c => SChange.mk c.Kind (wI64 (0 - c.Amount)), 0)
  else none

def m_impl_changesOf_l1 (n : Nat) (amounts_0 : List Int) (st14 : List SChange × Int) : Option (Step (List SChange × Int) (List SChange)) :=
  if (decide (st14.2 < (amounts_0.length : Int))) then
  Option.bind (idx amounts_0 st14.2) fun x35 =>
  Option.bind (if (x35 != 0) then
  Option.bind (app st14.1 ([(SChange.mk (wI64 (st14.2 + 1)) x35)] : List SChange)) fun x71 =>
  some x71
  else
  some st14.1) fun x57 =>
  some (.next (x57, (wI64 (st14.2 + 1))))
  else
  some (.done st14.1)

def m_impl_changesOf (n : Nat) (amounts_0 : List Int) : Option (List SChange × Int) :=
  Option.bind (loopN (m_impl_changesOf_l1 n amounts_0) n (([] : List SChange), 0)) fun q99 =>
  Option.bind (m_impl_ValidChanges n q99) fun x105 =>
  if (!x105) then
  some (([] : List SChange), 5)
  else
  some (q99, 0)

def m_impl_MergeChanges_l1 (n : Nat) (list_0 : List SChange) (st94 : Int × List Int) : Option (Step (Int × List Int) (List Int)) :=
  if (decide (st94.1 < (list_0.length : Int))) then
  Option.bind (idx list_0 st94.1) fun x112 =>
  Option.bind (idx st94.2 (wI64 (x112.Kind - 1))) fun x132 =>
  Option.bind (idx st94.2 (wI64 (x112.Kind - 1))) fun x134 =>
  some (.next ((wI64 (st94.1 + 1)), (st94.2.set (Int.toNat (wI64 (x112.Kind - 1))) (wI64 (x132 + x112.Amount)))))
  else
  some (.done st94.2)

def m_impl_MergeChanges (n : Nat) (list_0 : List SChange) : Option (List SChange × Int) :=
  Option.bind (m_impl_ValidChanges n list_0) fun x4 =>
  if (!x4) then
  some (([] : List SChange), 1)
  else
  Option.bind (mk (0 : Int) 5) fun x17 =>
  Option.bind (loopN (m_impl_MergeChanges_l1 n list_0) n (0, x17)) fun q158 =>
  Option.bind (m_impl_changesOf n q158) fun x160 =>
  some (x160.1, x160.2)

def m_impl_ChangesBetween_l1 (n : Nat) (x78 : List Int) (st130 : Int × List Int) : Option (Step (Int × List Int) (List Int)) :=
  if (decide (st130.1 < (x78.length : Int))) then
  Option.bind (idx x78 st130.1) fun x148 =>
  Option.bind (idx st130.2 st130.1) fun x150 =>
  Option.bind (idx st130.2 st130.1) fun x152 =>
  some (.next ((wI64 (st130.1 + 1)), (st130.2.set (Int.toNat st130.1) (wI64 (x150 - x148)))))
  else
  some (.done st130.2)

def m_impl_ChangesBetween (n : Nat) (a_0 : SLast) (b_1 : SLast) : Option (List SChange × Int) :=
  Option.bind (Option.bind (m_impl_validLast n a_0) fun x39 =>
  if (!x39) then
  some true
  else
  Option.bind (m_impl_validLast n b_1) fun x48 =>
  some (!x48)) fun x37 =>
  if x37 then
  some (([] : List SChange), 1)
  else
  Option.bind (m_impl_Last_numbers n b_1) fun x65 =>
  Option.bind (m_impl_Last_numbers n a_0) fun x78 =>
  Option.bind (loopN (m_impl_ChangesBetween_l1 n x78) n (0, x65)) fun q171 =>
  Option.bind (m_impl_changesOf n q171) fun x173 =>
  some (x173.1, x173.2)

def m_spec_SameChanges_l1 (n : Nat) (a_0 : List SChange) (b_1 : List SChange) (st8 : Int) : Option (Step (Int) ((Unit) ⊕ (Bool))) :=
  if (decide (st8 < (a_0.length : Int))) then
  Option.bind (idx a_0 st8) fun x26 =>
  Option.bind (idx b_1 st8) fun x28 =>
  if (!(decide (x26 = x28))) then
  some (.done (.inr false))
  else
  some (.next (wI64 (st8 + 1)))
  else
  some (.done (.inl ()))

def m_spec_SameChanges (n : Nat) (a_0 : List SChange) (b_1 : List SChange) : Option (Bool) :=
  if ((a_0.length : Int) != (b_1.length : Int)) then
  some false
  else
  Option.bind (loopN (m_spec_SameChanges_l1 n a_0 b_1) n 0) fun t19 =>
  match t19 with
  | .inl q38 =>
  some true
  | .inr r =>
  some r

def m_laws_FnChanges_l1 (n : Nat) (x37 : List SChange) (x71 : List SChange × Int) (st118 : Int) : Option (Step (Int) ((Unit) ⊕ (Bool))) :=
  if (decide (st118 < (x37.length : Int))) then
  Option.bind (idx x71.1 (wI64 ((wI64 ((x37.length : Int) - 1)) - st118))) fun x136 =>
  Option.bind (idx x37 st118) fun x152 =>
  Option.bind (m_impl_ChangeText n x152) fun x154 =>
  Option.bind (m_impl_ReadChange n x154) fun x162 =>
  Option.bind (Option.bind (idx x37 st118) fun x215 =>
  if (x136.Kind != x215.Kind) then
  some true
  else
  Option.bind (idx x37 st118) fun x223 =>
  if (x136.Amount != (wI64 (0 - x223.Amount))) then
  some true
  else
  if (!x162.2) then
  some true
  else
  Option.bind (idx x37 st118) fun x237 =>
  some (!(decide (x162.1 = x237)))) fun x213 =>
  if x213 then
  some (.done (.inr false))
  else
  some (.next (wI64 (st118 + 1)))
  else
  some (.done (.inl ()))

def m_laws_FnChanges (n : Nat) (code_0 : List Int) (more_1 : List Int) : Option (Bool) :=
  Option.bind (m_laws_a2Long n code_0 more_1) fun x4 =>
  if x4 then
  some true
  else
  Option.bind (m_spec_A2Last n code_0) fun x15 =>
  Option.bind (m_spec_A2Changes n more_1) fun x37 =>
  Option.bind (m_impl_ApplyChanges n x15 x37) fun x49 =>
  Option.bind (m_impl_UndoChanges n x37) fun x71 =>
  Option.bind (m_impl_MergeChanges n x37) fun x83 =>
  Option.bind (if (x71.2 != 0) then
  some true
  else
  if ((x71.1.length : Int) != (x37.length : Int)) then
  some true
  else
  if (x83.2 != 0) then
  if (x83.2 != 5) then
  some true
  else
  if (x49.2 != 0) then
  some (x49.2 != 10)
  else
  some false
  else
  if (x49.2 != 0) then
  some (x49.2 != 10)
  else
  some false) fun x102 =>
  if x102 then
  some false
  else
  Option.bind (loopN (m_laws_FnChanges_l1 n x37 x71) n 0) fun t129 =>
  match t129 with
  | .inl q355 =>
  if (x49.2 != 0) then
  some true
  else
  Option.bind (m_impl_ApplyChanges n x49.1 x71.1) fun x361 =>
  Option.bind (m_impl_ChangesBetween n x15 x49.1) fun x383 =>
  Option.bind (if (x361.2 != 0) then
  some true
  else
  if (!(decide (x361.1 = x15))) then
  some true
  else
  some (x383.2 != x83.2)) fun x398 =>
  if x398 then
  some false
  else
  if (x83.2 != 0) then
  some true
  else
  Option.bind (m_impl_ApplyChanges n x15 x83.1) fun x413 =>
  Option.bind (if (x413.2 == 0) then
  if (decide (x413.1 = x49.1)) then
  Option.bind (m_spec_SameChanges n x383.1 x83.1) fun x449 =>
  some x449
  else
  some false
  else
  some false) fun x445 =>
  some x445
  | .inr r =>
  some r

def m_spec_MostChange (n : Nat) (kind_0 : Int) : Option (Int × Int) :=
  Option.bind (m_spec_l22Most n kind_0) fun x3 =>
  if (decide (x3 < 0)) then
  some (0, 2)
  else
  some (x3, 0)

def m_spec_l22Short (n : Nat) (n_0 : Int) : Option (Bool) :=
  Option.bind (m_spec_l00In n n_0 0 400) fun x3 =>
  some x3

def m_spec_RaiseFor (n : Nat) (short_0 : Int) (inside_1 : Int) (heel_2 : Int) (sole_3 : Int) : Option (List Int × Int) :=
  Option.bind (Option.bind (m_spec_l22Short n short_0) fun x41 =>
  if (!x41) then
  some true
  else
  Option.bind (m_spec_l22Short n inside_1) fun x50 =>
  if (!x50) then
  some true
  else
  Option.bind (m_spec_l22Short n heel_2) fun x59 =>
  if (!x59) then
  some true
  else
  Option.bind (m_spec_l22Short n sole_3) fun x68 =>
  some (!x68)) fun x39 =>
  if x39 then
  some (([] : List Int), 2)
  else
  Option.bind (m_spec_l00Min n short_0 inside_1) fun x85 =>
  Option.bind (m_spec_l00Min n (wI64 (short_0 - x85)) heel_2) fun x94 =>
  Option.bind (m_spec_l00Min n (wI64 ((wI64 (short_0 - x85)) - x94)) sole_3) fun x103 =>
  if (decide ((wI64 ((wI64 (x85 + x94)) + x103)) < short_0)) then
  some (([] : List Int), 10)
  else
  some (([x85, (wI64 (x94 + x103)), x103] : List Int), 0)

def m_spec_l22Ok_l1 (n : Nat) (list_0 : List SChange) (st4 : Int) : Option (Step (Int) ((Unit) ⊕ (Bool))) :=
  if (decide (st4 < (list_0.length : Int))) then
  Option.bind (idx list_0 st4) fun x22 =>
  Option.bind (m_spec_l22One n x22) fun x24 =>
  if (!x24) then
  some (.done (.inr false))
  else
  some (.next (wI64 (st4 + 1)))
  else
  some (.done (.inl ()))

def m_spec_l22Ok (n : Nat) (list_0 : List SChange) : Option (Bool) :=
  Option.bind (loopN (m_spec_l22Ok_l1 n list_0) n 0) fun t15 =>
  match t15 with
  | .inl q35 =>
  some (decide ((list_0.length : Int) ≤ 20))
  | .inr r =>
  some r

def m_spec_ValidChanges (n : Nat) (list_0 : List SChange) : Option (Bool) :=
  Option.bind (m_spec_l22Ok n list_0) fun x3 =>
  some x3

def m_spec_FittingsOf_l1 (n : Nat) (c_0 : SChange) (x39 : Int) (x48 : Int) (st62 : List Int × Int) : Option (Step (List Int × Int) (List Int)) :=
  if (decide (st62.2 < x48)) then
  Option.bind (quo .i64 x39 x48) fun x83 =>
  Option.bind (rem x39 x48) fun x87 =>
  Option.bind (if (decide (st62.2 < x87)) then
  some (wI64 (x83 + 1))
  else
  some x83) fun x90 =>
  Option.bind (if (decide (c_0.Amount < 0)) then
  some (wI64 (0 - x90))
  else
  some x90) fun x99 =>
  Option.bind (app st62.1 ([x99] : List Int)) fun x114 =>
  some (.next (x114, (wI64 (st62.2 + 1))))
  else
  some (.done st62.1)

def m_spec_FittingsOf (n : Nat) (c_0 : SChange) (step_1 : Int) : Option (List Int × Int) :=
  Option.bind (m_spec_l22One n c_0) fun x12 =>
  if (!x12) then
  some (([] : List Int), 1)
  else
  Option.bind (m_spec_l00In n step_1 1 100) fun x26 =>
  if (!x26) then
  some (([] : List Int), 2)
  else
  Option.bind (m_spec_l02Size n c_0.Amount) fun x39 =>
  Option.bind (quo .i64 (wI64 ((wI64 (x39 + step_1)) - 1)) step_1) fun x48 =>
  Option.bind (loopN (m_spec_FittingsOf_l1 n c_0 x39 x48) n (([] : List Int), 0)) fun q124 =>
  some (q124, 0)

def m_spec_FirstClash_l2 (n : Nat) (list_0 : List SChange) (st16 : Int) (st34 : Int) : Option (Step (Int) ((Unit) ⊕ (Int × Int × Int))) :=
  if (decide (st34 < st16)) then
  Option.bind (Option.bind (idx list_0 st34) fun x73 =>
  Option.bind (idx list_0 st16) fun x75 =>
  if (x73.Kind == x75.Kind) then
  Option.bind (idx list_0 st34) fun x78 =>
  Option.bind (idx list_0 st16) fun x80 =>
  some (!((decide (x78.Amount < 0)) == (decide (x80.Amount < 0))))
  else
  some false) fun x71 =>
  if x71 then
  some (.done (.inr (st16, st34, 0)))
  else
  some (.next (wI64 (st34 + 1)))
  else
  some (.done (.inl ()))

def m_spec_FirstClash_l1 (n : Nat) (list_0 : List SChange) (st16 : Int) : Option (Step (Int) ((Unit) ⊕ (Int × Int × Int))) :=
  if (decide (st16 < (list_0.length : Int))) then
  Option.bind (loopN (m_spec_FirstClash_l2 n list_0 st16) n 0) fun t45 =>
  match t45 with
  | .inl q98 =>
  some (.next (wI64 (st16 + 1)))
  | .inr r =>
  some (.done (.inr r))
  else
  some (.done (.inl ()))

def m_spec_FirstClash (n : Nat) (list_0 : List SChange) : Option (Int × Int × Int) :=
  Option.bind (m_spec_l22Ok n list_0) fun x4 =>
  if (!x4) then
  some (0, 0, 1)
  else
  Option.bind (loopN (m_spec_FirstClash_l1 n list_0) n 0) fun t27 =>
  match t27 with
  | .inl q100 =>
  some (0, 0, 3)
  | .inr r =>
  some r

def m_spec_A2Change (n : Nat) (code_0 : List Int) : Option (SChange) :=
  Option.bind (m_spec_l00From n code_0) fun x11 =>
  Option.bind (m_spec_l22New n code_0 x11.1 x11.2) fun x21 =>
  some x21.1

def m_spec_UndoChanges_l1 (n : Nat) (list_0 : List SChange) (st28 : List SChange × Int) : Option (Step (List SChange × Int) (List SChange)) :=
  if (decide (st28.2 ≥ 0)) then
  Option.bind (idx list_0 st28.2) fun x53 =>
  Option.bind (idx list_0 st28.2) fun x55 =>
  Option.bind (app st28.1 ([(SChange.mk x53.Kind (wI64 (0 - x55.Amount)))] : List SChange)) fun x71 =>
  some (.next (x71, (wI64 (st28.2 - 1))))
  else
  some (.done st28.1)

def m_spec_UndoChanges (n : Nat) (list_0 : List SChange) : Option (List SChange × Int) :=
  Option.bind (m_spec_l22Ok n list_0) fun x4 =>
  if (!x4) then
  some (([] : List SChange), 1)
  else
  Option.bind (loopN (m_spec_UndoChanges_l1 n list_0) n (([] : List SChange), (wI64 ((list_0.length : Int) - 1)))) fun q81 =>
  some (q81, 0)

def m_spec_l22Of_l1 (n : Nat) (m_0 : List Int) (st14 : List SChange × Int) : Option (Step (List SChange × Int) ((List SChange) ⊕ (List SChange × Int))) :=
  if (decide (st14.2 < (m_0.length : Int))) then
  Option.bind (idx m_0 st14.2) fun x35 =>
  Option.bind (idx m_0 st14.2) fun x52 =>
  if (x52 == 0) then
  some (.next (st14.1, (wI64 (st14.2 + 1))))
  else
  Option.bind (m_spec_l22One n (SChange.mk (wI64 (st14.2 + 1)) x35)) fun x57 =>
  if (!x57) then
  some (.done (.inr (([] : List SChange), 5)))
  else
  Option.bind (app st14.1 ([(SChange.mk (wI64 (st14.2 + 1)) x35)] : List SChange)) fun x78 =>
  some (.next (x78, (wI64 (st14.2 + 1))))
  else
  some (.done (.inl st14.1))

def m_spec_l22Of (n : Nat) (m_0 : List Int) : Option (List SChange × Int) :=
  Option.bind (loopN (m_spec_l22Of_l1 n m_0) n (([] : List SChange), 0)) fun t28 =>
  match t28 with
  | .inl q88 =>
  some (q88, 0)
  | .inr r =>
  some r

def m_spec_MergeChanges_l1 (n : Nat) (list_0 : List SChange) (st82 : Int × List Int) : Option (Step (Int × List Int) (List Int)) :=
  if (decide (st82.1 < (list_0.length : Int))) then
  Option.bind (idx list_0 st82.1) fun x104 =>
  Option.bind (idx st82.2 (wI64 (x104.Kind - 1))) fun x106 =>
  Option.bind (idx list_0 st82.1) fun x108 =>
  Option.bind (idx st82.2 (wI64 (x104.Kind - 1))) fun x110 =>
  some (.next ((wI64 (st82.1 + 1)), (st82.2.set (Int.toNat (wI64 (x104.Kind - 1))) (wI64 (x106 + x108.Amount)))))
  else
  some (.done st82.2)

def m_spec_MergeChanges (n : Nat) (list_0 : List SChange) : Option (List SChange × Int) :=
  Option.bind (m_spec_l22Ok n list_0) fun x4 =>
  if (!x4) then
  some (([] : List SChange), 1)
  else
  Option.bind (mk (0 : Int) 5) fun x17 =>
  Option.bind (loopN (m_spec_MergeChanges_l1 n list_0) n (0, x17)) fun q134 =>
  Option.bind (m_spec_l22Of n q134) fun x136 =>
  some (x136.1, x136.2)

def m_spec_l01Small (n : Nat) (c_0 : Int) : Option (Bool) :=
  Option.bind (if (decide (c_0 ≥ 97)) then
  some (decide (c_0 ≤ 122))
  else
  some false) fun x4 =>
  some x4

def m_spec_IsName_l1 (n : Nat) (s_0 : List UInt8) (st38 : Int) : Option (Step (Int) ((Unit) ⊕ (Bool))) :=
  if (decide (st38 < (s_0.length : Int))) then
  Option.bind (Option.bind (idx s_0 st38) fun x82 =>
  Option.bind (m_spec_l01Small n (x82.toNat : Int)) fun x84 =>
  if (!x84) then
  Option.bind (idx s_0 st38) fun x93 =>
  Option.bind (m_spec_l01Digit n (x93.toNat : Int)) fun x95 =>
  if (!x95) then
  Option.bind (idx s_0 st38) fun x104 =>
  some ((x104.toNat : Int) != 45)
  else
  some false
  else
  some false) fun x80 =>
  if x80 then
  some (.done (.inr false))
  else
  some (.next (wI64 (st38 + 1)))
  else
  some (.done (.inl ()))

def m_spec_IsName (n : Nat) (s_0 : List UInt8) : Option (Bool) :=
  Option.bind (if (s_0 == []) then
  some true
  else
  if (decide ((s_0.length : Int) > 12)) then
  some true
  else
  Option.bind (idx s_0 0) fun x20 =>
  Option.bind (m_spec_l01Small n (x20.toNat : Int)) fun x22 =>
  some (!x22)) fun x16 =>
  if x16 then
  some false
  else
  Option.bind (loopN (m_spec_IsName_l1 n s_0) n 0) fun t49 =>
  match t49 with
  | .inl q113 =>
  some true
  | .inr r =>
  some r

def m_spec_l02One (n : Nat) (n_0 : Int) : Option (Bool) :=
  Option.bind (m_spec_l00In n n_0 500 5000) fun x3 =>
  some x3

def m_spec_l02Foot (n : Nat) (f_0 : SFoot) : Option (Bool) :=
  Option.bind (Option.bind (m_spec_l02One n f_0.Length) fun x48 =>
  if x48 then
  Option.bind (m_spec_l02One n f_0.Ball) fun x57 =>
  if x57 then
  Option.bind (m_spec_l02One n f_0.Instep) fun x66 =>
  if x66 then
  Option.bind (m_spec_l02One n f_0.Heel) fun x75 =>
  some x75
  else
  some false
  else
  some false
  else
  some false) fun x46 =>
  some x46

def m_spec_l04Foot (n : Nat) (x_0 : SLast) : Option (SFoot) :=
  some (SFoot.mk x_0.Length x_0.Ball x_0.Instep x_0.Heel)

def m_spec_l04One (n : Nat) (x_0 : SLast) : Option (Bool) :=
  Option.bind (Option.bind (m_spec_IsName n x_0.Name) fun x47 =>
  if x47 then
  Option.bind (m_spec_l04Foot n x_0) fun x56 =>
  Option.bind (m_spec_l02Foot n x56) fun x64 =>
  if x64 then
  Option.bind (m_spec_l00In n x_0.Pitch 0 1000) fun x73 =>
  some x73
  else
  some false
  else
  some false) fun x45 =>
  some x45

def m_spec_l22Five (n : Nat) (x_0 : SLast) : Option (List Int) :=
  some ([x_0.Length, x_0.Ball, x_0.Instep, x_0.Heel, x_0.Pitch] : List Int)

def m_spec_ChangesBetween_l1 (n : Nat) (x65 : List Int) (st140 : Int × List Int) : Option (Step (Int × List Int) (List Int)) :=
  if (decide (st140.1 < (x65.length : Int))) then
  Option.bind (idx st140.2 st140.1) fun x162 =>
  Option.bind (idx x65 st140.1) fun x164 =>
  Option.bind (idx st140.2 st140.1) fun x166 =>
  some (.next ((wI64 (st140.1 + 1)), (st140.2.set (Int.toNat st140.1) (wI64 (x162 - x164)))))
  else
  some (.done st140.2)

def m_spec_ChangesBetween (n : Nat) (a_0 : SLast) (b_1 : SLast) : Option (List SChange × Int) :=
  Option.bind (Option.bind (m_spec_l04One n a_0) fun x39 =>
  if (!x39) then
  some true
  else
  Option.bind (m_spec_l04One n b_1) fun x48 =>
  some (!x48)) fun x37 =>
  if x37 then
  some (([] : List SChange), 1)
  else
  Option.bind (m_spec_l22Five n a_0) fun x65 =>
  Option.bind (m_spec_l22Five n b_1) fun x77 =>
  Option.bind (loopN (m_spec_ChangesBetween_l1 n x65) n (0, x77)) fun q190 =>
  Option.bind (m_spec_l22Of n q190) fun x192 =>
  some (x192.1, x192.2)

def m_spec_ApplyChanges_l1 (n : Nat) (x_0 : SLast) (list_1 : List SChange) (st170 : Int × List Int × Int × Int × Int × Int × Int) : Option (Step (Int × List Int × Int × Int × Int × Int × Int) ((List Int × Int × Int × Int × Int × Int) ⊕ (SLast × Int))) :=
  if (decide (st170.1 < (list_1.length : Int))) then
  Option.bind (idx list_1 st170.1) fun x193 =>
  Option.bind (idx st170.2.1 (wI64 (x193.Kind - 1))) fun x195 =>
  Option.bind (idx list_1 st170.1) fun x197 =>
  Option.bind (idx st170.2.1 (wI64 (x193.Kind - 1))) fun x199 =>
  Option.bind (idx (st170.2.1.set (Int.toNat (wI64 (x193.Kind - 1))) (wI64 (x195 + x197.Amount))) 0) fun x217 =>
  Option.bind (idx (st170.2.1.set (Int.toNat (wI64 (x193.Kind - 1))) (wI64 (x195 + x197.Amount))) 1) fun x219 =>
  Option.bind (idx (st170.2.1.set (Int.toNat (wI64 (x193.Kind - 1))) (wI64 (x195 + x197.Amount))) 2) fun x221 =>
  Option.bind (idx (st170.2.1.set (Int.toNat (wI64 (x193.Kind - 1))) (wI64 (x195 + x197.Amount))) 3) fun x223 =>
  Option.bind (idx (st170.2.1.set (Int.toNat (wI64 (x193.Kind - 1))) (wI64 (x195 + x197.Amount))) 4) fun x225 =>
  Option.bind (m_spec_l04One n (SLast.mk x_0.Name x217 x219 x221 x223 x225)) fun x238 =>
  if (!x238) then
  some (.done (.inr ((SLast.mk [] 0 0 0 0 0), 10)))
  else
  some (.next ((wI64 (st170.1 + 1)), (st170.2.1.set (Int.toNat (wI64 (x193.Kind - 1))) (wI64 (x195 + x197.Amount))), x217, x219, x221, x223, x225))
  else
  some (.done (.inl (st170.2.1, st170.2.2.1, st170.2.2.2.1, st170.2.2.2.2.1, st170.2.2.2.2.2.1, st170.2.2.2.2.2.2)))

def m_spec_ApplyChanges (n : Nat) (x_0 : SLast) (list_1 : List SChange) : Option (SLast × Int) :=
  Option.bind (Option.bind (m_spec_l04One n x_0) fun x39 =>
  if (!x39) then
  some true
  else
  Option.bind (m_spec_l22Ok n list_1) fun x48 =>
  some (!x48)) fun x37 =>
  if x37 then
  some ((SLast.mk [] 0 0 0 0 0), 1)
  else
  Option.bind (m_spec_l22Five n x_0) fun x68 =>
  Option.bind (loopN (m_spec_ApplyChanges_l1 n x_0 list_1) n (0, x68, x_0.Length, x_0.Ball, x_0.Instep, x_0.Heel, x_0.Pitch)) fun t181 =>
  match t181 with
  | .inl q259 =>
  some ((SLast.mk x_0.Name q259.2.1 q259.2.2.1 q259.2.2.2.1 q259.2.2.2.2.1 q259.2.2.2.2.2), 0)
  | .inr r =>
  some r

end Go.Gv
