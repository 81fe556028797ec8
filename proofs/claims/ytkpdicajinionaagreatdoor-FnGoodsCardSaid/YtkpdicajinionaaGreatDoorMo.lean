/- What each function computes, as a Lean function that may fail. -/
import Derived.Test.YtkpdicajinionaaGreatDoorMh
namespace Go.Gv
open Go Go.RowKit

def m_laws_f6big (n : Nat) (code_0 : List Int) : Option (Bool) :=
  some (decide ((code_0.length : Int) > 4096))

def m_spec_l00From (n : Nat) (code_0 : List Int) : Option ((Int × Int)) :=
  some (0, 0)

def m_spec_l00Src_next (n : Nat) (s_0_code : List Int) (s_0_at_ : Int) (s_0_seed : Int) : Option (Int × Int × Int) :=
  Option.bind (if (decide (s_0_at_ < (s_0_code.length : Int))) then
  Option.bind (idx s_0_code s_0_at_) fun x20 =>
  some (wI64 x20)
  else
  some 0) fun x18 =>
  if (decide ((wI64 (s_0_at_ + 1)) ≤ (s_0_code.length : Int))) then
  some (x18, (wI64 (s_0_at_ + 1)), (IntKind.u64.wrap ((IntKind.u64.wrap ((IntKind.u64.wrap (s_0_seed * 6364136223846793005)) + (IntKind.u64.wrap x18))) + 1442695040888963407)))
  else
  Option.bind (shr .u64 (IntKind.u64.wrap ((IntKind.u64.wrap ((IntKind.u64.wrap (s_0_seed * 6364136223846793005)) + (IntKind.u64.wrap x18))) + 1442695040888963407)) 40) fun x53 =>
  some ((wI64 (iand .u64 x53 255)), (wI64 (s_0_at_ + 1)), (IntKind.u64.wrap ((IntKind.u64.wrap ((IntKind.u64.wrap (s_0_seed * 6364136223846793005)) + (IntKind.u64.wrap x18))) + 1442695040888963407)))

def m_spec_l00Src_pick (n : Nat) (s_0_code : List Int) (s_0_at_ : Int) (s_0_seed : Int) (n_1 : Int) : Option (Int × Int × Int) :=
  if (decide (n_1 ≤ 1)) then
  some (0, s_0_at_, s_0_seed)
  else
  Option.bind (m_spec_l00Src_next n s_0_code s_0_at_ s_0_seed) fun x7 =>
  Option.bind (if (decide (n_1 > 200)) then
  Option.bind (m_spec_l00Src_next n s_0_code x7.2.1 x7.2.2) fun x50 =>
  some ((wI64 ((wI64 (x7.1 * 256)) + x50.1)), x50.2.1, x50.2.2)
  else
  some (x7.1, x7.2.1, x7.2.2)) fun x48 =>
  Option.bind (rem x48.1 n_1) fun x64 =>
  some (x64, x48.2.1, x48.2.2)

def m_spec_l00Src_one (n : Nat) (s_0_code : List Int) (s_0_at_ : Int) (s_0_seed : Int) (n_1 : Int) : Option (Bool × Int × Int) :=
  Option.bind (m_spec_l00Src_pick n s_0_code s_0_at_ s_0_seed n_1) fun x3 =>
  some ((x3.1 == 0), x3.2.1, x3.2.2)

def m_spec_l00Src_text (n : Nat) (s_0_code : List Int) (s_0_at_ : Int) (s_0_seed : Int) (list_1 : List (List UInt8)) : Option (List UInt8 × Int × Int) :=
  Option.bind (m_spec_l00Src_pick n s_0_code s_0_at_ s_0_seed (list_1.length : Int)) fun x3 =>
  Option.bind (idx list_1 x3.1) fun x12 =>
  some (x12, x3.2.1, x3.2.2)

def m_spec_l00Src_among (n : Nat) (s_0_code : List Int) (s_0_at_ : Int) (s_0_seed : Int) (list_1 : List Int) : Option (Int × Int × Int) :=
  Option.bind (m_spec_l00Src_pick n s_0_code s_0_at_ s_0_seed (list_1.length : Int)) fun x3 =>
  Option.bind (idx list_1 x3.1) fun x12 =>
  some (x12, x3.2.1, x3.2.2)

def m_spec_l00Src_text_o1 (n : Nat) (s_0_code : List Int) (s_0_at_ : Int) (s_0_seed : Int) (list_1 : List (List UInt8)) : Option (List UInt8 × Int × Int) :=
  Option.bind (m_spec_l00Src_pick n s_0_code s_0_at_ s_0_seed (list_1.length : Int)) fun x3 =>
  Option.bind (idx list_1 x3.1) fun x12 =>
  some (x12, x3.2.1, x3.2.2)

def m_spec_l00Src_among_o1 (n : Nat) (s_0_code : List Int) (s_0_at_ : Int) (s_0_seed : Int) (list_1 : List Int) : Option (Int × Int × Int) :=
  Option.bind (m_spec_l00Src_pick n s_0_code s_0_at_ s_0_seed (list_1.length : Int)) fun x3 =>
  Option.bind (idx list_1 x3.1) fun x12 =>
  some (x12, x3.2.1, x3.2.2)

def m_spec_l23Spoil (n : Nat) (s_0_code : List Int) (s_0_at_ : Int) (s_0_seed : Int) (g_1_Name : List UInt8) (g_1_OnHand : Int) (g_1_Reserved : Int) (g_1_Least : Int) : Option (Int × Int × List UInt8 × Int × Int × Int) :=
  Option.bind (m_spec_l00Src_pick n s_0_code s_0_at_ s_0_seed 4) fun x2 =>
  Option.bind (if (x2.1 == 0) then
  Option.bind (m_spec_l00Src_text_o1 n s_0_code x2.2.1 x2.2.2 ([[], [67, 97, 108, 102], [122, 122]] : List (List UInt8))) fun x7001 =>
  some (x7001.2.1, x7001.2.2, x7001.1, g_1_OnHand, g_1_Reserved, g_1_Least)
  else
  Option.bind (if (x2.1 == 1) then
  Option.bind (m_spec_l00Src_among_o1 n s_0_code x2.2.1 x2.2.2 ([(-1), 0, 1000000, 1000001] : List Int)) fun x8749 =>
  some (x8749.2.1, x8749.2.2, x8749.1, g_1_Reserved, g_1_Least)
  else
  Option.bind (if (x2.1 == 2) then
  Option.bind (m_spec_l00Src_among_o1 n s_0_code x2.2.1 x2.2.2 ([(-1), g_1_OnHand, (wI64 (g_1_OnHand + 1)), (-9223372036854775808)] : List Int)) fun x9193 =>
  some (x9193.2.1, x9193.2.2, x9193.1, g_1_Least)
  else
  Option.bind (if (x2.1 == 3) then
  Option.bind (m_spec_l00Src_among_o1 n s_0_code x2.2.1 x2.2.2 ([(-1), 0, 1000000, 1000001] : List Int)) fun x9291 =>
  some (x9291.2.1, x9291.2.2, x9291.1)
  else
  some (x2.2.1, x2.2.2, g_1_Least)) fun x9280 =>
  some (x9280.1, x9280.2.1, g_1_Reserved, x9280.2.2)) fun x9172 =>
  some (x9172.1, x9172.2.1, g_1_OnHand, x9172.2.2.1, x9172.2.2.2)) fun x8738 =>
  some (x8738.1, x8738.2.1, g_1_Name, x8738.2.2.1, x8738.2.2.2.1, x8738.2.2.2.2)) fun x6990 =>
  some (x6990.1, x6990.2.1, x6990.2.2.1, x6990.2.2.2.1, x6990.2.2.2.2.1, x6990.2.2.2.2.2)

def m_spec_l23Names (n : Nat)  : Option (List (List UInt8)) :=
  some ([[99, 97, 108, 102], [99, 111, 114, 107], [101, 121, 101, 108, 101, 116], [104, 101, 101, 108, 45, 51], [108, 97, 99, 101], [110, 97, 105, 108], [116, 104, 114, 101, 97, 100], [119, 97, 120]] : List (List UInt8))

def m_spec_l23New (n : Nat) (s_0_code : List Int) (s_0_at_ : Int) (s_0_seed : Int) (name_1 : List UInt8) : Option (SGood × Int × Int) :=
  Option.bind (m_spec_l00Src_pick n s_0_code s_0_at_ s_0_seed 120) fun x11 =>
  Option.bind (m_spec_l00Src_pick n s_0_code x11.2.1 x11.2.2 (wI64 (x11.1 + 1))) fun x34 =>
  Option.bind (m_spec_l00Src_one n s_0_code x34.2.1 x34.2.2 2) fun x50 =>
  Option.bind (if x50.1 then
  some 0
  else
  some x34.1) fun x77 =>
  Option.bind (m_spec_l00Src_pick n s_0_code x50.2.1 x50.2.2 60) fun x89 =>
  some ((SGood.mk name_1 x11.1 x77 x89.1), x89.2.1, x89.2.2)

def m_spec_l23Draw_l1 (n : Nat) (s_0_code : List Int) (x13 : List (List UInt8)) (st188 : List SGood × Int × Int × Int) : Option (Step (List SGood × Int × Int × Int) (List SGood × Int × Int)) :=
  if (decide (st188.2.1 < (x13.length : Int))) then
  Option.bind (m_spec_l00Src_one n s_0_code st188.2.2.1 st188.2.2.2 2) fun x209 =>
  Option.bind (if x209.1 then
  Option.bind (idx x13 st188.2.1) fun x316 =>
  Option.bind (m_spec_l23New n s_0_code x209.2.1 x209.2.2 x316) fun x318 =>
  Option.bind (app st188.1 ([x318.1] : List SGood)) fun x336 =>
  some (x336, x318.2.1, x318.2.2)
  else
  some (st188.1, x209.2.1, x209.2.2)) fun x311 =>
  some (.next (x311.1, (wI64 (st188.2.1 + 1)), x311.2.1, x311.2.2))
  else
  some (.done (st188.1, st188.2.2.1, st188.2.2.2))

def m_spec_l23Draw (n : Nat) (s_0_code : List Int) (s_0_at_ : Int) (s_0_seed : Int) : Option (List SGood × Int × Int) :=
  Option.bind (m_spec_l23Names n ) fun x13 =>
  Option.bind (loopN (m_spec_l23Draw_l1 n s_0_code x13) n (([] : List SGood), 0, s_0_at_, s_0_seed)) fun q350 =>
  some (q350.1, q350.2.1, q350.2.2)

def m_spec_l23Spoil_o1 (n : Nat) (s_0_code : List Int) (s_0_at_ : Int) (s_0_seed : Int) (g_1 : List SGood) (i1_ : Int) (e1_ : SGood) : Option (List SGood × Int × Int) :=
  Option.bind (m_spec_l00Src_pick n s_0_code s_0_at_ s_0_seed 4) fun x2 =>
  Option.bind (if (x2.1 == 0) then
  Option.bind (m_spec_l00Src_text_o1 n s_0_code x2.2.1 x2.2.2 ([[], [67, 97, 108, 102], [122, 122]] : List (List UInt8))) fun x7319 =>
  some (x7319.2.1, x7319.2.2, (g_1.set (Int.toNat i1_) (SGood.mk x7319.1 e1_.OnHand e1_.Reserved e1_.Least)))
  else
  Option.bind (if (x2.1 == 1) then
  Option.bind (m_spec_l00Src_among_o1 n s_0_code x2.2.1 x2.2.2 ([(-1), 0, 1000000, 1000001] : List Int)) fun x9146 =>
  some (x9146.2.1, x9146.2.2, (g_1.set (Int.toNat i1_) (SGood.mk e1_.Name x9146.1 e1_.Reserved e1_.Least)))
  else
  Option.bind (if (x2.1 == 2) then
  Option.bind (m_spec_l00Src_among_o1 n s_0_code x2.2.1 x2.2.2 ([(-1), e1_.OnHand, (wI64 (e1_.OnHand + 1)), (-9223372036854775808)] : List Int)) fun x9609 =>
  some (x9609.2.1, x9609.2.2, (g_1.set (Int.toNat i1_) (SGood.mk e1_.Name e1_.OnHand x9609.1 e1_.Least)))
  else
  Option.bind (if (x2.1 == 3) then
  Option.bind (m_spec_l00Src_among_o1 n s_0_code x2.2.1 x2.2.2 ([(-1), 0, 1000000, 1000001] : List Int)) fun x9711 =>
  some (x9711.2.1, x9711.2.2, (g_1.set (Int.toNat i1_) (SGood.mk e1_.Name e1_.OnHand e1_.Reserved x9711.1)))
  else
  some (x2.2.1, x2.2.2, g_1)) fun x9700 =>
  some (x9700.1, x9700.2.1, x9700.2.2)) fun x9588 =>
  some (x9588.1, x9588.2.1, x9588.2.2)) fun x9135 =>
  some (x9135.1, x9135.2.1, x9135.2.2)) fun x7308 =>
  some (x7308.2.2, x7308.1, x7308.2.1)

def m_spec_l23Bent_l1 (n : Nat)  (st47 : List SGood × Int) : Option (Step (List SGood × Int) (List SGood)) :=
  if (decide (st47.2 > 0)) then
  Option.bind (app [103] (ofBytes ([(IntKind.u8.wrap (wI64 (97 + (wI64 (Int.tdiv (st47.1.length : Int) 26))))), (IntKind.u8.wrap (wI64 (97 + (Int.tmod (st47.1.length : Int) 26))))] : List Int))) fun x77 =>
  Option.bind (app st47.1 ([(SGood.mk x77 9 0 0)] : List SGood)) fun x88 =>
  some (.next (x88, (wI64 (st47.2 - 1))))
  else
  some (.done st47.1)

def m_spec_l23Bent_l2 (n : Nat)  (st126 : List SGood × Int) : Option (Step (List SGood × Int) (List SGood)) :=
  if (decide (st126.2 > 0)) then
  Option.bind (app [103] (ofBytes ([(IntKind.u8.wrap (wI64 (97 + (wI64 (Int.tdiv (st126.1.length : Int) 26))))), (IntKind.u8.wrap (wI64 (97 + (Int.tmod (st126.1.length : Int) 26))))] : List Int))) fun x156 =>
  Option.bind (app st126.1 ([(SGood.mk x156 9 0 0)] : List SGood)) fun x167 =>
  some (.next (x167, (wI64 (st126.2 - 1))))
  else
  some (.done st126.1)

def m_spec_l23Bent_l3 (n : Nat)  (st200 : List SGood × Int) : Option (Step (List SGood × Int) (List SGood)) :=
  if (decide (st200.2 > 0)) then
  Option.bind (app [103] (ofBytes ([(IntKind.u8.wrap (wI64 (97 + (wI64 (Int.tdiv (st200.1.length : Int) 26))))), (IntKind.u8.wrap (wI64 (97 + (Int.tmod (st200.1.length : Int) 26))))] : List Int))) fun x230 =>
  Option.bind (app st200.1 ([(SGood.mk x230 9 0 0)] : List SGood)) fun x241 =>
  some (.next (x241, (wI64 (st200.2 - 1))))
  else
  some (.done st200.1)

def m_spec_l23Bent_l4 (n : Nat)  (st279 : List SGood × Int) : Option (Step (List SGood × Int) (List SGood)) :=
  if (decide (st279.2 > 0)) then
  Option.bind (app [103] (ofBytes ([(IntKind.u8.wrap (wI64 (97 + (wI64 (Int.tdiv (st279.1.length : Int) 26))))), (IntKind.u8.wrap (wI64 (97 + (Int.tmod (st279.1.length : Int) 26))))] : List Int))) fun x309 =>
  Option.bind (app st279.1 ([(SGood.mk x309 9 0 0)] : List SGood)) fun x320 =>
  some (.next (x320, (wI64 (st279.2 - 1))))
  else
  some (.done st279.1)

def m_spec_l23Bent (n : Nat) (s_0_code : List Int) (s_0_at_ : Int) (s_0_seed : Int) : Option (List SGood × Int × Int) :=
  Option.bind (m_spec_l23Draw n s_0_code s_0_at_ s_0_seed) fun x3 =>
  Option.bind (m_spec_l00Src_one n s_0_code x3.2.1 x3.2.2 24) fun x17 =>
  Option.bind (if x17.1 then
  Option.bind (m_spec_l00Src_pick n s_0_code x17.2.1 x17.2.2 2) fun x270 =>
  Option.bind (loopN (m_spec_l23Bent_l4 n) n (([] : List SGood), (wI64 (40 + x270.1)))) fun q329 =>
  some (q329, x270.2.1, x270.2.2)
  else
  some (x3.1, x17.2.1, x17.2.2)) fun x254 =>
  Option.bind (if (decide ((x254.1.length : Int) > 0)) then
  Option.bind (m_spec_l00Src_one n s_0_code x254.2.1 x254.2.2 10) fun x374 =>
  some (x374.1, x374.2.1, x374.2.2)
  else
  some (false, x254.2.1, x254.2.2)) fun x371 =>
  Option.bind (if x371.1 then
  Option.bind (m_spec_l00Src_pick n s_0_code x371.2.1 x371.2.2 (x254.1.length : Int)) fun x455 =>
  Option.bind (idx x254.1 x455.1) fun x464 =>
  Option.bind (m_spec_l23Spoil_o1 n s_0_code x455.2.1 x455.2.2 x254.1 x455.1 x464) fun x466 =>
  some (x466.1, x466.2.1, x466.2.2)
  else
  some (x254.1, x371.2.1, x371.2.2)) fun x453 =>
  some (x453.1, x453.2.1, x453.2.2)

def m_spec_l23Name (n : Nat) (s_0_code : List Int) (s_0_at_ : Int) (s_0_seed : Int) (list_1 : List SGood) : Option (List UInt8 × Int × Int) :=
  Option.bind (if (decide ((list_1.length : Int) > 0)) then
  Option.bind (m_spec_l00Src_one n s_0_code s_0_at_ s_0_seed 6) fun x39 =>
  some ((!x39.1), x39.2.1, x39.2.2)
  else
  some (false, s_0_at_, s_0_seed)) fun x36 =>
  if x36.1 then
  Option.bind (m_spec_l00Src_pick n s_0_code x36.2.1 x36.2.2 (list_1.length : Int)) fun x54 =>
  Option.bind (idx list_1 x54.1) fun x63 =>
  some (x63.Name, x54.2.1, x54.2.2)
  else
  Option.bind (m_spec_l23Names n ) fun x66 =>
  Option.bind (m_spec_l00Src_text_o1 n s_0_code x36.2.1 x36.2.2 x66) fun x77 =>
  some (x77.1, x77.2.1, x77.2.2)

def m_spec_l23DrawTake (n : Nat) (s_0_code : List Int) (s_0_at_ : Int) (s_0_seed : Int) (list_1 : List SGood) : Option (STake × Int × Int) :=
  Option.bind (m_spec_l23Name n s_0_code s_0_at_ s_0_seed list_1) fun x11 =>
  Option.bind (m_spec_l00Src_pick n s_0_code x11.2.1 x11.2.2 90) fun x34 =>
  Option.bind (m_spec_l00Src_one n s_0_code x34.2.1 x34.2.2 12) fun x50 =>
  Option.bind (if x50.1 then
  Option.bind (m_spec_l00Src_among_o1 n s_0_code x50.2.1 x50.2.2 ([(-1000001), (-1000000), 0, 1000000, 1000001, (-9223372036854775808)] : List Int)) fun x142 =>
  some (x142.2.1, x142.2.2, x142.1)
  else
  some (x50.2.1, x50.2.2, (wI64 (x34.1 - 45)))) fun x131 =>
  some ((STake.mk x11.1 x131.2.2), x131.1, x131.2.1)

def m_spec_l23Name_o1 (n : Nat) (s_0_code : List Int) (s_0_at_ : Int) (s_0_seed : Int) (list_1 : List SGood) : Option (List UInt8 × Int × Int) :=
  Option.bind (if (decide ((list_1.length : Int) > 0)) then
  Option.bind (m_spec_l00Src_one n s_0_code s_0_at_ s_0_seed 6) fun x39 =>
  some ((!x39.1), x39.2.1, x39.2.2)
  else
  some (false, s_0_at_, s_0_seed)) fun x36 =>
  if x36.1 then
  Option.bind (m_spec_l00Src_pick n s_0_code x36.2.1 x36.2.2 (list_1.length : Int)) fun x54 =>
  Option.bind (idx list_1 x54.1) fun x63 =>
  some (x63.Name, x54.2.1, x54.2.2)
  else
  Option.bind (m_spec_l23Names n ) fun x66 =>
  Option.bind (m_spec_l00Src_text_o1 n s_0_code x36.2.1 x36.2.2 x66) fun x77 =>
  some (x77.1, x77.2.1, x77.2.2)

def m_spec_l23DrawTake_o1 (n : Nat) (s_0_code : List Int) (s_0_at_ : Int) (s_0_seed : Int) (list_1 : List SGood) : Option (STake × Int × Int) :=
  Option.bind (m_spec_l23Name_o1 n s_0_code s_0_at_ s_0_seed list_1) fun x11 =>
  Option.bind (m_spec_l00Src_pick n s_0_code x11.2.1 x11.2.2 90) fun x34 =>
  Option.bind (m_spec_l00Src_one n s_0_code x34.2.1 x34.2.2 12) fun x50 =>
  Option.bind (if x50.1 then
  Option.bind (m_spec_l00Src_among_o1 n s_0_code x50.2.1 x50.2.2 ([(-1000001), (-1000000), 0, 1000000, 1000001, (-9223372036854775808)] : List Int)) fun x142 =>
  some (x142.2.1, x142.2.2, x142.1)
  else
  some (x50.2.1, x50.2.2, (wI64 (x34.1 - 45)))) fun x131 =>
  some ((STake.mk x11.1 x131.2.2), x131.1, x131.2.1)

def m_spec_DrawChangeGoods_l1 (n : Nat) (code_0 : List Int) (x14 : List SGood × Int × Int) (st291 : List STake × Int × Int × Int) : Option (Step (List STake × Int × Int × Int) (List STake × Int × Int)) :=
  if (decide (st291.2.1 > 0)) then
  Option.bind (m_spec_l23DrawTake_o1 n code_0 st291.2.2.1 st291.2.2.2 x14.1) fun x312 =>
  Option.bind (m_spec_l00Src_one n code_0 x312.2.1 x312.2.2 2) fun x336 =>
  Option.bind (if x336.1 then
  Option.bind (m_spec_l00Src_pick n code_0 x336.2.1 x336.2.2 9) fun x392 =>
  some (x392.2.1, x392.2.2, (wI64 (x392.1 - 2)))
  else
  some (x336.2.1, x336.2.2, x312.1.Many)) fun x390 =>
  Option.bind (app st291.1 ([(STake.mk x312.1.Name x390.2.2)] : List STake)) fun x419 =>
  some (.next (x419, (wI64 (st291.2.1 - 1)), x390.1, x390.2.1))
  else
  some (.done (st291.1, st291.2.2.1, st291.2.2.2))

def m_spec_DrawChangeGoods (n : Nat) (code_0 : List Int) : Option (List SGood × List STake) :=
  Option.bind (m_spec_l00From n code_0) fun x3 =>
  Option.bind (m_spec_l23Bent n code_0 x3.1 x3.2) fun x14 =>
  Option.bind (m_spec_l00Src_pick n code_0 x14.2.1 x14.2.2 7) fun x38 =>
  Option.bind (loopN (m_spec_DrawChangeGoods_l1 n code_0 x14) n (([] : List STake), x38.1, x38.2.1, x38.2.2)) fun q535 =>
  Option.bind (m_spec_l00Src_one n code_0 q535.2.1 q535.2.2 20) fun x541 =>
  Option.bind (if x541.1 then
  Option.bind (m_spec_l00Src_pick n code_0 x541.2.1 x541.2.2 2) fun x621 =>
  Option.bind (mk ((STake.mk [] 0) : STake) (wI64 (60 + x621.1))) fun x630 =>
  some (x630, x621.2.1, x621.2.2)
  else
  some (q535.1, x541.2.1, x541.2.2)) fun x616 =>
  some (x14.1, x616.1)

def m_impl_within (n : Nat) (n_0 : Int) (low_1 : Int) (high_2 : Int) : Option (Bool) :=
  Option.bind (if (decide (n_0 ≥ low_1)) then
  some (decide (n_0 ≤ high_2))
  else
  some false) fun x4 =>
  some x4

def m_impl_IsName_l1 (n : Nat) (s_0 : List UInt8) (st28 : Int) : Option (Step (Int) ((Unit) ⊕ (Bool))) :=
  if (decide (st28 < (s_0.length : Int))) then
  Option.bind (Option.bind (idx s_0 st28) fun x74 =>
  if (decide ((x74.toNat : Int) < 97)) then
  Option.bind (idx s_0 st28) fun x77 =>
  if (decide ((x77.toNat : Int) < 48)) then
  Option.bind (idx s_0 st28) fun x80 =>
  some ((x80.toNat : Int) != 45)
  else
  Option.bind (idx s_0 st28) fun x82 =>
  if (decide ((x82.toNat : Int) > 57)) then
  Option.bind (idx s_0 st28) fun x85 =>
  some ((x85.toNat : Int) != 45)
  else
  some false
  else
  Option.bind (idx s_0 st28) fun x87 =>
  if (decide ((x87.toNat : Int) > 122)) then
  Option.bind (idx s_0 st28) fun x90 =>
  if (decide ((x90.toNat : Int) < 48)) then
  Option.bind (idx s_0 st28) fun x93 =>
  some ((x93.toNat : Int) != 45)
  else
  Option.bind (idx s_0 st28) fun x95 =>
  if (decide ((x95.toNat : Int) > 57)) then
  Option.bind (idx s_0 st28) fun x98 =>
  some ((x98.toNat : Int) != 45)
  else
  some false
  else
  some false) fun x72 =>
  if x72 then
  some (.done (.inr false))
  else
  some (.next (wI64 (st28 + 1)))
  else
  some (.done (.inl ()))

def m_impl_IsName (n : Nat) (s_0 : List UInt8) : Option (Bool) :=
  Option.bind (if (decide ((s_0.length : Int) < 1)) then
  some true
  else
  if (decide ((s_0.length : Int) > 12)) then
  some true
  else
  Option.bind (idx s_0 0) fun x15 =>
  if (decide ((x15.toNat : Int) < 97)) then
  some true
  else
  Option.bind (idx s_0 0) fun x18 =>
  some (decide ((x18.toNat : Int) > 122))) fun x11 =>
  if x11 then
  some false
  else
  Option.bind (loopN (m_impl_IsName_l1 n s_0) n 1) fun t39 =>
  match t39 with
  | .inl q107 =>
  some true
  | .inr r =>
  some r

def m_impl_validGood (n : Nat) (g_0 : SGood) : Option (Bool) :=
  Option.bind (Option.bind (m_impl_IsName n g_0.Name) fun x48 =>
  if x48 then
  Option.bind (m_impl_within n g_0.OnHand 0 1000000) fun x57 =>
  if x57 then
  Option.bind (m_impl_within n g_0.Reserved 0 g_0.OnHand) fun x66 =>
  if x66 then
  Option.bind (m_impl_within n g_0.Least 0 1000000) fun x75 =>
  some x75
  else
  some false
  else
  some false
  else
  some false) fun x46 =>
  some x46

def m_impl_ValidGoods_l1 (n : Nat) (list_0 : List SGood) (st4 : Int) : Option (Step (Int) ((Unit) ⊕ (Bool))) :=
  if (decide (st4 < (list_0.length : Int))) then
  Option.bind (idx list_0 st4) fun x22 =>
  Option.bind (Option.bind (m_impl_validGood n x22) fun x63 =>
  if (!x63) then
  some true
  else
  if (decide (st4 > 0)) then
  Option.bind (idx list_0 (wI64 (st4 - 1))) fun x74 =>
  some (!strLt x74.Name x22.Name)
  else
  some false) fun x61 =>
  if x61 then
  some (.done (.inr false))
  else
  some (.next (wI64 (st4 + 1)))
  else
  some (.done (.inl ()))

def m_impl_ValidGoods (n : Nat) (list_0 : List SGood) : Option (Bool) :=
  Option.bind (loopN (m_impl_ValidGoods_l1 n list_0) n 0) fun t15 =>
  match t15 with
  | .inl q93 =>
  some (decide ((list_0.length : Int) ≤ 40))
  | .inr r =>
  some r

def m_impl_isTake (n : Nat) (t_0 : STake) : Option (Bool) :=
  Option.bind (m_impl_within n t_0.Many (-1000000) 1000000) fun x11 =>
  some x11

def m_impl_ChangeGoods_1 (n : Nat) (t_0 : STake) : Option (Bool) :=
  Option.bind (m_impl_isTake n t_0) fun x11 =>
  some (!x11)

def m_slices_Clone_impl_Good_impl_Good (n : Nat) (s_0 : List SGood) : Option (List SGood) :=
    Option.bind (app ([] : List SGood) s_0) fun x18 =>
    some x18

def m_cmp_isNaN_string (n : Nat) (x_0 : List UInt8) : Option (Bool) :=
  some (!(x_0 == x_0))

def m_cmp_Compare_string (n : Nat) (x_0 : List UInt8) (y_1 : List UInt8) : Option (Int) :=
  Option.bind (m_cmp_isNaN_string n x_0) fun x3 =>
  Option.bind (m_cmp_isNaN_string n y_1) fun x12 =>
  if x3 then
  if x12 then
  some 0
  else
  some (-1)
  else
  if x12 then
  some 1
  else
  if (strLt x_0 y_1) then
  some (-1)
  else
  if (!(strLt x_0 y_1 || x_0 == y_1)) then
  some 1
  else
  some 0

def m_impl_goodPlace_1 (n : Nat) (g_0 : SGood) (name_1 : List UInt8) : Option (Int) :=
  Option.bind (m_cmp_Compare_string n g_0.Name name_1) fun x11 =>
  some x11

def m_slices_BinarySearchFunc_impl_Good_impl_Good_string_f66_l1 (n : Nat) (x_0 : List SGood) (target_1 : List UInt8) (st5 : Int × Int) : Option (Step (Int × Int) (Int)) :=
  if (decide (st5.1 < st5.2)) then
  Option.bind (shr .u64 (IntKind.u64.wrap (wI64 (st5.1 + st5.2))) 1) fun x22 =>
  Option.bind (idx x_0 (wI64 x22)) fun x25 =>
  Option.bind (m_impl_goodPlace_1 n x25 target_1) fun x27 =>
  Option.bind (if (decide (x27 < 0)) then
  some ((wI64 ((wI64 x22) + 1)), st5.2)
  else
  some (st5.1, (wI64 x22))) fun x36 =>
  some (.next (x36.1, x36.2))
  else
  some (.done st5.1)

def m_slices_BinarySearchFunc_impl_Good_impl_Good_string_f66 (n : Nat) (x_0 : List SGood) (target_1 : List UInt8) : Option (Int × Bool) :=
  Option.bind (loopN (m_slices_BinarySearchFunc_impl_Good_impl_Good_string_f66_l1 n x_0 target_1) n (0, (x_0.length : Int))) fun q71 =>
  Option.bind (if (decide (q71 < (x_0.length : Int))) then
  Option.bind (idx x_0 q71) fun x87 =>
  Option.bind (m_impl_goodPlace_1 n x87 target_1) fun x89 =>
  some (q71, (x89 == 0))
  else
  some (q71, false)) fun x84 =>
  some (x84.1, x84.2)

def m_impl_goodPlace (n : Nat) (list_0 : List SGood) (name_1 : List UInt8) : Option (Int × Bool) :=
  Option.bind (m_slices_BinarySearchFunc_impl_Good_impl_Good_string_f66 n list_0 name_1) fun x3 =>
  some (x3.1, x3.2)

def m_impl_taken (n : Nat) (list_0 : List SGood) (t_1 : STake) : Option (List SGood × Int) :=
  Option.bind (m_impl_goodPlace n list_0 t_1.Name) fun x11 =>
  if (!x11.2) then
  some (([] : List SGood), 3)
  else
  Option.bind (m_slices_Clone_impl_Good_impl_Good n list_0) fun x26 =>
  Option.bind (idx x26 x11.1) fun x43 =>
  Option.bind (idx x26 x11.1) fun x45 =>
  Option.bind (idx (x26.set (Int.toNat x11.1) (SGood.mk x45.Name (wI64 (x43.OnHand + t_1.Many)) x45.Reserved x45.Least)) x11.1) fun x59 =>
  Option.bind (idx (x26.set (Int.toNat x11.1) (SGood.mk x45.Name (wI64 (x43.OnHand + t_1.Many)) x45.Reserved x45.Least)) x11.1) fun x61 =>
  if (decide (x59.OnHand < x61.Reserved)) then
  some (([] : List SGood), 6)
  else
  Option.bind (idx (x26.set (Int.toNat x11.1) (SGood.mk x45.Name (wI64 (x43.OnHand + t_1.Many)) x45.Reserved x45.Least)) x11.1) fun x73 =>
  if (decide (x73.OnHand > 1000000)) then
  some (([] : List SGood), 5)
  else
  some ((x26.set (Int.toNat x11.1) (SGood.mk x45.Name (wI64 (x43.OnHand + t_1.Many)) x45.Reserved x45.Least)), 0)

def m_slices_IndexFunc_impl_Take_impl_Take_f31_l1 (n : Nat) (s_0 : List STake) (st4 : Int) : Option (Step (Int) ((Unit) ⊕ (Int))) :=
  if (decide (st4 < (s_0.length : Int))) then
  Option.bind (idx s_0 st4) fun x23 =>
  Option.bind (m_impl_ChangeGoods_1 n x23) fun x25 =>
  if x25 then
  some (.done (.inr st4))
  else
  some (.next (wI64 (st4 + 1)))
  else
  some (.done (.inl ()))

def m_slices_IndexFunc_impl_Take_impl_Take_f31 (n : Nat) (s_0 : List STake) : Option (Int) :=
  Option.bind (loopN (m_slices_IndexFunc_impl_Take_impl_Take_f31_l1 n s_0) n 0) fun t15 =>
  match t15 with
  | .inl q36 =>
  some (-1)
  | .inr r =>
  some r

def m_slices_ContainsFunc_impl_Take_impl_Take_f31 (n : Nat) (s_0 : List STake) : Option (Bool) :=
  Option.bind (m_slices_IndexFunc_impl_Take_impl_Take_f31 n s_0) fun x3 =>
  some (decide (x3 ≥ 0))

def m_impl_ChangeGoods_l1 (n : Nat) (list_0 : List SGood) (takes_1 : List STake) (st59 : List SGood × Int) : Option (Step (List SGood × Int) ((List SGood) ⊕ (List SGood × Int × Int))) :=
  if (decide (st59.2 < (takes_1.length : Int))) then
  Option.bind (idx takes_1 st59.2) fun x80 =>
  Option.bind (m_impl_taken n st59.1 x80) fun x96 =>
  if (x96.2 != 0) then
  Option.bind (m_slices_Clone_impl_Good_impl_Good n list_0) fun x111 =>
  some (.done (.inr (x111, st59.2, 0)))
  else
  some (.next (x96.1, (wI64 (st59.2 + 1))))
  else
  some (.done (.inl st59.1))

def m_impl_ChangeGoods (n : Nat) (list_0 : List SGood) (takes_1 : List STake) : Option (List SGood × Int × Int) :=
  Option.bind (m_impl_ValidGoods n list_0) fun x4 =>
  if (!x4) then
  some (([] : List SGood), 0, 1)
  else
  Option.bind (if (decide ((takes_1.length : Int) > 60)) then
  some true
  else
  Option.bind (m_slices_ContainsFunc_impl_Take_impl_Take_f31 n takes_1) fun x29 =>
  some x29) fun x26 =>
  if x26 then
  some (([] : List SGood), 0, 2)
  else
  Option.bind (m_slices_Clone_impl_Good_impl_Good n list_0) fun x46 =>
  Option.bind (loopN (m_impl_ChangeGoods_l1 n list_0 takes_1) n (x46, 0)) fun t73 =>
  match t73 with
  | .inl q123 =>
  some (q123, (-1), 0)
  | .inr r =>
  some r

def m_spec_l00In (n : Nat) (n_0 : Int) (low_1 : Int) (high_2 : Int) : Option (Bool) :=
  Option.bind (if (decide (n_0 ≥ low_1)) then
  some (decide (n_0 ≤ high_2))
  else
  some false) fun x4 =>
  some x4

def m_spec_l23Many (n : Nat) (n_0 : Int) : Option (Bool) :=
  Option.bind (m_spec_l00In n n_0 0 1000000) fun x3 =>
  some x3

def m_spec_l01Digit (n : Nat) (c_0 : Int) : Option (Bool) :=
  Option.bind (if (decide (c_0 ≥ 48)) then
  some (decide (c_0 ≤ 57))
  else
  some false) fun x4 =>
  some x4

def m_spec_l01Small (n : Nat) (c_0 : Int) : Option (Bool) :=
  Option.bind (if (decide (c_0 ≥ 97)) then
  some (decide (c_0 ≤ 122))
  else
  some false) fun x4 =>
  some x4

def m_spec_IsName_l1 (n : Nat) (s_0 : List UInt8) (st38 : Int) : Option (Step (Int) ((Unit) ⊕ (Bool))) :=
  if (decide (st38 < (s_0.length : Int))) then
  Option.bind (Option.bind (idx s_0 st38) fun x82 =>
  Option.bind (m_spec_l01Small n (x82.toNat : Int)) fun x84 =>
  if (!x84) then
  Option.bind (idx s_0 st38) fun x93 =>
  Option.bind (m_spec_l01Digit n (x93.toNat : Int)) fun x95 =>
  if (!x95) then
  Option.bind (idx s_0 st38) fun x104 =>
  some ((x104.toNat : Int) != 45)
  else
  some false
  else
  some false) fun x80 =>
  if x80 then
  some (.done (.inr false))
  else
  some (.next (wI64 (st38 + 1)))
  else
  some (.done (.inl ()))

def m_spec_IsName (n : Nat) (s_0 : List UInt8) : Option (Bool) :=
  Option.bind (if (s_0 == []) then
  some true
  else
  if (decide ((s_0.length : Int) > 12)) then
  some true
  else
  Option.bind (idx s_0 0) fun x20 =>
  Option.bind (m_spec_l01Small n (x20.toNat : Int)) fun x22 =>
  some (!x22)) fun x16 =>
  if x16 then
  some false
  else
  Option.bind (loopN (m_spec_IsName_l1 n s_0) n 0) fun t49 =>
  match t49 with
  | .inl q113 =>
  some true
  | .inr r =>
  some r

def m_spec_l23One (n : Nat) (g_0 : SGood) : Option (Bool) :=
  Option.bind (Option.bind (m_spec_IsName n g_0.Name) fun x44 =>
  if x44 then
  Option.bind (m_spec_l23Many n g_0.OnHand) fun x49 =>
  if x49 then
  Option.bind (m_spec_l00In n g_0.Reserved 0 g_0.OnHand) fun x54 =>
  if x54 then
  Option.bind (m_spec_l23Many n g_0.Least) fun x59 =>
  some x59
  else
  some false
  else
  some false
  else
  some false) fun x42 =>
  some x42

def m_spec_l23Ok_l1 (n : Nat) (list_0 : List SGood) (st4 : Int) : Option (Step (Int) ((Unit) ⊕ (Bool))) :=
  if (decide (st4 < (list_0.length : Int))) then
  Option.bind (Option.bind (idx list_0 st4) fun x51 =>
  Option.bind (m_spec_l23One n x51) fun x53 =>
  if (!x53) then
  some true
  else
  if (decide (st4 > 0)) then
  Option.bind (idx list_0 (wI64 (st4 - 1))) fun x64 =>
  Option.bind (idx list_0 st4) fun x66 =>
  some (!strLt x64.Name x66.Name)
  else
  some false) fun x49 =>
  if x49 then
  some (.done (.inr false))
  else
  some (.next (wI64 (st4 + 1)))
  else
  some (.done (.inl ()))

def m_spec_l23Ok (n : Nat) (list_0 : List SGood) : Option (Bool) :=
  Option.bind (loopN (m_spec_l23Ok_l1 n list_0) n 0) fun t15 =>
  match t15 with
  | .inl q85 =>
  some (decide ((list_0.length : Int) ≤ 40))
  | .inr r =>
  some r

def m_spec_l23Take (n : Nat) (t_0 : STake) : Option (Bool) :=
  Option.bind (m_spec_l00In n t_0.Many (-1000000) 1000000) fun x3 =>
  some x3

def m_spec_l23Takes_l1 (n : Nat) (takes_1 : List STake) (st16 : Int) : Option (Step (Int) ((Unit) ⊕ (Int))) :=
  if (decide (st16 < (takes_1.length : Int))) then
  Option.bind (idx takes_1 st16) fun x34 =>
  Option.bind (m_spec_l23Take n x34) fun x36 =>
  if (!x36) then
  some (.done (.inr 2))
  else
  some (.next (wI64 (st16 + 1)))
  else
  some (.done (.inl ()))

def m_spec_l23Takes (n : Nat) (list_0 : List SGood) (takes_1 : List STake) : Option (Int) :=
  Option.bind (m_spec_l23Ok n list_0) fun x4 =>
  if (!x4) then
  some 1
  else
  Option.bind (loopN (m_spec_l23Takes_l1 n takes_1) n 0) fun t27 =>
  match t27 with
  | .inl q51 =>
  if (decide ((takes_1.length : Int) > 60)) then
  some 2
  else
  some 0
  | .inr r =>
  some r

def m_spec_l23Find_l1 (n : Nat) (list_0 : List SGood) (name_1 : List UInt8) (st4 : Int) : Option (Step (Int) ((Unit) ⊕ (Int))) :=
  if (decide (st4 < (list_0.length : Int))) then
  Option.bind (idx list_0 st4) fun x22 =>
  if (x22.Name == name_1) then
  some (.done (.inr st4))
  else
  some (.next (wI64 (st4 + 1)))
  else
  some (.done (.inl ()))

def m_spec_l23Find (n : Nat) (list_0 : List SGood) (name_1 : List UInt8) : Option (Int) :=
  Option.bind (loopN (m_spec_l23Find_l1 n list_0 name_1) n 0) fun t15 =>
  match t15 with
  | .inl q27 =>
  some (-1)
  | .inr r =>
  some r

def m_spec_l23Change (n : Nat) (list_0 : List SGood) (t_1 : STake) : Option (Int × List SGood) :=
  Option.bind (m_spec_l23Find n list_0 t_1.Name) fun x3 =>
  if (decide (x3 < 0)) then
  some (3, list_0)
  else
  Option.bind (idx list_0 x3) fun x16 =>
  if (decide ((wI64 (x16.OnHand + t_1.Many)) < x16.Reserved)) then
  some (6, list_0)
  else
  Option.bind (m_spec_l23Many n (wI64 (x16.OnHand + t_1.Many))) fun x53 =>
  if (!x53) then
  some (5, list_0)
  else
  Option.bind (idx list_0 x3) fun x64 =>
  some (0, (list_0.set (Int.toNat x3) (SGood.mk x16.Name (wI64 (x16.OnHand + t_1.Many)) x16.Reserved x16.Least)))

def m_spec_ChangeGoods_l1 (n : Nat) (list_0 : List SGood) (takes_1 : List STake) (st89 : Int × List SGood) : Option (Step (Int × List SGood) ((List SGood) ⊕ (List SGood × Int × Int))) :=
  if (decide (st89.1 < (takes_1.length : Int))) then
  Option.bind (idx takes_1 st89.1) fun x107 =>
  Option.bind (m_spec_l23Change n st89.2 x107) fun x109 =>
  if (x109.1 != 0) then
  Option.bind (app ([] : List SGood) list_0) fun x130 =>
  some (.done (.inr (x130, st89.1, 0)))
  else
  some (.next ((wI64 (st89.1 + 1)), x109.2))
  else
  some (.done (.inl st89.2))

def m_spec_ChangeGoods (n : Nat) (list_0 : List SGood) (takes_1 : List STake) : Option (List SGood × Int × Int) :=
  Option.bind (m_spec_l23Takes n list_0 takes_1) fun x3 =>
  if (x3 != 0) then
  some (([] : List SGood), 0, x3)
  else
  Option.bind (app ([] : List SGood) list_0) fun x27 =>
  Option.bind (loopN (m_spec_ChangeGoods_l1 n list_0 takes_1) n (0, x27)) fun t100 =>
  match t100 with
  | .inl q140 =>
  some (q140, (-1), 0)
  | .inr r =>
  some r

def m_spec_DrawAddGood (n : Nat) (code_0 : List Int) : Option (List SGood × SGood) :=
  Option.bind (m_spec_l00From n code_0) fun x11 =>
  Option.bind (m_spec_l23Bent n code_0 x11.1 x11.2) fun x22 =>
  Option.bind (m_spec_l23Names n ) fun x35 =>
  Option.bind (m_spec_l00Src_text_o1 n code_0 x22.2.1 x22.2.2 x35) fun x46 =>
  Option.bind (m_spec_l23New n code_0 x46.2.1 x46.2.2 x46.1) fun x56 =>
  Option.bind (m_spec_l00Src_one n code_0 x56.2.1 x56.2.2 8) fun x80 =>
  Option.bind (if x80.1 then
  Option.bind (m_spec_l23Spoil n code_0 x80.2.1 x80.2.2 x56.1.Name x56.1.OnHand x56.1.Reserved x56.1.Least) fun x121 =>
  some (x121.1, x121.2.1, x121.2.2.1, x121.2.2.2.1, x121.2.2.2.2.1, x121.2.2.2.2.2)
  else
  some (x80.2.1, x80.2.2, x56.1.Name, x56.1.OnHand, x56.1.Reserved, x56.1.Least)) fun x119 =>
  some (x22.1, (SGood.mk x119.2.2.1 x119.2.2.2.1 x119.2.2.2.2.1 x119.2.2.2.2.2))

def m_slices_Reverse_impl_Good_impl_Good_l1 (n : Nat)  (st49 : Int × Int × List SGood) : Option (Step (Int × Int × List SGood) (List SGood)) :=
  if (decide (st49.1 < st49.2.1)) then
  Option.bind (idx st49.2.2 st49.2.1) fun x72 =>
  Option.bind (idx st49.2.2 st49.1) fun x74 =>
  Option.bind (idx st49.2.2 st49.1) fun x76 =>
  Option.bind (idx (st49.2.2.set (Int.toNat st49.1) x72) st49.2.1) fun x89 =>
  some (.next ((wI64 (st49.1 + 1)), (wI64 (st49.2.1 - 1)), ((st49.2.2.set (Int.toNat st49.1) x72).set (Int.toNat st49.2.1) x74)))
  else
  some (.done st49.2.2)

def m_slices_Reverse_impl_Good_impl_Good (n : Nat) (s_0 : List SGood) : Option (List SGood) :=
  Option.bind (loopN (m_slices_Reverse_impl_Good_impl_Good_l1 n) n (0, (wI64 ((s_0.length : Int) - 1)), s_0)) fun q97 =>
  some q97

def m_slices_Insert_impl_Good_impl_Good (n : Nat) (s_0 : List SGood) (i_1 : Int) (v_2 : List SGood) : Option (List SGood) :=
  if 0 ≤ i_1 ∧ i_1 ≤ (s_0.length : Int) ∧ v_2.isEmpty = false ∧ s_0.length + v_2.length ≤ big then
  some (s_0.take i_1.toNat ++ v_2 ++ s_0.drop i_1.toNat)
  else none

def m_impl_AddGood (n : Nat) (list_0 : List SGood) (g_1 : SGood) : Option (List SGood × Int) :=
  Option.bind (m_impl_ValidGoods n list_0) fun x12 =>
  if (!x12) then
  some (([] : List SGood), 1)
  else
  Option.bind (m_impl_validGood n g_1) fun x25 =>
  if (!x25) then
  some (([] : List SGood), 2)
  else
  Option.bind (m_impl_goodPlace n list_0 g_1.Name) fun x38 =>
  if x38.2 then
  some (([] : List SGood), 4)
  else
  if ((list_0.length : Int) == 40) then
  some (([] : List SGood), 5)
  else
  Option.bind (m_slices_Clone_impl_Good_impl_Good n list_0) fun x77 =>
  Option.bind (m_slices_Insert_impl_Good_impl_Good n x77 x38.1 ([g_1] : List SGood)) fun x121 =>
  some (x121, 0)

def m_spec_AddGood_l1 (n : Nat) (list_0 : List SGood) (g_1 : SGood) (st60 : Int) : Option (Step (Int) (Int)) :=
  Option.bind (if (decide (st60 > 0)) then
  Option.bind (idx list_0 (wI64 (st60 - 1))) fun x91 =>
  some (!(strLt x91.Name g_1.Name || x91.Name == g_1.Name))
  else
  some false) fun x88 =>
  if x88 then
  some (.next (wI64 (st60 - 1)))
  else
  some (.done st60)

def m_spec_AddGood (n : Nat) (list_0 : List SGood) (g_1 : SGood) : Option (List SGood × Int) :=
  Option.bind (m_spec_l23Ok n list_0) fun x12 =>
  if (!x12) then
  some (([] : List SGood), 1)
  else
  Option.bind (m_spec_l23One n g_1) fun x26 =>
  if (!x26) then
  some (([] : List SGood), 2)
  else
  Option.bind (m_spec_l23Find n list_0 g_1.Name) fun x40 =>
  if (decide (x40 ≥ 0)) then
  some (([] : List SGood), 4)
  else
  if (decide ((list_0.length : Int) ≥ 40)) then
  some (([] : List SGood), 5)
  else
  Option.bind (loopN (m_spec_AddGood_l1 n list_0 g_1) n (list_0.length : Int)) fun q172 =>
  Option.bind (sub list_0 0 q172) fun x183 =>
  Option.bind (app ([] : List SGood) x183) fun x191 =>
  Option.bind (app x191 ([g_1] : List SGood)) fun x210 =>
  Option.bind (sub list_0 q172 (list_0.length : Int)) fun x220 =>
  Option.bind (app x210 x220) fun x228 =>
  some (x228, 0)

def m_spec_DrawChangeGood (n : Nat) (code_0 : List Int) : Option (List SGood × STake) :=
  Option.bind (m_spec_l00From n code_0) fun x11 =>
  Option.bind (m_spec_l23Bent n code_0 x11.1 x11.2) fun x22 =>
  Option.bind (m_spec_l23DrawTake_o1 n code_0 x22.2.1 x22.2.2 x22.1) fun x35 =>
  some (x22.1, x35.1)

def m_impl_ChangeGood (n : Nat) (list_0 : List SGood) (t_1 : STake) : Option (List SGood × Int) :=
  Option.bind (m_impl_ValidGoods n list_0) fun x12 =>
  if (!x12) then
  some (([] : List SGood), 1)
  else
  Option.bind (m_impl_isTake n t_1) fun x25 =>
  if (!x25) then
  some (([] : List SGood), 2)
  else
  Option.bind (m_impl_taken n list_0 t_1) fun x38 =>
  some (x38.1, x38.2)

def m_spec_l23Change_o1 (n : Nat) (list_0 : List SGood) (t_1 : STake) : Option (Int × List SGood) :=
  Option.bind (m_spec_l23Find n list_0 t_1.Name) fun x3 =>
  if (decide (x3 < 0)) then
  some (3, list_0)
  else
  Option.bind (idx list_0 x3) fun x16 =>
  if (decide ((wI64 (x16.OnHand + t_1.Many)) < x16.Reserved)) then
  some (6, list_0)
  else
  Option.bind (m_spec_l23Many n (wI64 (x16.OnHand + t_1.Many))) fun x53 =>
  if (!x53) then
  some (5, list_0)
  else
  Option.bind (idx list_0 x3) fun x64 =>
  some (0, (list_0.set (Int.toNat x3) (SGood.mk x16.Name (wI64 (x16.OnHand + t_1.Many)) x16.Reserved x16.Least)))

def m_spec_ChangeGood (n : Nat) (list_0 : List SGood) (t_1 : STake) : Option (List SGood × Int) :=
  Option.bind (m_spec_l23Ok n list_0) fun x12 =>
  if (!x12) then
  some (([] : List SGood), 1)
  else
  Option.bind (m_spec_l23Take n t_1) fun x26 =>
  if (!x26) then
  some (([] : List SGood), 2)
  else
  Option.bind (app ([] : List SGood) list_0) fun x48 =>
  Option.bind (m_spec_l23Change_o1 n x48 t_1) fun x58 =>
  if (x58.1 != 0) then
  some (([] : List SGood), x58.1)
  else
  some (x58.2, 0)

def m_spec_DrawGoodText (n : Nat) (code_0 : List Int) : Option (SGood) :=
  Option.bind (m_spec_l00From n code_0) fun x11 =>
  Option.bind (m_spec_l23New n code_0 x11.1 x11.2 [104, 101, 101, 108, 45, 51]) fun x22 =>
  Option.bind (m_spec_l00Src_one n code_0 x22.2.1 x22.2.2 4) fun x46 =>
  Option.bind (if x46.1 then
  Option.bind (m_spec_l23Spoil n code_0 x46.2.1 x46.2.2 x22.1.Name x22.1.OnHand x22.1.Reserved x22.1.Least) fun x87 =>
  some (x87.1, x87.2.1, x87.2.2.1, x87.2.2.2.1, x87.2.2.2.2.1, x87.2.2.2.2.2)
  else
  some (x46.2.1, x46.2.2, x22.1.Name, x22.1.OnHand, x22.1.Reserved, x22.1.Least)) fun x85 =>
  some (SGood.mk x85.2.2.1 x85.2.2.2.1 x85.2.2.2.2.1 x85.2.2.2.2.2)

def m_impl_Decimal (n : Nat) (n_0 : Int) : Option (List UInt8) :=
  Option.bind (m_strconv_FormatInt n n_0 10) fun x3 =>
  some x3

def m_impl_GoodText (n : Nat) (g_0 : SGood) : Option (List UInt8) :=
  Option.bind (m_impl_validGood n g_0) fun x12 =>
  if (!x12) then
  some []
  else
  Option.bind (app g_0.Name [32]) fun x23 =>
  Option.bind (m_impl_Decimal n g_0.OnHand) fun x25 =>
  Option.bind (app x23 x25) fun x29 =>
  Option.bind (app x29 [45]) fun x31 =>
  Option.bind (m_impl_Decimal n g_0.Reserved) fun x33 =>
  Option.bind (app x31 x33) fun x37 =>
  Option.bind (app x37 [32, 108, 101, 97, 115, 116, 32]) fun x39 =>
  Option.bind (m_impl_Decimal n g_0.Least) fun x41 =>
  Option.bind (app x39 x41) fun x45 =>
  some x45

def m_impl_ReadDecimal (n : Nat) (s_0 : List UInt8) : Option (Int × Bool) :=
  Option.bind (if (decide ((s_0.length : Int) > 19)) then
  some true
  else
  Option.bind (m_strings_TrimPrefix n s_0 [45]) fun x16 =>
  some (decide ((x16.length : Int) > 18))) fun x13 =>
  if x13 then
  some (0, false)
  else
  Option.bind (m_strconv_ParseInt n s_0 10 64) fun x31 =>
  Option.bind (if x31.2 then
  some true
  else
  Option.bind (m_impl_Decimal n x31.1) fun x55 =>
  some (!(x55 == s_0))) fun x52 =>
  if x52 then
  some (0, false)
  else
  some (x31.1, true)

def m_impl_readNumbers_l1 (n : Nat) (x3 : List (List UInt8)) (st32 : List Int × Int) : Option (Step (List Int × Int) ((List Int) ⊕ (List Int × Bool))) :=
  if (decide (st32.2 < (x3.length : Int))) then
  Option.bind (idx x3 st32.2) fun x53 =>
  Option.bind (m_impl_ReadDecimal n x53) fun x56 =>
  if (!x56.2) then
  some (.done (.inr (([] : List Int), false)))
  else
  Option.bind (app st32.1 ([x56.1] : List Int)) fun x79 =>
  some (.next (x79, (wI64 (st32.2 + 1))))
  else
  some (.done (.inl st32.1))

def m_impl_readNumbers (n : Nat) (s_0 : List UInt8) (separator_1 : List UInt8) (count_2 : Int) : Option (List Int × Bool) :=
  Option.bind (m_strings_SplitN n s_0 separator_1 (wI64 (count_2 + 1))) fun x3 =>
  if ((x3.length : Int) != count_2) then
  some (([] : List Int), false)
  else
  Option.bind (loopN (m_impl_readNumbers_l1 n x3) n (([] : List Int), 0)) fun t46 =>
  match t46 with
  | .inl q89 =>
  some (q89, true)
  | .inr r =>
  some r

def m_impl_ReadGood (n : Nat) (s_0 : List UInt8) : Option (SGood × Bool) :=
  Option.bind (m_strings_Split n s_0 [32]) fun x11 =>
  if ((x11.length : Int) != 4) then
  some ((SGood.mk [] 0 0 0), false)
  else
  Option.bind (idx x11 1) fun x32 =>
  Option.bind (m_impl_readNumbers n x32 [45] 2) fun x34 =>
  Option.bind (idx x11 3) fun x46 =>
  Option.bind (m_impl_ReadDecimal n x46) fun x48 =>
  Option.bind (if (!x34.2) then
  some true
  else
  some (!x48.2)) fun x59 =>
  if x59 then
  some ((SGood.mk [] 0 0 0), false)
  else
  Option.bind (idx x11 0) fun x93 =>
  Option.bind (idx x34.1 0) fun x95 =>
  Option.bind (idx x34.1 1) fun x97 =>
  Option.bind (m_impl_GoodText n (SGood.mk x93 x95 x97 x48.1)) fun x115 =>
  if (!(x115 == s_0)) then
  some ((SGood.mk [] 0 0 0), false)
  else
  some ((SGood.mk x93 x95 x97 x48.1), true)

def m_spec_l01Dec_l1 (n : Nat)  (st14 : List Int × Int) : Option (Step (List Int × Int) (List Int)) :=
  if (st14.2 != 0) then
  Option.bind (if (decide ((Int.tmod st14.2 10) < 0)) then
  some (wI64 (0 - (Int.tmod st14.2 10)))
  else
  some (Int.tmod st14.2 10)) fun x38 =>
  Option.bind (app ([(IntKind.u8.wrap (wI64 (48 + x38)))] : List Int) st14.1) fun x53 =>
  some (.next (x53, (wI64 (Int.tdiv st14.2 10))))
  else
  some (.done st14.1)

def m_spec_l01Dec (n : Nat) (n_0 : Int) : Option (List UInt8) :=
  Option.bind (loopN (m_spec_l01Dec_l1 n) n (([] : List Int), n_0)) fun q73 =>
  if ((q73.length : Int) == 0) then
  some [48]
  else
  if (decide (n_0 < 0)) then
  Option.bind (app [45] (ofBytes q73)) fun x85 =>
  some x85
  else
  some (ofBytes q73)

def m_spec_l23Text (n : Nat) (g_0 : SGood) : Option (List UInt8) :=
  Option.bind (app g_0.Name [32]) fun x3 =>
  Option.bind (m_spec_l01Dec n g_0.OnHand) fun x5 =>
  Option.bind (app x3 x5) fun x9 =>
  Option.bind (app x9 [45]) fun x11 =>
  Option.bind (m_spec_l01Dec n g_0.Reserved) fun x13 =>
  Option.bind (app x11 x13) fun x17 =>
  Option.bind (app x17 [32, 108, 101, 97, 115, 116, 32]) fun x19 =>
  Option.bind (m_spec_l01Dec n g_0.Least) fun x21 =>
  Option.bind (app x19 x21) fun x25 =>
  some x25

def m_spec_l01Spoil (n : Nat) (s_0_code : List Int) (s_0_at_ : Int) (s_0_seed : Int) (t_1 : List UInt8) : Option (List UInt8 × Int × Int) :=
  Option.bind (m_spec_l00Src_pick n s_0_code s_0_at_ s_0_seed 5) fun x4 =>
  Option.bind (if (x4.1 == 0) then
  Option.bind (m_spec_l00Src_pick n s_0_code x4.2.1 x4.2.2 (wI64 ((t_1.length : Int) + 1))) fun x1505 =>
  Option.bind (sub t_1 0 x1505.1) fun x1539 =>
  Option.bind (m_spec_l00Src_text_o1 n s_0_code x1505.2.1 x1505.2.2 ([[32], [48], [45], [120], [49], [57], [46]] : List (List UInt8))) fun x1568 =>
  Option.bind (app x1539 x1568.1) fun x1583 =>
  Option.bind (sub t_1 x1505.1 (t_1.length : Int)) fun x1603 =>
  Option.bind (app x1583 x1603) fun x1611 =>
  some (x1611, x1568.2.1, x1568.2.2)
  else
  Option.bind (if (x4.1 == 1) then
  Option.bind (if (!(t_1 == [])) then
  Option.bind (m_spec_l00Src_pick n s_0_code x4.2.1 x4.2.2 (t_1.length : Int)) fun x1971 =>
  Option.bind (sub t_1 0 x1971.1) fun x1980 =>
  Option.bind (sub t_1 (wI64 (x1971.1 + 1)) (t_1.length : Int)) fun x1982 =>
  Option.bind (app x1980 x1982) fun x1984 =>
  some (x1984, x1971.2.1, x1971.2.2)
  else
  some (t_1, x4.2.1, x4.2.2)) fun x1968 =>
  some (x1968.1, x1968.2.1, x1968.2.2)
  else
  some (t_1, x4.2.1, x4.2.2)) fun x1899 =>
  some (x1899.1, x1899.2.1, x1899.2.2)) fun x1502 =>
  some (x1502.1, x1502.2.1, x1502.2.2)

def m_spec_DrawReadGood (n : Nat) (code_0 : List Int) : Option (List UInt8) :=
  Option.bind (m_spec_l00From n code_0) fun x3 =>
  Option.bind (m_spec_l23New n code_0 x3.1 x3.2 [99, 97, 108, 102]) fun x14 =>
  Option.bind (m_spec_l23Text n x14.1) fun x37 =>
  Option.bind (m_spec_l00Src_one n code_0 x14.2.1 x14.2.2 3) fun x47 =>
  if x47.1 then
  Option.bind (m_spec_l01Spoil n code_0 x47.2.1 x47.2.2 x37) fun x58 =>
  some x58.1
  else
  some x37

def m_spec_l01Split_l1 (n : Nat) (s_0 : List UInt8) (by_1 : Int) (st15 : List (List UInt8) × Int × Int) : Option (Step (List (List UInt8) × Int × Int) (List (List UInt8) × Int)) :=
  if (decide (st15.2.2 < (s_0.length : Int))) then
  Option.bind (idx s_0 st15.2.2) fun x36 =>
  Option.bind (if ((x36.toNat : Int) == by_1) then
  Option.bind (sub s_0 st15.2.1 st15.2.2) fun x66 =>
  Option.bind (app st15.1 ([x66] : List (List UInt8))) fun x77 =>
  some (x77, (wI64 (st15.2.2 + 1)))
  else
  some (st15.1, st15.2.1)) fun x60 =>
  some (.next (x60.1, x60.2, (wI64 (st15.2.2 + 1))))
  else
  some (.done (st15.1, st15.2.1))

def m_spec_l01Split (n : Nat) (s_0 : List UInt8) (by_1 : Int) : Option (List (List UInt8)) :=
  Option.bind (loopN (m_spec_l01Split_l1 n s_0 by_1) n (([] : List (List UInt8)), 0, 0)) fun q111 =>
  Option.bind (sub s_0 q111.2 (s_0.length : Int)) fun x116 =>
  Option.bind (app q111.1 ([x116] : List (List UInt8))) fun x127 =>
  some x127

def m_spec_l01Number_l1 (n : Nat) (x20 : List UInt8) (st43 : Int × Int) : Option (Step (Int × Int) ((Int) ⊕ (Int × Bool))) :=
  if (decide (st43.2 < (x20.length : Int))) then
  Option.bind (idx x20 st43.2) fun x62 =>
  Option.bind (m_spec_l01Digit n (x62.toNat : Int)) fun x64 =>
  if (!x64) then
  some (.done (.inr (0, false)))
  else
  Option.bind (idx x20 st43.2) fun x74 =>
  some (.next ((wI64 ((wI64 (10 * st43.1)) + (wI64 (IntKind.u8.wrap ((x74.toNat : Int) - 48))))), (wI64 (st43.2 + 1))))
  else
  some (.done (.inl st43.1))

def m_spec_l01Number (n : Nat) (s_0 : List UInt8) : Option (Int × Bool) :=
  Option.bind (if (!(s_0 == [])) then
  Option.bind (idx s_0 0) fun x11 =>
  some ((x11.toNat : Int) == 45)
  else
  some false) fun x8 =>
  Option.bind (if x8 then
  Option.bind (sub s_0 1 (s_0.length : Int)) fun x22 =>
  some x22
  else
  some s_0) fun x20 =>
  Option.bind (if (decide ((x20.length : Int) < 1)) then
  some true
  else
  some (decide ((x20.length : Int) > 18))) fun x31 =>
  if x31 then
  some (0, false)
  else
  Option.bind (loopN (m_spec_l01Number_l1 n x20) n (0, 0)) fun t54 =>
  match t54 with
  | .inl q98 =>
  Option.bind (if (decide ((x20.length : Int) < (s_0.length : Int))) then
  some (wI64 (0 - q98))
  else
  some q98) fun x102 =>
  Option.bind (m_spec_l01Dec n x102) fun x110 =>
  if (!(x110 == s_0)) then
  some (0, false)
  else
  some (x102, true)
  | .inr r =>
  some r

def m_spec_ReadGood (n : Nat) (s_0 : List UInt8) : Option (SGood × Bool) :=
  Option.bind (m_spec_l01Split n s_0 32) fun x11 =>
  Option.bind (if ((x11.length : Int) != 4) then
  some true
  else
  Option.bind (idx x11 2) fun x30 =>
  some (!(x30 == [108, 101, 97, 115, 116]))) fun x27 =>
  if x27 then
  some ((SGood.mk [] 0 0 0), false)
  else
  Option.bind (idx x11 1) fun x44 =>
  Option.bind (m_spec_l01Split n x44 45) fun x46 =>
  if ((x46.length : Int) != 2) then
  some ((SGood.mk [] 0 0 0), false)
  else
  Option.bind (idx x46 0) fun x67 =>
  Option.bind (m_spec_l01Number n x67) fun x69 =>
  Option.bind (idx x46 1) fun x78 =>
  Option.bind (m_spec_l01Number n x78) fun x80 =>
  Option.bind (idx x11 3) fun x89 =>
  Option.bind (m_spec_l01Number n x89) fun x91 =>
  Option.bind (idx x11 0) fun x100 =>
  Option.bind (if (!x69.2) then
  some true
  else
  if (!x80.2) then
  some true
  else
  if (!x91.2) then
  some true
  else
  Option.bind (m_spec_l23One n (SGood.mk x100 x69.1 x80.1 x91.1)) fun x133 =>
  some (!x133)) fun x128 =>
  if x128 then
  some ((SGood.mk [] 0 0 0), false)
  else
  some ((SGood.mk x100 x69.1 x80.1 x91.1), true)

def m_spec_DrawSameGoods (n : Nat) (code_0 : List Int) : Option (List SGood × List SGood) :=
  Option.bind (m_spec_l00From n code_0) fun x3 =>
  Option.bind (m_spec_l23Draw n code_0 x3.1 x3.2) fun x14 =>
  Option.bind (app ([] : List SGood) x14.1) fun x36 =>
  Option.bind (if (decide ((x36.length : Int) > 0)) then
  Option.bind (m_spec_l00Src_one n code_0 x14.2.1 x14.2.2 2) fun x82 =>
  some (x82.1, x82.2.1, x82.2.2)
  else
  some (false, x14.2.1, x14.2.2)) fun x79 =>
  Option.bind (if x79.1 then
  Option.bind (idx x36 0) fun x320 =>
  Option.bind (m_spec_l00Src_pick n code_0 x79.2.1 x79.2.2 2) fun x346 =>
  Option.bind (idx x36 0) fun x361 =>
  some ((x36.set (Int.toNat 0) (SGood.mk x361.Name x361.OnHand x361.Reserved (wI64 (x320.Least + x346.1)))), x346.2.1, x346.2.2)
  else
  some (x36, x79.2.1, x79.2.2)) fun x299 =>
  Option.bind (m_spec_l00Src_one n code_0 x299.2.1 x299.2.2 5) fun x374 =>
  Option.bind (if x374.1 then
  Option.bind (app x299.1 ([(SGood.mk [] 0 0 0)] : List SGood)) fun x416 =>
  some x416
  else
  some x299.1) fun x402 =>
  some (x14.1, x402)

def m_spec_SameGoods_l1 (n : Nat) (a_0 : List SGood) (b_1 : List SGood) (st8 : Int) : Option (Step (Int) ((Unit) ⊕ (Bool))) :=
  if (decide (st8 < (a_0.length : Int))) then
  Option.bind (idx a_0 st8) fun x26 =>
  Option.bind (idx b_1 st8) fun x28 =>
  if (!(decide (x26 = x28))) then
  some (.done (.inr false))
  else
  some (.next (wI64 (st8 + 1)))
  else
  some (.done (.inl ()))

def m_spec_SameGoods (n : Nat) (a_0 : List SGood) (b_1 : List SGood) : Option (Bool) :=
  if ((a_0.length : Int) != (b_1.length : Int)) then
  some false
  else
  Option.bind (loopN (m_spec_SameGoods_l1 n a_0 b_1) n 0) fun t19 =>
  match t19 with
  | .inl q38 =>
  some true
  | .inr r =>
  some r

def m_spec_GoodText (n : Nat) (g_0 : SGood) : Option (List UInt8) :=
  Option.bind (m_spec_l23One n g_0) fun x12 =>
  if (!x12) then
  some []
  else
  Option.bind (m_spec_l23Text n g_0) fun x23 =>
  some x23

def m_slices_Equal_impl_Good_impl_Good_l1 (n : Nat) (s1_0 : List SGood) (s2_1 : List SGood) (st8 : Int) : Option (Step (Int) ((Unit) ⊕ (Bool))) :=
  if (decide (st8 < (s1_0.length : Int))) then
  Option.bind (idx s1_0 st8) fun x27 =>
  Option.bind (idx s2_1 st8) fun x29 =>
  if (!(decide (x27 = x29))) then
  some (.done (.inr false))
  else
  some (.next (wI64 (st8 + 1)))
  else
  some (.done (.inl ()))

def m_slices_Equal_impl_Good_impl_Good (n : Nat) (s1_0 : List SGood) (s2_1 : List SGood) : Option (Bool) :=
  if ((s1_0.length : Int) != (s2_1.length : Int)) then
  some false
  else
  Option.bind (loopN (m_slices_Equal_impl_Good_impl_Good_l1 n s1_0 s2_1) n 0) fun t19 =>
  match t19 with
  | .inl q39 =>
  some true
  | .inr r =>
  some r

def m_impl_SameGoods (n : Nat) (a_0 : List SGood) (b_1 : List SGood) : Option (Bool) :=
  Option.bind (m_slices_Equal_impl_Good_impl_Good n a_0 b_1) fun x3 =>
  some x3

def m_spec_ValidGoods (n : Nat) (list_0 : List SGood) : Option (Bool) :=
  Option.bind (m_spec_l23Ok n list_0) fun x3 =>
  some x3

def m_laws_FnGoods_l2 (n : Nat) (x15 : List SGood × List STake) (st598 : Int) (st620 : Int × Int) : Option (Step (Int × Int) (Int)) :=
  if (decide (st620.2 < (x15.2.length : Int))) then
  Option.bind (idx x15.2 st620.2) fun x638 =>
  Option.bind (idx x15.1 st598) fun x640 =>
  Option.bind (if (x638.Name == x640.Name) then
  Option.bind (idx x15.2 st620.2) fun x652 =>
  some (wI64 (st620.1 + x652.Many))
  else
  some st620.1) fun x650 =>
  some (.next (x650, (wI64 (st620.2 + 1))))
  else
  some (.done st620.1)

def m_laws_FnGoods_l1 (n : Nat) (x15 : List SGood × List STake) (x42 : List SGood × Int × Int) (st598 : Int) : Option (Step (Int) ((Unit) ⊕ (Bool))) :=
  if (decide (st598 < (x15.1.length : Int))) then
  Option.bind (idx x15.1 st598) fun x616 =>
  Option.bind (loopN (m_laws_FnGoods_l2 n x15 st598) n (x616.OnHand, 0)) fun q663 =>
  Option.bind (idx x42.1 st598) fun x665 =>
  if (x665.OnHand != q663) then
  some (.done (.inr false))
  else
  some (.next (wI64 (st598 + 1)))
  else
  some (.done (.inl ()))

def m_laws_FnGoods_l4 (n : Nat) (x15 : List SGood × List STake) (st690 : Int) (st712 : Int × Int) : Option (Step (Int × Int) (Int)) :=
  if (decide (st712.2 < (x15.2.length : Int))) then
  Option.bind (idx x15.2 st712.2) fun x730 =>
  Option.bind (idx x15.1 st690) fun x732 =>
  Option.bind (if (x730.Name == x732.Name) then
  Option.bind (idx x15.2 st712.2) fun x744 =>
  some (wI64 (st712.1 + x744.Many))
  else
  some st712.1) fun x742 =>
  some (.next (x742, (wI64 (st712.2 + 1))))
  else
  some (.done st712.1)

def m_laws_FnGoods_l3 (n : Nat) (x15 : List SGood × List STake) (x42 : List SGood × Int × Int) (st690 : Int) : Option (Step (Int) ((Unit) ⊕ (Bool))) :=
  if (decide (st690 < (x15.1.length : Int))) then
  Option.bind (idx x15.1 st690) fun x708 =>
  Option.bind (loopN (m_laws_FnGoods_l4 n x15 st690) n (x708.OnHand, 0)) fun q755 =>
  Option.bind (idx x42.1 st690) fun x757 =>
  if (x757.OnHand != q755) then
  some (.done (.inr false))
  else
  some (.next (wI64 (st690 + 1)))
  else
  some (.done (.inl ()))

def m_laws_FnGoods (n : Nat) (code_0 : List Int) : Option (Bool) :=
  Option.bind (m_laws_f6big n code_0) fun x4 =>
  if x4 then
  some true
  else
  Option.bind (m_spec_DrawChangeGoods n code_0) fun x15 =>
  Option.bind (m_impl_ChangeGoods n x15.1 x15.2) fun x30 =>
  Option.bind (m_spec_ChangeGoods n x15.1 x15.2) fun x42 =>
  Option.bind (m_spec_DrawAddGood n code_0) fun x54 =>
  Option.bind (m_impl_AddGood n x54.1 x54.2) fun x79 =>
  Option.bind (m_spec_AddGood n x54.1 x54.2) fun x91 =>
  Option.bind (m_spec_DrawChangeGood n code_0) fun x103 =>
  Option.bind (m_impl_ChangeGood n x103.1 x103.2) fun x128 =>
  Option.bind (m_spec_ChangeGood n x103.1 x103.2) fun x140 =>
  Option.bind (m_spec_DrawGoodText n code_0) fun x152 =>
  Option.bind (m_impl_GoodText n x152) fun x174 =>
  Option.bind (m_impl_ReadGood n x174) fun x183 =>
  Option.bind (m_spec_DrawReadGood n code_0) fun x205 =>
  Option.bind (m_impl_ReadGood n x205) fun x214 =>
  Option.bind (m_spec_ReadGood n x205) fun x236 =>
  Option.bind (m_spec_DrawSameGoods n code_0) fun x258 =>
  Option.bind (if (x30.2.2 != x42.2.2) then
  some true
  else
  if (x30.2.1 != x42.2.1) then
  some true
  else
  Option.bind (m_spec_SameGoods n x30.1 x42.1) fun x391 =>
  if (!x391) then
  some true
  else
  if (x79.2 != x91.2) then
  some true
  else
  Option.bind (m_spec_SameGoods n x79.1 x91.1) fun x401 =>
  if (!x401) then
  some true
  else
  if (x128.2 != x140.2) then
  some true
  else
  Option.bind (m_spec_SameGoods n x128.1 x140.1) fun x411 =>
  if (!x411) then
  some true
  else
  Option.bind (m_spec_GoodText n x152) fun x420 =>
  if (!(x174 == x420)) then
  some true
  else
  if (!(x183.2 == (!(x174 == [])))) then
  some true
  else
  if x183.2 then
  if (!(decide (x183.1 = x152))) then
  some true
  else
  if (!(x214.2 == x236.2)) then
  some true
  else
  if (!(decide (x214.1 = x236.1))) then
  some true
  else
  Option.bind (m_impl_SameGoods n x258.1 x258.2) fun x434 =>
  Option.bind (m_spec_SameGoods n x258.1 x258.2) fun x442 =>
  if (!(x434 == x442)) then
  some true
  else
  Option.bind (m_impl_ValidGoods n x15.1) fun x451 =>
  Option.bind (m_spec_ValidGoods n x15.1) fun x459 =>
  some (!(x451 == x459))
  else
  if (!(x214.2 == x236.2)) then
  some true
  else
  if (!(decide (x214.1 = x236.1))) then
  some true
  else
  Option.bind (m_impl_SameGoods n x258.1 x258.2) fun x469 =>
  Option.bind (m_spec_SameGoods n x258.1 x258.2) fun x477 =>
  if (!(x469 == x477)) then
  some true
  else
  Option.bind (m_impl_ValidGoods n x15.1) fun x486 =>
  Option.bind (m_spec_ValidGoods n x15.1) fun x494 =>
  some (!(x486 == x494))) fun x387 =>
  if x387 then
  some false
  else
  Option.bind (if (x79.2 == 0) then
  if ((x91.1.length : Int) != (wI64 ((x54.1.length : Int) + 1))) then
  some true
  else
  Option.bind (m_impl_ValidGoods n x79.1) fun x524 =>
  some (!x524)
  else
  some false) fun x520 =>
  if x520 then
  some false
  else
  if (x128.2 == 0) then
  Option.bind (m_impl_ChangeGood n x128.1 (STake.mk x103.2.Name (wI64 (0 - x103.2.Many)))) fun x542 =>
  Option.bind (if (x542.2 != 0) then
  some true
  else
  Option.bind (m_spec_SameGoods n x542.1 x103.1) fun x566 =>
  some (!x566)) fun x563 =>
  if x563 then
  some false
  else
  if (x30.2.2 != 0) then
  some true
  else
  if (decide (x42.2.1 ≥ 0)) then
  Option.bind (m_spec_SameGoods n x30.1 x15.1) fun x588 =>
  some x588
  else
  Option.bind (loopN (m_laws_FnGoods_l1 n x15 x42) n 0) fun t609 =>
  match t609 with
  | .inl q670 =>
  some true
  | .inr r =>
  some r
  else
  if (x30.2.2 != 0) then
  some true
  else
  if (decide (x42.2.1 ≥ 0)) then
  Option.bind (m_spec_SameGoods n x30.1 x15.1) fun x680 =>
  some x680
  else
  Option.bind (loopN (m_laws_FnGoods_l3 n x15 x42) n 0) fun t701 =>
  match t701 with
  | .inl q762 =>
  some true
  | .inr r =>
  some r

def m_spec_ShortGoods_l1 (n : Nat) (list_0 : List SGood) (st28 : List STake × Int) : Option (Step (List STake × Int) (List STake)) :=
  if (decide (st28.2 < (list_0.length : Int))) then
  Option.bind (idx list_0 st28.2) fun x49 =>
  Option.bind (idx list_0 st28.2) fun x51 =>
  Option.bind (idx list_0 st28.2) fun x59 =>
  Option.bind (if (decide ((wI64 (x49.OnHand - x51.Reserved)) < x59.Least)) then
  Option.bind (idx list_0 st28.2) fun x104 =>
  Option.bind (idx list_0 st28.2) fun x106 =>
  Option.bind (app st28.1 ([(STake.mk x104.Name (wI64 (x106.Least - (wI64 (x49.OnHand - x51.Reserved)))))] : List STake)) fun x122 =>
  some x122
  else
  some st28.1) fun x94 =>
  some (.next (x94, (wI64 (st28.2 + 1))))
  else
  some (.done st28.1)

def m_spec_ShortGoods (n : Nat) (list_0 : List SGood) : Option (List STake × Int) :=
  Option.bind (m_spec_l23Ok n list_0) fun x4 =>
  if (!x4) then
  some (([] : List STake), 1)
  else
  Option.bind (loopN (m_spec_ShortGoods_l1 n list_0) n (([] : List STake), 0)) fun q136 =>
  some (q136, 0)

def m_spec_l23Named (n : Nat) (list_0 : List SGood) (name_1 : List UInt8) (many_2 : Int) : Option (Int × Int) :=
  Option.bind (m_spec_l23Ok n list_0) fun x4 =>
  if (!x4) then
  some (0, 1)
  else
  Option.bind (m_spec_l00In n many_2 1 1000000) fun x16 =>
  if (!x16) then
  some (0, 2)
  else
  Option.bind (m_spec_l23Find n list_0 name_1) fun x27 =>
  if (decide (x27 < 0)) then
  some (0, 3)
  else
  some (x27, 0)

def m_spec_ReserveGood (n : Nat) (list_0 : List SGood) (name_1 : List UInt8) (many_2 : Int) : Option (List SGood × Int) :=
  Option.bind (m_spec_l23Named n list_0 name_1 many_2) fun x3 =>
  Option.bind (if (x3.2 == 0) then
  Option.bind (idx list_0 x3.1) fun x31 =>
  Option.bind (idx list_0 x3.1) fun x33 =>
  some (decide ((wI64 (x31.Reserved + many_2)) > x33.OnHand))
  else
  some false) fun x28 =>
  Option.bind (if x28 then
  some 10
  else
  some x3.2) fun x50 =>
  if (x50 != 0) then
  some (([] : List SGood), x50)
  else
  Option.bind (app ([] : List SGood) list_0) fun x72 =>
  Option.bind (idx x72 x3.1) fun x82 =>
  Option.bind (idx x72 x3.1) fun x104 =>
  some ((x72.set (Int.toNat x3.1) (SGood.mk x82.Name x82.OnHand (wI64 (x82.Reserved + many_2)) x82.Least)), 0)

def m_spec_UseReserved (n : Nat) (list_0 : List SGood) (name_1 : List UInt8) (many_2 : Int) : Option (List SGood × Int) :=
  Option.bind (m_spec_l23Named n list_0 name_1 many_2) fun x3 =>
  Option.bind (if (x3.2 == 0) then
  Option.bind (idx list_0 x3.1) fun x19 =>
  some (decide (many_2 > x19.Reserved))
  else
  some false) fun x16 =>
  Option.bind (if x16 then
  some 6
  else
  some x3.2) fun x26 =>
  if (x26 != 0) then
  some (([] : List SGood), x26)
  else
  Option.bind (app ([] : List SGood) list_0) fun x48 =>
  Option.bind (idx x48 x3.1) fun x58 =>
  Option.bind (idx x48 x3.1) fun x86 =>
  some ((x48.set (Int.toNat x3.1) (SGood.mk x58.Name (wI64 (x58.OnHand - many_2)) (wI64 (x58.Reserved - many_2)) x58.Least)), 0)

def m_spec_CanMake_l3 (n : Nat) (needs_1 : List STake) (st72 : Int × Int) (st107 : Int × Int) : Option (Step (Int × Int) (Int)) :=
  if (decide (st107.2 < (needs_1.length : Int))) then
  Option.bind (idx needs_1 st107.2) fun x125 =>
  Option.bind (idx needs_1 st72.2) fun x127 =>
  Option.bind (if (x125.Name == x127.Name) then
  Option.bind (idx needs_1 st107.2) fun x139 =>
  some (wI64 (st107.1 + x139.Many))
  else
  some st107.1) fun x137 =>
  some (.next (x137, (wI64 (st107.2 + 1))))
  else
  some (.done st107.1)

def m_spec_CanMake_l2 (n : Nat) (list_0 : List SGood) (needs_1 : List STake) (st72 : Int × Int) : Option (Step (Int × Int) ((Int) ⊕ (Int × Int))) :=
  if (decide (st72.2 < (needs_1.length : Int))) then
  Option.bind (idx needs_1 st72.2) fun x90 =>
  Option.bind (m_spec_l23Find n list_0 x90.Name) fun x92 =>
  if (decide (x92 < 0)) then
  some (.done (.inr (0, 3)))
  else
  Option.bind (loopN (m_spec_CanMake_l3 n needs_1 st72) n (0, 0)) fun q173 =>
  Option.bind (idx list_0 x92) fun x175 =>
  Option.bind (idx list_0 x92) fun x177 =>
  Option.bind (quo .i64 (wI64 (x175.OnHand - x177.Reserved)) q173) fun x179 =>
  Option.bind (if (decide (st72.1 < 0)) then
  some true
  else
  some (decide (x179 < st72.1))) fun x188 =>
  Option.bind (if x188 then
  some x179
  else
  some st72.1) fun x196 =>
  some (.next (x196, (wI64 (st72.2 + 1))))
  else
  some (.done (.inl st72.1))

def m_spec_CanMake_l1 (n : Nat) (needs_1 : List STake) (st13 : Int × Int) : Option (Step (Int × Int) (Int)) :=
  Option.bind (if (decide (st13.2 < (needs_1.length : Int))) then
  some (st13.1 == 0)
  else
  some false) fun x29 =>
  if x29 then
  Option.bind (idx needs_1 st13.2) fun x39 =>
  Option.bind (if (decide (x39.Many < 1)) then
  some 2
  else
  some st13.1) fun x42 =>
  some (.next (x42, (wI64 (st13.2 + 1))))
  else
  some (.done st13.1)

def m_spec_CanMake_l5 (n : Nat) (needs_1 : List STake) (st230 : Int × Int) (st265 : Int × Int) : Option (Step (Int × Int) (Int)) :=
  if (decide (st265.2 < (needs_1.length : Int))) then
  Option.bind (idx needs_1 st265.2) fun x283 =>
  Option.bind (idx needs_1 st230.2) fun x285 =>
  Option.bind (if (x283.Name == x285.Name) then
  Option.bind (idx needs_1 st265.2) fun x297 =>
  some (wI64 (st265.1 + x297.Many))
  else
  some st265.1) fun x295 =>
  some (.next (x295, (wI64 (st265.2 + 1))))
  else
  some (.done st265.1)

def m_spec_CanMake_l4 (n : Nat) (list_0 : List SGood) (needs_1 : List STake) (st230 : Int × Int) : Option (Step (Int × Int) ((Int) ⊕ (Int × Int))) :=
  if (decide (st230.2 < (needs_1.length : Int))) then
  Option.bind (idx needs_1 st230.2) fun x248 =>
  Option.bind (m_spec_l23Find n list_0 x248.Name) fun x250 =>
  if (decide (x250 < 0)) then
  some (.done (.inr (0, 3)))
  else
  Option.bind (loopN (m_spec_CanMake_l5 n needs_1 st230) n (0, 0)) fun q331 =>
  Option.bind (idx list_0 x250) fun x333 =>
  Option.bind (idx list_0 x250) fun x335 =>
  Option.bind (quo .i64 (wI64 (x333.OnHand - x335.Reserved)) q331) fun x337 =>
  Option.bind (if (decide (st230.1 < 0)) then
  some true
  else
  some (decide (x337 < st230.1))) fun x346 =>
  Option.bind (if x346 then
  some x337
  else
  some st230.1) fun x354 =>
  some (.next (x354, (wI64 (st230.2 + 1))))
  else
  some (.done (.inl st230.1))

def m_spec_CanMake (n : Nat) (list_0 : List SGood) (needs_1 : List STake) : Option (Int × Int) :=
  Option.bind (m_spec_l23Takes n list_0 needs_1) fun x3 =>
  Option.bind (loopN (m_spec_CanMake_l1 n needs_1) n (x3, 0)) fun q205 =>
  Option.bind (if (q205 == 0) then
  some ((needs_1.length : Int) == 0)
  else
  some false) fun x209 =>
  Option.bind (if x209 then
  some 6
  else
  some q205) fun x217 =>
  if (x217 != 0) then
  some (0, x217)
  else
  Option.bind (loopN (m_spec_CanMake_l4 n list_0 needs_1) n ((-1), 0)) fun t241 =>
  match t241 with
  | .inl q361 =>
  some (q361, 0)
  | .inr r =>
  some r

def m_spec_l23Ask (n : Nat) (code_0 : List Int) : Option (List SGood × List UInt8 × Int) :=
  Option.bind (m_spec_l00From n code_0) fun x3 =>
  Option.bind (m_spec_l23Bent n code_0 x3.1 x3.2) fun x14 =>
  Option.bind (m_spec_l23Name_o1 n code_0 x14.2.1 x14.2.2 x14.1) fun x27 =>
  Option.bind (m_spec_l00Src_one n code_0 x27.2.1 x27.2.2 8) fun x38 =>
  if x38.1 then
  Option.bind (m_spec_l00Src_among_o1 n code_0 x38.2.1 x38.2.2 ([(-1), 0, 1, 1000000, 1000001] : List Int)) fun x58 =>
  some (x14.1, x27.1, x58.1)
  else
  Option.bind (m_spec_l00Src_pick n code_0 x38.2.1 x38.2.2 60) fun x68 =>
  some (x14.1, x27.1, (wI64 (1 + x68.1)))

def m_spec_DrawReserveGood (n : Nat) (code_0 : List Int) : Option (List SGood × List UInt8 × Int) :=
  Option.bind (m_spec_l23Ask n code_0) fun x3 =>
  some (x3.1, x3.2.1, x3.2.2)

def m_spec_DrawUseReserved (n : Nat) (code_0 : List Int) : Option (List SGood × List UInt8 × Int) :=
  Option.bind (m_spec_l23Ask n code_0) fun x3 =>
  some (x3.1, x3.2.1, x3.2.2)

def m_spec_DrawShortGoods (n : Nat) (code_0 : List Int) : Option (List SGood) :=
  Option.bind (m_spec_l00From n code_0) fun x3 =>
  Option.bind (m_spec_l23Bent n code_0 x3.1 x3.2) fun x13 =>
  some x13.1

def m_spec_DrawCanMake_l1 (n : Nat) (code_0 : List Int) (x14 : List SGood × Int × Int) (st283 : List STake × Int × Int × Int) : Option (Step (List STake × Int × Int × Int) (List STake × Int × Int)) :=
  if (decide (st283.2.1 > 0)) then
  Option.bind (m_spec_l23Name_o1 n code_0 st283.2.2.1 st283.2.2.2 x14.1) fun x304 =>
  Option.bind (m_spec_l00Src_pick n code_0 x304.2.1 x304.2.2 9) fun x327 =>
  Option.bind (app st283.1 ([(STake.mk x304.1 (wI64 (1 + x327.1)))] : List STake)) fun x350 =>
  some (.next (x350, (wI64 (st283.2.1 - 1)), x327.2.1, x327.2.2))
  else
  some (.done (st283.1, st283.2.2.1, st283.2.2.2))

def m_spec_DrawCanMake (n : Nat) (code_0 : List Int) : Option (List SGood × List STake) :=
  Option.bind (m_spec_l00From n code_0) fun x3 =>
  Option.bind (m_spec_l23Bent n code_0 x3.1 x3.2) fun x14 =>
  Option.bind (m_spec_l00Src_pick n code_0 x14.2.1 x14.2.2 5) fun x38 =>
  Option.bind (loopN (m_spec_DrawCanMake_l1 n code_0 x14) n (([] : List STake), x38.1, x38.2.1, x38.2.2)) fun q519 =>
  Option.bind (if (decide ((q519.1.length : Int) > 0)) then
  Option.bind (m_spec_l00Src_one n code_0 q519.2.1 q519.2.2 10) fun x560 =>
  some (x560.1, x560.2.1, x560.2.2)
  else
  some (false, q519.2.1, q519.2.2)) fun x557 =>
  Option.bind (if x557.1 then
  Option.bind (m_spec_l00Src_among_o1 n code_0 x557.2.1 x557.2.2 ([(-1), 0, 1, 1000000, 1000001] : List Int)) fun x662 =>
  Option.bind (idx q519.1 0) fun x671 =>
  some ((q519.1.set (Int.toNat 0) (STake.mk x671.Name x662.1)), x662.2.1, x662.2.2)
  else
  some (q519.1, x557.2.1, x557.2.2)) fun x651 =>
  some (x14.1, x651.1)

end Go.Gv
