/- What calls of the library give back, as Lean functions that may fail. -/
import Derived.Test.YtkpdicajinionaaGreatDoorDa
import Derived.Lib.ItoaNum
import Derived.Lib.ParseIntB
import Derived.Lib.Split
import Derived.Lib.Strings
import Derived.Shelf.Strconv.ParseIntPublic10
namespace Go.Gv
open Go Go.RowKit

def m_strings_Split (n : Nat) (s_0 sep_1 : List UInt8) : Option (List (List UInt8)) :=
  if s_0.length < 4294967281 ∧ 1 ≤ sep_1.length then some (Lib.split s_0 sep_1) else none

def m_strings_SplitN (n : Nat) (s_0 sep_1 : List UInt8) (k_2 : Int) : Option (List (List UInt8)) :=
  if s_0.length < 4294967281 ∧ 1 ≤ sep_1.length ∧ 1 ≤ k_2 ∧ k_2 ≤ 1000000000 then some (Lib.splitN s_0 sep_1 k_2.toNat) else none

def m_strconv_FormatInt (n : Nat) (i_0 base_1 : Int) : Option (List UInt8) :=
  if -9223372036854775808 ≤ i_0 ∧ i_0 ≤ 9223372036854775807 ∧ base_1 = 10 then some (Lib.itoa i_0) else none

def m_strconv_ParseInt (n : Nat) (s_0 : List UInt8) (base_1 bits_2 : Int) : Option (Int × Bool) :=
  if s_0.length ≤ 1000000000 ∧ base_1 = 10 ∧ bits_2 = 64 then
  match Lib.parseIntB 64 s_0 with
  | .ok v => some (v, false)
  | .range => some (Lib.intSat 64 s_0, true)
  | _ => some (0, true)
  else none

def m_strings_TrimPrefix (n : Nat) (s_0 p_1 : List UInt8) : Option (List UInt8) :=
  some (Lib.trimPrefix s_0 p_1)

end Go.Gv
