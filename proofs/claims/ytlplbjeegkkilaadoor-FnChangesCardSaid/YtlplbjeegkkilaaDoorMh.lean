/- What calls of the library give back, as Lean functions that may fail. -/
import Derived.Test.YtlplbjeegkkilaaDoorDa
import Derived.Lib.CutLaws
import Derived.Lib.ItoaNum
import Derived.Lib.ParseIntB
import Derived.Lib.Strings
import Derived.Shelf.Strconv.ParseIntPublic10
namespace Go.Gv
open Go Go.RowKit

def v_changeNames : List (List UInt8) := [[], [108, 101, 110, 103, 116, 104], [98, 97, 108, 108], [105, 110, 115, 116, 101, 112], [104, 101, 101, 108], [112, 105, 116, 99, 104]]

def m_strings_Cut (n : Nat) (s_0 sep_1 : List UInt8) : Option (List UInt8 × List UInt8 × Bool) :=
  if s_0.length < 4294967281 then some (Lib.cut s_0 sep_1) else none

def m_strconv_FormatInt (n : Nat) (i_0 base_1 : Int) : Option (List UInt8) :=
  if -9223372036854775808 ≤ i_0 ∧ i_0 ≤ 9223372036854775807 ∧ base_1 = 10 then some (Lib.itoa i_0) else none

def m_strconv_ParseInt (n : Nat) (s_0 : List UInt8) (base_1 bits_2 : Int) : Option (Int × Bool) :=
  if s_0.length ≤ 1000000000 ∧ base_1 = 10 ∧ bits_2 = 64 then
  match Lib.parseIntB 64 s_0 with
  | .ok v => some (v, false)
  | .range => some (Lib.intSat 64 s_0, true)
  | _ => some (0, true)
  else none

def m_strings_TrimPrefix (n : Nat) (s_0 p_1 : List UInt8) : Option (List UInt8) :=
  some (Lib.trimPrefix s_0 p_1)

end Go.Gv
