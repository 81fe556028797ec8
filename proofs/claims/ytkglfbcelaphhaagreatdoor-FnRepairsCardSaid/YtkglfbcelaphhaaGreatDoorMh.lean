/- What calls of the library give back, as Lean functions that may fail. -/
import Derived.Test.YtkglfbcelaphhaaGreatDoorDa
import Derived.Lib.ItoaNum
import Derived.Lib.Strings
import Derived.Shelf.Strings.OnBuilder
namespace Go.Gv
open Go Go.RowKit

def m_strconv_FormatInt (n : Nat) (i_0 base_1 : Int) : Option (List UInt8) :=
  if -9223372036854775808 ≤ i_0 ∧ i_0 ≤ 9223372036854775807 ∧ base_1 = 10 then some (Lib.itoa i_0) else none

def m_strings_Join (n : Nat) (l_0 : List (List UInt8)) (sep_1 : List UInt8) : Option (List UInt8) :=
  if l_0.length ≤ 1000000000 ∧ (Lib.join l_0 sep_1).length ≤ 140737488355328 then some (Lib.join l_0 sep_1) else none

end Go.Gv
