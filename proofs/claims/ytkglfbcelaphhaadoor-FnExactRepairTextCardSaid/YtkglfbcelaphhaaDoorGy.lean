/- From the row's reading of a slice of numbers in a struct to the lists of the small program logic. No program is named here. -/
import Derived.Test.YtkglfbcelaphhaaDoorGr
import Derived.Test.YtkglfbcelaphhaaDoorGx
namespace Go.Gv
open Go Go.RowKit Go.WideShapes

theorem opens_ints {P : Program} {t e : TypeId} (ht : P.underlying t = some (.slice e)) (he : P.underlying e = some (.int .i64)) (hsz : P.cellsOf e = 1) {H : Type} {enc : TypeId × Value → H} {w : World} {spare : Nat → Bool} {held : Bool} {fuel : Nat} {cs : List Value}
    {x : DataW H × List MemPlace} (h : DataW.trod enc P w 0 spare held fuel t cs = some x) :
    ∃ a c xs, cs = [.slice a (xs : List Int).length c] ∧ Rd fInt.ty w a xs ∧ xs.length ≤ c ∧ (xs.length ≤ 9223372036854775807 ∧ ∀ n ∈ xs, i64ok n) := by
  have key : ∀ a len c, cs = [.slice a len c] → ∃ a c xs, cs = [.slice a (xs : List Int).length c] ∧ Rd fInt.ty w a xs ∧ xs.length ≤ c ∧ (xs.length ≤ 9223372036854775807 ∧ ∀ n ∈ xs, i64ok n) := by
    rintro a len c rfl
    have hT : DataW.Trod enc P w 0 spare held t (.slice a len c) x.1 x.2 := ⟨fuel, h⟩
    obtain ⟨xs, rfl, hR, hle, hmx, hok⟩ := open_row (opens_i64 he) ht hsz hT
    exact ⟨a, c, xs, rfl, hR, hle, hmx, hok⟩
  rcases DataW.trod_slice ht h with ⟨hc, _⟩ | ⟨p, l, c, elems, rest, n, _, hc, _⟩
  · exact key none 0 0 hc
  · exact key (some p) l c hc

end Go.Gv
