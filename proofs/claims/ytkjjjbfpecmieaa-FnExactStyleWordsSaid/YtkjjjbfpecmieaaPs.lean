/- Plain laws of styles: what needs no workshop. -/
import Derived.Test.YtkjjjbfpecmieaaPu
import Derived.Test.YtkjjjbfpecmieaaMo
namespace Go.Gv
open Go Go.RowKit

/-- The statement on TroubleName. -/
theorem law_TroubleName (c : Int) (hc : i64ok c) : m_laws_FnExactTroubleName 2000000 c = some true := by
  by_cases h : 1 ≤ c ∧ c ≤ 6
  · obtain ⟨h1, h2⟩ := h
    have : c = 1 ∨ c = 2 ∨ c = 3 ∨ c = 4 ∨ c = 5 ∨ c = 6 := by omega
    rcases this with rfl | rfl | rfl | rfl | rfl | rfl <;> decide +kernel
  · unfold m_laws_FnExactTroubleName m_spec_TroubleName m_impl_TroubleName m_spec_l00In m_impl_within
    by_cases h1 : 1 ≤ c
    · have h2 : ¬ c ≤ 6 := fun h2 => h ⟨h1, h2⟩
      simp [h1, h2]
    · simp [h1]

/-- The statement on StyleWords. -/
theorem law_StyleWords : m_laws_FnExactStyleWords 2000000 = some true := by decide +kernel

end Go.Gv
