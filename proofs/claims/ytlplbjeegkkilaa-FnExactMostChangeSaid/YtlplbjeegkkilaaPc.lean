/- Plain laws of prescriptions. -/
import Derived.Test.YtlplbjeegkkilaaPu
import Derived.Test.YtlplbjeegkkilaaMo
namespace Go.Gv
open Go Go.RowKit

def mostC (k : Int) : Int := if k = 1 then 200 else if k = 2 ∨ k = 3 ∨ k = 4 then 300 else if k = 5 then 150 else -1

theorem p_l22Most (n : Nat) (k : Int) : m_spec_l22Most n k = some (mostC k) := by
  unfold m_spec_l22Most mostC
  by_cases h1 : k = 1 <;> by_cases h2 : k = 2 <;> by_cases h3 : k = 3 <;> by_cases h4 : k = 4 <;> by_cases h5 : k = 5 <;> simp_all

theorem p_mostChange (n : Nat) (k : Int) : m_impl_mostChange n k = some (if mostC k = -1 then 0 else mostC k) := by
  unfold m_impl_mostChange mostC
  by_cases h : 1 ≤ k ∧ k ≤ 5
  · have : k = 1 ∨ k = 2 ∨ k = 3 ∨ k = 4 ∨ k = 5 := by omega
    rcases this with rfl | rfl | rfl | rfl | rfl <;> simp [m_impl_within, idx]
  · have h1 : k ≠ 1 := by omega
    have h2 : k ≠ 2 := by omega
    have h3 : k ≠ 3 := by omega
    have h4 : k ≠ 4 := by omega
    have h5 : k ≠ 5 := by omega
    by_cases h0 : 1 ≤ k
    · have : ¬ k ≤ 5 := by omega
      simp [m_impl_within, h0, this, h1, h2, h3, h4, h5]
    · simp [m_impl_within, h0, h1, h2, h3, h4, h5]

/-- The statement on MostChange. -/
theorem law_MostChange (k : Int) (hk : i64ok k) : m_laws_FnExactMostChange 2000000 k = some true := by
  unfold m_laws_FnExactMostChange m_spec_MostChange m_impl_MostChange
  rw [p_l22Most, p_mostChange]
  unfold mostC
  by_cases h1 : k = 1 <;> by_cases h2 : k = 2 <;> by_cases h3 : k = 3 <;> by_cases h4 : k = 4 <;> by_cases h5 : k = 5 <;> simp_all

end Go.Gv
