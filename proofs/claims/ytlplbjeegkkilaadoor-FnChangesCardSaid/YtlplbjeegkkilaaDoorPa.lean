/- Plain laws of what all statements share: ranges, copies, comparisons, marks. -/
import Derived.Test.YtlplbjeegkkilaaDoorPu
import Derived.Test.YtlplbjeegkkilaaDoorMo
namespace Go.Gv
open Go Go.RowKit

theorem p_l00In (n : Nat) (a b c : Int) : m_spec_l00In n a b c = some (decide (b ≤ a) && decide (a ≤ c)) := by
  unfold m_spec_l00In
  by_cases h : b ≤ a <;> simp [h]

theorem p_within (n : Nat) (a b c : Int) : m_impl_within n a b c = some (decide (b ≤ a) && decide (a ≤ c)) := by
  unfold m_impl_within
  by_cases h : b ≤ a <;> simp [h]

theorem p_l00Min (n : Nat) (a b : Int) : m_spec_l00Min n a b = some (min a b) := by
  unfold m_spec_l00Min
  by_cases h : a < b
  · simp [h]; omega
  · simp [h]; omega

theorem p_l00Max (n : Nat) (a b : Int) : m_spec_l00Max n a b = some (max a b) := by
  unfold m_spec_l00Max
  by_cases h : a > b
  · simp [h]; omega
  · simp [h]; omega

def total (rows : List (List UInt8)) : Nat := (rows.map List.length).sum

theorem mem_le_total {rows : List (List UInt8)} {r : List UInt8} (h : r ∈ rows) : r.length ≤ total rows := by
  induction rows with
  | nil => simp at h
  | cons y ys ih =>
    simp only [total, List.map_cons, List.sum_cons] at ih ⊢
    rcases List.mem_cons.1 h with rfl | h
    · omega
    · have := ih h; omega

theorem p_toChange (n : Nat) (a : SChange) : m_laws_toChange n a = some a := rfl

theorem p_eqChange (n : Nat) (a b : SChange) : m_laws_eqChange n a b = some (decide (a = b)) := by
  unfold m_laws_eqChange
  cases a; cases b
  simp only [SChange.mk.injEq]
  repeat' split
  all_goals simp_all

end Go.Gv
