/- Plain laws of what all statements share: ranges, copies, comparisons, marks. -/
import Derived.Test.YtkpdicajinionaaDoorPu
import Derived.Test.YtkpdicajinionaaDoorMo
namespace Go.Gv
open Go Go.RowKit

theorem p_l00In (n : Nat) (a b c : Int) : m_spec_l00In n a b c = some (decide (b ≤ a) && decide (a ≤ c)) := by
  unfold m_spec_l00In
  by_cases h : b ≤ a <;> simp [h]

theorem p_within (n : Nat) (a b c : Int) : m_impl_within n a b c = some (decide (b ≤ a) && decide (a ≤ c)) := by
  unfold m_impl_within
  by_cases h : b ≤ a <;> simp [h]

def total (rows : List (List UInt8)) : Nat := (rows.map List.length).sum

theorem mem_le_total {rows : List (List UInt8)} {r : List UInt8} (h : r ∈ rows) : r.length ≤ total rows := by
  induction rows with
  | nil => simp at h
  | cons y ys ih =>
    simp only [total, List.map_cons, List.sum_cons] at ih ⊢
    rcases List.mem_cons.1 h with rfl | h
    · omega
    · have := ih h; omega


theorem p_szGood (n : Nat) (x : SGood) (L : Int) (h0 : 0 ≤ L) (h1 : L ≤ 1048576) (hs : strok x.Name) : ∃ v, m_laws_szGood n x L = some v ∧ (v < 0 ∨ (0 ≤ v ∧ v = L - x.Name.length)) := by
  unfold strok at hs
  unfold m_laws_szGood
  rw [wI64_eq (x := L - (x.Name.length : Int)) (by omega) (by omega)]
  by_cases hc : L - (x.Name.length : Int) < 0
  · exact ⟨-1, by simp [hc], .inl (by omega)⟩
  · exact ⟨_, by simp [hc], .inr ⟨by omega, rfl⟩⟩


theorem p_toGood (n : Nat) (a : SGood) : m_laws_toGood n a = some a := rfl

theorem p_eqGood (n : Nat) (a b : SGood) : m_laws_eqGood n a b = some (decide (a = b)) := by
  unfold m_laws_eqGood
  cases a; cases b
  simp only [SGood.mk.injEq]
  repeat' split
  all_goals simp_all

end Go.Gv
