/- Plain laws of prescriptions: changes undone. -/
import Derived.Test.YtlplbjeegkkilaaPcA
namespace Go.Gv
open Go Go.RowKit

def negC (c : SChange) : SChange := SChange.mk c.Kind (wI64 (0 - c.Amount))

theorem p_specUndoL (n : Nat) (a : List SChange) (ha : a.length ≤ 1048576) (hn : 1048576 < n) : loopN (m_spec_UndoChanges_l1 n a) n (([] : List SChange), wI64 ((a.length : Int) - 1)) = some (a.reverse.map negC) := by
  have e0 : wI64 ((a.length : Int) - 1) = (a.length : Int) - 1 - ((0 : Nat) : Int) := by rw [wI64_eq (by omega) (by omega)]; simp
  have h := loopN_run (body := m_spec_UndoChanges_l1 n a) (fun k => ((a.reverse.take k).map negC, (a.length : Int) - 1 - (k : Int))) (a.reverse.map negC) a.length (fun k hk => ?_) ?_ n (by omega)
  · rw [e0]; exact h
  · obtain ⟨x, hx⟩ : ∃ x, a[a.length - 1 - k]? = some x := ⟨_, List.getElem?_eq_getElem (by omega)⟩
    have hr : a.reverse[k]? = some x := by rw [List.getElem?_reverse hk]; exact hx
    have hi : idx a ((a.length : Int) - 1 - (k : Int)) = some x := by rw [idx_of (k := a.length - 1 - k) (by omega)]; exact hx
    have hd : decide ((a.length : Int) - 1 - (k : Int) ≥ 0) = true := decide_eq_true (by omega)
    have e1 : wI64 ((a.length : Int) - 1 - (k : Int) - 1) = (a.length : Int) - 1 - ((k + 1 : Nat) : Int) := by rw [wI64_eq (by omega) (by omega)]; omega
    have hl : ((a.reverse.take k).map negC).length = k := by simp; omega
    unfold m_spec_UndoChanges_l1
    simp only [hd, if_true, hi, Option.bind_some, e1]
    rw [app_eq (by rw [hl]; simp; omega), List.take_add_one, hr]
    simp [negC]
  · have hd : decide ((a.length : Int) - 1 - (a.length : Int) ≥ 0) = false := decide_eq_false (by omega)
    have ht : a.reverse.take a.length = a.reverse := by rw [← List.length_reverse]; exact List.take_length
    unfold m_spec_UndoChanges_l1
    simp only [hd, Bool.false_eq_true, if_false, ht]

theorem p_specUndo (n : Nat) (a : List SChange) (ha : a.length ≤ 1048576) (hn : 1048576 < n) : m_spec_UndoChanges n a = some (if decide (a.length ≤ 20) && a.all vch then (a.reverse.map negC, 0) else ([], 1)) := by
  unfold m_spec_UndoChanges
  rw [p_l22Ok n a ha hn, p_specUndoL n a ha hn]
  simp only [Option.bind_some]
  cases (decide (a.length ≤ 20) && a.all vch) <;> rfl

theorem p_implUndo (n : Nat) (a : List SChange) (ha : a.length ≤ 1048576) (hn : 1048576 < n) : m_impl_UndoChanges n a = some (if decide (a.length ≤ 20) && a.all vch then (a.reverse.map negC, 0) else ([], 1)) := by
  unfold m_impl_UndoChanges
  rw [p_implValidChanges n a ha hn]
  have hl : a.length ≤ 4294967296 := by omega
  simp only [Option.bind_some, hl, if_true]
  cases (decide (a.length ≤ 20) && a.all vch) <;> rfl

/-- The statement on UndoChanges. -/
theorem law_UndoChanges (a : List SChange) (ha : a.length ≤ 9223372036854775807) (_ : ∀ x ∈ a, okChange x) : m_laws_FnExactUndoChanges 2000000 a = some true := by
  unfold m_laws_FnExactUndoChanges
  obtain ⟨v, hv, hcase⟩ := p_szChangeS 2000000 a 1048576 (by omega) (by omega) ha
  rw [hv]
  simp only [Option.bind_some]
  rcases hcase with h | ⟨h, he⟩
  · simp [h]
  · have hd : decide (v < 0) = false := by simp; omega
    have la : a.length ≤ 1048576 := by omega
    obtain ⟨l, e, hl, e1, e2⟩ : ∃ l e, l.length ≤ 1048576 ∧ m_spec_UndoChanges 2000000 a = some (l, e) ∧ m_impl_UndoChanges 2000000 a = some (l, e) := by
      rw [p_specUndo 2000000 a la (by omega), p_implUndo 2000000 a la (by omega)]
      cases (decide (a.length ≤ 20) && a.all vch)
      · exact ⟨[], 1, by simp, rfl, rfl⟩
      · exact ⟨_, 0, by simp; omega, rfl, rfl⟩
    have hne : ¬ (1 + 2 * (a.length : Int) < 0) := by omega
    have hne2 : ¬ (1 + 2 * (l.length : Int) < 0) := by omega
    simp [hd, p_toChangeS 2000000 _ la, e1, e2, p_eqChangeS 2000000 _ la, p_eqChangeS 2000000 l (by omega), p_markChangeS 2000000 a la, p_markChangeS 2000000 l (by omega), p_heldChangeS 2000000 l.length (by omega), hne, hne2]

end Go.Gv
