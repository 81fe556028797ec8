/- Plain laws of styles: the clauses of a text. -/
import Derived.Test.YtkjjjbfpecmieaaDoorPl
namespace Go.Gv
open Go Go.RowKit

theorem p_strings_Split (n : Nat) (s : List UInt8) (b : UInt8) (hs : s.length ≤ 1500000) : m_strings_Split n s [b] = some (splitL b s) := by
  unfold m_strings_Split
  rw [if_pos ⟨by omega, by simp⟩, split_byte]

def clausesR (s : List UInt8) : List (List UInt8) × Bool := if s.length > 300 then ([], false) else (splitL 59 s, decide ((splitL 59 s).length ≤ 12))

theorem p_specRead (n : Nat) (s : List UInt8) (hn : 1500000 < n) : m_spec_l24Read n s = some (clausesR s) := by
  unfold m_spec_l24Read clausesR
  by_cases h : s.length > 300
  · rw [decide_eq_true (by omega : (s.length : Int) > 300)]; simp [h]
  · rw [decide_eq_false (by omega : ¬ (s.length : Int) > 300)]
    have := p_l01Split n s 59 (by omega) hn
    have e : m_spec_l01Split n s 59 = some (splitL 59 s) := this
    have h12 : decide (((splitL 59 s).length : Int) ≤ 12) = decide ((splitL 59 s).length ≤ 12) := decide_eq_decide.2 (by omega)
    simp [h, e, h12]

theorem p_implRead (n : Nat) (s : List UInt8) : m_impl_clausesOf n s = some (clausesR s) := by
  unfold m_impl_clausesOf clausesR
  by_cases h : s.length > 300
  · rw [decide_eq_true (by omega : (s.length : Int) > 300)]; simp [h]
  · rw [decide_eq_false (by omega : ¬ (s.length : Int) > 300)]
    have h12 : decide (((splitL 59 s).length : Int) ≤ 12) = decide ((splitL 59 s).length ≤ 12) := decide_eq_decide.2 (by omega)
    simp [h, p_strings_Split n s 59 (by omega), h12]

theorem clausesR_len (s : List UInt8) : (clausesR s).1.length ≤ 400 := by
  unfold clausesR
  split
  · simp
  · have := splitL_len 59 s; show (splitL 59 s).length ≤ 400; omega

theorem law_ClausesOf (s : List UInt8) (hs : strok s) : m_laws_FnExactClausesOf 2000000 s = some true := by
  unfold m_laws_FnExactClausesOf m_spec_ClausesOf m_impl_ClausesOf
  by_cases hb : (s.length : Int) > 1048576
  · simp [hb]
  rw [decide_eq_false hb, p_specRead 2000000 s (by omega), p_implRead]
  have hl := clausesR_len s
  simp only [Bool.false_eq_true, if_false, Option.bind_some]
  obtain ⟨t, e, hr, ht⟩ : ∃ t e, (if (!(clausesR s).2) = true then some (([] : List (List UInt8)), (5 : Int)) else some ((clausesR s).1, 0)) = some (t, e) ∧ t.length ≤ 400 := by
    by_cases h : (clausesR s).2 = true
    · exact ⟨(clausesR s).1, 0, by simp [h], hl⟩
    · exact ⟨[], 5, by simp [h], by simp⟩
  have hne : ¬ (1 + (t.length : Int) < 0) := by omega
  rw [hr]
  simp [p_eqStringS 2000000 t (by omega), p_markStringS 2000000 t (by omega), p_heldStringS 2000000 t.length (by omega), hne]

end Go.Gv
