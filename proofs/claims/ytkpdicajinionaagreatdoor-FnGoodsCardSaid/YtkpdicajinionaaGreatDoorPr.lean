/- Plain laws: numbers read. -/
import Derived.Test.YtkpdicajinionaaGreatDoorPm
namespace Go.Gv
open Go Go.RowKit

theorem readD_short {s : List UInt8} {z : Int} (h : readD s = (z, true)) : s = decZ z ∧ z.natAbs < 10 ^ 18 ∧ s.length ≤ 19 ∧ (Lib.trimPrefix s [45]).length ≤ 18 ∧ Lib.parseIntB 64 s = .ok z := by
  obtain ⟨h1, h2⟩ := readD_true h
  have h3 := (natD_len18 z.natAbs).2 h2
  refine ⟨h1, h2, ?_, ?_, ?_⟩
  · rw [h1]; unfold decZ; split
    · simp; omega
    · omega
  · rw [trim_minus, h1, decZ_parts]; exact h3
  · rw [h1]; exact parse_dec z h2

theorem p_implReadDecimal (n : Nat) (s : List UInt8) : m_impl_ReadDecimal n s = some (readD s) := by
  unfold m_impl_ReadDecimal m_strings_TrimPrefix
  have bad : (¬ ∃ z, readD s = (z, true)) → readD s = (0, false) := fun hn => by
    rcases readD_cases s with h | ⟨z, h, _⟩
    · exact h
    · exact absurd ⟨z, h⟩ hn
  by_cases h19 : (s.length : Int) > 19
  · rw [bad (fun ⟨z, hz⟩ => by have := (readD_short hz).2.2.1; omega)]
    simp [h19]
  · simp only [h19, decide_false, Bool.false_eq_true, if_false, Option.bind_some]
    by_cases h18 : ((Lib.trimPrefix s [45]).length : Int) > 18
    · rw [bad (fun ⟨z, hz⟩ => by have := (readD_short hz).2.2.2.1; omega)]
      simp [h18]
    · simp only [h18, decide_false, Bool.false_eq_true, if_false]
      unfold m_strconv_ParseInt
      rw [if_pos ⟨by omega, rfl, rfl⟩]
      cases hp : Lib.parseIntB 64 s
      case range =>
        rw [bad (fun ⟨z, hz⟩ => by have := (readD_short hz).2.2.2.2; rw [hp] at this; cases this)]
        rfl
      case ok v =>
        have hb := Lib.parseIntB_bounds hp
        have hv : i64ok v := by unfold i64ok; omega
        simp only [Option.bind_some, Bool.false_eq_true, if_false, p_Decimal n v hv]
        by_cases he : decZ v = s
        · have ht : (Lib.trimPrefix s [45]).length ≤ 18 := by omega
          rw [trim_minus, ← he, decZ_parts] at ht
          have h2 := (natD_len18 v.natAbs).1 ht
          have hr : readD s = (v, true) := by rw [← he, readD_dec, if_pos h2]
          rw [hr]; simp [he]
        · rw [bad (fun ⟨z, hz⟩ => by
            obtain ⟨q1, _, _, _, q2⟩ := readD_short hz
            rw [hp] at q2
            injection q2 with q2
            exact he (by rw [q1, q2]))]
          simp [he]
      · rw [bad (fun ⟨z, hz⟩ => by have := (readD_short hz).2.2.2.2; rw [hp] at this; cases this)]
        rfl

end Go.Gv
