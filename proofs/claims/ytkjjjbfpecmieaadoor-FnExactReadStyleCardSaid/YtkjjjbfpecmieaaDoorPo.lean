/- Plain laws: the words of a text. -/
import Derived.Test.YtkjjjbfpecmieaaDoorPt
namespace Go.Gv
open Go Go.RowKit

/-- The words of a text. -/
def wordsL (s : List UInt8) : List (List UInt8) := (splitL 32 s).filter (fun w => !(w == []))

theorem p_SplitWords (n : Nat) (s : List UInt8) (hs : s.length ≤ 1500000) (hn : 1500001 < n) : m_spec_SplitWords n s = some (wordsL s) := by
  unfold m_spec_SplitWords
  have h32 : m_spec_l01Split n s 32 = some (splitL 32 s) := p_l01Split n s 32 hs (by omega)
  rw [h32]
  simp only [Option.bind_some]
  have hl := (splitL_len 32 s).2
  have key := loopN_fold (body := m_spec_SplitWords_l1 n (splitL 32 s)) (splitL 32 s) (fun (a : List (List UInt8)) w => if !(w == []) then a ++ [w] else a) [] (fun i a => (a, (i : Int))) id (fun i a => a.length ≤ i) (by simp)
    (fun i w a hw ha => by
      have hlt := lt_of_get hw
      refine ⟨?_, by cases hwe : (w == []) <;> simp [hwe] <;> omega⟩
      unfold m_spec_SplitWords_l1
      simp only [ltB hlt, if_true, idx_nat, hw, Option.bind_some, succ64 hlt (by omega)]
      cases hwe : (w == []) with
      | true => simp
      | false =>
        simp only [Bool.not_false, if_true]
        rw [app_eq (by simp; omega)]; rfl)
    (fun a _ => by unfold m_spec_SplitWords_l1; simp) n (by omega)
  have k1' : loopN (m_spec_SplitWords_l1 n (splitL 32 s)) n (([] : List (List UInt8)), 0) = _ := key.1
  rw [k1']
  have hf : ∀ (l : List (List UInt8)) (a : List (List UInt8)), l.foldl (fun (a : List (List UInt8)) w => if !(w == []) then a ++ [w] else a) a = a ++ l.filter (fun w => !(w == [])) := by
    intro l
    induction l with
    | nil => intro a; simp
    | cons w l ih =>
      intro a
      rw [List.foldl_cons, ih, List.filter_cons]
      cases hwe : (w == []) <;> simp
  rw [hf]; rfl

theorem wordsL_mem {s w : List UInt8} (h : w ∈ wordsL s) : w.length ≤ s.length := by
  unfold wordsL at h
  exact splitL_mem 32 s w (List.mem_filter.1 h).1

theorem wordsL_one {w : List UInt8} (h : ∀ c ∈ w, c ≠ 32) (hne : w ≠ []) : wordsL w = [w] := by
  unfold wordsL
  rw [splitL_one h]
  have : (w == []) = false := by simp [hne]
  rw [List.filter_cons]; simp only [this, Bool.not_false, if_true, List.filter_nil]

theorem wordsL_pre {w : List UInt8} (r : List UInt8) (h : ∀ c ∈ w, c ≠ 32) (hne : w ≠ []) : wordsL (w ++ 32 :: r) = w :: wordsL r := by
  unfold wordsL
  rw [splitL_pre r h]
  have : (w == []) = false := by simp [hne]
  rw [List.filter_cons]; simp only [this, Bool.not_false, if_true]

theorem name_chars {s : List UInt8} (h : nameB s = true) : s ≠ [] ∧ (∀ c ∈ s, nmC c = true) ∧ s.length ≤ 12 := by
  unfold nameB at h
  simp only [Bool.and_eq_true, decide_eq_true_eq, List.all_eq_true] at h
  refine ⟨?_, h.2, h.1.2⟩
  rintro rfl
  simp at h

theorem nmC_ne32 {c : UInt8} (h : nmC c = true) : c ≠ 32 := by rintro rfl; revert h; decide
theorem name_ne32 {s : List UInt8} (h : nameB s = true) : ∀ c ∈ s, c ≠ 32 := fun c hc => nmC_ne32 ((name_chars h).2.1 c hc)

theorem decZ_ne32 (z : Int) : ∀ c ∈ decZ z, c ≠ 32 := by
  intro c hc
  unfold decZ at hc
  split at hc
  · simp only [List.mem_cons] at hc
    rcases hc with rfl | hc
    · decide
    · have := natD_dg _ c hc
      rintro rfl; revert this; decide
  · have := natD_dg _ c hc
    rintro rfl; revert this; decide

theorem decZ_ne (z : Int) : decZ z ≠ [] := by
  unfold decZ
  split
  · simp
  · intro h
    have := natD_len z.natAbs
    rw [h] at this; simp at this

end Go.Gv
