/- Plain laws of styles: clauses and their problems; the valid ones. -/
import Derived.Test.YtkjjjbfpecmieaaDoorPo
namespace Go.Gv
open Go Go.RowKit

def wUpper : List UInt8 := [117, 112, 112, 101, 114]
def wLining : List UInt8 := [108, 105, 110, 105, 110, 103]
def wSole : List UInt8 := [115, 111, 108, 101]
def wHeel : List UInt8 := [104, 101, 101, 108]
def wEyelets : List UInt8 := [101, 121, 101, 108, 101, 116, 115]
def wStitch : List UInt8 := [115, 116, 105, 116, 99, 104]
def wDouble : List UInt8 := [100, 111, 117, 98, 108, 101]
def styleW : List (List UInt8) := [wUpper, wLining, wSole, wHeel, wEyelets, wStitch]

def kindZ (w : List UInt8) : Int := match styleW.findIdx? (· == w) with | some i => (i : Int) | none => -1

theorem p_specStyleWords (n : Nat) : m_spec_StyleWords n = some styleW := rfl

theorem p_l24Word (n : Nat) (w : List UInt8) (hn : 1048576 < n) : m_spec_l24Word n w = some (kindZ w) := by
  unfold m_spec_l24Word kindZ
  rw [p_specStyleWords]
  simp only [Option.bind_some]
  have := loopN_index (body := m_spec_l24Word_l1 n w styleW) styleW (· == w)
    (fun i x hx => by
      have hlt := lt_of_get hx
      unfold m_spec_l24Word_l1
      simp only [ltB hlt, if_true, idx_nat, hx, Option.bind_some, succ64 hlt (by simp [styleW])]
      cases x == w <;> rfl)
    (by unfold m_spec_l24Word_l1; simp) n (by simp [styleW]; omega)
  rw [this]
  cases styleW.findIdx? (· == w) <;> rfl

theorem kindZ_cases (w : List UInt8) : (kindZ w = -1 ∧ styleW.contains w = false) ∨ (kindZ w = 0 ∧ w = wUpper) ∨ (kindZ w = 1 ∧ w = wLining) ∨ (kindZ w = 2 ∧ w = wSole) ∨ (kindZ w = 3 ∧ w = wHeel) ∨ (kindZ w = 4 ∧ w = wEyelets) ∨ (kindZ w = 5 ∧ w = wStitch) := by
  by_cases h0 : wUpper = w
  · subst h0; exact .inr (.inl ⟨rfl, rfl⟩)
  by_cases h1 : wLining = w
  · subst h1; exact .inr (.inr (.inl ⟨rfl, rfl⟩))
  by_cases h2 : wSole = w
  · subst h2; exact .inr (.inr (.inr (.inl ⟨rfl, rfl⟩)))
  by_cases h3 : wHeel = w
  · subst h3; exact .inr (.inr (.inr (.inr (.inl ⟨rfl, rfl⟩))))
  by_cases h4 : wEyelets = w
  · subst h4; exact .inr (.inr (.inr (.inr (.inr (.inl ⟨rfl, rfl⟩)))))
  by_cases h5 : wStitch = w
  · subst h5; exact .inr (.inr (.inr (.inr (.inr (.inr ⟨rfl, rfl⟩)))))
  left
  constructor
  · unfold kindZ styleW
    simp [List.findIdx?_cons, h0, h1, h2, h3, h4, h5]
  · have g : ∀ {a b : List UInt8}, ¬ a = b → ¬ b = a := fun h e => h e.symm
    simp [styleW, g h0, g h1, g h2, g h3, g h4, g h5]

def countB (k : Int) (m : Nat) : Bool := if k = 0 ∨ k = 2 then decide (m = 3) else if k = 5 then decide (m = 2 ∨ m = 3) else decide (m = 2)

theorem p_l24Count (n : Nat) (k : Int) (m : Nat) : m_spec_l24Count n k (m : Int) = some (countB k m) := by
  have e3 : ((m : Int) == 3) = decide (m = 3) := by
    by_cases h : m = 3
    · subst h; rfl
    · have : ¬ (m : Int) = 3 := by omega
      simp [h, this]
  have e2 : ((m : Int) == 2) = decide (m = 2) := by
    by_cases h : m = 2
    · subst h; rfl
    · have : ¬ (m : Int) = 2 := by omega
      simp [h, this]
  unfold m_spec_l24Count countB
  rw [e2, e3]
  by_cases h0 : k = 0
  · subst h0; simp
  · by_cases h2 : k = 2
    · subst h2; simp
    · by_cases h5 : k = 5
      · subst h5; by_cases hm : m = 2 <;> simp [hm]
      · simp [h0, h2, h5]

def numB (s : List UInt8) (lo hi : Int) : Bool := (readD s).2 && (decide (lo ≤ (readD s).1) && decide ((readD s).1 ≤ hi))

theorem p_l24Number (n : Nat) (s : List UInt8) (lo hi : Int) (hs : s.length ≤ 9223372036854775807) (hn : 1048576 < n) : m_spec_l24Number n s lo hi = some (numB s lo hi) := by
  unfold m_spec_l24Number numB
  rw [p_l01Number n s hs hn]
  simp only [Option.bind_some, p_l00In]
  cases (readD s).2 <;> rfl

theorem numB_dec {z lo hi : Int} (h1 : -1000000 ≤ lo) (h2 : hi ≤ 1000000) : numB (decZ z) lo hi = (decide (lo ≤ z) && decide (z ≤ hi)) := by
  unfold numB
  rw [readD_dec]
  by_cases h : z.natAbs < 10 ^ 18
  · rw [if_pos h]; rfl
  · rw [if_neg h]
    have hz : ¬ (lo ≤ z ∧ z ≤ hi) := by
      intro hh
      apply h
      have : z.natAbs ≤ 1000000 := by omega
      exact Nat.lt_of_le_of_lt this (by decide)
    have : (decide (lo ≤ z) && decide (z ≤ hi)) = false := by
      rw [Bool.eq_false_iff]; intro hh; simp at hh; exact hz hh
    rw [this]; rfl

def fineB (k : Int) (w : List (List UInt8)) : Bool :=
  if k = 2 then numB (w.getD 2 []) 10 300 else if k = 3 then numB (w.getD 1 []) 0 1200 else if k = 4 then numB (w.getD 1 []) 1 12 else
  if k = 5 then numB (w.getD 1 []) 10 80 && (decide (w.length = 2) || w.getD 2 [] == wDouble) else true

/-- The problem of a clause's words. -/
def probZ (w : List (List UInt8)) : Int := match w with
  | [] => 1
  | w0 :: _ => if kindZ w0 < 0 then 1 else if !countB (kindZ w0) w.length then 2 else
    if (decide (kindZ w0 ≤ 2) && !nameB (w.getD 1 [])) || (decide (kindZ w0 = 0) && !nameB (w.getD 2 [])) then 4 else
    if !fineB (kindZ w0) w then 3 else 0

theorem p_l24Problem (n : Nat) (w : List (List UInt8)) (hw : ∀ x ∈ w, x.length ≤ 9223372036854775807) (hn : 1048576 < n) : m_spec_l24Problem n w = some (probZ w) := by
  unfold m_spec_l24Problem
  cases w with
  | nil => rfl
  | cons w0 r =>
    have hl0 : ((((w0 :: r).length : Nat) : Int) == 0) = false := by
      rw [beq_eq_false_iff_ne]; simp; omega
    simp only [hl0, Bool.false_eq_true, if_false, idx_zero, List.getElem?_cons_zero, Option.bind_some, p_l24Word n w0 hn, p_l24Count]
    unfold probZ
    obtain ⟨k, hk⟩ : ∃ k, k = kindZ w0 := ⟨_, rfl⟩
    have hkc : k = -1 ∨ k = 0 ∨ k = 1 ∨ k = 2 ∨ k = 3 ∨ k = 4 ∨ k = 5 := by
      rw [hk]
      rcases kindZ_cases w0 with ⟨h, _⟩ | ⟨h, _⟩ | ⟨h, _⟩ | ⟨h, _⟩ | ⟨h, _⟩ | ⟨h, _⟩ | ⟨h, _⟩ <;> rw [h] <;> simp
    simp only [← hk]
    by_cases hc : countB k (w0 :: r).length = true
    · rw [hc]
      have key : ∀ (i : Nat), i < (w0 :: r).length → (w0 :: r)[i]? = some ((w0 :: r).getD i []) ∧ ((w0 :: r).getD i []).length ≤ 9223372036854775807 := by
        intro i hi
        have := getD_of hi ([] : List UInt8)
        exact ⟨this, hw _ (List.mem_of_getElem? this)⟩
      have i1 : idx (w0 :: r) 1 = (w0 :: r)[1]? := idx_of rfl
      have i2 : idx (w0 :: r) 2 = (w0 :: r)[2]? := idx_of rfl
      have hl2 : ((((w0 :: r).length : Nat) : Int) == 2) = decide ((w0 :: r).length = 2) := by
        by_cases h : (w0 :: r).length = 2
        · rw [h]; rfl
        · have : ¬ (((w0 :: r).length : Nat) : Int) = 2 := by omega
          simp only [h, decide_false]; rw [beq_eq_false_iff_ne]; exact this
      rcases hkc with rfl | rfl | rfl | rfl | rfl | rfl | rfl
      · rfl
      · have h3 : (w0 :: r).length = 3 := by simpa [countB] using hc
        obtain ⟨g1, b1⟩ := key 1 (by omega); obtain ⟨g2, b2⟩ := key 2 (by omega)
        rw [i1, i2, g1, g2]
        simp only [Option.bind_some, p_specIsName n _ b1 hn, p_specIsName n _ b2 hn, fineB]
        cases nameB ((w0 :: r).getD 1 []) <;> cases nameB ((w0 :: r).getD 2 []) <;> rfl
      · have h3 : (w0 :: r).length = 2 := by simpa [countB] using hc
        obtain ⟨g1, b1⟩ := key 1 (by omega)
        rw [i1, g1]
        simp only [Option.bind_some, p_specIsName n _ b1 hn, fineB]
        cases nameB ((w0 :: r).getD 1 []) <;> rfl
      · have h3 : (w0 :: r).length = 3 := by simpa [countB] using hc
        obtain ⟨g1, b1⟩ := key 1 (by omega); obtain ⟨g2, b2⟩ := key 2 (by omega)
        rw [i1, i2, g1, g2]
        simp only [Option.bind_some, p_specIsName n _ b1 hn, p_l24Number n _ 10 300 b2 hn, fineB]
        cases nameB ((w0 :: r).getD 1 []) <;> cases numB ((w0 :: r).getD 2 []) 10 300 <;> rfl
      · have h3 : (w0 :: r).length = 2 := by simpa [countB] using hc
        obtain ⟨g1, b1⟩ := key 1 (by omega)
        rw [i1, g1]
        simp only [Option.bind_some, p_l24Number n _ 0 1200 b1 hn, fineB]
        cases numB ((w0 :: r).getD 1 []) 0 1200 <;> rfl
      · have h3 : (w0 :: r).length = 2 := by simpa [countB] using hc
        obtain ⟨g1, b1⟩ := key 1 (by omega)
        rw [i1, g1]
        simp only [Option.bind_some, p_l24Number n _ 1 12 b1 hn, fineB]
        cases numB ((w0 :: r).getD 1 []) 1 12 <;> rfl
      · have h3 : (w0 :: r).length = 2 ∨ (w0 :: r).length = 3 := by simpa [countB] using hc
        obtain ⟨g1, b1⟩ := key 1 (by omega)
        rw [i1, i2, g1, hl2]
        simp only [Option.bind_some, p_l24Number n _ 10 80 b1 hn, fineB]
        rcases h3 with h3 | h3
        · rw [h3]
          cases numB ((w0 :: r).getD 1 []) 10 80 <;> rfl
        · obtain ⟨g2, b2⟩ := key 2 (by omega)
          rw [h3, g2]
          simp only [Option.bind_some]
          have e : ([100, 111, 117, 98, 108, 101] : List UInt8) = wDouble := rfl
          rw [e]
          cases numB ((w0 :: r).getD 1 []) 10 80 <;> cases ((w0 :: r).getD 2 [] == wDouble) <;> rfl
    · have hc' : countB k (w0 :: r).length = false := by simpa using hc
      rw [hc']
      rcases hkc with rfl | rfl | rfl | rfl | rfl | rfl | rfl <;> rfl

end Go.Gv
