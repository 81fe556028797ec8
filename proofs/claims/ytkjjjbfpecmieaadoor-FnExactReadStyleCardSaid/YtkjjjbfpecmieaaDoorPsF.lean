/- Plain laws of styles: the problems of a text. -/
import Derived.Test.YtkjjjbfpecmieaaDoorPsD
import Derived.Test.YtkjjjbfpecmieaaDoorPsB
import Derived.Test.YtkjjjbfpecmieaaDoorPr
namespace Go.Gv
open Go Go.RowKit

theorem p_implSplitWords (n : Nat) (s : List UInt8) (hs : s.length ≤ 1500000) : m_impl_SplitWords n s = some (wordsL s) := by
  unfold m_impl_SplitWords
  rw [if_pos (by omega), split_byte]; rfl

theorem p_Contains (n : Nat) (l : List (List UInt8)) (v : List UInt8) (hl : l.length ≤ 1048576) (hn : 1048576 < n) : m_slices_Contains_string_string n l v = some (l.contains v) := by
  unfold m_slices_Contains_string_string m_slices_Index_string_string
  have := loopN_index (body := m_slices_Index_string_string_l1 n l v) l (fun x => v == x)
    (fun i x hx => by
      have hlt := lt_of_get hx
      unfold m_slices_Index_string_string_l1
      simp only [ltB hlt, if_true, idx_nat, hx, Option.bind_some, succ64 hlt (by omega)]
      cases v == x <;> rfl)
    (by unfold m_slices_Index_string_string_l1; simp) n (by omega)
  rw [this]
  have e := List.findIdx?_isSome (xs := l) (p := fun x => v == x)
  rw [List.contains_eq_any_beq, ← e]
  cases hf : l.findIdx? (fun x => v == x) with
  | none => simp
  | some i => simp

theorem p_isNumber (n : Nat) (w : List UInt8) (lo hi : Int) : m_impl_isNumber n w lo hi = some (numB w lo hi) := by
  unfold m_impl_isNumber numB
  rw [p_implReadDecimal]
  simp only [Option.bind_some, p_within]
  cases (readD w).2 <;> simp

def headW (w : List (List UInt8)) : List UInt8 := w.headD []

theorem p_clauseWord (n : Nat) (s : List UInt8) (hs : s.length ≤ 1500000) : m_impl_clauseWord n s = some (headW (wordsL s)) := by
  unfold m_impl_clauseWord headW
  rw [p_implSplitWords n s hs]
  simp only [Option.bind_some]
  cases wordsL s with
  | nil => rfl
  | cons w ws =>
    have h : ((((w :: ws).length : Nat) : Int) == 0) = false := by simp; omega
    simp only [h, Bool.false_eq_true, if_false]
    rw [idx_zero]; rfl

theorem styleW_contains {w : List UInt8} (h : w = wUpper ∨ w = wLining ∨ w = wSole ∨ w = wHeel ∨ w = wEyelets ∨ w = wStitch) : styleW.contains w = true := by
  rcases h with h | h | h | h | h | h <;> subst h <;> rfl

theorem probZ_cons (w0 : List UInt8) (ws : List (List UInt8)) : probZ (w0 :: ws) = if kindZ w0 < 0 then 1 else if !countB (kindZ w0) (w0 :: ws).length then 2 else
    if (decide (kindZ w0 ≤ 2) && !nameB ((w0 :: ws).getD 1 [])) || (decide (kindZ w0 = 0) && !nameB ((w0 :: ws).getD 2 [])) then 4 else
    if !fineB (kindZ w0) (w0 :: ws) then 3 else 0 := rfl

theorem p_clauseProblem (n : Nat) (s : List UInt8) (hs : s.length ≤ 1500000) (hn : 1048576 < n) : m_impl_clauseProblem n s = some (probZ (wordsL s)) := by
  unfold m_impl_clauseProblem
  have e : m_impl_StyleWords n = some styleW := rfl
  rw [p_implSplitWords n s hs, p_clauseWord n s hs, e]
  simp only [Option.bind_some]
  rw [p_Contains n styleW _ (by decide) hn]
  simp only [Option.bind_some]
  have hm : ∀ w ∈ wordsL s, w.length ≤ 9223372036854775807 := fun w hw => by have := wordsL_mem hw; omega
  generalize wordsL s = W at hm
  cases W with
  | nil => rfl
  | cons w0 ws =>
    have i0 : idx (w0 :: ws) 0 = some w0 := rfl
    have hd : headW (w0 :: ws) = w0 := rfl
    rw [hd]
    rcases kindZ_cases w0 with ⟨h1, h2⟩ | ⟨h1, h2⟩ | ⟨h1, h2⟩ | ⟨h1, h2⟩ | ⟨h1, h2⟩ | ⟨h1, h2⟩ | ⟨h1, h2⟩
    · rw [h2, probZ_cons, h1]; rfl
    · subst h2
      rw [styleW_contains (by simp)]
      simp only [Bool.not_true, Bool.false_eq_true, if_false, i0, Option.bind_some, show (wUpper == [117, 112, 112, 101, 114]) = true from rfl, show (wUpper == [108, 105, 110, 105, 110, 103]) = false from rfl, show (wUpper == [115, 111, 108, 101]) = false from rfl, show (wUpper == [104, 101, 101, 108]) = false from rfl, show (wUpper == [101, 121, 101, 108, 101, 116, 115]) = false from rfl, show (wUpper == [115, 116, 105, 116, 99, 104]) = false from rfl, if_true]
      by_cases hl : (wUpper :: ws).length = 3
      · match ws, hl, hm with
        | [w1, w2], _, hm =>
          have j1 : idx [wUpper, w1, w2] 1 = some w1 := rfl
          have n1 := p_implIsName n w1 (hm w1 (by simp)) hn
          have j2 : idx [wUpper, w1, w2] 2 = some w2 := rfl
          have n2 := p_implIsName n w2 (hm w2 (by simp)) hn
          have hlb : ((([wUpper, w1, w2] : List (List UInt8)).length : Int) != 3) = false := rfl
          simp only [hlb, Bool.false_eq_true, if_false, j1, j2, n1, n2, Option.bind_some]
          rw [probZ_cons, h1]
          simp only [countB, fineB, List.length_cons, List.length_nil, List.getD_eq_getElem?_getD, List.getElem?_cons_succ, List.getElem?_cons_zero, Option.getD_some]
          cases nameB w1 <;> cases nameB w2 <;> rfl
      · have hb : (((((wUpper :: ws).length : Nat)) : Int) != 3) = true := by simpa using (by omega : ¬ (((wUpper :: ws).length : Nat) : Int) = 3)
        simp only [hb, if_true]
        have hc : countB 0 (wUpper :: ws).length = false := by unfold countB; rw [if_pos (.inl rfl)]; exact decide_eq_false hl
        rw [probZ_cons, h1, hc]; rfl
    · subst h2
      rw [styleW_contains (by simp)]
      simp only [Bool.not_true, Bool.false_eq_true, if_false, i0, Option.bind_some, show (wLining == [117, 112, 112, 101, 114]) = false from rfl, show (wLining == [108, 105, 110, 105, 110, 103]) = true from rfl, show (wLining == [115, 111, 108, 101]) = false from rfl, show (wLining == [104, 101, 101, 108]) = false from rfl, show (wLining == [101, 121, 101, 108, 101, 116, 115]) = false from rfl, show (wLining == [115, 116, 105, 116, 99, 104]) = false from rfl, if_true]
      by_cases hl : (wLining :: ws).length = 2
      · match ws, hl, hm with
        | [w1], _, hm =>
          have j1 : idx [wLining, w1] 1 = some w1 := rfl
          have n1 := p_implIsName n w1 (hm w1 (by simp)) hn
          have hlb : ((([wLining, w1] : List (List UInt8)).length : Int) != 2) = false := rfl
          simp only [hlb, Bool.false_eq_true, if_false, j1, n1, Option.bind_some]
          rw [probZ_cons, h1]
          simp only [countB, fineB, List.length_cons, List.length_nil, List.getD_eq_getElem?_getD, List.getElem?_cons_succ, List.getElem?_cons_zero, Option.getD_some]
          cases nameB w1 <;> rfl
      · have hb : (((((wLining :: ws).length : Nat)) : Int) != 2) = true := by simpa using (by omega : ¬ (((wLining :: ws).length : Nat) : Int) = 2)
        simp only [hb, if_true]
        have hc : countB 1 (wLining :: ws).length = false := by unfold countB; rw [if_neg (by decide), if_neg (by decide)]; exact decide_eq_false hl
        rw [probZ_cons, h1, hc]; rfl
    · subst h2
      rw [styleW_contains (by simp)]
      simp only [Bool.not_true, Bool.false_eq_true, if_false, i0, Option.bind_some, show (wSole == [117, 112, 112, 101, 114]) = false from rfl, show (wSole == [108, 105, 110, 105, 110, 103]) = false from rfl, show (wSole == [115, 111, 108, 101]) = true from rfl, show (wSole == [104, 101, 101, 108]) = false from rfl, show (wSole == [101, 121, 101, 108, 101, 116, 115]) = false from rfl, show (wSole == [115, 116, 105, 116, 99, 104]) = false from rfl, if_true]
      by_cases hl : (wSole :: ws).length = 3
      · match ws, hl, hm with
        | [w1, w2], _, hm =>
          have j1 : idx [wSole, w1, w2] 1 = some w1 := rfl
          have n1 := p_implIsName n w1 (hm w1 (by simp)) hn
          have j2 : idx [wSole, w1, w2] 2 = some w2 := rfl
          have n2 := p_implIsName n w2 (hm w2 (by simp)) hn
          have hlb : ((([wSole, w1, w2] : List (List UInt8)).length : Int) != 3) = false := rfl
          simp only [hlb, Bool.false_eq_true, if_false, j1, j2, n1, p_isNumber, Option.bind_some]
          rw [probZ_cons, h1]
          simp only [countB, fineB, List.length_cons, List.length_nil, List.getD_eq_getElem?_getD, List.getElem?_cons_succ, List.getElem?_cons_zero, Option.getD_some]
          cases nameB w1 <;> cases numB w2 10 300 <;> rfl
      · have hb : (((((wSole :: ws).length : Nat)) : Int) != 3) = true := by simpa using (by omega : ¬ (((wSole :: ws).length : Nat) : Int) = 3)
        simp only [hb, if_true]
        have hc : countB 2 (wSole :: ws).length = false := by unfold countB; rw [if_pos (.inr rfl)]; exact decide_eq_false hl
        rw [probZ_cons, h1, hc]; rfl
    · subst h2
      rw [styleW_contains (by simp)]
      simp only [Bool.not_true, Bool.false_eq_true, if_false, i0, Option.bind_some, show (wHeel == [117, 112, 112, 101, 114]) = false from rfl, show (wHeel == [108, 105, 110, 105, 110, 103]) = false from rfl, show (wHeel == [115, 111, 108, 101]) = false from rfl, show (wHeel == [104, 101, 101, 108]) = true from rfl, show (wHeel == [101, 121, 101, 108, 101, 116, 115]) = false from rfl, show (wHeel == [115, 116, 105, 116, 99, 104]) = false from rfl, if_true]
      by_cases hl : (wHeel :: ws).length = 2
      · match ws, hl, hm with
        | [w1], _, hm =>
          have j1 : idx [wHeel, w1] 1 = some w1 := rfl
          have n1 := p_implIsName n w1 (hm w1 (by simp)) hn
          have hlb : ((([wHeel, w1] : List (List UInt8)).length : Int) != 2) = false := rfl
          simp only [hlb, Bool.false_eq_true, if_false, j1, p_isNumber, Option.bind_some]
          rw [probZ_cons, h1]
          simp only [countB, fineB, List.length_cons, List.length_nil, List.getD_eq_getElem?_getD, List.getElem?_cons_succ, List.getElem?_cons_zero, Option.getD_some]
          cases numB w1 0 1200 <;> rfl
      · have hb : (((((wHeel :: ws).length : Nat)) : Int) != 2) = true := by simpa using (by omega : ¬ (((wHeel :: ws).length : Nat) : Int) = 2)
        simp only [hb, if_true]
        have hc : countB 3 (wHeel :: ws).length = false := by unfold countB; rw [if_neg (by decide), if_neg (by decide)]; exact decide_eq_false hl
        rw [probZ_cons, h1, hc]; rfl
    · subst h2
      rw [styleW_contains (by simp)]
      simp only [Bool.not_true, Bool.false_eq_true, if_false, i0, Option.bind_some, show (wEyelets == [117, 112, 112, 101, 114]) = false from rfl, show (wEyelets == [108, 105, 110, 105, 110, 103]) = false from rfl, show (wEyelets == [115, 111, 108, 101]) = false from rfl, show (wEyelets == [104, 101, 101, 108]) = false from rfl, show (wEyelets == [101, 121, 101, 108, 101, 116, 115]) = true from rfl, show (wEyelets == [115, 116, 105, 116, 99, 104]) = false from rfl, if_true]
      by_cases hl : (wEyelets :: ws).length = 2
      · match ws, hl, hm with
        | [w1], _, hm =>
          have j1 : idx [wEyelets, w1] 1 = some w1 := rfl
          have n1 := p_implIsName n w1 (hm w1 (by simp)) hn
          have hlb : ((([wEyelets, w1] : List (List UInt8)).length : Int) != 2) = false := rfl
          simp only [hlb, Bool.false_eq_true, if_false, j1, p_isNumber, Option.bind_some]
          rw [probZ_cons, h1]
          simp only [countB, fineB, List.length_cons, List.length_nil, List.getD_eq_getElem?_getD, List.getElem?_cons_succ, List.getElem?_cons_zero, Option.getD_some]
          cases numB w1 1 12 <;> rfl
      · have hb : (((((wEyelets :: ws).length : Nat)) : Int) != 2) = true := by simpa using (by omega : ¬ (((wEyelets :: ws).length : Nat) : Int) = 2)
        simp only [hb, if_true]
        have hc : countB 4 (wEyelets :: ws).length = false := by unfold countB; rw [if_neg (by decide), if_neg (by decide)]; exact decide_eq_false hl
        rw [probZ_cons, h1, hc]; rfl
    · subst h2
      rw [styleW_contains (by simp)]
      simp only [Bool.not_true, Bool.false_eq_true, if_false, i0, Option.bind_some, show (wStitch == [117, 112, 112, 101, 114]) = false from rfl, show (wStitch == [108, 105, 110, 105, 110, 103]) = false from rfl, show (wStitch == [115, 111, 108, 101]) = false from rfl, show (wStitch == [104, 101, 101, 108]) = false from rfl, show (wStitch == [101, 121, 101, 108, 101, 116, 115]) = false from rfl, show (wStitch == [115, 116, 105, 116, 99, 104]) = true from rfl, if_true]
      by_cases hl3 : (wStitch :: ws).length = 3
      · match ws, hl3, hm with
        | [w1, w2], _, hm =>
          have j1 : idx [wStitch, w1, w2] 1 = some w1 := rfl
          have n1 := p_implIsName n w1 (hm w1 (by simp)) hn
          have j2 : idx [wStitch, w1, w2] 2 = some w2 := rfl
          have n2 := p_implIsName n w2 (hm w2 (by simp)) hn
          have hlb : ((([wStitch, w1, w2] : List (List UInt8)).length : Int) != 3) = false := rfl
          have h3 : ((([wStitch, w1, w2] : List (List UInt8)).length : Int) == 3) = true := rfl
          have h2' : ((([wStitch, w1, w2] : List (List UInt8)).length : Int) == 2) = false := rfl
          simp only [h3, h2', hlb, if_true, Bool.false_eq_true, if_false, j1, j2, p_isNumber, Option.bind_some]
          rw [probZ_cons, h1]
          simp only [countB, fineB, List.length_cons, List.length_nil, List.getD_eq_getElem?_getD, List.getElem?_cons_succ, List.getElem?_cons_zero, Option.getD_some]
          have : (w2 == wDouble) = (w2 == [100, 111, 117, 98, 108, 101]) := rfl
          rw [this]
          generalize (w2 == [100, 111, 117, 98, 108, 101]) = q
          cases numB w1 10 80 <;> cases q <;> rfl
      · have h3 : ((((wStitch :: ws).length : Nat) : Int) == 3) = false := by simpa using (by omega : ¬ (((wStitch :: ws).length : Nat) : Int) = 3)
        simp only [h3, Bool.false_eq_true, if_false, Option.bind_some]
        by_cases hl : (wStitch :: ws).length = 2
        · match ws, hl, hm with
          | [w1], _, hm =>
            have j1 : idx [wStitch, w1] 1 = some w1 := rfl
            have hlb : ((([wStitch, w1] : List (List UInt8)).length : Int) != 2) = false := rfl
            have h2' : ((([wStitch, w1] : List (List UInt8)).length : Int) == 2) = true := rfl
            simp only [hlb, h2', if_true, Bool.false_eq_true, if_false, j1, p_isNumber, Option.bind_some]
            rw [probZ_cons, h1]
            simp only [countB, fineB, List.length_cons, List.length_nil, List.getD_eq_getElem?_getD, List.getElem?_cons_succ, List.getElem?_cons_zero, Option.getD_some]
            cases numB w1 10 80 <;> rfl
        · have hb : ((((wStitch :: ws).length : Nat) : Int) != 2) = true := by simpa using (by omega : ¬ (((wStitch :: ws).length : Nat) : Int) = 2)
          simp only [hb, if_true]
          have hc : countB 5 (wStitch :: ws).length = false := by unfold countB; rw [if_neg (by decide), if_pos rfl]; exact decide_eq_false (by omega)
          rw [probZ_cons, h1, hc]; rfl

/-! ### All problems -/

/-- What is known behind i clauses. -/
def stepT (i : Nat) (b : List STrouble × List (List UInt8)) (s : List UInt8) : List STrouble × List (List UInt8) :=
  let p := probZ (wordsL s)
  let c : Int := if (p == 0) && b.2.contains (headW (wordsL s)) then 5 else p
  (if c == 0 then b.1 else b.1 ++ [⟨(i : Int), c⟩], b.2 ++ [headW (wordsL s)])

def atT (l : List (List UInt8)) : Nat → List STrouble × List (List UInt8)
  | 0 => ([], [])
  | i + 1 => stepT i (atT l i) (l.getD i [])

/-- A loop that goes N rounds, each of which keeps J. -/
theorem loopN_keep {σ τ : Type} {body : σ → Option (Step σ τ)} (J : Nat → σ → Prop) (N : Nat) (R : τ → Prop) (hstep : ∀ i s, i < N → J i s → ∃ s', body s = some (.next s') ∧ J (i + 1) s')
    (hend : ∀ s, J N s → ∃ t, body s = some (.done t) ∧ R t) (n : Nat) (hn : N < n) (s : σ) (h0 : J 0 s) : ∃ t, loopN body n s = some t ∧ R t := by
  have key : ∀ (j n : Nat) (s : σ), j ≤ N → j < n → J (N - j) s → ∃ t, loopN body n s = some t ∧ R t := by
    intro j
    induction j with
    | zero =>
      intro n s _ hn hJ
      obtain ⟨m, rfl⟩ : ∃ m, n = m + 1 := ⟨n - 1, by omega⟩
      obtain ⟨t, h1, h2⟩ := hend s hJ
      exact ⟨t, by simp [loopN, h1], h2⟩
    | succ j ih =>
      intro n s hj hn hJ
      obtain ⟨m, rfl⟩ : ∃ m, n = m + 1 := ⟨n - 1, by omega⟩
      obtain ⟨s', h1, h2⟩ := hstep _ s (by omega) hJ
      obtain ⟨t, h3, h4⟩ := ih m s' (by omega) (by omega) (by rw [show N - (j + 1) + 1 = N - j by omega] at h2; exact h2)
      exact ⟨t, by simp only [loopN, h1, Option.bind_some]; exact h3, h4⟩
  exact key N n s (Nat.le_refl _) hn (by rw [Nat.sub_self]; exact h0)

theorem len_if (c : Bool) (x : List STrouble) (y : STrouble) : (if c then x else x ++ [y]).length ≤ x.length + 1 := by cases c <;> simp

theorem atT_len (l : List (List UInt8)) : ∀ i, (atT l i).1.length ≤ i ∧ (atT l i).2.length = i
  | 0 => by simp [atT]
  | i + 1 => by
    have := atT_len l i
    unfold atT stepT
    exact ⟨Nat.le_trans (len_if _ _ _) (by omega), by simp [this.2]⟩

theorem p_implLoop (n : Nat) (l : List (List UInt8)) (hl : l.length ≤ 400) (hs : ∀ s ∈ l, s.length ≤ 1500000) (hn : 1048576 < n) : loopN (m_impl_troubles_l1 n l) n (([] : List STrouble), ([] : List (List UInt8)), 0) = some (atT l l.length) := by
  have ap : ∀ (i : Nat) (x : List STrouble) (y : STrouble), i < 400 → x.length ≤ i → app x [y] = some (x ++ [y]) := fun i x y hi h => app_eq (by simp; omega)
  have key := loopN_run (body := m_impl_troubles_l1 n l) (fun i => ((atT l i).1, (atT l i).2, (i : Int))) (atT l l.length) l.length
    (fun i hi => by
      have hx : l[i]? = some (l.getD i []) := getD_of hi []
      have hsx := hs _ (List.mem_of_getElem? hx)
      obtain ⟨a1, a2⟩ := atT_len l i
      show m_impl_troubles_l1 n l ((atT l i).1, (atT l i).2, (i : Int)) = some (Step.next ((stepT i (atT l i) (l.getD i [])).1, (stepT i (atT l i) (l.getD i [])).2, ((i + 1 : Nat) : Int)))
      unfold m_impl_troubles_l1
      simp only [ltB hi, if_true, idx_nat, hx, Option.bind_some, p_clauseProblem n _ hsx hn, p_clauseWord n _ hsx, p_Contains n _ _ (by omega : (atT l i).2.length ≤ 1048576) hn, succ64 hi (by omega)]
      unfold stepT
      have aq : app (atT l i).2 [headW (wordsL (l.getD i []))] = some ((atT l i).2 ++ [headW (wordsL (l.getD i []))]) := app_eq (by simp; omega)
      rw [aq]
      generalize probZ (wordsL (l.getD i [])) = p
      generalize (atT l i).2.contains (headW (wordsL (l.getD i []))) = q
      have ap2 := fun y => ap i (atT l i).1 y (by omega) a1
      by_cases hp : p = 0
      · subst hp
        cases q <;> simp [ap2]
      · have hp2 : (p == 0) = false := by simpa using hp
        simp [hp, hp2, ap2])
    (by unfold m_impl_troubles_l1; simp) n (by omega)
  exact key

end Go.Gv
