/- Plain laws: names. -/
import Derived.Test.YtkpdicajinionaaGreatDoorPa
namespace Go.Gv
open Go Go.RowKit

def smC (c : UInt8) : Bool := decide (97 ≤ c.toNat) && decide (c.toNat ≤ 122)
def dgC (c : UInt8) : Bool := decide (48 ≤ c.toNat) && decide (c.toNat ≤ 57)
def nmC (c : UInt8) : Bool := smC c || dgC c || decide (c.toNat = 45)
/-- A name. -/
def nameB (s : List UInt8) : Bool := (match s with | [] => false | c :: _ => smC c) && decide (s.length ≤ 12) && s.all nmC

theorem p_l01Small (n : Nat) (c : UInt8) : m_spec_l01Small n (c.toNat : Int) = some (smC c) := by
  unfold m_spec_l01Small smC
  by_cases h : 97 ≤ c.toNat
  · have e1 : decide ((c.toNat : Int) ≥ 97) = true := decide_eq_true (by omega)
    have e2 : decide ((c.toNat : Int) ≤ 122) = decide (c.toNat ≤ 122) := decide_eq_decide.2 (by omega)
    simp only [e1, e2, h, if_true, decide_true, Bool.true_and, Option.bind_some]
  · have e1 : decide ((c.toNat : Int) ≥ 97) = false := decide_eq_false (by omega)
    simp only [e1, h, Bool.false_eq_true, if_false, decide_false, Bool.false_and, Option.bind_some]

theorem p_l01DigitC (n : Nat) (c : UInt8) : m_spec_l01Digit n (c.toNat : Int) = some (dgC c) := by
  unfold m_spec_l01Digit dgC
  by_cases h : 48 ≤ c.toNat
  · have e1 : decide ((c.toNat : Int) ≥ 48) = true := decide_eq_true (by omega)
    have e2 : decide ((c.toNat : Int) ≤ 57) = decide (c.toNat ≤ 57) := decide_eq_decide.2 (by omega)
    simp only [e1, e2, h, if_true, decide_true, Bool.true_and, Option.bind_some]
  · have e1 : decide ((c.toNat : Int) ≥ 48) = false := decide_eq_false (by omega)
    simp only [e1, h, Bool.false_eq_true, if_false, decide_false, Bool.false_and, Option.bind_some]

theorem ne45 (c : UInt8) : ((c.toNat : Int) != 45) = !decide (c.toNat = 45) := by
  by_cases h : c.toNat = 45
  · rw [h]; rfl
  · have : ¬ ((c.toNat : Int) = 45) := by omega
    simp [h, bne, this]

theorem name_step (n : Nat) (s : List UInt8) {i : Nat} {c : UInt8} (hx : s[i]? = some c) (hl : s.length ≤ 1048576) : m_spec_IsName_l1 n s (i : Int) = some (if nmC c then .next ((i + 1 : Nat) : Int) else .done (.inr false)) := by
  have hlt := lt_of_get hx
  unfold m_spec_IsName_l1 nmC
  simp only [ltB hlt, if_true, idx_nat, hx, Option.bind_some, p_l01Small, p_l01DigitC, ne45, succ64 hlt (by omega)]
  cases smC c <;> cases dgC c <;> by_cases h : c.toNat = 45 <;> simp [h]

theorem nameI_step (n : Nat) (s : List UInt8) {i : Nat} {c : UInt8} (hx : s[i]? = some c) (hl : s.length ≤ 1048576) : m_impl_IsName_l1 n s (i : Int) = some (if nmC c then .next ((i + 1 : Nat) : Int) else .done (.inr false)) := by
  have hlt := lt_of_get hx
  have e1 : decide ((c.toNat : Int) < 97) = decide (c.toNat < 97) := decide_eq_decide.2 (by omega)
  have e2 : decide ((c.toNat : Int) < 48) = decide (c.toNat < 48) := decide_eq_decide.2 (by omega)
  have e3 : decide ((c.toNat : Int) > 57) = decide (57 < c.toNat) := decide_eq_decide.2 (by omega)
  have e4 : decide ((c.toNat : Int) > 122) = decide (122 < c.toNat) := decide_eq_decide.2 (by omega)
  unfold m_impl_IsName_l1 nmC smC dgC
  simp only [ltB hlt, if_true, idx_nat, hx, Option.bind_some, ne45, e1, e2, e3, e4, succ64 hlt (by omega)]
  by_cases h1 : c.toNat < 97
  · have g1 : ¬ 97 ≤ c.toNat := by omega
    by_cases h2 : c.toNat < 48
    · have g2 : ¬ 48 ≤ c.toNat := by omega
      by_cases h : c.toNat = 45 <;> simp [h1, h2, g1, g2, h]
    · have g2 : 48 ≤ c.toNat := by omega
      by_cases h3 : 57 < c.toNat
      · have g3 : ¬ c.toNat ≤ 57 := by omega
        by_cases h : c.toNat = 45 <;> simp [h1, h2, h3, g1, g2, g3, h]
      · have g3 : c.toNat ≤ 57 := by omega
        simp [h1, h2, h3, g1, g2, g3]
  · have g1 : 97 ≤ c.toNat := by omega
    have g2 : 57 < c.toNat := by omega
    have g3 : ¬ c.toNat < 48 := by omega
    have g5 : ¬ c.toNat ≤ 57 := by omega
    have g6 : ¬ c.toNat = 45 := by omega
    by_cases h4 : 122 < c.toNat
    · have g4 : ¬ c.toNat ≤ 122 := by omega
      simp [h1, h4, g1, g2, g3, g4, g5, g6]
    · have g4 : c.toNat ≤ 122 := by omega
      simp [h1, h4, g1, g4]

theorem p_specIsName (n : Nat) (s : List UInt8) (hl : s.length ≤ 9223372036854775807) (hn : 1048576 < n) : m_spec_IsName n s = some (nameB s) := by
  unfold m_spec_IsName
  cases s with
  | nil => simp [nameB]
  | cons c t =>
    have hne : ((c :: t) == ([] : List UInt8)) = false := rfl
    simp only [hne, Bool.false_eq_true, if_false]
    by_cases h12 : (c :: t).length ≤ 12
    · have e1 : decide (((c :: t).length : Int) > 12) = false := decide_eq_false (by omega)
      simp only [e1, Bool.false_eq_true, if_false, idx_zero, List.getElem?_cons_zero, Option.bind_some, p_l01Small]
      cases hs : smC c with
      | false => simp [nameB, hs]
      | true =>
        have := loopN_listAll (body := m_spec_IsName_l1 n (c :: t)) (c :: t) nmC (fun i => (i : Int)) (.inl ()) (.inr false) (fun i x hx => name_step n _ hx (by omega)) (by unfold m_spec_IsName_l1; simp) n (by omega)
        have h2 : loopN (m_spec_IsName_l1 n (c :: t)) n 0 = _ := this
        simp only [Bool.not_true, Bool.false_eq_true, if_false, h2, Option.bind_some, nameB, hs, h12, decide_true, Bool.true_and]
        cases (c :: t).all nmC <;> rfl
    · have e1 : decide (((c :: t).length : Int) > 12) = true := decide_eq_true (by omega)
      simp only [e1, if_true, Option.bind_some, nameB, h12, decide_false, Bool.and_false, Bool.false_and]

theorem p_implIsName (n : Nat) (s : List UInt8) (hl : s.length ≤ 9223372036854775807) (hn : 1048576 < n) : m_impl_IsName n s = some (nameB s) := by
  unfold m_impl_IsName
  cases s with
  | nil => simp [nameB]
  | cons c t =>
    have hne : decide (((c :: t).length : Int) < 1) = false := decide_eq_false (by simp; omega)
    simp only [hne, Bool.false_eq_true, if_false]
    by_cases h12 : (c :: t).length ≤ 12
    · have e1 : decide (((c :: t).length : Int) > 12) = false := decide_eq_false (by omega)
      simp only [e1, Bool.false_eq_true, if_false, idx_zero, List.getElem?_cons_zero, Option.bind_some]
      have hc : (if decide ((c.toNat : Int) < 97) then some true else some (decide ((c.toNat : Int) > 122))) = some (!smC c) := by
        unfold smC
        by_cases h1 : c.toNat < 97
        · have : decide ((c.toNat : Int) < 97) = true := decide_eq_true (by omega)
          have g : ¬ 97 ≤ c.toNat := by omega
          simp [this, g]
        · have : decide ((c.toNat : Int) < 97) = false := decide_eq_false (by omega)
          have g : 97 ≤ c.toNat := by omega
          by_cases h2 : c.toNat ≤ 122
          · have e2 : decide ((c.toNat : Int) > 122) = false := decide_eq_false (by omega)
            simp only [this, Bool.false_eq_true, if_false, e2, g, h2, decide_true, Bool.and_self, Bool.not_true]
          · have e2 : decide ((c.toNat : Int) > 122) = true := decide_eq_true (by omega)
            simp only [this, Bool.false_eq_true, if_false, e2, g, h2, decide_true, decide_false, Bool.and_false, Bool.not_false]
      rw [hc]
      cases hs : smC c with
      | false => simp [nameB, hs]
      | true =>
        have := loopN_listAll (body := m_impl_IsName_l1 n (c :: t)) t nmC (fun i => ((i + 1 : Nat) : Int)) (.inl ()) (.inr false) (fun i x hx => nameI_step n (c :: t) (i := i + 1) (by simpa using hx) (by omega)) (by unfold m_impl_IsName_l1; simp) n (by simp at h12; omega)
        have h2 : loopN (m_impl_IsName_l1 n (c :: t)) n 1 = _ := this
        have hnc : nmC c = true := by simp [nmC, hs]
        simp only [Option.bind_some, Bool.not_true, Bool.false_eq_true, if_false, h2, nameB, hs, h12, decide_true, Bool.true_and, List.all_cons, hnc]
        cases t.all nmC <;> rfl
    · have e1 : decide (((c :: t).length : Int) > 12) = true := decide_eq_true (by omega)
      simp only [e1, if_true, Option.bind_some, nameB, h12, decide_false, Bool.and_false, Bool.false_and]

end Go.Gv
