/- Plain laws of wear: the program's functions and the reference's come to the same lists. -/
import Derived.Test.YtoljnpoiclklpaaPa
namespace Go.Gv
open Go Go.RowKit

theorem lt_of_get {α : Type} {xs : List α} {i : Nat} {x : α} (h : xs[i]? = some x) : i < xs.length := by
  rcases Nat.lt_or_ge i xs.length with hl | hl
  · exact hl
  · rw [List.getElem?_eq_none hl] at h; cases h

theorem succ64 {i N : Nat} (h : i < N) (hN : N ≤ 9223372036854775807) : wI64 ((i : Int) + 1) = ((i + 1 : Nat) : Int) := by
  rw [wI64_eq (by omega) (by omega)]; omega

theorem ltB {i N : Nat} (h : i < N) : decide ((i : Int) < (N : Int)) = true := by simp; omega
theorem ltB_self (N : Nat) : decide ((N : Int) < (N : Int)) = false := by simp

def dig (c : UInt8) : Bool := decide (48 ≤ c.toNat) && decide (c.toNat ≤ 57)
def rowB (m : Nat) (r : List UInt8) : Bool := (r.length == m) && (decide (2 ≤ r.length) && decide (r.length ≤ 8)) && r.all dig
/-- A wear map. -/
def wearB (rows : List (List UInt8)) : Bool := decide (2 ≤ rows.length) && decide (rows.length ≤ 12) && rows.all (rowB (rows.headD []).length)

theorem p_l01Digit (n : Nat) (c : UInt8) : m_spec_l01Digit n (c.toNat : Int) = some (dig c) := by
  unfold m_spec_l01Digit dig
  by_cases h : 48 ≤ c.toNat
  · have : decide ((c.toNat : Int) ≥ 48) = true := by simp; omega
    rw [this]; simp [h]; omega
  · have : decide ((c.toNat : Int) ≥ 48) = false := by simp; omega
    rw [this]; simp [h]

theorem p_l20Ok (n : Nat) (rows : List (List UInt8)) (hr : rows.length ≤ 1048576) (hs : ∀ r ∈ rows, r.length ≤ 1048576) (hn : 1048576 < n) : m_spec_l20Ok n rows = some (wearB rows) := by
  obtain ⟨m, hm⟩ : ∃ m, m = (rows.headD []).length := ⟨_, rfl⟩
  have h1 := loopN_listAll (body := m_spec_l20Ok_l1 n rows) rows (rowB m) (fun i => (i : Int)) (.inl ()) (.inr false)
    (fun i x hx => by
      have hlt := lt_of_get hx
      obtain ⟨r0, h0, hr0⟩ : ∃ r0, rows[0]? = some r0 ∧ r0.length = m := by cases rows with
        | nil => simp at hlt
        | cons y ys => exact ⟨y, rfl, hm.symm⟩
      have hxl := hs x (List.mem_of_getElem? hx)
      unfold m_spec_l20Ok_l1
      simp only [ltB hlt, if_true, idx_nat, idx_zero, hx, h0, Option.bind_some, p_l00In, hr0]
      have inner := loopN_listAll (body := m_spec_l20Ok_l2 n rows (i : Int)) x dig (fun j => (j : Int)) (.inl ()) (.inr false)
        (fun j c hc => by
          have hj := lt_of_get hc
          unfold m_spec_l20Ok_l2
          simp only [idx_nat, hx, Option.bind_some, ltB hj, if_true, hc, p_l01Digit, succ64 hj (by omega)]
          cases dig c <;> simp)
        (by unfold m_spec_l20Ok_l2; simp only [idx_nat, hx, Option.bind_some, ltB_self]; simp) n (by omega)
      have inner' : loopN (m_spec_l20Ok_l2 n rows (i : Int)) n 0 = _ := inner
      by_cases e1 : x.length = m
      · have e1' : ((x.length : Int) != (m : Int)) = false := by simp [e1]
        rw [e1']
        by_cases e2 : 2 ≤ x.length <;> by_cases e3 : x.length ≤ 8
        · have a1 : decide ((2 : Int) ≤ (x.length : Int)) = true := by simp; omega
          have a2 : decide ((x.length : Int) ≤ 8) = true := by simp; omega
          simp only [a1, a2, Bool.false_eq_true, if_false, Option.bind_some, Bool.and_self, Bool.not_true, inner', succ64 hlt (by omega)]
          have eb : rowB m x = x.all dig := by
            have q1 : decide (2 ≤ x.length) = true := by simp [e2]
            have q2 : decide (x.length ≤ 8) = true := by simp [e3]
            unfold rowB; rw [q1, q2, e1]; simp
          rw [eb]
          cases hx2 : x.all dig <;> simp
        · have a2 : decide ((x.length : Int) ≤ 8) = false := by simp; omega
          simp [a2, rowB, e3]
        · have a1 : decide ((2 : Int) ≤ (x.length : Int)) = false := by simp; omega
          simp [a1, rowB, e2]
        · have a1 : decide ((2 : Int) ≤ (x.length : Int)) = false := by simp; omega
          simp [a1, rowB, e2]
      · have e1' : ((x.length : Int) != (m : Int)) = true := by simp; omega
        have eb : rowB m x = false := by simp [rowB, e1]
        rw [e1', eb]; simp)
    (by unfold m_spec_l20Ok_l1; simp) n (by omega)
  have h1' : loopN (m_spec_l20Ok_l1 n rows) n 0 = _ := h1
  unfold m_spec_l20Ok
  rw [h1']
  unfold wearB
  rw [← hm]
  cases ha : rows.all (rowB m)
  · simp
  · simp only [if_true, Option.bind_some, p_l00In, Bool.and_true]
    congr 2 <;> simp <;> omega

theorem p_implValidWear (n : Nat) (rows : List (List UInt8)) (hr : rows.length ≤ 1048576) (hs : ∀ r ∈ rows, r.length ≤ 1048576) (hn : 1048576 < n) : m_impl_ValidWear n rows = some (wearB rows) := by
  obtain ⟨m, hm⟩ : ∃ m, m = (rows.headD []).length := ⟨_, rfl⟩
  unfold m_impl_ValidWear
  rw [p_within]
  simp only [Option.bind_some]
  by_cases c1 : 2 ≤ rows.length ∧ rows.length ≤ 12
  · obtain ⟨c1, c2⟩ := c1
    have a1 : decide ((2 : Int) ≤ (rows.length : Int)) = true := by simp; omega
    have a2 : decide ((rows.length : Int) ≤ 12) = true := by simp; omega
    obtain ⟨r0, h0, hr0⟩ : ∃ r0, rows[0]? = some r0 ∧ r0.length = m := by cases rows with
      | nil => simp at c1
      | cons y ys => exact ⟨y, rfl, hm.symm⟩
    simp only [a1, a2, Bool.and_self, Bool.not_true, Bool.false_eq_true, if_false, idx_zero, h0, Option.bind_some, p_within, hr0]
    have hw : wearB rows = rows.all (rowB m) := by unfold wearB; rw [← hm]; simp [c1, c2]
    rw [hw]
    by_cases d : 2 ≤ m ∧ m ≤ 8
    · have b1 : decide ((2 : Int) ≤ (m : Int)) = true := by simp; omega
      have b2 : decide ((m : Int) ≤ 8) = true := by simp; omega
      simp only [b1, b2, Bool.and_self, Bool.not_true, Bool.false_eq_true, if_false]
      have h1 := loopN_listAll (body := m_impl_ValidWear_l1 n rows) rows (rowB m) (fun i => (i : Int)) (.inl ()) (.inr false)
        (fun i x hx => by
          have hlt := lt_of_get hx
          have hxl := hs x (List.mem_of_getElem? hx)
          unfold m_impl_ValidWear_l1
          simp only [ltB hlt, if_true, idx_nat, idx_zero, hx, h0, Option.bind_some, hr0]
          have inner := loopN_listAll (body := m_impl_ValidWear_l2 n x) x dig (fun j => (j : Int)) (.inl ()) (.inr false)
            (fun j c hc => by
              have hj := lt_of_get hc
              unfold m_impl_ValidWear_l2
              simp only [idx_nat, ltB hj, if_true, hc, Option.bind_some, succ64 hj (by omega)]
              by_cases g1 : c.toNat < 48
              · have q1 : decide ((c.toNat : Int) < 48) = true := by simp; omega
                have q2 : dig c = false := by simp [dig]; omega
                simp [q1, q2]
              · have q1 : decide ((c.toNat : Int) < 48) = false := by simp; omega
                by_cases g2 : c.toNat ≤ 57
                · have q3 : decide ((c.toNat : Int) > 57) = false := by simp; omega
                  have q2 : dig c = true := by simp [dig]; omega
                  simp [q1, q2, q3]
                · have q3 : decide ((c.toNat : Int) > 57) = true := by simp; omega
                  have q2 : dig c = false := by simp [dig]; omega
                  simp [q1, q2, q3])
            (by unfold m_impl_ValidWear_l2; simp) n (by omega)
          have inner' : loopN (m_impl_ValidWear_l2 n x) n 0 = _ := inner
          by_cases e1 : x.length = m
          · have e1' : ((x.length : Int) != (m : Int)) = false := by simp [e1]
            have eb : rowB m x = x.all dig := by simp [rowB, e1, d.1, d.2]
            rw [e1', eb]
            simp only [Bool.false_eq_true, if_false, inner', Option.bind_some, succ64 hlt (by omega)]
            cases hx2 : x.all dig <;> simp
          · have e1' : ((x.length : Int) != (m : Int)) = true := by simp; omega
            have eb : rowB m x = false := by simp [rowB, e1]
            rw [e1', eb]; simp)
        (by unfold m_impl_ValidWear_l1; simp) n (by omega)
      have h1' : loopN (m_impl_ValidWear_l1 n rows) n 0 = _ := h1
      rw [h1']
      cases ha : rows.all (rowB m) <;> simp
    · have hf : rows.all (rowB m) = false := by
        rw [List.all_eq_false]
        refine ⟨r0, List.mem_of_getElem? h0, ?_⟩
        simp [rowB, hr0]; omega
      rw [hf]
      by_cases d1 : 2 ≤ m
      · have b2 : decide ((m : Int) ≤ 8) = false := by simp; omega
        simp [b2]
      · have b1 : decide ((2 : Int) ≤ (m : Int)) = false := by simp; omega
        simp [b1]
  · have hf : wearB rows = false := by
      unfold wearB
      by_cases c2 : 2 ≤ rows.length
      · have : ¬ rows.length ≤ 12 := fun h => c1 ⟨c2, h⟩
        simp [this]
      · simp [c2]
    rw [hf]
    by_cases c2 : 2 ≤ rows.length
    · have b2 : decide ((rows.length : Int) ≤ 12) = false := by simp; omega
      simp [b2]
    · have b1 : decide ((2 : Int) ≤ (rows.length : Int)) = false := by simp; omega
      simp [b1]

theorem mem_le_total {rows : List (List UInt8)} {r : List UInt8} (h : r ∈ rows) : r.length ≤ total rows := by
  induction rows with
  | nil => simp at h
  | cons y ys ih =>
    simp only [total, List.map_cons, List.sum_cons] at ih ⊢
    rcases List.mem_cons.1 h with rfl | h
    · omega
    · have := ih h; omega

/-- The statement on ValidWear. -/
theorem law_ValidWear (rows : List (List UInt8)) (hl : rows.length ≤ 9223372036854775807) (hs : ∀ r ∈ rows, strok r) : m_laws_FnExactValidWear 2000000 rows = some true := by
  unfold m_laws_FnExactValidWear
  obtain ⟨v, hv, hcase⟩ := p_szStringS 2000000 rows 1048576 (by omega) (by omega) hl hs (by omega)
  rw [hv]
  simp only [Option.bind_some]
  rcases hcase with h | ⟨h, he⟩
  · simp [h]
  · have hd : decide (v < 0) = false := by simp; omega
    have hlen : rows.length ≤ 1048576 := by omega
    have hrs : ∀ r ∈ rows, r.length ≤ 1048576 := fun r hr => by have := mem_le_total hr; omega
    simp only [hd, Bool.false_eq_true, if_false, p_toStringS 2000000 rows hlen (by omega), Option.bind_some, m_spec_ValidWear, p_l20Ok 2000000 rows hlen hrs (by omega), p_implValidWear 2000000 rows hlen hrs (by omega), p_eqStringS 2000000 rows hlen (by omega)]
    simp

end Go.Gv
