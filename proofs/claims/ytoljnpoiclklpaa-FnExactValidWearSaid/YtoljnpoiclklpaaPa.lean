/- Plain laws of what all statements share: ranges, copies of lists of texts and numbers, comparisons, marks. -/
import Derived.Test.YtoljnpoiclklpaaPu
import Derived.Test.YtoljnpoiclklpaaMo
namespace Go.Gv
open Go Go.RowKit

theorem p_l00In (n : Nat) (a b c : Int) : m_spec_l00In n a b c = some (decide (b ≤ a) && decide (a ≤ c)) := by
  unfold m_spec_l00In
  by_cases h : b ≤ a <;> simp [h]
theorem p_within (n : Nat) (a b c : Int) : m_impl_within n a b c = some (decide (b ≤ a) && decide (a ≤ c)) := by
  unfold m_impl_within
  by_cases h : b ≤ a <;> simp [h]

/-! texts -/

def total (rows : List (List UInt8)) : Nat := (rows.map List.length).sum

theorem p_szStringS (n : Nat) (rows : List (List UInt8)) (L : Int) (h0 : 0 ≤ L) (h1 : L ≤ 1048576) (hl : rows.length ≤ 9223372036854775807) (hs : ∀ r ∈ rows, strok r) (hn : 1048576 < n) :
    ∃ v, m_laws_szStringS n rows L = some v ∧ (v < 0 ∨ (0 ≤ v ∧ v = L - rows.length - total rows)) := by
  unfold m_laws_szStringS
  have w1 : wI64 (L - (rows.length : Int)) = L - rows.length := wI64_eq (by omega) (by omega)
  rw [w1]
  by_cases hneg : L - (rows.length : Int) < 0
  · exact ⟨-1, by simp [hneg], .inl (by omega)⟩
  · simp only [hneg, decide_false, Bool.false_eq_true, if_false]
    have hrun := loopN_runL (body := m_laws_szStringS_l1 n rows) rows (fun _ (b : Int) (x : List UInt8) => if b - x.length < 0 then .error (.inr (-1)) else .ok (b - x.length)) (L - rows.length) (fun i b => (b, (i : Int))) (fun b => .inl b)
      (fun i b => 0 ≤ b ∧ b ≤ 1048576 ∧ b = L - rows.length - total (rows.take i)) ⟨by omega, by omega, by simp [total]⟩
      (fun i x b hx ⟨hb0, hb1, hb2⟩ => by
        have hlt : i < rows.length := by
          rcases Nat.lt_or_ge i rows.length with h | h
          · exact h
          · rw [List.getElem?_eq_none h] at hx; cases hx
        have hxs := hs x (List.mem_of_getElem? hx)
        unfold strok at hxs
        have w2 : wI64 (b - (x.length : Int)) = b - x.length := wI64_eq (by omega) (by omega)
        have w3 : wI64 ((i : Int) + 1) = ((i + 1 : Nat) : Int) := by rw [wI64_eq (by omega) (by omega)]; omega
        have hb : decide ((i : Int) < (rows.length : Int)) = true := by simp; omega
        unfold m_laws_szStringS_l1
        simp only [hb, if_true, idx_nat, hx, Option.bind_some, w2, w3]
        by_cases hc : b - (x.length : Int) < 0
        · simp [hc]
        · simp only [hc, decide_false, Bool.false_eq_true, if_false, true_and]
          refine ⟨by omega, by omega, ?_⟩
          rw [List.take_add_one, hx]; simp [total] at hb2 ⊢; omega)
      (fun b _ => by unfold m_laws_szStringS_l1; simp) n (by omega)
    obtain ⟨hr, hI⟩ := hrun
    have hr' : loopN (m_laws_szStringS_l1 n rows) n (L - (rows.length : Int), 0) = _ := hr
    rw [hr']
    cases hc : runL (fun _ (b : Int) (x : List UInt8) => if b - x.length < 0 then Except.error (Sum.inr (-1) : Int ⊕ Int) else .ok (b - x.length)) 0 rows (L - rows.length) with
    | ok b =>
      have := hI b hc
      simp only [List.take_length] at this
      exact ⟨b, rfl, .inr ⟨this.1, this.2.2⟩⟩
    | error t =>
      have ht : t = .inr (-1) := by
        have : ∀ (ys : List (List UInt8)) (i : Nat) (b : Int), runL (fun _ (b : Int) (x : List UInt8) => if b - x.length < 0 then Except.error (Sum.inr (-1) : Int ⊕ Int) else .ok (b - x.length)) i ys b = .error t → t = .inr (-1) := by
          intro ys
          induction ys with
          | nil => intro i b h; simp [runL] at h
          | cons y ys ih =>
            intro i b h
            simp only [runL] at h
            by_cases hc : b - (y.length : Int) < 0
            · simp [hc] at h; exact h.symm
            · simp [hc] at h; exact ih _ _ h
        exact this _ _ _ hc
      subst ht
      exact ⟨-1, rfl, .inl (by omega)⟩

theorem p_toStringS (n : Nat) (a : List (List UInt8)) (ha : a.length ≤ 1048576) (hn : 1048576 < n) : m_laws_toStringS n a = some a := by
  unfold m_laws_toStringS
  rw [mk_nat _ _ (by omega)]
  simp only [Option.bind_some]
  have := loopN_fill (body := m_laws_toStringS_l1 n a) a.length (fun i => a.getD i []) (List.replicate a.length []) (by simp) (fun i l => ((i : Int), l)) id
    (fun i l x hi hl hx => by
      have hb : decide ((i : Int) < (a.length : Int)) = true := by simp; omega
      have w3 : wI64 ((i : Int) + 1) = ((i + 1 : Nat) : Int) := by rw [wI64_eq (by omega) (by omega)]; omega
      unfold m_laws_toStringS_l1
      simp only [hb, if_true, idx_nat a i, getD_of hi [], Option.bind_some, hx, w3, Int.toNat_natCast])
    (fun l => by unfold m_laws_toStringS_l1; simp) n (by omega)
  have h2 : loopN (m_laws_toStringS_l1 n a) n (0, List.replicate a.length []) = _ := this
  rw [h2, range_map_getD]; rfl

theorem p_eqStringS (n : Nat) (a : List (List UInt8)) (ha : a.length ≤ 1048576) (hn : 1048576 < n) : m_laws_eqStringS n a a = some true := by
  unfold m_laws_eqStringS
  simp only [bne_self_eq_false, Bool.false_eq_true, if_false]
  have := loopN_listAll (body := m_laws_eqStringS_l1 n a a) a (fun _ => true) (fun i => (i : Int)) (.inl ()) (.inr false)
    (fun i x hx => by
      have hlt : i < a.length := by
        rcases Nat.lt_or_ge i a.length with h | h
        · exact h
        · rw [List.getElem?_eq_none h] at hx; cases hx
      have hb : decide ((i : Int) < (a.length : Int)) = true := by simp; omega
      have w3 : wI64 ((i : Int) + 1) = ((i + 1 : Nat) : Int) := by rw [wI64_eq (by omega) (by omega)]; omega
      unfold m_laws_eqStringS_l1
      simp only [hb, if_true, idx_nat a i, hx, Option.bind_some, w3]; simp)
    (by unfold m_laws_eqStringS_l1; simp) n (by omega)
  have h2 : loopN (m_laws_eqStringS_l1 n a a) n 0 = _ := this
  rw [h2]; simp

end Go.Gv
