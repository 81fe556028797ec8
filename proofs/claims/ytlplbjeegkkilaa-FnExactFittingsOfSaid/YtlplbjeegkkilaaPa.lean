/- Plain laws of what all statements share: ranges, copies, comparisons, marks. -/
import Derived.Test.YtlplbjeegkkilaaPu
import Derived.Test.YtlplbjeegkkilaaMo
namespace Go.Gv
open Go Go.RowKit

theorem p_l00In (n : Nat) (a b c : Int) : m_spec_l00In n a b c = some (decide (b ≤ a) && decide (a ≤ c)) := by
  unfold m_spec_l00In
  by_cases h : b ≤ a <;> simp [h]

theorem p_within (n : Nat) (a b c : Int) : m_impl_within n a b c = some (decide (b ≤ a) && decide (a ≤ c)) := by
  unfold m_impl_within
  by_cases h : b ≤ a <;> simp [h]

theorem p_l00Min (n : Nat) (a b : Int) : m_spec_l00Min n a b = some (min a b) := by
  unfold m_spec_l00Min
  by_cases h : a < b
  · simp [h]; omega
  · simp [h]; omega

def total (rows : List (List UInt8)) : Nat := (rows.map List.length).sum

theorem mem_le_total {rows : List (List UInt8)} {r : List UInt8} (h : r ∈ rows) : r.length ≤ total rows := by
  induction rows with
  | nil => simp at h
  | cons y ys ih =>
    simp only [total, List.map_cons, List.sum_cons] at ih ⊢
    rcases List.mem_cons.1 h with rfl | h
    · omega
    · have := ih h; omega

theorem p_szChangeS (n : Nat) (a : List SChange) (L : Int) (h0 : 0 ≤ L) (h1 : L ≤ 1048576) (hl : a.length ≤ 9223372036854775807) :
    ∃ v, m_laws_szChangeS n a L = some v ∧ (v < 0 ∨ (0 ≤ v ∧ v = L - a.length)) := by
  unfold m_laws_szChangeS
  have w1 : wI64 (L - (a.length : Int)) = L - a.length := wI64_eq (by omega) (by omega)
  rw [w1]
  by_cases hneg : L - (a.length : Int) < 0
  · exact ⟨-1, by simp [hneg], .inl (by omega)⟩
  · exact ⟨_, by simp [hneg], .inr ⟨by omega, rfl⟩⟩

theorem p_toChange (n : Nat) (a : SChange) : m_laws_toChange n a = some a := rfl

theorem p_eqChange (n : Nat) (a b : SChange) : m_laws_eqChange n a b = some (decide (a = b)) := by
  unfold m_laws_eqChange
  cases a; cases b
  simp only [SChange.mk.injEq]
  repeat' split
  all_goals simp_all

theorem p_toChangeS (n : Nat) (a : List SChange) (ha : a.length ≤ 1048576) (hn : 1048576 < n) : m_laws_toChangeS n a = some a := by
  unfold m_laws_toChangeS
  rw [mk_nat _ _ (by omega)]
  simp only [Option.bind_some]
  have := loopN_fill (body := m_laws_toChangeS_l1 n a) a.length (fun i => a.getD i ((SChange.mk 0 0) : SChange)) (List.replicate a.length ((SChange.mk 0 0) : SChange)) (by simp) (fun i l => ((i : Int), l)) id
    (fun i l x hi hl hx => by
      have hb : decide ((i : Int) < (a.length : Int)) = true := by simp; omega
      have w3 : wI64 ((i : Int) + 1) = ((i + 1 : Nat) : Int) := by rw [wI64_eq (by omega) (by omega)]; omega
      unfold m_laws_toChangeS_l1
      simp only [hb, if_true, idx_nat a i, getD_of hi ((SChange.mk 0 0) : SChange), Option.bind_some, p_toChange, hx, w3, Int.toNat_natCast])
    (fun l => by unfold m_laws_toChangeS_l1; simp) n (by omega)
  have h2 : loopN (m_laws_toChangeS_l1 n a) n (0, List.replicate a.length ((SChange.mk 0 0) : SChange)) = _ := this
  rw [h2, range_map_getD]; rfl

theorem p_eqChangeS (n : Nat) (a : List SChange) (ha : a.length ≤ 1048576) (hn : 1048576 < n) : m_laws_eqChangeS n a a = some true := by
  unfold m_laws_eqChangeS
  simp only [bne_self_eq_false, Bool.false_eq_true, if_false]
  have := loopN_listAll (body := m_laws_eqChangeS_l1 n a a) a (fun _ => true) (fun i => (i : Int)) (.inl ()) (.inr false)
    (fun i x hx => by
      have hlt := lt_of_get hx
      unfold m_laws_eqChangeS_l1
      simp only [ltB hlt, if_true, idx_nat a i, hx, Option.bind_some, p_eqChange, succ64 hlt (by omega)]; simp)
    (by unfold m_laws_eqChangeS_l1; simp) n (by omega)
  have h2 : loopN (m_laws_eqChangeS_l1 n a a) n 0 = _ := this
  rw [h2]; simp

theorem p_eqInt64S (n : Nat) (a : List Int) (ha : a.length ≤ 1048576) (hn : 1048576 < n) : m_laws_eqInt64S n a a = some true := by
  unfold m_laws_eqInt64S
  simp only [bne_self_eq_false, Bool.false_eq_true, if_false]
  have := loopN_listAll (body := m_laws_eqInt64S_l1 n a a) a (fun _ => true) (fun i => (i : Int)) (.inl ()) (.inr false)
    (fun i x hx => by
      have hlt := lt_of_get hx
      unfold m_laws_eqInt64S_l1
      simp only [ltB hlt, if_true, idx_nat a i, hx, Option.bind_some, succ64 hlt (by omega)]; simp)
    (by unfold m_laws_eqInt64S_l1; simp) n (by omega)
  have h2 : loopN (m_laws_eqInt64S_l1 n a a) n 0 = _ := this
  rw [h2]; simp

theorem p_markInt64S (n : Nat) (a : List Int) (ha : a.length ≤ 1048576) (hn : 1048578 < n) : m_laws_markInt64S n a 1 = some (1 + (a.length : Int), (List.range a.length).map (fun i : Nat => 1 + (i : Int))) := by
  unfold m_laws_markInt64S
  have := loopN_fillL (body := m_laws_markInt64S_l1 n) a.length (fun i : Nat => 1 + (i : Int)) a rfl (fun i l => (1 + (i : Int), (i : Int), l)) (fun l => (1 + (a.length : Int), l))
    (fun i l x hi hl hx => by
      have hb : decide ((i : Int) < (l.length : Int)) = true := by rw [hl]; exact ltB hi
      unfold m_laws_markInt64S_l1
      have w4 : wI64 (1 + (i : Int) + 1) = 1 + ((i + 1 : Nat) : Int) := by rw [wI64_eq (by omega) (by omega)]; omega
      simp only [hb, if_true, hx, Option.bind_some, succ64 hi (by omega), w4, Int.toNat_natCast])
    (fun l hl => by unfold m_laws_markInt64S_l1; simp [hl]) n (by omega)
  have h2 : loopN (m_laws_markInt64S_l1 n) n (1, 0, a) = _ := this
  rw [h2]; rfl

theorem p_heldInt64S (n N : Nat) (hN : N ≤ 1048576) (hn : 1048578 < n) : m_laws_heldInt64S n ((List.range N).map (fun i : Nat => 1 + (i : Int))) 1 = some (1 + (N : Int)) := by
  unfold m_laws_heldInt64S
  have := loopN_run (body := m_laws_heldInt64S_l1 n ((List.range N).map (fun i : Nat => 1 + (i : Int)))) (fun i => (1 + (i : Int), (i : Int))) (.inl (1 + (N : Int))) N
    (fun i hi => by
      have w4 : wI64 (1 + (i : Int) + 1) = 1 + ((i + 1 : Nat) : Int) := by rw [wI64_eq (by omega) (by omega)]; omega
      have hl : ((List.range N).map (fun i : Nat => 1 + (i : Int))).length = N := by simp
      unfold m_laws_heldInt64S_l1
      simp only [hl, ltB hi, if_true, idx_nat, range_map_get _ hi, Option.bind_some, bne_self_eq_false, beq_self_eq_true, Bool.not_true, Bool.false_eq_true, if_false, succ64 hi (by omega), w4])
    (by unfold m_laws_heldInt64S_l1; simp) n (by omega)
  have h2 : loopN (m_laws_heldInt64S_l1 n ((List.range N).map (fun i : Nat => 1 + (i : Int)))) n (1, 0) = _ := this
  rw [h2]; rfl

end Go.Gv
