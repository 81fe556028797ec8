/- Plain laws of what all statements share: ranges, copies, comparisons, marks. -/
import Derived.Test.YtkglfbcelaphhaaDoorPu
import Derived.Test.YtkglfbcelaphhaaDoorMo
namespace Go.Gv
open Go Go.RowKit

theorem p_l00In (n : Nat) (a b c : Int) : m_spec_l00In n a b c = some (decide (b ≤ a) && decide (a ≤ c)) := by
  unfold m_spec_l00In
  by_cases h : b ≤ a <;> simp [h]

theorem p_within (n : Nat) (a b c : Int) : m_impl_within n a b c = some (decide (b ≤ a) && decide (a ≤ c)) := by
  unfold m_impl_within
  by_cases h : b ≤ a <;> simp [h]

def total (rows : List (List UInt8)) : Nat := (rows.map List.length).sum

theorem mem_le_total {rows : List (List UInt8)} {r : List UInt8} (h : r ∈ rows) : r.length ≤ total rows := by
  induction rows with
  | nil => simp at h
  | cons y ys ih =>
    simp only [total, List.map_cons, List.sum_cons] at ih ⊢
    rcases List.mem_cons.1 h with rfl | h
    · omega
    · have := ih h; omega

theorem p_szInt64S (n : Nat) (a : List Int) (L : Int) (h0 : 0 ≤ L) (h1 : L ≤ 1048576) (hl : a.length ≤ 9223372036854775807) :
    ∃ v, m_laws_szInt64S n a L = some v ∧ (v < 0 ∨ (0 ≤ v ∧ v = L - a.length)) := by
  unfold m_laws_szInt64S
  have w1 : wI64 (L - (a.length : Int)) = L - a.length := wI64_eq (by omega) (by omega)
  rw [w1]
  by_cases hneg : L - (a.length : Int) < 0
  · exact ⟨-1, by simp [hneg], .inl (by omega)⟩
  · exact ⟨_, by simp [hneg], .inr ⟨by omega, rfl⟩⟩

theorem p_toInt64S (n : Nat) (a : List Int) (ha : a.length ≤ 1048576) (hn : 1048576 < n) : m_laws_toInt64S n a = some a := by
  unfold m_laws_toInt64S
  rw [mk_nat _ _ (by omega)]
  simp only [Option.bind_some]
  have := loopN_fill (body := m_laws_toInt64S_l1 n a) a.length (fun i => a.getD i (0 : Int)) (List.replicate a.length (0 : Int)) (by simp) (fun i l => ((i : Int), l)) id
    (fun i l x hi hl hx => by
      have hb : decide ((i : Int) < (a.length : Int)) = true := by simp; omega
      have w3 : wI64 ((i : Int) + 1) = ((i + 1 : Nat) : Int) := by rw [wI64_eq (by omega) (by omega)]; omega
      unfold m_laws_toInt64S_l1
      simp only [hb, if_true, idx_nat a i, getD_of hi (0 : Int), Option.bind_some, hx, w3, Int.toNat_natCast])
    (fun l => by unfold m_laws_toInt64S_l1; simp) n (by omega)
  have h2 : loopN (m_laws_toInt64S_l1 n a) n (0, List.replicate a.length (0 : Int)) = _ := this
  rw [h2, range_map_getD]; rfl

theorem p_eqInt64S (n : Nat) (a : List Int) (ha : a.length ≤ 1048576) (hn : 1048576 < n) : m_laws_eqInt64S n a a = some true := by
  unfold m_laws_eqInt64S
  simp only [bne_self_eq_false, Bool.false_eq_true, if_false]
  have := loopN_listAll (body := m_laws_eqInt64S_l1 n a a) a (fun _ => true) (fun i => (i : Int)) (.inl ()) (.inr false)
    (fun i x hx => by
      have hlt := lt_of_get hx
      unfold m_laws_eqInt64S_l1
      simp only [ltB hlt, if_true, idx_nat a i, hx, Option.bind_some, succ64 hlt (by omega)]; simp)
    (by unfold m_laws_eqInt64S_l1; simp) n (by omega)
  have h2 : loopN (m_laws_eqInt64S_l1 n a a) n 0 = _ := this
  rw [h2]; simp

end Go.Gv
