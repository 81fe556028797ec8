/- Plain laws of what all statements share: ranges, copies, comparisons, marks. -/
import Derived.Test.YtkglfbcelaphhaaPu
import Derived.Test.YtkglfbcelaphhaaMo
namespace Go.Gv
open Go Go.RowKit

theorem p_l00In (n : Nat) (a b c : Int) : m_spec_l00In n a b c = some (decide (b ≤ a) && decide (a ≤ c)) := by
  unfold m_spec_l00In
  by_cases h : b ≤ a <;> simp [h]

theorem p_within (n : Nat) (a b c : Int) : m_impl_within n a b c = some (decide (b ≤ a) && decide (a ≤ c)) := by
  unfold m_impl_within
  by_cases h : b ≤ a <;> simp [h]

def total (rows : List (List UInt8)) : Nat := (rows.map List.length).sum

theorem mem_le_total {rows : List (List UInt8)} {r : List UInt8} (h : r ∈ rows) : r.length ≤ total rows := by
  induction rows with
  | nil => simp at h
  | cons y ys ih =>
    simp only [total, List.map_cons, List.sum_cons] at ih ⊢
    rcases List.mem_cons.1 h with rfl | h
    · omega
    · have := ih h; omega

/-- The text of a mark. -/
def markT (n : Nat) (k : Int) : List UInt8 := (m_laws_markText n k).getD []

theorem markText_loop (n : Nat) : ∀ (j m k : Nat) (s : List UInt8), j < m → k < 2 ^ j → k ≤ 1000000000 → s.length + j ≤ 2097152 → ∃ t, loopN (m_laws_markText_l1 n) m ((k : Int), s) = some t ∧ t.length ≤ 2097152 := by
  intro j
  induction j with
  | zero =>
    intro m k s hm hk hk2 hs
    obtain ⟨m, rfl⟩ : ∃ q, m = q + 1 := ⟨m - 1, by omega⟩
    have h0 : k = 0 := by simpa using hk
    subst h0
    refine ⟨s, ?_, by omega⟩
    unfold loopN
    unfold m_laws_markText_l1; simp
  | succ j ih =>
    intro m k s hm hk hk2 hs
    obtain ⟨m, rfl⟩ : ∃ q, m = q + 1 := ⟨m - 1, by omega⟩
    by_cases h0 : k = 0
    · subst h0
      refine ⟨s, ?_, by omega⟩
      unfold loopN
      unfold m_laws_markText_l1; simp
    · have hgt : decide ((k : Int) > 0) = true := by simp; omega
      have hz : (0 : Int) ≤ ((k / 10 : Nat) : Int) := Int.natCast_nonneg _
      have e : wI64 (Int.tdiv (k : Int) 10) = ((k / 10 : Nat) : Int) := by
        rw [show Int.tdiv (k : Int) 10 = ((k / 10 : Nat) : Int) by rfl, wI64_eq (by omega) (by omega)]
      have hp : 2 ^ (j + 1) = 2 * 2 ^ j := by rw [Nat.pow_succ, Nat.mul_comm]
      obtain ⟨t, ht, hl⟩ := ih m (k / 10) (ofBytes ([(IntKind.u8.wrap (wI64 (48 + (Int.tmod (k : Int) 10))))] : List Int) ++ s) (by omega) (by omega) (by omega) (by simp [ofBytes]; omega)
      refine ⟨t, ?_, hl⟩
      unfold loopN
      have hb : m_laws_markText_l1 n ((k : Int), s) = some (.next (((k / 10 : Nat) : Int), ofBytes ([(IntKind.u8.wrap (wI64 (48 + (Int.tmod (k : Int) 10))))] : List Int) ++ s)) := by
        unfold m_laws_markText_l1
        simp only [hgt, if_true]
        rw [app_eq (by simp [ofBytes]; omega)]
        simp only [Option.bind_some, e]
      rw [hb]
      exact ht

theorem p_markText (n : Nat) (k : Int) (h1 : 1 ≤ k) (h2 : k ≤ 1000000000) (hn : 1048577 < n) : m_laws_markText n k = some (markT n k) := by
  obtain ⟨j, rfl⟩ : ∃ j : Nat, k = (j : Int) := ⟨k.toNat, by omega⟩
  obtain ⟨t, ht, hl⟩ := markText_loop n 30 n j [] (by omega) (Nat.lt_of_le_of_lt (show j ≤ 1000000000 by omega) (by decide)) (by omega) (by simp)
  have : m_laws_markText n (j : Int) = some ([109] ++ t) := by
    unfold m_laws_markText
    have h0 : decide ((j : Int) ≤ 0) = false := by simp; omega
    simp only [h0, Bool.false_eq_true, if_false]
    rw [ht]
    simp only [Option.bind_some]
    rw [app_eq (by simp; omega)]
    rfl
  rw [this]; simp [markT, this]


theorem p_szInt64S (n : Nat) (a : List Int) (L : Int) (h0 : 0 ≤ L) (h1 : L ≤ 1048576) (hl : a.length ≤ 9223372036854775807) :
    ∃ v, m_laws_szInt64S n a L = some v ∧ (v < 0 ∨ (0 ≤ v ∧ v = L - a.length)) := by
  unfold m_laws_szInt64S
  have w1 : wI64 (L - (a.length : Int)) = L - a.length := wI64_eq (by omega) (by omega)
  rw [w1]
  by_cases hneg : L - (a.length : Int) < 0
  · exact ⟨-1, by simp [hneg], .inl (by omega)⟩
  · exact ⟨_, by simp [hneg], .inr ⟨by omega, rfl⟩⟩

theorem p_toInt64S (n : Nat) (a : List Int) (ha : a.length ≤ 1048576) (hn : 1048576 < n) : m_laws_toInt64S n a = some a := by
  unfold m_laws_toInt64S
  rw [mk_nat _ _ (by omega)]
  simp only [Option.bind_some]
  have := loopN_fill (body := m_laws_toInt64S_l1 n a) a.length (fun i => a.getD i (0 : Int)) (List.replicate a.length (0 : Int)) (by simp) (fun i l => ((i : Int), l)) id
    (fun i l x hi hl hx => by
      have hb : decide ((i : Int) < (a.length : Int)) = true := by simp; omega
      have w3 : wI64 ((i : Int) + 1) = ((i + 1 : Nat) : Int) := by rw [wI64_eq (by omega) (by omega)]; omega
      unfold m_laws_toInt64S_l1
      simp only [hb, if_true, idx_nat a i, getD_of hi (0 : Int), Option.bind_some, hx, w3, Int.toNat_natCast])
    (fun l => by unfold m_laws_toInt64S_l1; simp) n (by omega)
  have h2 : loopN (m_laws_toInt64S_l1 n a) n (0, List.replicate a.length (0 : Int)) = _ := this
  rw [h2, range_map_getD]; rfl

theorem p_eqInt64S (n : Nat) (a : List Int) (ha : a.length ≤ 1048576) (hn : 1048576 < n) : m_laws_eqInt64S n a a = some true := by
  unfold m_laws_eqInt64S
  simp only [bne_self_eq_false, Bool.false_eq_true, if_false]
  have := loopN_listAll (body := m_laws_eqInt64S_l1 n a a) a (fun _ => true) (fun i => (i : Int)) (.inl ()) (.inr false)
    (fun i x hx => by
      have hlt := lt_of_get hx
      unfold m_laws_eqInt64S_l1
      simp only [ltB hlt, if_true, idx_nat a i, hx, Option.bind_some, succ64 hlt (by omega)]; simp)
    (by unfold m_laws_eqInt64S_l1; simp) n (by omega)
  have h2 : loopN (m_laws_eqInt64S_l1 n a a) n 0 = _ := this
  rw [h2]; simp

theorem p_markInt64K (n : Nat) (K : Int) (a : List Int) (h0 : 1 ≤ K) (ha : K + (a.length : Int) ≤ 1048577) (hn : 1048578 < n) : m_laws_markInt64S n a K = some (K + (a.length : Int), (List.range a.length).map (fun i : Nat => K + (i : Int))) := by
  unfold m_laws_markInt64S
  have := loopN_fillL (body := m_laws_markInt64S_l1 n) a.length (fun i : Nat => K + (i : Int)) a rfl (fun i l => (K + (i : Int), (i : Int), l)) (fun l => (K + (a.length : Int), l))
    (fun i l x hi hl hx => by
      have hb : decide ((i : Int) < (l.length : Int)) = true := by rw [hl]; exact ltB hi
      unfold m_laws_markInt64S_l1
      have w4 : wI64 (K + (i : Int) + 1) = K + ((i + 1 : Nat) : Int) := by rw [wI64_eq (by omega) (by omega)]; omega
      simp only [hb, if_true, hx, Option.bind_some, succ64 hi (by omega), w4, Int.toNat_natCast])
    (fun l hl => by unfold m_laws_markInt64S_l1; simp [hl]) n (by omega)
  rw [show K + ((0 : Nat) : Int) = K by simp] at this
  have h2 : loopN (m_laws_markInt64S_l1 n) n (K, 0, a) = _ := this
  rw [h2]; rfl

theorem p_heldInt64K (n N : Nat) (K : Int) (h0 : 1 ≤ K) (hN : K + (N : Int) ≤ 1048577) (hn : 1048578 < n) : m_laws_heldInt64S n ((List.range N).map (fun i : Nat => K + (i : Int))) K = some (K + (N : Int)) := by
  unfold m_laws_heldInt64S
  have := loopN_run (body := m_laws_heldInt64S_l1 n ((List.range N).map (fun i : Nat => K + (i : Int)))) (fun i => (K + (i : Int), (i : Int))) (.inl (K + (N : Int))) N
    (fun i hi => by
      have w4 : wI64 (K + (i : Int) + 1) = K + ((i + 1 : Nat) : Int) := by rw [wI64_eq (by omega) (by omega)]; omega
      have hl : ((List.range N).map (fun i : Nat => K + (i : Int))).length = N := by simp
      unfold m_laws_heldInt64S_l1
      simp only [hl, ltB hi, if_true, idx_nat, range_map_get _ hi, Option.bind_some, bne_self_eq_false, beq_self_eq_true, Bool.not_true, Bool.false_eq_true, if_false, succ64 hi (by omega), w4])
    (by unfold m_laws_heldInt64S_l1; simp) n (by omega)
  rw [show K + ((0 : Nat) : Int) = K by simp] at this
  have h2 : loopN (m_laws_heldInt64S_l1 n ((List.range N).map (fun i : Nat => K + (i : Int)))) n (K, 0) = _ := this
  rw [h2]; rfl

theorem p_markInt64S (n : Nat) (a : List Int) (ha : a.length ≤ 1048576) (hn : 1048578 < n) : m_laws_markInt64S n a 1 = some (1 + (a.length : Int), (List.range a.length).map (fun i : Nat => 1 + (i : Int))) :=
  p_markInt64K n 1 a (by omega) (by omega) hn

theorem p_heldInt64S (n N : Nat) (hN : N ≤ 1048576) (hn : 1048578 < n) : m_laws_heldInt64S n ((List.range N).map (fun i : Nat => 1 + (i : Int))) 1 = some (1 + (N : Int)) :=
  p_heldInt64K n N 1 (by omega) (by omega) hn

end Go.Gv
