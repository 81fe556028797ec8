/- Plain laws of what all statements share: ranges, copies, comparisons, marks. -/
import Derived.Test.YtlplbjeegkkilaaPu
import Derived.Test.YtlplbjeegkkilaaMo
namespace Go.Gv
open Go Go.RowKit

theorem p_l00In (n : Nat) (a b c : Int) : m_spec_l00In n a b c = some (decide (b ≤ a) && decide (a ≤ c)) := by
  unfold m_spec_l00In
  by_cases h : b ≤ a <;> simp [h]

theorem p_within (n : Nat) (a b c : Int) : m_impl_within n a b c = some (decide (b ≤ a) && decide (a ≤ c)) := by
  unfold m_impl_within
  by_cases h : b ≤ a <;> simp [h]

theorem p_l00Min (n : Nat) (a b : Int) : m_spec_l00Min n a b = some (min a b) := by
  unfold m_spec_l00Min
  by_cases h : a < b
  · simp [h]; omega
  · simp [h]; omega

def total (rows : List (List UInt8)) : Nat := (rows.map List.length).sum

theorem mem_le_total {rows : List (List UInt8)} {r : List UInt8} (h : r ∈ rows) : r.length ≤ total rows := by
  induction rows with
  | nil => simp at h
  | cons y ys ih =>
    simp only [total, List.map_cons, List.sum_cons] at ih ⊢
    rcases List.mem_cons.1 h with rfl | h
    · omega
    · have := ih h; omega

theorem p_szChangeS (n : Nat) (a : List SChange) (L : Int) (h0 : 0 ≤ L) (h1 : L ≤ 1048576) (hl : a.length ≤ 9223372036854775807) :
    ∃ v, m_laws_szChangeS n a L = some v ∧ (v < 0 ∨ (0 ≤ v ∧ v = L - a.length)) := by
  unfold m_laws_szChangeS
  have w1 : wI64 (L - (a.length : Int)) = L - a.length := wI64_eq (by omega) (by omega)
  rw [w1]
  by_cases hneg : L - (a.length : Int) < 0
  · exact ⟨-1, by simp [hneg], .inl (by omega)⟩
  · exact ⟨_, by simp [hneg], .inr ⟨by omega, rfl⟩⟩

theorem p_toChange (n : Nat) (a : SChange) : m_laws_toChange n a = some a := rfl

theorem p_eqChange (n : Nat) (a b : SChange) : m_laws_eqChange n a b = some (decide (a = b)) := by
  unfold m_laws_eqChange
  cases a; cases b
  simp only [SChange.mk.injEq]
  repeat' split
  all_goals simp_all

theorem p_toChangeS (n : Nat) (a : List SChange) (ha : a.length ≤ 1048576) (hn : 1048576 < n) : m_laws_toChangeS n a = some a := by
  unfold m_laws_toChangeS
  rw [mk_nat _ _ (by omega)]
  simp only [Option.bind_some]
  have := loopN_fill (body := m_laws_toChangeS_l1 n a) a.length (fun i => a.getD i ((SChange.mk 0 0) : SChange)) (List.replicate a.length ((SChange.mk 0 0) : SChange)) (by simp) (fun i l => ((i : Int), l)) id
    (fun i l x hi hl hx => by
      have hb : decide ((i : Int) < (a.length : Int)) = true := by simp; omega
      have w3 : wI64 ((i : Int) + 1) = ((i + 1 : Nat) : Int) := by rw [wI64_eq (by omega) (by omega)]; omega
      unfold m_laws_toChangeS_l1
      simp only [hb, if_true, idx_nat a i, getD_of hi ((SChange.mk 0 0) : SChange), Option.bind_some, p_toChange, hx, w3, Int.toNat_natCast])
    (fun l => by unfold m_laws_toChangeS_l1; simp) n (by omega)
  have h2 : loopN (m_laws_toChangeS_l1 n a) n (0, List.replicate a.length ((SChange.mk 0 0) : SChange)) = _ := this
  rw [h2, range_map_getD]; rfl

theorem p_eqChangeS (n : Nat) (a : List SChange) (ha : a.length ≤ 1048576) (hn : 1048576 < n) : m_laws_eqChangeS n a a = some true := by
  unfold m_laws_eqChangeS
  simp only [bne_self_eq_false, Bool.false_eq_true, if_false]
  have := loopN_listAll (body := m_laws_eqChangeS_l1 n a a) a (fun _ => true) (fun i => (i : Int)) (.inl ()) (.inr false)
    (fun i x hx => by
      have hlt := lt_of_get hx
      unfold m_laws_eqChangeS_l1
      simp only [ltB hlt, if_true, idx_nat a i, hx, Option.bind_some, p_eqChange, succ64 hlt (by omega)]; simp)
    (by unfold m_laws_eqChangeS_l1; simp) n (by omega)
  have h2 : loopN (m_laws_eqChangeS_l1 n a a) n 0 = _ := this
  rw [h2]; simp

/-- What a mark leaves. -/
def mkChange (n : Nat) (K : Int) (N : Nat) : List SChange := (List.range N).map (fun i : Nat => (⟨(K + 2 * (i : Int)), (K + 2 * (i : Int) + 1)⟩ : SChange))

theorem mkChange_len (n : Nat) (K : Int) (N : Nat) : (mkChange n K N).length = N := by simp [mkChange]

theorem p_markChangeK (n : Nat) (K : Int) (a : List SChange) (h0 : 1 ≤ K) (hl : a.length ≤ 1048576) (ha : K + 2 * (a.length : Int) ≤ 1000000000) (hn : 1048578 < n) : m_laws_markChangeS n a K = some (K + 2 * (a.length : Int), mkChange n K a.length) := by
  unfold m_laws_markChangeS mkChange
  have := loopN_fillL (body := m_laws_markChangeS_l1 n) a.length (fun i : Nat => (⟨(K + 2 * (i : Int)), (K + 2 * (i : Int) + 1)⟩ : SChange)) a rfl (fun i l => (K + 2 * (i : Int), (i : Int), l)) (fun l => (K + 2 * (a.length : Int), l))
    (fun i l x hi hll hx => by
      have hb : decide ((i : Int) < (l.length : Int)) = true := by rw [hll]; exact ltB hi
      have hi2 : i < l.length := by omega
      have is : ∀ v, idx (l.set i v) (i : Int) = some v := fun v => by rw [idx_nat, List.getElem?_set_self hi2]
      have u1 : wI64 (K + 2 * (i : Int) + 1) = K + 2 * (i : Int) + 1 := wI64_eq (by omega) (by omega)
      have u2 : wI64 (K + 2 * (i : Int) + 1 + 1) = K + 2 * ((i + 1 : Nat) : Int) := by rw [wI64_eq (by omega) (by omega)]; omega
      unfold m_laws_markChangeS_l1
      simp only [hb, if_true, hx, Option.bind_some, succ64 hi (by omega), Int.toNat_natCast, is, List.set_set, u1, u2])
    (fun l hll => by unfold m_laws_markChangeS_l1; simp [hll]) n (by omega)
  rw [show K + 2 * ((0 : Nat) : Int) = K by simp] at this
  have h2 : loopN (m_laws_markChangeS_l1 n) n (K, 0, a) = _ := this
  rw [h2]; rfl

theorem p_heldChangeK (n N : Nat) (K : Int) (h0 : 1 ≤ K) (hN0 : N ≤ 1048576) (hN : K + 2 * (N : Int) ≤ 1000000000) (hn : 1048578 < n) : m_laws_heldChangeS n (mkChange n K N) K = some (K + 2 * (N : Int)) := by
  unfold m_laws_heldChangeS mkChange
  have := loopN_run (body := m_laws_heldChangeS_l1 n ((List.range N).map (fun i : Nat => (⟨(K + 2 * (i : Int)), (K + 2 * (i : Int) + 1)⟩ : SChange)))) (fun i => (K + 2 * (i : Int), (i : Int))) (.inl (K + 2 * (N : Int))) N
    (fun i hi => by
      have hl : ((List.range N).map (fun i : Nat => (⟨(K + 2 * (i : Int)), (K + 2 * (i : Int) + 1)⟩ : SChange))).length = N := by simp
      have u1 : wI64 (K + 2 * (i : Int) + 1) = K + 2 * (i : Int) + 1 := wI64_eq (by omega) (by omega)
      have u2 : wI64 (K + 2 * (i : Int) + 1 + 1) = K + 2 * ((i + 1 : Nat) : Int) := by rw [wI64_eq (by omega) (by omega)]; omega
      unfold m_laws_heldChangeS_l1
      simp only [hl, ltB hi, if_true, idx_nat, range_map_get _ hi, Option.bind_some, bne_self_eq_false, beq_self_eq_true, Bool.not_true, Bool.false_eq_true, if_false, succ64 hi (by omega), u1, u2])
    (by unfold m_laws_heldChangeS_l1; simp) n (by omega)
  rw [show K + 2 * ((0 : Nat) : Int) = K by simp] at this
  have h2 : loopN (m_laws_heldChangeS_l1 n ((List.range N).map (fun i : Nat => (⟨(K + 2 * (i : Int)), (K + 2 * (i : Int) + 1)⟩ : SChange)))) n (K, 0) = _ := this
  rw [h2]; rfl

theorem p_markChangeS (n : Nat) (a : List SChange) (ha : a.length ≤ 1048576) (hn : 1048578 < n) : m_laws_markChangeS n a 1 = some (1 + 2 * (a.length : Int), mkChange n 1 a.length) :=
  p_markChangeK n 1 a (by omega) ha (by omega) hn

theorem p_heldChangeS (n N : Nat) (hN : N ≤ 1048576) (hn : 1048578 < n) : m_laws_heldChangeS n (mkChange n 1 N) 1 = some (1 + 2 * (N : Int)) :=
  p_heldChangeK n N 1 (by omega) hN (by omega) hn

theorem p_eqInt64S (n : Nat) (a : List Int) (ha : a.length ≤ 1048576) (hn : 1048576 < n) : m_laws_eqInt64S n a a = some true := by
  unfold m_laws_eqInt64S
  simp only [bne_self_eq_false, Bool.false_eq_true, if_false]
  have := loopN_listAll (body := m_laws_eqInt64S_l1 n a a) a (fun _ => true) (fun i => (i : Int)) (.inl ()) (.inr false)
    (fun i x hx => by
      have hlt := lt_of_get hx
      unfold m_laws_eqInt64S_l1
      simp only [ltB hlt, if_true, idx_nat a i, hx, Option.bind_some, succ64 hlt (by omega)]; simp)
    (by unfold m_laws_eqInt64S_l1; simp) n (by omega)
  have h2 : loopN (m_laws_eqInt64S_l1 n a a) n 0 = _ := this
  rw [h2]; simp

theorem p_markInt64K (n : Nat) (K : Int) (a : List Int) (h0 : 1 ≤ K) (ha : K + (a.length : Int) ≤ 1048577) (hn : 1048578 < n) : m_laws_markInt64S n a K = some (K + (a.length : Int), (List.range a.length).map (fun i : Nat => K + (i : Int))) := by
  unfold m_laws_markInt64S
  have := loopN_fillL (body := m_laws_markInt64S_l1 n) a.length (fun i : Nat => K + (i : Int)) a rfl (fun i l => (K + (i : Int), (i : Int), l)) (fun l => (K + (a.length : Int), l))
    (fun i l x hi hl hx => by
      have hb : decide ((i : Int) < (l.length : Int)) = true := by rw [hl]; exact ltB hi
      unfold m_laws_markInt64S_l1
      have w4 : wI64 (K + (i : Int) + 1) = K + ((i + 1 : Nat) : Int) := by rw [wI64_eq (by omega) (by omega)]; omega
      simp only [hb, if_true, hx, Option.bind_some, succ64 hi (by omega), w4, Int.toNat_natCast])
    (fun l hl => by unfold m_laws_markInt64S_l1; simp [hl]) n (by omega)
  rw [show K + ((0 : Nat) : Int) = K by simp] at this
  have h2 : loopN (m_laws_markInt64S_l1 n) n (K, 0, a) = _ := this
  rw [h2]; rfl

theorem p_heldInt64K (n N : Nat) (K : Int) (h0 : 1 ≤ K) (hN : K + (N : Int) ≤ 1048577) (hn : 1048578 < n) : m_laws_heldInt64S n ((List.range N).map (fun i : Nat => K + (i : Int))) K = some (K + (N : Int)) := by
  unfold m_laws_heldInt64S
  have := loopN_run (body := m_laws_heldInt64S_l1 n ((List.range N).map (fun i : Nat => K + (i : Int)))) (fun i => (K + (i : Int), (i : Int))) (.inl (K + (N : Int))) N
    (fun i hi => by
      have w4 : wI64 (K + (i : Int) + 1) = K + ((i + 1 : Nat) : Int) := by rw [wI64_eq (by omega) (by omega)]; omega
      have hl : ((List.range N).map (fun i : Nat => K + (i : Int))).length = N := by simp
      unfold m_laws_heldInt64S_l1
      simp only [hl, ltB hi, if_true, idx_nat, range_map_get _ hi, Option.bind_some, bne_self_eq_false, beq_self_eq_true, Bool.not_true, Bool.false_eq_true, if_false, succ64 hi (by omega), w4])
    (by unfold m_laws_heldInt64S_l1; simp) n (by omega)
  rw [show K + ((0 : Nat) : Int) = K by simp] at this
  have h2 : loopN (m_laws_heldInt64S_l1 n ((List.range N).map (fun i : Nat => K + (i : Int)))) n (K, 0) = _ := this
  rw [h2]; rfl

theorem p_markInt64S (n : Nat) (a : List Int) (ha : a.length ≤ 1048576) (hn : 1048578 < n) : m_laws_markInt64S n a 1 = some (1 + (a.length : Int), (List.range a.length).map (fun i : Nat => 1 + (i : Int))) :=
  p_markInt64K n 1 a (by omega) (by omega) hn

theorem p_heldInt64S (n N : Nat) (hN : N ≤ 1048576) (hn : 1048578 < n) : m_laws_heldInt64S n ((List.range N).map (fun i : Nat => 1 + (i : Int))) 1 = some (1 + (N : Int)) :=
  p_heldInt64K n N 1 (by omega) (by omega) hn


theorem p_szLast (n : Nat) (x : SLast) (L : Int) (h0 : 0 ≤ L) (h1 : L ≤ 1048576) (hs : strok x.Name) : ∃ v, m_laws_szLast n x L = some v ∧ (v < 0 ∨ (0 ≤ v ∧ v = L - x.Name.length)) := by
  unfold strok at hs
  unfold m_laws_szLast
  rw [wI64_eq (x := L - (x.Name.length : Int)) (by omega) (by omega)]
  by_cases hc : L - (x.Name.length : Int) < 0
  · exact ⟨-1, by simp [hc], .inl (by omega)⟩
  · exact ⟨_, by simp [hc], .inr ⟨by omega, rfl⟩⟩


theorem p_toLast (n : Nat) (a : SLast) : m_laws_toLast n a = some a := rfl

theorem p_eqLast (n : Nat) (a b : SLast) : m_laws_eqLast n a b = some (decide (a = b)) := by
  unfold m_laws_eqLast
  cases a; cases b
  simp only [SLast.mk.injEq]
  repeat' split
  all_goals simp_all

end Go.Gv
