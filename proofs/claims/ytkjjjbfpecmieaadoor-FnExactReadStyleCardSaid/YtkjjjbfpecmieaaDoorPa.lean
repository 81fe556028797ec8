/- Plain laws of what all statements share: ranges, copies, comparisons, marks. -/
import Derived.Test.YtkjjjbfpecmieaaDoorPu
import Derived.Test.YtkjjjbfpecmieaaDoorMo
namespace Go.Gv
open Go Go.RowKit

theorem p_l00In (n : Nat) (a b c : Int) : m_spec_l00In n a b c = some (decide (b ≤ a) && decide (a ≤ c)) := by
  unfold m_spec_l00In
  by_cases h : b ≤ a <;> simp [h]

theorem p_within (n : Nat) (a b c : Int) : m_impl_within n a b c = some (decide (b ≤ a) && decide (a ≤ c)) := by
  unfold m_impl_within
  by_cases h : b ≤ a <;> simp [h]

def total (rows : List (List UInt8)) : Nat := (rows.map List.length).sum

theorem mem_le_total {rows : List (List UInt8)} {r : List UInt8} (h : r ∈ rows) : r.length ≤ total rows := by
  induction rows with
  | nil => simp at h
  | cons y ys ih =>
    simp only [total, List.map_cons, List.sum_cons] at ih ⊢
    rcases List.mem_cons.1 h with rfl | h
    · omega
    · have := ih h; omega

/-- The text of a mark. -/
def markT (n : Nat) (k : Int) : List UInt8 := (m_laws_markText n k).getD []

theorem markText_loop (n : Nat) : ∀ (j m k : Nat) (s : List UInt8), j < m → k < 2 ^ j → k ≤ 1000000000 → s.length + j ≤ 2097152 → ∃ t, loopN (m_laws_markText_l1 n) m ((k : Int), s) = some t ∧ t.length ≤ 2097152 := by
  intro j
  induction j with
  | zero =>
    intro m k s hm hk hk2 hs
    obtain ⟨m, rfl⟩ : ∃ q, m = q + 1 := ⟨m - 1, by omega⟩
    have h0 : k = 0 := by simpa using hk
    subst h0
    refine ⟨s, ?_, by omega⟩
    unfold loopN
    unfold m_laws_markText_l1; simp
  | succ j ih =>
    intro m k s hm hk hk2 hs
    obtain ⟨m, rfl⟩ : ∃ q, m = q + 1 := ⟨m - 1, by omega⟩
    by_cases h0 : k = 0
    · subst h0
      refine ⟨s, ?_, by omega⟩
      unfold loopN
      unfold m_laws_markText_l1; simp
    · have hgt : decide ((k : Int) > 0) = true := by simp; omega
      have hz : (0 : Int) ≤ ((k / 10 : Nat) : Int) := Int.natCast_nonneg _
      have e : wI64 (Int.tdiv (k : Int) 10) = ((k / 10 : Nat) : Int) := by
        rw [show Int.tdiv (k : Int) 10 = ((k / 10 : Nat) : Int) by rfl, wI64_eq (by omega) (by omega)]
      have hp : 2 ^ (j + 1) = 2 * 2 ^ j := by rw [Nat.pow_succ, Nat.mul_comm]
      obtain ⟨t, ht, hl⟩ := ih m (k / 10) (ofBytes ([(IntKind.u8.wrap (wI64 (48 + (Int.tmod (k : Int) 10))))] : List Int) ++ s) (by omega) (by omega) (by omega) (by simp [ofBytes]; omega)
      refine ⟨t, ?_, hl⟩
      unfold loopN
      have hb : m_laws_markText_l1 n ((k : Int), s) = some (.next (((k / 10 : Nat) : Int), ofBytes ([(IntKind.u8.wrap (wI64 (48 + (Int.tmod (k : Int) 10))))] : List Int) ++ s)) := by
        unfold m_laws_markText_l1
        simp only [hgt, if_true]
        rw [app_eq (by simp [ofBytes]; omega)]
        simp only [Option.bind_some, e]
      rw [hb]
      exact ht

theorem p_markText (n : Nat) (k : Int) (h1 : 1 ≤ k) (h2 : k ≤ 1000000000) (hn : 1048577 < n) : m_laws_markText n k = some (markT n k) := by
  obtain ⟨j, rfl⟩ : ∃ j : Nat, k = (j : Int) := ⟨k.toNat, by omega⟩
  obtain ⟨t, ht, hl⟩ := markText_loop n 30 n j [] (by omega) (Nat.lt_of_le_of_lt (show j ≤ 1000000000 by omega) (by decide)) (by omega) (by simp)
  have : m_laws_markText n (j : Int) = some ([109] ++ t) := by
    unfold m_laws_markText
    have h0 : decide ((j : Int) ≤ 0) = false := by simp; omega
    simp only [h0, Bool.false_eq_true, if_false]
    rw [ht]
    simp only [Option.bind_some]
    rw [app_eq (by simp; omega)]
    rfl
  rw [this]; simp [markT, this]


theorem p_eqStringS (n : Nat) (a : List (List UInt8)) (ha : a.length ≤ 1048576) (hn : 1048576 < n) : m_laws_eqStringS n a a = some true := by
  unfold m_laws_eqStringS
  simp only [bne_self_eq_false, Bool.false_eq_true, if_false]
  have := loopN_listAll (body := m_laws_eqStringS_l1 n a a) a (fun _ => true) (fun i => (i : Int)) (.inl ()) (.inr false)
    (fun i x hx => by
      have hlt := lt_of_get hx
      unfold m_laws_eqStringS_l1
      simp only [ltB hlt, if_true, idx_nat a i, hx, Option.bind_some, succ64 hlt (by omega)]; simp)
    (by unfold m_laws_eqStringS_l1; simp) n (by omega)
  have h2 : loopN (m_laws_eqStringS_l1 n a a) n 0 = _ := this
  rw [h2]; simp

theorem p_markStringK (n : Nat) (K : Int) (a : List (List UInt8)) (h0 : 1 ≤ K) (ha : K + (a.length : Int) ≤ 1048577) (hn : 1048578 < n) : m_laws_markStringS n a K = some (K + (a.length : Int), (List.range a.length).map (fun i : Nat => markT n (K + (i : Int)))) := by
  unfold m_laws_markStringS
  have := loopN_fillL (body := m_laws_markStringS_l1 n) a.length (fun i : Nat => markT n (K + (i : Int))) a rfl (fun i l => (K + (i : Int), (i : Int), l)) (fun l => (K + (a.length : Int), l))
    (fun i l x hi hl hx => by
      have hb : decide ((i : Int) < (l.length : Int)) = true := by rw [hl]; exact ltB hi
      unfold m_laws_markStringS_l1
      have w4 : wI64 (K + (i : Int) + 1) = K + ((i + 1 : Nat) : Int) := by rw [wI64_eq (by omega) (by omega)]; omega
      simp only [hb, if_true, p_markText n (K + (i : Int)) (by omega) (by omega) (by omega), hx, Option.bind_some, succ64 hi (by omega), w4, Int.toNat_natCast])
    (fun l hl => by unfold m_laws_markStringS_l1; simp [hl]) n (by omega)
  rw [show K + ((0 : Nat) : Int) = K by simp] at this
  have h2 : loopN (m_laws_markStringS_l1 n) n (K, 0, a) = _ := this
  rw [h2]; rfl

theorem p_heldStringK (n N : Nat) (K : Int) (h0 : 1 ≤ K) (hN : K + (N : Int) ≤ 1048577) (hn : 1048578 < n) : m_laws_heldStringS n ((List.range N).map (fun i : Nat => markT n (K + (i : Int)))) K = some (K + (N : Int)) := by
  unfold m_laws_heldStringS
  have := loopN_run (body := m_laws_heldStringS_l1 n ((List.range N).map (fun i : Nat => markT n (K + (i : Int))))) (fun i => (K + (i : Int), (i : Int))) (.inl (K + (N : Int))) N
    (fun i hi => by
      have w4 : wI64 (K + (i : Int) + 1) = K + ((i + 1 : Nat) : Int) := by rw [wI64_eq (by omega) (by omega)]; omega
      have hl : ((List.range N).map (fun i : Nat => markT n (K + (i : Int)))).length = N := by simp
      unfold m_laws_heldStringS_l1
      simp only [hl, ltB hi, if_true, idx_nat, range_map_get _ hi, p_markText n (K + (i : Int)) (by omega) (by omega) (by omega), Option.bind_some, bne_self_eq_false, beq_self_eq_true, Bool.not_true, Bool.false_eq_true, if_false, succ64 hi (by omega), w4])
    (by unfold m_laws_heldStringS_l1; simp) n (by omega)
  rw [show K + ((0 : Nat) : Int) = K by simp] at this
  have h2 : loopN (m_laws_heldStringS_l1 n ((List.range N).map (fun i : Nat => markT n (K + (i : Int))))) n (K, 0) = _ := this
  rw [h2]; rfl

theorem p_markStringS (n : Nat) (a : List (List UInt8)) (ha : a.length ≤ 1048576) (hn : 1048578 < n) : m_laws_markStringS n a 1 = some (1 + (a.length : Int), (List.range a.length).map (fun i : Nat => markT n (1 + (i : Int)))) :=
  p_markStringK n 1 a (by omega) (by omega) hn

theorem p_heldStringS (n N : Nat) (hN : N ≤ 1048576) (hn : 1048578 < n) : m_laws_heldStringS n ((List.range N).map (fun i : Nat => markT n (1 + (i : Int)))) 1 = some (1 + (N : Int)) :=
  p_heldStringK n N 1 (by omega) (by omega) hn

theorem p_eqTrouble (n : Nat) (a b : STrouble) : m_laws_eqTrouble n a b = some (decide (a = b)) := by
  unfold m_laws_eqTrouble
  cases a; cases b
  simp only [STrouble.mk.injEq]
  repeat' split
  all_goals simp_all

theorem p_eqTroubleS (n : Nat) (a : List STrouble) (ha : a.length ≤ 1048576) (hn : 1048576 < n) : m_laws_eqTroubleS n a a = some true := by
  unfold m_laws_eqTroubleS
  simp only [bne_self_eq_false, Bool.false_eq_true, if_false]
  have := loopN_listAll (body := m_laws_eqTroubleS_l1 n a a) a (fun _ => true) (fun i => (i : Int)) (.inl ()) (.inr false)
    (fun i x hx => by
      have hlt := lt_of_get hx
      unfold m_laws_eqTroubleS_l1
      simp only [ltB hlt, if_true, idx_nat a i, hx, Option.bind_some, p_eqTrouble, succ64 hlt (by omega)]; simp)
    (by unfold m_laws_eqTroubleS_l1; simp) n (by omega)
  have h2 : loopN (m_laws_eqTroubleS_l1 n a a) n 0 = _ := this
  rw [h2]; simp

/-- What a mark leaves. -/
def mkTrouble (n : Nat) (K : Int) (N : Nat) : List STrouble := (List.range N).map (fun i : Nat => (⟨(K + 2 * (i : Int)), (K + 2 * (i : Int) + 1)⟩ : STrouble))

theorem mkTrouble_len (n : Nat) (K : Int) (N : Nat) : (mkTrouble n K N).length = N := by simp [mkTrouble]

theorem p_markTroubleK (n : Nat) (K : Int) (a : List STrouble) (h0 : 1 ≤ K) (hl : a.length ≤ 1048576) (ha : K + 2 * (a.length : Int) ≤ 1000000000) (hn : 1048578 < n) : m_laws_markTroubleS n a K = some (K + 2 * (a.length : Int), mkTrouble n K a.length) := by
  unfold m_laws_markTroubleS mkTrouble
  have := loopN_fillL (body := m_laws_markTroubleS_l1 n) a.length (fun i : Nat => (⟨(K + 2 * (i : Int)), (K + 2 * (i : Int) + 1)⟩ : STrouble)) a rfl (fun i l => (K + 2 * (i : Int), (i : Int), l)) (fun l => (K + 2 * (a.length : Int), l))
    (fun i l x hi hll hx => by
      have hb : decide ((i : Int) < (l.length : Int)) = true := by rw [hll]; exact ltB hi
      have hi2 : i < l.length := by omega
      have is : ∀ v, idx (l.set i v) (i : Int) = some v := fun v => by rw [idx_nat, List.getElem?_set_self hi2]
      have u1 : wI64 (K + 2 * (i : Int) + 1) = K + 2 * (i : Int) + 1 := wI64_eq (by omega) (by omega)
      have u2 : wI64 (K + 2 * (i : Int) + 1 + 1) = K + 2 * ((i + 1 : Nat) : Int) := by rw [wI64_eq (by omega) (by omega)]; omega
      unfold m_laws_markTroubleS_l1
      simp only [hb, if_true, hx, Option.bind_some, succ64 hi (by omega), Int.toNat_natCast, is, List.set_set, u1, u2])
    (fun l hll => by unfold m_laws_markTroubleS_l1; simp [hll]) n (by omega)
  rw [show K + 2 * ((0 : Nat) : Int) = K by simp] at this
  have h2 : loopN (m_laws_markTroubleS_l1 n) n (K, 0, a) = _ := this
  rw [h2]; rfl

theorem p_heldTroubleK (n N : Nat) (K : Int) (h0 : 1 ≤ K) (hN0 : N ≤ 1048576) (hN : K + 2 * (N : Int) ≤ 1000000000) (hn : 1048578 < n) : m_laws_heldTroubleS n (mkTrouble n K N) K = some (K + 2 * (N : Int)) := by
  unfold m_laws_heldTroubleS mkTrouble
  have := loopN_run (body := m_laws_heldTroubleS_l1 n ((List.range N).map (fun i : Nat => (⟨(K + 2 * (i : Int)), (K + 2 * (i : Int) + 1)⟩ : STrouble)))) (fun i => (K + 2 * (i : Int), (i : Int))) (.inl (K + 2 * (N : Int))) N
    (fun i hi => by
      have hl : ((List.range N).map (fun i : Nat => (⟨(K + 2 * (i : Int)), (K + 2 * (i : Int) + 1)⟩ : STrouble))).length = N := by simp
      have u1 : wI64 (K + 2 * (i : Int) + 1) = K + 2 * (i : Int) + 1 := wI64_eq (by omega) (by omega)
      have u2 : wI64 (K + 2 * (i : Int) + 1 + 1) = K + 2 * ((i + 1 : Nat) : Int) := by rw [wI64_eq (by omega) (by omega)]; omega
      unfold m_laws_heldTroubleS_l1
      simp only [hl, ltB hi, if_true, idx_nat, range_map_get _ hi, Option.bind_some, bne_self_eq_false, beq_self_eq_true, Bool.not_true, Bool.false_eq_true, if_false, succ64 hi (by omega), u1, u2])
    (by unfold m_laws_heldTroubleS_l1; simp) n (by omega)
  rw [show K + 2 * ((0 : Nat) : Int) = K by simp] at this
  have h2 : loopN (m_laws_heldTroubleS_l1 n ((List.range N).map (fun i : Nat => (⟨(K + 2 * (i : Int)), (K + 2 * (i : Int) + 1)⟩ : STrouble)))) n (K, 0) = _ := this
  rw [h2]; rfl

theorem p_markTroubleS (n : Nat) (a : List STrouble) (ha : a.length ≤ 1048576) (hn : 1048578 < n) : m_laws_markTroubleS n a 1 = some (1 + 2 * (a.length : Int), mkTrouble n 1 a.length) :=
  p_markTroubleK n 1 a (by omega) ha (by omega) hn

theorem p_heldTroubleS (n N : Nat) (hN : N ≤ 1048576) (hn : 1048578 < n) : m_laws_heldTroubleS n (mkTrouble n 1 N) 1 = some (1 + 2 * (N : Int)) :=
  p_heldTroubleK n N 1 (by omega) hN (by omega) hn

theorem p_toStyle (n : Nat) (a : SStyle) : m_laws_toStyle n a = some a := rfl

theorem p_eqStyle (n : Nat) (a b : SStyle) : m_laws_eqStyle n a b = some (decide (a = b)) := by
  unfold m_laws_eqStyle
  cases a; cases b
  simp only [SStyle.mk.injEq]
  repeat' split
  all_goals simp_all

end Go.Gv
