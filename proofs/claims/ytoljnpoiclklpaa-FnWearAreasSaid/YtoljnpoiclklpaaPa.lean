/- Plain laws of what all statements share: ranges, copies, comparisons, marks. -/
import Derived.Test.YtoljnpoiclklpaaPu
import Derived.Test.YtoljnpoiclklpaaMo
namespace Go.Gv
open Go Go.RowKit

theorem p_l00In (n : Nat) (a b c : Int) : m_spec_l00In n a b c = some (decide (b ≤ a) && decide (a ≤ c)) := by
  unfold m_spec_l00In
  by_cases h : b ≤ a <;> simp [h]

theorem p_within (n : Nat) (a b c : Int) : m_impl_within n a b c = some (decide (b ≤ a) && decide (a ≤ c)) := by
  unfold m_impl_within
  by_cases h : b ≤ a <;> simp [h]

theorem p_l00Min (n : Nat) (a b : Int) : m_spec_l00Min n a b = some (min a b) := by
  unfold m_spec_l00Min
  by_cases h : a < b
  · simp [h]; omega
  · simp [h]; omega

theorem p_l00Max (n : Nat) (a b : Int) : m_spec_l00Max n a b = some (max a b) := by
  unfold m_spec_l00Max
  by_cases h : a > b
  · simp [h]; omega
  · simp [h]; omega

def total (rows : List (List UInt8)) : Nat := (rows.map List.length).sum

theorem mem_le_total {rows : List (List UInt8)} {r : List UInt8} (h : r ∈ rows) : r.length ≤ total rows := by
  induction rows with
  | nil => simp at h
  | cons y ys ih =>
    simp only [total, List.map_cons, List.sum_cons] at ih ⊢
    rcases List.mem_cons.1 h with rfl | h
    · omega
    · have := ih h; omega

theorem p_szStringS (n : Nat) (rows : List (List UInt8)) (L : Int) (h0 : 0 ≤ L) (h1 : L ≤ 1048576) (hl : rows.length ≤ 9223372036854775807) (hs : ∀ r ∈ rows, strok r) (hn : 1048576 < n) :
    ∃ v, m_laws_szStringS n rows L = some v ∧ (v < 0 ∨ (0 ≤ v ∧ v = L - rows.length - total rows)) := by
  unfold m_laws_szStringS
  have w1 : wI64 (L - (rows.length : Int)) = L - rows.length := wI64_eq (by omega) (by omega)
  rw [w1]
  by_cases hneg : L - (rows.length : Int) < 0
  · exact ⟨-1, by simp [hneg], .inl (by omega)⟩
  · simp only [hneg, decide_false, Bool.false_eq_true, if_false]
    have hrun := loopN_runL (body := m_laws_szStringS_l1 n rows) rows (fun _ (b : Int) (x : List UInt8) => if b - x.length < 0 then .error (.inr (-1)) else .ok (b - x.length)) (L - rows.length) (fun i b => (b, (i : Int))) (fun b => .inl b)
      (fun i b => 0 ≤ b ∧ b ≤ 1048576 ∧ b = L - rows.length - total (rows.take i)) ⟨by omega, by omega, by simp [total]⟩
      (fun i x b hx ⟨hb0, hb1, hb2⟩ => by
        have hlt : i < rows.length := by
          rcases Nat.lt_or_ge i rows.length with h | h
          · exact h
          · rw [List.getElem?_eq_none h] at hx; cases hx
        have hxs := hs x (List.mem_of_getElem? hx)
        unfold strok at hxs
        have w2 : wI64 (b - (x.length : Int)) = b - x.length := wI64_eq (by omega) (by omega)
        have w3 : wI64 ((i : Int) + 1) = ((i + 1 : Nat) : Int) := by rw [wI64_eq (by omega) (by omega)]; omega
        have hb : decide ((i : Int) < (rows.length : Int)) = true := by simp; omega
        unfold m_laws_szStringS_l1
        simp only [hb, if_true, idx_nat, hx, Option.bind_some, w2, w3]
        by_cases hc : b - (x.length : Int) < 0
        · simp [hc]
        · simp only [hc, decide_false, Bool.false_eq_true, if_false, true_and]
          refine ⟨by omega, by omega, ?_⟩
          rw [List.take_add_one, hx]; simp [total] at hb2 ⊢; omega)
      (fun b _ => by unfold m_laws_szStringS_l1; simp) n (by omega)
    obtain ⟨hr, hI⟩ := hrun
    have hr' : loopN (m_laws_szStringS_l1 n rows) n (L - (rows.length : Int), 0) = _ := hr
    rw [hr']
    cases hc : runL (fun _ (b : Int) (x : List UInt8) => if b - x.length < 0 then Except.error (Sum.inr (-1) : Int ⊕ Int) else .ok (b - x.length)) 0 rows (L - rows.length) with
    | ok b =>
      have := hI b hc
      simp only [List.take_length] at this
      exact ⟨b, rfl, .inr ⟨this.1, this.2.2⟩⟩
    | error t =>
      have ht : t = .inr (-1) := by
        have : ∀ (ys : List (List UInt8)) (i : Nat) (b : Int), runL (fun _ (b : Int) (x : List UInt8) => if b - x.length < 0 then Except.error (Sum.inr (-1) : Int ⊕ Int) else .ok (b - x.length)) i ys b = .error t → t = .inr (-1) := by
          intro ys
          induction ys with
          | nil => intro i b h; simp [runL] at h
          | cons y ys ih =>
            intro i b h
            simp only [runL] at h
            by_cases hc : b - (y.length : Int) < 0
            · simp [hc] at h; exact h.symm
            · simp [hc] at h; exact ih _ _ h
        exact this _ _ _ hc
      subst ht
      exact ⟨-1, rfl, .inl (by omega)⟩


theorem p_toStringS (n : Nat) (a : List (List UInt8)) (ha : a.length ≤ 1048576) (hn : 1048576 < n) : m_laws_toStringS n a = some a := by
  unfold m_laws_toStringS
  rw [mk_nat _ _ (by omega)]
  simp only [Option.bind_some]
  have := loopN_fill (body := m_laws_toStringS_l1 n a) a.length (fun i => a.getD i ([] : List UInt8)) (List.replicate a.length ([] : List UInt8)) (by simp) (fun i l => ((i : Int), l)) id
    (fun i l x hi hl hx => by
      have hb : decide ((i : Int) < (a.length : Int)) = true := by simp; omega
      have w3 : wI64 ((i : Int) + 1) = ((i + 1 : Nat) : Int) := by rw [wI64_eq (by omega) (by omega)]; omega
      unfold m_laws_toStringS_l1
      simp only [hb, if_true, idx_nat a i, getD_of hi ([] : List UInt8), Option.bind_some, hx, w3, Int.toNat_natCast])
    (fun l => by unfold m_laws_toStringS_l1; simp) n (by omega)
  have h2 : loopN (m_laws_toStringS_l1 n a) n (0, List.replicate a.length ([] : List UInt8)) = _ := this
  rw [h2, range_map_getD]; rfl

theorem p_eqStringS (n : Nat) (a : List (List UInt8)) (ha : a.length ≤ 1048576) (hn : 1048576 < n) : m_laws_eqStringS n a a = some true := by
  unfold m_laws_eqStringS
  simp only [bne_self_eq_false, Bool.false_eq_true, if_false]
  have := loopN_listAll (body := m_laws_eqStringS_l1 n a a) a (fun _ => true) (fun i => (i : Int)) (.inl ()) (.inr false)
    (fun i x hx => by
      have hlt := lt_of_get hx
      unfold m_laws_eqStringS_l1
      simp only [ltB hlt, if_true, idx_nat a i, hx, Option.bind_some, succ64 hlt (by omega)]; simp)
    (by unfold m_laws_eqStringS_l1; simp) n (by omega)
  have h2 : loopN (m_laws_eqStringS_l1 n a a) n 0 = _ := this
  rw [h2]; simp

/-- The text of a mark. -/
def markT (n : Nat) (k : Int) : List UInt8 := (m_laws_markText n k).getD []

theorem markText_loop (n : Nat) : ∀ (m : Nat) (k : Nat) (s : List UInt8), k < m → s.length + k ≤ 2097152 → ∃ t, loopN (m_laws_markText_l1 n) m ((k : Int), s) = some t ∧ t.length ≤ 2097152 := by
  intro m
  induction m with
  | zero => intro k s h; omega
  | succ m ih =>
    intro k s hk hs
    by_cases h0 : k = 0
    · subst h0
      refine ⟨s, ?_, by omega⟩
      unfold loopN
      unfold m_laws_markText_l1; simp
    · have hgt : decide ((k : Int) > 0) = true := by simp; omega
      have e : wI64 (Int.tdiv (k : Int) 10) = ((k / 10 : Nat) : Int) := by
        rw [show Int.tdiv (k : Int) 10 = ((k / 10 : Nat) : Int) by rfl, wI64_eq (by omega) (by omega)]
      obtain ⟨t, ht, hl⟩ := ih (k / 10) (ofBytes ([(IntKind.u8.wrap (wI64 (48 + (Int.tmod (k : Int) 10))))] : List Int) ++ s) (by omega) (by simp [ofBytes]; omega)
      refine ⟨t, ?_, hl⟩
      unfold loopN
      have hb : m_laws_markText_l1 n ((k : Int), s) = some (.next (((k / 10 : Nat) : Int), ofBytes ([(IntKind.u8.wrap (wI64 (48 + (Int.tmod (k : Int) 10))))] : List Int) ++ s)) := by
        unfold m_laws_markText_l1
        simp only [hgt, if_true]
        rw [app_eq (by simp [ofBytes]; omega)]
        simp only [Option.bind_some, e]
      rw [hb]
      exact ht

theorem p_markText (n : Nat) (k : Int) (h1 : 1 ≤ k) (h2 : k ≤ 1048577) (hn : 1048577 < n) : m_laws_markText n k = some (markT n k) := by
  obtain ⟨j, rfl⟩ : ∃ j : Nat, k = (j : Int) := ⟨k.toNat, by omega⟩
  obtain ⟨t, ht, hl⟩ := markText_loop n n j [] (by omega) (by simp; omega)
  have : m_laws_markText n (j : Int) = some ([109] ++ t) := by
    unfold m_laws_markText
    have h0 : decide ((j : Int) ≤ 0) = false := by simp; omega
    simp only [h0, Bool.false_eq_true, if_false]
    rw [ht]
    simp only [Option.bind_some]
    rw [app_eq (by simp; omega)]
    rfl
  rw [this]; simp [markT, this]

theorem p_markStringK (n : Nat) (K : Int) (a : List (List UInt8)) (h0 : 1 ≤ K) (ha : K + (a.length : Int) ≤ 1048577) (hn : 1048578 < n) : m_laws_markStringS n a K = some (K + (a.length : Int), (List.range a.length).map (fun i : Nat => markT n (K + (i : Int)))) := by
  unfold m_laws_markStringS
  have := loopN_fillL (body := m_laws_markStringS_l1 n) a.length (fun i : Nat => markT n (K + (i : Int))) a rfl (fun i l => (K + (i : Int), (i : Int), l)) (fun l => (K + (a.length : Int), l))
    (fun i l x hi hl hx => by
      have hb : decide ((i : Int) < (l.length : Int)) = true := by rw [hl]; exact ltB hi
      unfold m_laws_markStringS_l1
      have w4 : wI64 (K + (i : Int) + 1) = K + ((i + 1 : Nat) : Int) := by rw [wI64_eq (by omega) (by omega)]; omega
      simp only [hb, if_true, p_markText n (K + (i : Int)) (by omega) (by omega) (by omega), hx, Option.bind_some, succ64 hi (by omega), w4, Int.toNat_natCast])
    (fun l hl => by unfold m_laws_markStringS_l1; simp [hl]) n (by omega)
  rw [show K + ((0 : Nat) : Int) = K by simp] at this
  have h2 : loopN (m_laws_markStringS_l1 n) n (K, 0, a) = _ := this
  rw [h2]; rfl

theorem p_heldStringK (n N : Nat) (K : Int) (h0 : 1 ≤ K) (hN : K + (N : Int) ≤ 1048577) (hn : 1048578 < n) : m_laws_heldStringS n ((List.range N).map (fun i : Nat => markT n (K + (i : Int)))) K = some (K + (N : Int)) := by
  unfold m_laws_heldStringS
  have := loopN_run (body := m_laws_heldStringS_l1 n ((List.range N).map (fun i : Nat => markT n (K + (i : Int))))) (fun i => (K + (i : Int), (i : Int))) (.inl (K + (N : Int))) N
    (fun i hi => by
      have w4 : wI64 (K + (i : Int) + 1) = K + ((i + 1 : Nat) : Int) := by rw [wI64_eq (by omega) (by omega)]; omega
      have hl : ((List.range N).map (fun i : Nat => markT n (K + (i : Int)))).length = N := by simp
      unfold m_laws_heldStringS_l1
      simp only [hl, ltB hi, if_true, idx_nat, range_map_get _ hi, p_markText n (K + (i : Int)) (by omega) (by omega) (by omega), Option.bind_some, bne_self_eq_false, beq_self_eq_true, Bool.not_true, Bool.false_eq_true, if_false, succ64 hi (by omega), w4])
    (by unfold m_laws_heldStringS_l1; simp) n (by omega)
  rw [show K + ((0 : Nat) : Int) = K by simp] at this
  have h2 : loopN (m_laws_heldStringS_l1 n ((List.range N).map (fun i : Nat => markT n (K + (i : Int))))) n (K, 0) = _ := this
  rw [h2]; rfl

theorem p_markStringS (n : Nat) (a : List (List UInt8)) (ha : a.length ≤ 1048576) (hn : 1048578 < n) : m_laws_markStringS n a 1 = some (1 + (a.length : Int), (List.range a.length).map (fun i : Nat => markT n (1 + (i : Int)))) :=
  p_markStringK n 1 a (by omega) (by omega) hn

theorem p_heldStringS (n N : Nat) (hN : N ≤ 1048576) (hn : 1048578 < n) : m_laws_heldStringS n ((List.range N).map (fun i : Nat => markT n (1 + (i : Int)))) 1 = some (1 + (N : Int)) :=
  p_heldStringK n N 1 (by omega) (by omega) hn

theorem p_eqInt64S (n : Nat) (a : List Int) (ha : a.length ≤ 1048576) (hn : 1048576 < n) : m_laws_eqInt64S n a a = some true := by
  unfold m_laws_eqInt64S
  simp only [bne_self_eq_false, Bool.false_eq_true, if_false]
  have := loopN_listAll (body := m_laws_eqInt64S_l1 n a a) a (fun _ => true) (fun i => (i : Int)) (.inl ()) (.inr false)
    (fun i x hx => by
      have hlt := lt_of_get hx
      unfold m_laws_eqInt64S_l1
      simp only [ltB hlt, if_true, idx_nat a i, hx, Option.bind_some, succ64 hlt (by omega)]; simp)
    (by unfold m_laws_eqInt64S_l1; simp) n (by omega)
  have h2 : loopN (m_laws_eqInt64S_l1 n a a) n 0 = _ := this
  rw [h2]; simp

theorem p_markInt64K (n : Nat) (K : Int) (a : List Int) (h0 : 1 ≤ K) (ha : K + (a.length : Int) ≤ 1048577) (hn : 1048578 < n) : m_laws_markInt64S n a K = some (K + (a.length : Int), (List.range a.length).map (fun i : Nat => K + (i : Int))) := by
  unfold m_laws_markInt64S
  have := loopN_fillL (body := m_laws_markInt64S_l1 n) a.length (fun i : Nat => K + (i : Int)) a rfl (fun i l => (K + (i : Int), (i : Int), l)) (fun l => (K + (a.length : Int), l))
    (fun i l x hi hl hx => by
      have hb : decide ((i : Int) < (l.length : Int)) = true := by rw [hl]; exact ltB hi
      unfold m_laws_markInt64S_l1
      have w4 : wI64 (K + (i : Int) + 1) = K + ((i + 1 : Nat) : Int) := by rw [wI64_eq (by omega) (by omega)]; omega
      simp only [hb, if_true, hx, Option.bind_some, succ64 hi (by omega), w4, Int.toNat_natCast])
    (fun l hl => by unfold m_laws_markInt64S_l1; simp [hl]) n (by omega)
  rw [show K + ((0 : Nat) : Int) = K by simp] at this
  have h2 : loopN (m_laws_markInt64S_l1 n) n (K, 0, a) = _ := this
  rw [h2]; rfl

theorem p_heldInt64K (n N : Nat) (K : Int) (h0 : 1 ≤ K) (hN : K + (N : Int) ≤ 1048577) (hn : 1048578 < n) : m_laws_heldInt64S n ((List.range N).map (fun i : Nat => K + (i : Int))) K = some (K + (N : Int)) := by
  unfold m_laws_heldInt64S
  have := loopN_run (body := m_laws_heldInt64S_l1 n ((List.range N).map (fun i : Nat => K + (i : Int)))) (fun i => (K + (i : Int), (i : Int))) (.inl (K + (N : Int))) N
    (fun i hi => by
      have w4 : wI64 (K + (i : Int) + 1) = K + ((i + 1 : Nat) : Int) := by rw [wI64_eq (by omega) (by omega)]; omega
      have hl : ((List.range N).map (fun i : Nat => K + (i : Int))).length = N := by simp
      unfold m_laws_heldInt64S_l1
      simp only [hl, ltB hi, if_true, idx_nat, range_map_get _ hi, Option.bind_some, bne_self_eq_false, beq_self_eq_true, Bool.not_true, Bool.false_eq_true, if_false, succ64 hi (by omega), w4])
    (by unfold m_laws_heldInt64S_l1; simp) n (by omega)
  rw [show K + ((0 : Nat) : Int) = K by simp] at this
  have h2 : loopN (m_laws_heldInt64S_l1 n ((List.range N).map (fun i : Nat => K + (i : Int)))) n (K, 0) = _ := this
  rw [h2]; rfl

theorem p_markInt64S (n : Nat) (a : List Int) (ha : a.length ≤ 1048576) (hn : 1048578 < n) : m_laws_markInt64S n a 1 = some (1 + (a.length : Int), (List.range a.length).map (fun i : Nat => 1 + (i : Int))) :=
  p_markInt64K n 1 a (by omega) (by omega) hn

theorem p_heldInt64S (n N : Nat) (hN : N ≤ 1048576) (hn : 1048578 < n) : m_laws_heldInt64S n ((List.range N).map (fun i : Nat => 1 + (i : Int))) 1 = some (1 + (N : Int)) :=
  p_heldInt64K n N 1 (by omega) (by omega) hn

end Go.Gv
