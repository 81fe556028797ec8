/- Plain laws of what all statements share: ranges, copies, comparisons, marks. -/
import Derived.Test.YtkpdicajinionaaPu
import Derived.Test.YtkpdicajinionaaMo
namespace Go.Gv
open Go Go.RowKit

theorem p_l00In (n : Nat) (a b c : Int) : m_spec_l00In n a b c = some (decide (b ≤ a) && decide (a ≤ c)) := by
  unfold m_spec_l00In
  by_cases h : b ≤ a <;> simp [h]

theorem p_within (n : Nat) (a b c : Int) : m_impl_within n a b c = some (decide (b ≤ a) && decide (a ≤ c)) := by
  unfold m_impl_within
  by_cases h : b ≤ a <;> simp [h]

def total (rows : List (List UInt8)) : Nat := (rows.map List.length).sum

theorem mem_le_total {rows : List (List UInt8)} {r : List UInt8} (h : r ∈ rows) : r.length ≤ total rows := by
  induction rows with
  | nil => simp at h
  | cons y ys ih =>
    simp only [total, List.map_cons, List.sum_cons] at ih ⊢
    rcases List.mem_cons.1 h with rfl | h
    · omega
    · have := ih h; omega

/-- The text of a mark. -/
def markT (n : Nat) (k : Int) : List UInt8 := (m_laws_markText n k).getD []

theorem markText_loop (n : Nat) : ∀ (j m k : Nat) (s : List UInt8), j < m → k < 2 ^ j → k ≤ 1000000000 → s.length + j ≤ 2097152 → ∃ t, loopN (m_laws_markText_l1 n) m ((k : Int), s) = some t ∧ t.length ≤ 2097152 := by
  intro j
  induction j with
  | zero =>
    intro m k s hm hk hk2 hs
    obtain ⟨m, rfl⟩ : ∃ q, m = q + 1 := ⟨m - 1, by omega⟩
    have h0 : k = 0 := by simpa using hk
    subst h0
    refine ⟨s, ?_, by omega⟩
    unfold loopN
    unfold m_laws_markText_l1; simp
  | succ j ih =>
    intro m k s hm hk hk2 hs
    obtain ⟨m, rfl⟩ : ∃ q, m = q + 1 := ⟨m - 1, by omega⟩
    by_cases h0 : k = 0
    · subst h0
      refine ⟨s, ?_, by omega⟩
      unfold loopN
      unfold m_laws_markText_l1; simp
    · have hgt : decide ((k : Int) > 0) = true := by simp; omega
      have hz : (0 : Int) ≤ ((k / 10 : Nat) : Int) := Int.natCast_nonneg _
      have e : wI64 (Int.tdiv (k : Int) 10) = ((k / 10 : Nat) : Int) := by
        rw [show Int.tdiv (k : Int) 10 = ((k / 10 : Nat) : Int) by rfl, wI64_eq (by omega) (by omega)]
      have hp : 2 ^ (j + 1) = 2 * 2 ^ j := by rw [Nat.pow_succ, Nat.mul_comm]
      obtain ⟨t, ht, hl⟩ := ih m (k / 10) (ofBytes ([(IntKind.u8.wrap (wI64 (48 + (Int.tmod (k : Int) 10))))] : List Int) ++ s) (by omega) (by omega) (by omega) (by simp [ofBytes]; omega)
      refine ⟨t, ?_, hl⟩
      unfold loopN
      have hb : m_laws_markText_l1 n ((k : Int), s) = some (.next (((k / 10 : Nat) : Int), ofBytes ([(IntKind.u8.wrap (wI64 (48 + (Int.tmod (k : Int) 10))))] : List Int) ++ s)) := by
        unfold m_laws_markText_l1
        simp only [hgt, if_true]
        rw [app_eq (by simp [ofBytes]; omega)]
        simp only [Option.bind_some, e]
      rw [hb]
      exact ht

theorem p_markText (n : Nat) (k : Int) (h1 : 1 ≤ k) (h2 : k ≤ 1000000000) (hn : 1048577 < n) : m_laws_markText n k = some (markT n k) := by
  obtain ⟨j, rfl⟩ : ∃ j : Nat, k = (j : Int) := ⟨k.toNat, by omega⟩
  obtain ⟨t, ht, hl⟩ := markText_loop n 30 n j [] (by omega) (Nat.lt_of_le_of_lt (show j ≤ 1000000000 by omega) (by decide)) (by omega) (by simp)
  have : m_laws_markText n (j : Int) = some ([109] ++ t) := by
    unfold m_laws_markText
    have h0 : decide ((j : Int) ≤ 0) = false := by simp; omega
    simp only [h0, Bool.false_eq_true, if_false]
    rw [ht]
    simp only [Option.bind_some]
    rw [app_eq (by simp; omega)]
    rfl
  rw [this]; simp [markT, this]


theorem p_szGoodS (n : Nat) (rows : List SGood) (L : Int) (h0 : 0 ≤ L) (h1 : L ≤ 1048576) (hl : rows.length ≤ 9223372036854775807) (hs : ∀ r ∈ rows, strok r.Name) (hn : 1048576 < n) :
    ∃ v, m_laws_szGoodS n rows L = some v ∧ (v < 0 ∨ (0 ≤ v ∧ v = L - rows.length - total (rows.map (·.Name)))) := by
  unfold m_laws_szGoodS
  have w1 : wI64 (L - (rows.length : Int)) = L - rows.length := wI64_eq (by omega) (by omega)
  rw [w1]
  by_cases hneg : L - (rows.length : Int) < 0
  · exact ⟨-1, by simp [hneg], .inl (by omega)⟩
  · simp only [hneg, decide_false, Bool.false_eq_true, if_false]
    have hrun := loopN_runL (body := m_laws_szGoodS_l1 n rows) rows (fun _ (b : Int) (x : SGood) => if b - x.Name.length < 0 then .error (.inr (-1)) else .ok (b - x.Name.length)) (L - rows.length) (fun i b => (b, (i : Int))) (fun b => .inl b)
      (fun i b => 0 ≤ b ∧ b ≤ 1048576 ∧ b = L - rows.length - total ((rows.take i).map (·.Name))) ⟨by omega, by omega, by simp [total]⟩
      (fun i x b hx ⟨hb0, hb1, hb2⟩ => by
        have hlt : i < rows.length := by
          rcases Nat.lt_or_ge i rows.length with h | h
          · exact h
          · rw [List.getElem?_eq_none h] at hx; cases hx
        have hxs := hs x (List.mem_of_getElem? hx)
        unfold strok at hxs
        have w2 : wI64 (b - (x.Name.length : Int)) = b - x.Name.length := wI64_eq (by omega) (by omega)
        have w3 : wI64 ((i : Int) + 1) = ((i + 1 : Nat) : Int) := by rw [wI64_eq (by omega) (by omega)]; omega
        have hb : decide ((i : Int) < (rows.length : Int)) = true := by simp; omega
        unfold m_laws_szGoodS_l1
        simp only [hb, if_true, idx_nat, hx, Option.bind_some, m_laws_szGood, w2, w3]
        by_cases hc : b - (x.Name.length : Int) < 0
        · simp [hc]
        · simp only [hc, decide_false, Bool.false_eq_true, if_false, Option.bind_some, true_and]
          refine ⟨by omega, by omega, ?_⟩
          rw [List.take_add_one, hx]; simp [total] at hb2 ⊢; omega)
      (fun b _ => by unfold m_laws_szGoodS_l1; simp) n (by omega)
    obtain ⟨hr, hI⟩ := hrun
    have hr' : loopN (m_laws_szGoodS_l1 n rows) n (L - (rows.length : Int), 0) = _ := hr
    rw [hr']
    cases hc : runL (fun _ (b : Int) (x : SGood) => if b - x.Name.length < 0 then Except.error (Sum.inr (-1) : Int ⊕ Int) else .ok (b - x.Name.length)) 0 rows (L - rows.length) with
    | ok b =>
      have := hI b hc
      simp only [List.take_length] at this
      exact ⟨b, rfl, .inr ⟨this.1, this.2.2⟩⟩
    | error t =>
      have ht : t = .inr (-1) := by
        have : ∀ (ys : List SGood) (i : Nat) (b : Int), runL (fun _ (b : Int) (x : SGood) => if b - x.Name.length < 0 then Except.error (Sum.inr (-1) : Int ⊕ Int) else .ok (b - x.Name.length)) i ys b = .error t → t = .inr (-1) := by
          intro ys
          induction ys with
          | nil => intro i b h; simp [runL] at h
          | cons y ys ih =>
            intro i b h
            simp only [runL] at h
            by_cases hc : b - (y.Name.length : Int) < 0
            · simp [hc] at h; exact h.symm
            · simp [hc] at h; exact ih _ _ h
        exact this _ _ _ hc
      subst ht
      exact ⟨-1, rfl, .inl (by omega)⟩


theorem p_szGood (n : Nat) (x : SGood) (L : Int) (h0 : 0 ≤ L) (h1 : L ≤ 1048576) (hs : strok x.Name) : ∃ v, m_laws_szGood n x L = some v ∧ (v < 0 ∨ (0 ≤ v ∧ v = L - x.Name.length)) := by
  unfold strok at hs
  unfold m_laws_szGood
  rw [wI64_eq (x := L - (x.Name.length : Int)) (by omega) (by omega)]
  by_cases hc : L - (x.Name.length : Int) < 0
  · exact ⟨-1, by simp [hc], .inl (by omega)⟩
  · exact ⟨_, by simp [hc], .inr ⟨by omega, rfl⟩⟩


theorem p_toGood (n : Nat) (a : SGood) : m_laws_toGood n a = some a := rfl

theorem p_eqGood (n : Nat) (a b : SGood) : m_laws_eqGood n a b = some (decide (a = b)) := by
  unfold m_laws_eqGood
  cases a; cases b
  simp only [SGood.mk.injEq]
  repeat' split
  all_goals simp_all

theorem p_toGoodS (n : Nat) (a : List SGood) (ha : a.length ≤ 1048576) (hn : 1048576 < n) : m_laws_toGoodS n a = some a := by
  unfold m_laws_toGoodS
  rw [mk_nat _ _ (by omega)]
  simp only [Option.bind_some]
  have := loopN_fill (body := m_laws_toGoodS_l1 n a) a.length (fun i => a.getD i ((SGood.mk [] 0 0 0) : SGood)) (List.replicate a.length ((SGood.mk [] 0 0 0) : SGood)) (by simp) (fun i l => ((i : Int), l)) id
    (fun i l x hi hl hx => by
      have hb : decide ((i : Int) < (a.length : Int)) = true := by simp; omega
      have w3 : wI64 ((i : Int) + 1) = ((i + 1 : Nat) : Int) := by rw [wI64_eq (by omega) (by omega)]; omega
      unfold m_laws_toGoodS_l1
      simp only [hb, if_true, idx_nat a i, getD_of hi ((SGood.mk [] 0 0 0) : SGood), Option.bind_some, p_toGood, hx, w3, Int.toNat_natCast])
    (fun l => by unfold m_laws_toGoodS_l1; simp) n (by omega)
  have h2 : loopN (m_laws_toGoodS_l1 n a) n (0, List.replicate a.length ((SGood.mk [] 0 0 0) : SGood)) = _ := this
  rw [h2, range_map_getD]; rfl

theorem p_eqGoodS (n : Nat) (a : List SGood) (ha : a.length ≤ 1048576) (hn : 1048576 < n) : m_laws_eqGoodS n a a = some true := by
  unfold m_laws_eqGoodS
  simp only [bne_self_eq_false, Bool.false_eq_true, if_false]
  have := loopN_listAll (body := m_laws_eqGoodS_l1 n a a) a (fun _ => true) (fun i => (i : Int)) (.inl ()) (.inr false)
    (fun i x hx => by
      have hlt := lt_of_get hx
      unfold m_laws_eqGoodS_l1
      simp only [ltB hlt, if_true, idx_nat a i, hx, Option.bind_some, p_eqGood, succ64 hlt (by omega)]; simp)
    (by unfold m_laws_eqGoodS_l1; simp) n (by omega)
  have h2 : loopN (m_laws_eqGoodS_l1 n a a) n 0 = _ := this
  rw [h2]; simp

/-- What a mark leaves. -/
def mkGood (n : Nat) (K : Int) (N : Nat) : List SGood := (List.range N).map (fun i : Nat => (⟨markT n (K + 4 * (i : Int)), (K + 4 * (i : Int) + 1), (K + 4 * (i : Int) + 1 + 1), (K + 4 * (i : Int) + 1 + 1 + 1)⟩ : SGood))

theorem mkGood_len (n : Nat) (K : Int) (N : Nat) : (mkGood n K N).length = N := by simp [mkGood]

theorem p_markGoodK (n : Nat) (K : Int) (a : List SGood) (h0 : 1 ≤ K) (hl : a.length ≤ 1048576) (ha : K + 4 * (a.length : Int) ≤ 1000000000) (hn : 1048578 < n) : m_laws_markGoodS n a K = some (K + 4 * (a.length : Int), mkGood n K a.length) := by
  unfold m_laws_markGoodS mkGood
  have := loopN_fillL (body := m_laws_markGoodS_l1 n) a.length (fun i : Nat => (⟨markT n (K + 4 * (i : Int)), (K + 4 * (i : Int) + 1), (K + 4 * (i : Int) + 1 + 1), (K + 4 * (i : Int) + 1 + 1 + 1)⟩ : SGood)) a rfl (fun i l => (K + 4 * (i : Int), (i : Int), l)) (fun l => (K + 4 * (a.length : Int), l))
    (fun i l x hi hll hx => by
      have hb : decide ((i : Int) < (l.length : Int)) = true := by rw [hll]; exact ltB hi
      have hi2 : i < l.length := by omega
      have is : ∀ v, idx (l.set i v) (i : Int) = some v := fun v => by rw [idx_nat, List.getElem?_set_self hi2]
      have u1 : wI64 (K + 4 * (i : Int) + 1) = K + 4 * (i : Int) + 1 := wI64_eq (by omega) (by omega)
      have u2 : wI64 (K + 4 * (i : Int) + 1 + 1) = K + 4 * (i : Int) + 1 + 1 := wI64_eq (by omega) (by omega)
      have u3 : wI64 (K + 4 * (i : Int) + 1 + 1 + 1) = K + 4 * (i : Int) + 1 + 1 + 1 := wI64_eq (by omega) (by omega)
      have u4 : wI64 (K + 4 * (i : Int) + 1 + 1 + 1 + 1) = K + 4 * ((i + 1 : Nat) : Int) := by rw [wI64_eq (by omega) (by omega)]; omega
      unfold m_laws_markGoodS_l1
      simp only [hb, if_true, p_markText n (K + 4 * (i : Int)) (by omega) (by omega) (by omega), hx, Option.bind_some, succ64 hi (by omega), Int.toNat_natCast, is, List.set_set, u1, u2, u3, u4])
    (fun l hll => by unfold m_laws_markGoodS_l1; simp [hll]) n (by omega)
  rw [show K + 4 * ((0 : Nat) : Int) = K by simp] at this
  have h2 : loopN (m_laws_markGoodS_l1 n) n (K, 0, a) = _ := this
  rw [h2]; rfl

theorem p_heldGoodK (n N : Nat) (K : Int) (h0 : 1 ≤ K) (hN0 : N ≤ 1048576) (hN : K + 4 * (N : Int) ≤ 1000000000) (hn : 1048578 < n) : m_laws_heldGoodS n (mkGood n K N) K = some (K + 4 * (N : Int)) := by
  unfold m_laws_heldGoodS mkGood
  have := loopN_run (body := m_laws_heldGoodS_l1 n ((List.range N).map (fun i : Nat => (⟨markT n (K + 4 * (i : Int)), (K + 4 * (i : Int) + 1), (K + 4 * (i : Int) + 1 + 1), (K + 4 * (i : Int) + 1 + 1 + 1)⟩ : SGood)))) (fun i => (K + 4 * (i : Int), (i : Int))) (.inl (K + 4 * (N : Int))) N
    (fun i hi => by
      have hl : ((List.range N).map (fun i : Nat => (⟨markT n (K + 4 * (i : Int)), (K + 4 * (i : Int) + 1), (K + 4 * (i : Int) + 1 + 1), (K + 4 * (i : Int) + 1 + 1 + 1)⟩ : SGood))).length = N := by simp
      have u1 : wI64 (K + 4 * (i : Int) + 1) = K + 4 * (i : Int) + 1 := wI64_eq (by omega) (by omega)
      have u2 : wI64 (K + 4 * (i : Int) + 1 + 1) = K + 4 * (i : Int) + 1 + 1 := wI64_eq (by omega) (by omega)
      have u3 : wI64 (K + 4 * (i : Int) + 1 + 1 + 1) = K + 4 * (i : Int) + 1 + 1 + 1 := wI64_eq (by omega) (by omega)
      have u4 : wI64 (K + 4 * (i : Int) + 1 + 1 + 1 + 1) = K + 4 * ((i + 1 : Nat) : Int) := by rw [wI64_eq (by omega) (by omega)]; omega
      unfold m_laws_heldGoodS_l1
      simp only [hl, ltB hi, if_true, idx_nat, range_map_get _ hi, p_markText n (K + 4 * (i : Int)) (by omega) (by omega) (by omega), Option.bind_some, bne_self_eq_false, beq_self_eq_true, Bool.not_true, Bool.false_eq_true, if_false, succ64 hi (by omega), u1, u2, u3, u4])
    (by unfold m_laws_heldGoodS_l1; simp) n (by omega)
  rw [show K + 4 * ((0 : Nat) : Int) = K by simp] at this
  have h2 : loopN (m_laws_heldGoodS_l1 n ((List.range N).map (fun i : Nat => (⟨markT n (K + 4 * (i : Int)), (K + 4 * (i : Int) + 1), (K + 4 * (i : Int) + 1 + 1), (K + 4 * (i : Int) + 1 + 1 + 1)⟩ : SGood)))) n (K, 0) = _ := this
  rw [h2]; rfl

theorem p_markGoodS (n : Nat) (a : List SGood) (ha : a.length ≤ 1048576) (hn : 1048578 < n) : m_laws_markGoodS n a 1 = some (1 + 4 * (a.length : Int), mkGood n 1 a.length) :=
  p_markGoodK n 1 a (by omega) ha (by omega) hn

theorem p_heldGoodS (n N : Nat) (hN : N ≤ 1048576) (hn : 1048578 < n) : m_laws_heldGoodS n (mkGood n 1 N) 1 = some (1 + 4 * (N : Int)) :=
  p_heldGoodK n N 1 (by omega) hN (by omega) hn

theorem p_szTakeS (n : Nat) (rows : List STake) (L : Int) (h0 : 0 ≤ L) (h1 : L ≤ 1048576) (hl : rows.length ≤ 9223372036854775807) (hs : ∀ r ∈ rows, strok r.Name) (hn : 1048576 < n) :
    ∃ v, m_laws_szTakeS n rows L = some v ∧ (v < 0 ∨ (0 ≤ v ∧ v = L - rows.length - total (rows.map (·.Name)))) := by
  unfold m_laws_szTakeS
  have w1 : wI64 (L - (rows.length : Int)) = L - rows.length := wI64_eq (by omega) (by omega)
  rw [w1]
  by_cases hneg : L - (rows.length : Int) < 0
  · exact ⟨-1, by simp [hneg], .inl (by omega)⟩
  · simp only [hneg, decide_false, Bool.false_eq_true, if_false]
    have hrun := loopN_runL (body := m_laws_szTakeS_l1 n rows) rows (fun _ (b : Int) (x : STake) => if b - x.Name.length < 0 then .error (.inr (-1)) else .ok (b - x.Name.length)) (L - rows.length) (fun i b => (b, (i : Int))) (fun b => .inl b)
      (fun i b => 0 ≤ b ∧ b ≤ 1048576 ∧ b = L - rows.length - total ((rows.take i).map (·.Name))) ⟨by omega, by omega, by simp [total]⟩
      (fun i x b hx ⟨hb0, hb1, hb2⟩ => by
        have hlt : i < rows.length := by
          rcases Nat.lt_or_ge i rows.length with h | h
          · exact h
          · rw [List.getElem?_eq_none h] at hx; cases hx
        have hxs := hs x (List.mem_of_getElem? hx)
        unfold strok at hxs
        have w2 : wI64 (b - (x.Name.length : Int)) = b - x.Name.length := wI64_eq (by omega) (by omega)
        have w3 : wI64 ((i : Int) + 1) = ((i + 1 : Nat) : Int) := by rw [wI64_eq (by omega) (by omega)]; omega
        have hb : decide ((i : Int) < (rows.length : Int)) = true := by simp; omega
        unfold m_laws_szTakeS_l1
        simp only [hb, if_true, idx_nat, hx, Option.bind_some, m_laws_szTake, w2, w3]
        by_cases hc : b - (x.Name.length : Int) < 0
        · simp [hc]
        · simp only [hc, decide_false, Bool.false_eq_true, if_false, Option.bind_some, true_and]
          refine ⟨by omega, by omega, ?_⟩
          rw [List.take_add_one, hx]; simp [total] at hb2 ⊢; omega)
      (fun b _ => by unfold m_laws_szTakeS_l1; simp) n (by omega)
    obtain ⟨hr, hI⟩ := hrun
    have hr' : loopN (m_laws_szTakeS_l1 n rows) n (L - (rows.length : Int), 0) = _ := hr
    rw [hr']
    cases hc : runL (fun _ (b : Int) (x : STake) => if b - x.Name.length < 0 then Except.error (Sum.inr (-1) : Int ⊕ Int) else .ok (b - x.Name.length)) 0 rows (L - rows.length) with
    | ok b =>
      have := hI b hc
      simp only [List.take_length] at this
      exact ⟨b, rfl, .inr ⟨this.1, this.2.2⟩⟩
    | error t =>
      have ht : t = .inr (-1) := by
        have : ∀ (ys : List STake) (i : Nat) (b : Int), runL (fun _ (b : Int) (x : STake) => if b - x.Name.length < 0 then Except.error (Sum.inr (-1) : Int ⊕ Int) else .ok (b - x.Name.length)) i ys b = .error t → t = .inr (-1) := by
          intro ys
          induction ys with
          | nil => intro i b h; simp [runL] at h
          | cons y ys ih =>
            intro i b h
            simp only [runL] at h
            by_cases hc : b - (y.Name.length : Int) < 0
            · simp [hc] at h; exact h.symm
            · simp [hc] at h; exact ih _ _ h
        exact this _ _ _ hc
      subst ht
      exact ⟨-1, rfl, .inl (by omega)⟩


theorem p_szTake (n : Nat) (x : STake) (L : Int) (h0 : 0 ≤ L) (h1 : L ≤ 1048576) (hs : strok x.Name) : ∃ v, m_laws_szTake n x L = some v ∧ (v < 0 ∨ (0 ≤ v ∧ v = L - x.Name.length)) := by
  unfold strok at hs
  unfold m_laws_szTake
  rw [wI64_eq (x := L - (x.Name.length : Int)) (by omega) (by omega)]
  by_cases hc : L - (x.Name.length : Int) < 0
  · exact ⟨-1, by simp [hc], .inl (by omega)⟩
  · exact ⟨_, by simp [hc], .inr ⟨by omega, rfl⟩⟩


theorem p_toTake (n : Nat) (a : STake) : m_laws_toTake n a = some a := rfl

theorem p_eqTake (n : Nat) (a b : STake) : m_laws_eqTake n a b = some (decide (a = b)) := by
  unfold m_laws_eqTake
  cases a; cases b
  simp only [STake.mk.injEq]
  repeat' split
  all_goals simp_all

theorem p_toTakeS (n : Nat) (a : List STake) (ha : a.length ≤ 1048576) (hn : 1048576 < n) : m_laws_toTakeS n a = some a := by
  unfold m_laws_toTakeS
  rw [mk_nat _ _ (by omega)]
  simp only [Option.bind_some]
  have := loopN_fill (body := m_laws_toTakeS_l1 n a) a.length (fun i => a.getD i ((STake.mk [] 0) : STake)) (List.replicate a.length ((STake.mk [] 0) : STake)) (by simp) (fun i l => ((i : Int), l)) id
    (fun i l x hi hl hx => by
      have hb : decide ((i : Int) < (a.length : Int)) = true := by simp; omega
      have w3 : wI64 ((i : Int) + 1) = ((i + 1 : Nat) : Int) := by rw [wI64_eq (by omega) (by omega)]; omega
      unfold m_laws_toTakeS_l1
      simp only [hb, if_true, idx_nat a i, getD_of hi ((STake.mk [] 0) : STake), Option.bind_some, p_toTake, hx, w3, Int.toNat_natCast])
    (fun l => by unfold m_laws_toTakeS_l1; simp) n (by omega)
  have h2 : loopN (m_laws_toTakeS_l1 n a) n (0, List.replicate a.length ((STake.mk [] 0) : STake)) = _ := this
  rw [h2, range_map_getD]; rfl

theorem p_eqTakeS (n : Nat) (a : List STake) (ha : a.length ≤ 1048576) (hn : 1048576 < n) : m_laws_eqTakeS n a a = some true := by
  unfold m_laws_eqTakeS
  simp only [bne_self_eq_false, Bool.false_eq_true, if_false]
  have := loopN_listAll (body := m_laws_eqTakeS_l1 n a a) a (fun _ => true) (fun i => (i : Int)) (.inl ()) (.inr false)
    (fun i x hx => by
      have hlt := lt_of_get hx
      unfold m_laws_eqTakeS_l1
      simp only [ltB hlt, if_true, idx_nat a i, hx, Option.bind_some, p_eqTake, succ64 hlt (by omega)]; simp)
    (by unfold m_laws_eqTakeS_l1; simp) n (by omega)
  have h2 : loopN (m_laws_eqTakeS_l1 n a a) n 0 = _ := this
  rw [h2]; simp

/-- What a mark leaves. -/
def mkTake (n : Nat) (K : Int) (N : Nat) : List STake := (List.range N).map (fun i : Nat => (⟨markT n (K + 2 * (i : Int)), (K + 2 * (i : Int) + 1)⟩ : STake))

theorem mkTake_len (n : Nat) (K : Int) (N : Nat) : (mkTake n K N).length = N := by simp [mkTake]

theorem p_markTakeK (n : Nat) (K : Int) (a : List STake) (h0 : 1 ≤ K) (hl : a.length ≤ 1048576) (ha : K + 2 * (a.length : Int) ≤ 1000000000) (hn : 1048578 < n) : m_laws_markTakeS n a K = some (K + 2 * (a.length : Int), mkTake n K a.length) := by
  unfold m_laws_markTakeS mkTake
  have := loopN_fillL (body := m_laws_markTakeS_l1 n) a.length (fun i : Nat => (⟨markT n (K + 2 * (i : Int)), (K + 2 * (i : Int) + 1)⟩ : STake)) a rfl (fun i l => (K + 2 * (i : Int), (i : Int), l)) (fun l => (K + 2 * (a.length : Int), l))
    (fun i l x hi hll hx => by
      have hb : decide ((i : Int) < (l.length : Int)) = true := by rw [hll]; exact ltB hi
      have hi2 : i < l.length := by omega
      have is : ∀ v, idx (l.set i v) (i : Int) = some v := fun v => by rw [idx_nat, List.getElem?_set_self hi2]
      have u1 : wI64 (K + 2 * (i : Int) + 1) = K + 2 * (i : Int) + 1 := wI64_eq (by omega) (by omega)
      have u2 : wI64 (K + 2 * (i : Int) + 1 + 1) = K + 2 * ((i + 1 : Nat) : Int) := by rw [wI64_eq (by omega) (by omega)]; omega
      unfold m_laws_markTakeS_l1
      simp only [hb, if_true, p_markText n (K + 2 * (i : Int)) (by omega) (by omega) (by omega), hx, Option.bind_some, succ64 hi (by omega), Int.toNat_natCast, is, List.set_set, u1, u2])
    (fun l hll => by unfold m_laws_markTakeS_l1; simp [hll]) n (by omega)
  rw [show K + 2 * ((0 : Nat) : Int) = K by simp] at this
  have h2 : loopN (m_laws_markTakeS_l1 n) n (K, 0, a) = _ := this
  rw [h2]; rfl

theorem p_heldTakeK (n N : Nat) (K : Int) (h0 : 1 ≤ K) (hN0 : N ≤ 1048576) (hN : K + 2 * (N : Int) ≤ 1000000000) (hn : 1048578 < n) : m_laws_heldTakeS n (mkTake n K N) K = some (K + 2 * (N : Int)) := by
  unfold m_laws_heldTakeS mkTake
  have := loopN_run (body := m_laws_heldTakeS_l1 n ((List.range N).map (fun i : Nat => (⟨markT n (K + 2 * (i : Int)), (K + 2 * (i : Int) + 1)⟩ : STake)))) (fun i => (K + 2 * (i : Int), (i : Int))) (.inl (K + 2 * (N : Int))) N
    (fun i hi => by
      have hl : ((List.range N).map (fun i : Nat => (⟨markT n (K + 2 * (i : Int)), (K + 2 * (i : Int) + 1)⟩ : STake))).length = N := by simp
      have u1 : wI64 (K + 2 * (i : Int) + 1) = K + 2 * (i : Int) + 1 := wI64_eq (by omega) (by omega)
      have u2 : wI64 (K + 2 * (i : Int) + 1 + 1) = K + 2 * ((i + 1 : Nat) : Int) := by rw [wI64_eq (by omega) (by omega)]; omega
      unfold m_laws_heldTakeS_l1
      simp only [hl, ltB hi, if_true, idx_nat, range_map_get _ hi, p_markText n (K + 2 * (i : Int)) (by omega) (by omega) (by omega), Option.bind_some, bne_self_eq_false, beq_self_eq_true, Bool.not_true, Bool.false_eq_true, if_false, succ64 hi (by omega), u1, u2])
    (by unfold m_laws_heldTakeS_l1; simp) n (by omega)
  rw [show K + 2 * ((0 : Nat) : Int) = K by simp] at this
  have h2 : loopN (m_laws_heldTakeS_l1 n ((List.range N).map (fun i : Nat => (⟨markT n (K + 2 * (i : Int)), (K + 2 * (i : Int) + 1)⟩ : STake)))) n (K, 0) = _ := this
  rw [h2]; rfl

theorem p_markTakeS (n : Nat) (a : List STake) (ha : a.length ≤ 1048576) (hn : 1048578 < n) : m_laws_markTakeS n a 1 = some (1 + 2 * (a.length : Int), mkTake n 1 a.length) :=
  p_markTakeK n 1 a (by omega) ha (by omega) hn

theorem p_heldTakeS (n N : Nat) (hN : N ≤ 1048576) (hn : 1048578 < n) : m_laws_heldTakeS n (mkTake n 1 N) 1 = some (1 + 2 * (N : Int)) :=
  p_heldTakeK n N 1 (by omega) hN (by omega) hn

end Go.Gv
