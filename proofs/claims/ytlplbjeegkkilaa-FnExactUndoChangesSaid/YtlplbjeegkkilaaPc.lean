/- Plain laws of prescriptions. -/
import Derived.Test.YtlplbjeegkkilaaPa
namespace Go.Gv
open Go Go.RowKit

def mostC (k : Int) : Int := if k = 1 then 200 else if k = 2 ∨ k = 3 ∨ k = 4 then 300 else if k = 5 then 150 else -1

theorem p_l22Most (n : Nat) (k : Int) : m_spec_l22Most n k = some (mostC k) := by
  unfold m_spec_l22Most mostC
  by_cases h1 : k = 1 <;> by_cases h2 : k = 2 <;> by_cases h3 : k = 3 <;> by_cases h4 : k = 4 <;> by_cases h5 : k = 5 <;> simp_all

theorem p_mostChange (n : Nat) (k : Int) : m_impl_mostChange n k = some (if mostC k = -1 then 0 else mostC k) := by
  unfold m_impl_mostChange mostC
  by_cases h : 1 ≤ k ∧ k ≤ 5
  · have : k = 1 ∨ k = 2 ∨ k = 3 ∨ k = 4 ∨ k = 5 := by omega
    rcases this with rfl | rfl | rfl | rfl | rfl <;> simp [m_impl_within, idx]
  · have h1 : k ≠ 1 := by omega
    have h2 : k ≠ 2 := by omega
    have h3 : k ≠ 3 := by omega
    have h4 : k ≠ 4 := by omega
    have h5 : k ≠ 5 := by omega
    by_cases h0 : 1 ≤ k
    · have : ¬ k ≤ 5 := by omega
      simp [m_impl_within, h0, this, h1, h2, h3, h4, h5]
    · simp [m_impl_within, h0, h1, h2, h3, h4, h5]

/-- The statement on MostChange. -/
theorem law_MostChange (k : Int) (hk : i64ok k) : m_laws_FnExactMostChange 2000000 k = some true := by
  unfold m_laws_FnExactMostChange m_spec_MostChange m_impl_MostChange
  rw [p_l22Most, p_mostChange]
  unfold mostC
  by_cases h1 : k = 1 <;> by_cases h2 : k = 2 <;> by_cases h3 : k = 3 <;> by_cases h4 : k = 4 <;> by_cases h5 : k = 5 <;> simp_all

theorem p_specSameChanges (n : Nat) (a b : List SChange) (ha : a.length ≤ 1048576) (hn : 1048576 < n) : m_spec_SameChanges n a b = some (decide (a = b)) := by
  unfold m_spec_SameChanges
  by_cases hl : a.length = b.length
  · have e : ((a.length : Int) != (b.length : Int)) = false := by simp [hl]
    simp only [e, Bool.false_eq_true, if_false]
    have := loopN_all (body := m_spec_SameChanges_l1 n a b) (fun i => (i : Int)) (.inl ()) (.inr false) a.length (fun i => decide (a[i]? = b[i]?))
      (fun i hi => by
        unfold m_spec_SameChanges_l1
        obtain ⟨x, hx⟩ : ∃ x, a[i]? = some x := ⟨_, List.getElem?_eq_getElem hi⟩
        obtain ⟨y, hy⟩ : ∃ y, b[i]? = some y := ⟨_, List.getElem?_eq_getElem (by omega)⟩
        simp only [ltB hi, if_true, idx_nat, hx, hy, Option.bind_some, succ64 hi (by omega)]
        by_cases hxy : x = y <;> simp [hxy])
      (by unfold m_spec_SameChanges_l1; simp) n (by omega)
    have h2 : loopN (m_spec_SameChanges_l1 n a b) n 0 = _ := this
    rw [h2]
    have key : (List.range a.length).all (fun i => decide (a[i]? = b[i]?)) = decide (a = b) := by
      rw [Bool.eq_iff_iff, List.all_eq_true]
      simp only [List.mem_range, decide_eq_true_eq]
      constructor
      · intro h
        apply List.ext_getElem? 
        intro i
        by_cases hi : i < a.length
        · exact h i hi
        · rw [List.getElem?_eq_none (by omega), List.getElem?_eq_none (by omega)]
      · rintro rfl i hi; rfl
    rw [key]
    by_cases hab : a = b <;> simp [hab]
  · have e : ((a.length : Int) != (b.length : Int)) = true := by simp; omega
    have e2 : a ≠ b := fun h => hl (by rw [h])
    simp [e, e2]

theorem p_implSameChanges (n : Nat) (a b : List SChange) (ha : a.length ≤ 1048576) (hn : 1048576 < n) : m_impl_SameChanges n a b = some (decide (a = b)) := by
  have : m_impl_SameChanges n a b = m_spec_SameChanges n a b := by
    unfold m_impl_SameChanges m_slices_Equal_impl_Change_impl_Change m_spec_SameChanges
    have : m_slices_Equal_impl_Change_impl_Change_l1 n a b = m_spec_SameChanges_l1 n a b := rfl
    rw [this]
    simp
  rw [this, p_specSameChanges n a b ha hn]

/-- The statement on SameChanges. -/
theorem law_SameChanges (a b : List SChange) (ha : a.length ≤ 9223372036854775807) (_ : ∀ x ∈ a, okChange x) (hb : b.length ≤ 9223372036854775807) (_ : ∀ x ∈ b, okChange x) : m_laws_FnExactSameChanges 2000000 a b = some true := by
  unfold m_laws_FnExactSameChanges
  obtain ⟨v, hv, hcase⟩ := p_szChangeS 2000000 a 1048576 (by omega) (by omega) ha
  rw [hv]
  simp only [Option.bind_some]
  rcases hcase with h | ⟨h, he⟩
  · simp [h]
  · have hd : decide (v < 0) = false := by simp; omega
    simp only [hd, Bool.false_eq_true, if_false]
    obtain ⟨u, hu, hcase2⟩ := p_szChangeS 2000000 b v (by omega) (by omega) hb
    rw [hu]
    simp only [Option.bind_some]
    rcases hcase2 with h2 | ⟨h2, he2⟩
    · simp [h2]
    · have hd2 : decide (u < 0) = false := by simp; omega
      have la : a.length ≤ 1048576 := by omega
      have lb : b.length ≤ 1048576 := by omega
      simp [hd2, p_toChangeS 2000000 _ la, p_toChangeS 2000000 _ lb, p_specSameChanges 2000000 a b la, p_implSameChanges 2000000 a b la, p_eqChangeS 2000000 _ la, p_eqChangeS 2000000 _ lb]

theorem mostC_bd (k : Int) : -1 ≤ mostC k ∧ mostC k ≤ 300 ∧ mostC k ≠ 0 := by
  unfold mostC; repeat' split
  all_goals omega

/-- A change that may be. -/
def vch (c : SChange) : Bool := decide (c.Amount ≠ 0) && (decide (-(mostC c.Kind) ≤ c.Amount) && decide (c.Amount ≤ mostC c.Kind))

theorem p_l22One (n : Nat) (c : SChange) : m_spec_l22One n c = some (vch c) := by
  unfold m_spec_l22One vch
  obtain ⟨h1, h2, _⟩ := mostC_bd c.Kind
  rw [p_l22Most]
  simp only [Option.bind_some, p_l00In, wI64_eq (x := 0 - mostC c.Kind) (by omega) (by omega)]
  by_cases h : c.Amount = 0
  · simp [h]
  · simp [h]

theorem p_validChange (n : Nat) (c : SChange) : m_impl_validChange n c = some (vch c) := by
  unfold m_impl_validChange vch
  obtain ⟨h1, h2, h3⟩ := mostC_bd c.Kind
  rw [p_mostChange]
  by_cases hm : mostC c.Kind = -1
  · rw [hm]
    by_cases h : c.Amount = 0
    · simp [h]
    · have : ¬ (1 ≤ c.Amount ∧ c.Amount ≤ -1) := by omega
      simp [h]; omega
  · have hpos : mostC c.Kind > 0 := by omega
    simp only [hm, if_false, Option.bind_some, hpos, decide_true, if_true, p_within, wI64_eq (x := 0 - mostC c.Kind) (by omega) (by omega)]
    by_cases h : c.Amount = 0
    · simp [h]
    · simp [h]

theorem p_l22Ok (n : Nat) (a : List SChange) (ha : a.length ≤ 1048576) (hn : 1048576 < n) : m_spec_l22Ok n a = some (decide (a.length ≤ 20) && a.all vch) := by
  unfold m_spec_l22Ok
  have := loopN_listAll (body := m_spec_l22Ok_l1 n a) a vch (fun i => (i : Int)) (.inl ()) (.inr false)
    (fun i x hx => by
      have hlt := lt_of_get hx
      unfold m_spec_l22Ok_l1
      simp only [ltB hlt, if_true, idx_nat, hx, Option.bind_some, p_l22One, succ64 hlt (by omega)]
      cases vch x <;> simp)
    (by unfold m_spec_l22Ok_l1; simp) n (by omega)
  have h2 : loopN (m_spec_l22Ok_l1 n a) n 0 = _ := this
  rw [h2]
  cases h : a.all vch
  · simp
  · simp only [if_true, Option.bind_some, Bool.and_true]
    congr 2; simp; omega

theorem p_implValidChanges (n : Nat) (a : List SChange) (ha : a.length ≤ 1048576) (hn : 1048576 < n) : m_impl_ValidChanges n a = some (decide (a.length ≤ 20) && a.all vch) := by
  unfold m_impl_ValidChanges m_slices_ContainsFunc_impl_Change_impl_Change_f61 m_slices_IndexFunc_impl_Change_impl_Change_f61
  have := loopN_index (body := m_slices_IndexFunc_impl_Change_impl_Change_f61_l1 n a) a (fun x => !vch x)
    (fun i x hx => by
      have hlt := lt_of_get hx
      unfold m_slices_IndexFunc_impl_Change_impl_Change_f61_l1 m_impl_ValidChanges_1
      simp only [ltB hlt, if_true, idx_nat, hx, Option.bind_some, p_validChange, succ64 hlt (by omega)]
      cases vch x <;> simp)
    (by unfold m_slices_IndexFunc_impl_Change_impl_Change_f61_l1; simp) n (by omega)
  rw [this]
  by_cases h : a.length ≤ 20
  · have e : decide ((a.length : Int) ≤ 20) = true := by simp; omega
    simp only [e, if_true, h, decide_true, Bool.true_and]
    cases hf : a.findIdx? (fun x => !vch x) with
    | none =>
      rw [List.findIdx?_eq_none_iff] at hf
      have : a.all vch = true := by rw [List.all_eq_true]; intro x hx; simpa using hf x hx
      simp [this]
    | some i =>
      rw [List.findIdx?_eq_some_iff_getElem] at hf
      obtain ⟨hi, hp, _⟩ := hf
      have : a.all vch = false := by rw [List.all_eq_false]; exact ⟨a[i], List.getElem_mem hi, by simpa using hp⟩
      simp [this]
  · have e : decide ((a.length : Int) ≤ 20) = false := by simp; omega
    simp [e, h]

/-- The statement on ValidChanges. -/
theorem law_ValidChanges (a : List SChange) (ha : a.length ≤ 9223372036854775807) (_ : ∀ x ∈ a, okChange x) : m_laws_FnExactValidChanges 2000000 a = some true := by
  unfold m_laws_FnExactValidChanges
  obtain ⟨v, hv, hcase⟩ := p_szChangeS 2000000 a 1048576 (by omega) (by omega) ha
  rw [hv]
  simp only [Option.bind_some]
  rcases hcase with h | ⟨h, he⟩
  · simp [h]
  · have hd : decide (v < 0) = false := by simp; omega
    have la : a.length ≤ 1048576 := by omega
    simp [hd, p_toChangeS 2000000 _ la, m_spec_ValidChanges, p_l22Ok 2000000 a la, p_implValidChanges 2000000 a la, p_eqChangeS 2000000 _ la]

/-- The marks are held. -/
theorem held_mark (N : Nat) : decide (1 + (N : Int) < 0) = false := by simp; omega

theorem p_fits (n : Nat) (c : SChange) (A S : Int) (hA : 0 ≤ A) (hA2 : A ≤ 300) (hS : 1 ≤ S) (hS2 : S ≤ 100) (hn : 1048576 < n) :
    ∃ q : Int, quo .i64 (wI64 ((wI64 (A + S)) - 1)) S = some q ∧ ∃ l : List Int, l.length ≤ 400 ∧ loopN (m_impl_FittingsOf_l1 n c A q) n (([] : List Int), 0) = some l := by
  have e1 : wI64 ((wI64 (A + S)) - 1) = A + S - 1 := by rw [wI64_eq (x := A + S) (by omega) (by omega), wI64_eq (by omega) (by omega)]
  have hq0 : 0 ≤ Int.tdiv (A + S - 1) S := Int.tdiv_nonneg (by omega) (by omega)
  have hq1 : Int.tdiv (A + S - 1) S ≤ A + S - 1 := by
    rw [Int.tdiv_eq_ediv_of_nonneg (by omega)]; exact Int.ediv_le_self _ (by omega)
  refine ⟨Int.tdiv (A + S - 1) S, ?_, ?_⟩
  · unfold quo; rw [if_neg (by omega), e1]; congr 1
    have := wI64_eq (x := Int.tdiv (A + S - 1) S) (by omega) (by omega)
    simpa [wI64] using this
  · obtain ⟨N, hN⟩ : ∃ N : Nat, Int.tdiv (A + S - 1) S = (N : Int) := ⟨(Int.tdiv (A + S - 1) S).toNat, by omega⟩
    rw [hN]
    rcases Nat.eq_zero_or_pos N with h0 | hpos
    · subst h0
      refine ⟨[], by simp, ?_⟩
      have := loopN_collect (body := m_impl_FittingsOf_l1 n c A 0) 0 (fun _ => (0 : Int)) id (fun i l h => by omega) (fun l hl => by unfold m_impl_FittingsOf_l1; simp) n (by omega)
      simpa using this
    · have hg : ∀ i : Nat, ∃ g : Int, ∀ l : List Int, i < N → l.length = i → m_impl_FittingsOf_l1 n c A (N : Int) (l, (i : Int)) = some (.next (l ++ [g], ((i + 1 : Nat) : Int))) := by
        intro i
        refine ⟨if c.Amount < 0 then wI64 (0 - (if (i : Int) < A.tmod N then wI64 (wI64 (A.tdiv N) + 1) else wI64 (A.tdiv N))) else (if (i : Int) < A.tmod N then wI64 (wI64 (A.tdiv N) + 1) else wI64 (A.tdiv N)), fun l hi hl => ?_⟩
        unfold m_impl_FittingsOf_l1
        have hne : ¬ ((N : Int) = 0) := by omega
        have w3 : wI64 ((i : Int) + 1) = ((i + 1 : Nat) : Int) := by rw [wI64_eq (by omega) (by omega)]; omega
        simp only [ltB hi, if_true, quo, rem, hne, if_false, Option.bind_some, w3]
        rw [show IntKind.i64.wrap (A.tdiv N) = wI64 (A.tdiv N) from rfl]
        have hap : ∀ x : Int, app l [x] = some (l ++ [x]) := fun x => app_eq (by simp; omega)
        by_cases h1 : (i : Int) < A.tmod N <;> by_cases h2 : c.Amount < 0 <;> simp [h1, h2, hap]
      obtain ⟨g, hg'⟩ : ∃ g : Nat → Int, ∀ (i : Nat) (l : List Int), i < N → l.length = i → m_impl_FittingsOf_l1 n c A (N : Int) (l, (i : Int)) = some (.next (l ++ [g i], ((i + 1 : Nat) : Int))) :=
        ⟨fun i => Classical.choose (hg i), fun i => Classical.choose_spec (hg i)⟩
      refine ⟨(List.range N).map g, by simp; omega, ?_⟩
      exact loopN_collect (body := m_impl_FittingsOf_l1 n c A (N : Int)) N g id (fun i l hi hl => hg' i l hi hl) (fun l hl => by unfold m_impl_FittingsOf_l1; simp) n (by omega)

theorem p_FittingsOf (n : Nat) (c : SChange) (S : Int) (hn : 1048576 < n) : ∃ l e, l.length ≤ 400 ∧ m_spec_FittingsOf n c S = some (l, e) ∧ m_impl_FittingsOf n c S = some (l, e) := by
  unfold m_spec_FittingsOf m_impl_FittingsOf
  rw [p_l22One, p_validChange]
  simp only [Option.bind_some, p_l00In, p_within]
  cases hv : vch c
  · exact ⟨[], 1, by simp, rfl, rfl⟩
  · simp only [Bool.not_true, Bool.false_eq_true, if_false]
    by_cases hS : 1 ≤ S ∧ S ≤ 100
    · obtain ⟨h1, h2⟩ := hS
      simp only [h1, h2, decide_true, Bool.and_self, Bool.not_true, Bool.false_eq_true, if_false]
      obtain ⟨b1, b2, _⟩ := mostC_bd c.Kind
      have hb : -300 ≤ c.Amount ∧ c.Amount ≤ 300 := by
        unfold vch at hv; simp at hv; omega
      obtain ⟨A, hA⟩ : ∃ A, A = (if c.Amount < 0 then -c.Amount else c.Amount) := ⟨_, rfl⟩
      have eA : m_spec_l02Size n c.Amount = some A := by
        unfold m_spec_l02Size
        by_cases h : c.Amount < 0
        · simp only [h, decide_true, if_true] at hA ⊢; rw [wI64_eq (by omega) (by omega), hA]; simp
        · simp only [h, decide_false, Bool.false_eq_true, if_false] at hA ⊢; rw [hA]
      have eB : m_impl_apart n c.Amount 0 = some A := by
        unfold m_impl_apart imax
        rw [wI64_eq (by omega) (by omega), wI64_eq (by omega) (by omega), hA]
        by_cases h : c.Amount < 0
        · rw [if_pos (by omega), if_pos h]; simp
        · rw [if_neg (by omega), if_neg h]; simp
      have hA0 : 0 ≤ A ∧ A ≤ 300 := by rw [hA]; split <;> omega
      obtain ⟨q, hq, l, hl, hloop⟩ := p_fits n c A S hA0.1 hA0.2 h1 h2 hn
      have hsame : m_spec_FittingsOf_l1 n c A q = m_impl_FittingsOf_l1 n c A q := rfl
      refine ⟨l, 0, hl, ?_, ?_⟩
      · rw [eA]; simp only [Option.bind_some, hq, hsame, hloop]
      · rw [eB]; simp only [Option.bind_some, hq, hloop]
    · have : (decide (1 ≤ S) && decide (S ≤ 100)) = false := by simp; omega
      simp only [this]
      exact ⟨[], 2, by simp, rfl, rfl⟩

/-- The statement on FittingsOf. -/
theorem law_FittingsOf (c : SChange) (S : Int) (_ : okChange c) (_ : i64ok S) : m_laws_FnExactFittingsOf 2000000 c S = some true := by
  unfold m_laws_FnExactFittingsOf
  obtain ⟨l, e, hl, h1, h2⟩ := p_FittingsOf 2000000 c S (by omega)
  have hne : ¬ (1 + (l.length : Int) < 0) := by omega
  simp [p_toChange, h1, h2, p_eqInt64S 2000000 l (by omega), p_markInt64S 2000000 l (by omega), p_heldInt64S 2000000 l.length (by omega), hne]

/-- The statement on RaiseFor. -/
theorem law_RaiseFor (a b c d : Int) (ha : i64ok a) (hb : i64ok b) (hc : i64ok c) (hd : i64ok d) : m_laws_FnExactRaiseFor 2000000 a b c d = some true := by
  have hout : ∀ n, 1048576 < n → m_impl_outside n [a, b, c, d] 0 400 = some (!(decide (0 ≤ a ∧ a ≤ 400) && decide (0 ≤ b ∧ b ≤ 400) && decide (0 ≤ c ∧ c ≤ 400) && decide (0 ≤ d ∧ d ≤ 400))) := by
    intro n hn
    unfold m_impl_outside m_slices_ContainsFunc_int64_int64_f82 m_slices_IndexFunc_int64_int64_f82
    have := loopN_index (body := m_slices_IndexFunc_int64_int64_f82_l1 n [a, b, c, d] 0 400) [a, b, c, d] (fun x => !decide (0 ≤ x ∧ x ≤ 400))
      (fun i x hx => by
        have hlt := lt_of_get hx
        have h4 : ([a, b, c, d] : List Int).length = 4 := rfl
        rw [h4] at hlt
        unfold m_slices_IndexFunc_int64_int64_f82_l1 m_impl_outside_1
        simp only [h4, ltB hlt, if_true, idx_nat, hx, Option.bind_some, p_within, succ64 hlt (by omega)]
        by_cases h1 : 0 ≤ x <;> by_cases h2 : x ≤ 400 <;> simp [h1, h2])
      (by unfold m_slices_IndexFunc_int64_int64_f82_l1; simp) n (by simp; omega)
    rw [this]
    have e := List.findIdx?_isSome (xs := [a, b, c, d]) (p := fun x => !decide (0 ≤ x ∧ x ≤ 400))
    have e2 : [a, b, c, d].any (fun x => !decide (0 ≤ x ∧ x ≤ 400)) = !(decide (0 ≤ a ∧ a ≤ 400) && decide (0 ≤ b ∧ b ≤ 400) && decide (0 ≤ c ∧ c ≤ 400) && decide (0 ≤ d ∧ d ≤ 400)) := by
      simp only [List.any_cons, List.any_nil, Bool.or_false, Bool.not_and, Bool.or_assoc]
    rw [← e2, ← e]
    cases hf : [a, b, c, d].findIdx? (fun x => !decide (0 ≤ x ∧ x ≤ 400)) with
    | none => simp
    | some i => simp
  have key : ∃ l e, l.length ≤ 400 ∧ m_spec_RaiseFor 2000000 a b c d = some (l, e) ∧ m_impl_RaiseFor 2000000 a b c d = some (l, e) := by
    unfold m_spec_RaiseFor m_impl_RaiseFor m_spec_l22Short
    rw [hout 2000000 (by omega)]
    by_cases h1 : 0 ≤ a ∧ a ≤ 400
    · by_cases h2 : 0 ≤ b ∧ b ≤ 400
      · by_cases h3 : 0 ≤ c ∧ c ≤ 400
        · by_cases h4 : 0 ≤ d ∧ d ≤ 400
          · simp only [p_l00In, h1, h2, h3, h4, decide_true, Bool.and_self, Bool.not_true, Option.bind_some, Bool.false_eq_true, if_false, p_l00Min]
            have e1 : imin a b = min a b := by unfold imin; split <;> omega
            rw [e1]
            have w1 : wI64 (a - min a b) = a - min a b := wI64_eq (by omega) (by omega)
            rw [w1]
            have e2 : imin (a - min a b) c = min (a - min a b) c := by unfold imin; split <;> omega
            rw [e2]
            have w2 : wI64 (a - min a b - min (a - min a b) c) = a - min a b - min (a - min a b) c := wI64_eq (by omega) (by omega)
            rw [w2]
            have e3 : imin (a - min a b - min (a - min a b) c) d = min (a - min a b - min (a - min a b) c) d := by unfold imin; split <;> omega
            rw [e3]
            split
            · exact ⟨[], 10, by simp, rfl, rfl⟩
            · exact ⟨_, 0, by simp, rfl, rfl⟩
          · refine ⟨[], 2, by simp, ?_, by simp [h4]⟩
            have : (decide (0 ≤ d) && decide (d ≤ 400)) = false := by simp; omega
            simp [p_l00In, h1, h2, h3, this]
        · refine ⟨[], 2, by simp, ?_, by simp [h3]⟩
          have : (decide (0 ≤ c) && decide (c ≤ 400)) = false := by simp; omega
          simp only [p_l00In, h1, h2, this]; simp
      · refine ⟨[], 2, by simp, ?_, by simp [h2]⟩
        have : (decide (0 ≤ b) && decide (b ≤ 400)) = false := by simp; omega
        simp only [p_l00In, h1, this]; simp
    · refine ⟨[], 2, by simp, ?_, by simp [h1]⟩
      have : (decide (0 ≤ a) && decide (a ≤ 400)) = false := by simp; omega
      simp only [p_l00In, this]; simp
  obtain ⟨l, e, hl, h1, h2⟩ := key
  unfold m_laws_FnExactRaiseFor
  have hne : ¬ (1 + (l.length : Int) < 0) := by omega
  simp [h1, h2, p_eqInt64S 2000000 l (by omega), p_markInt64S 2000000 l (by omega), p_heldInt64S 2000000 l.length (by omega), hne]

/-- Two changes that lead apart. -/
def clash (o c : SChange) : Bool := decide (o.Kind = c.Kind) && (decide (o.Amount < 0) != decide (c.Amount < 0))

theorem sub_take {α : Type} (xs : List α) {i : Nat} (h : i ≤ xs.length) : Gv.sub xs 0 (i : Int) = some (xs.take i) := by
  unfold Gv.sub; rw [if_pos (by omega)]; simp

theorem p_FirstClash (n : Nat) (a : List SChange) (ha : a.length ≤ 1048576) (hn : 1048576 < n) : ∃ r, m_spec_FirstClash n a = some r ∧ m_impl_FirstClash n a = some r := by
  unfold m_spec_FirstClash m_impl_FirstClash
  rw [p_l22Ok n a ha hn, p_implValidChanges n a ha hn]
  simp only [Option.bind_some]
  cases hv : (decide (a.length ≤ 20) && a.all vch)
  · exact ⟨(0, 0, 1), rfl, rfl⟩
  · simp only [Bool.not_true, Bool.false_eq_true, if_false]
    have h1 := loopN_runL (body := m_spec_FirstClash_l1 n a) a (fun i (_ : Unit) x => match (a.take i).findIdx? (fun o => clash o x) with | some j => .error (Sum.inr ((i : Int), (j : Int), (0 : Int))) | none => .ok ()) ()
      (fun i _ => (i : Int)) (fun _ => Sum.inl ()) (fun _ _ => True) trivial
      (fun i x b hx _ => by
        have hlt := lt_of_get hx
        have inner := loopN_find (body := m_spec_FirstClash_l2 n a (i : Int)) (a.take i) (fun o => clash o x) (fun j => Sum.inr ((i : Int), (j : Int), (0 : Int))) (Sum.inl ())
          (fun j o ho => by
            have hj := lt_of_get ho
            have hji : j < i := by simp at hj; omega
            have ho' : a[j]? = some o := by rw [List.getElem?_take] at ho; simpa [hji] using ho
            unfold m_spec_FirstClash_l2
            simp only [ltB hji, if_true, idx_nat, ho', hx, Option.bind_some, succ64 hji (by omega)]
            unfold clash
            by_cases hk : o.Kind = x.Kind
            · by_cases h1 : o.Amount < 0 <;> by_cases h2 : x.Amount < 0 <;> simp [hk, h1, h2]
            · simp [hk])
          (by
            have : (a.take i).length = i := by simp; omega
            rw [this]; unfold m_spec_FirstClash_l2; simp) n (by simp; omega)
        have inner' : loopN (m_spec_FirstClash_l2 n a (i : Int)) n 0 = _ := inner
        cases hf : (a.take i).findIdx? (fun o => clash o x) with
        | none =>
          refine ⟨?_, trivial⟩
          unfold m_spec_FirstClash_l1
          simp only [ltB hlt, if_true]
          rw [inner', hf]
          simp only [Option.bind_some, succ64 hlt (by omega)]
        | some j =>
          unfold m_spec_FirstClash_l1
          simp only [ltB hlt, if_true]
          rw [inner', hf]
          simp only [Option.bind_some])
      (fun _ _ => by unfold m_spec_FirstClash_l1; simp) n (by omega)
    have h2 := loopN_runL (body := m_impl_FirstClash_l1 n a) a (fun i (_ : Unit) x => match (a.take i).findIdx? (fun o => clash o x) with | some j => .error (Sum.inr ((i : Int), (j : Int), (0 : Int))) | none => .ok ()) ()
      (fun i _ => (i : Int)) (fun _ => Sum.inl ()) (fun _ _ => True) trivial
      (fun i x b hx _ => by
        have hlt := lt_of_get hx
        have inner := loopN_index (body := m_slices_IndexFunc_impl_Change_impl_Change_f69_l1 n (a.take i) x) (a.take i) (fun o => clash o x)
          (fun j o ho => by
            have hj := lt_of_get ho
            unfold m_slices_IndexFunc_impl_Change_impl_Change_f69_l1 m_impl_FirstClash_1
            simp only [ltB hj, if_true, idx_nat, ho, Option.bind_some, succ64 hj (by simp; omega)]
            unfold clash
            by_cases hk : o.Kind = x.Kind
            · by_cases h1 : o.Amount < 0 <;> by_cases h2 : x.Amount < 0 <;> simp [hk, h1, h2]
            · simp [hk])
          (by unfold m_slices_IndexFunc_impl_Change_impl_Change_f69_l1; simp) n (by simp; omega)
        cases hf : (a.take i).findIdx? (fun o => clash o x) with
        | none =>
          refine ⟨?_, trivial⟩
          unfold m_impl_FirstClash_l1
          simp only [ltB hlt, if_true, idx_nat, hx, Option.bind_some, sub_take a (Nat.le_of_lt hlt), m_slices_IndexFunc_impl_Change_impl_Change_f69]
          rw [inner, hf]
          simp [succ64 hlt (by omega)]
        | some j =>
          unfold m_impl_FirstClash_l1
          simp only [ltB hlt, if_true, idx_nat, hx, Option.bind_some, sub_take a (Nat.le_of_lt hlt), m_slices_IndexFunc_impl_Change_impl_Change_f69]
          rw [inner, hf]
          simp)
      (fun _ _ => by unfold m_impl_FirstClash_l1; simp) n (by omega)
    have h1' : loopN (m_spec_FirstClash_l1 n a) n 0 = _ := h1.1
    have h2' : loopN (m_impl_FirstClash_l1 n a) n 0 = _ := h2.1
    rw [h1', h2']
    cases runL (fun i (_ : Unit) x => match (a.take i).findIdx? (fun o => clash o x) with | some j => Except.error (Sum.inr ((i : Int), (j : Int), (0 : Int)) : Unit ⊕ (Int × Int × Int)) | none => .ok ()) 0 a () with
    | ok b => exact ⟨(0, 0, 3), rfl, rfl⟩
    | error t =>
      cases t with
      | inl u => exact ⟨(0, 0, 3), rfl, rfl⟩
      | inr r => exact ⟨r, rfl, rfl⟩

/-- The statement on FirstClash. -/
theorem law_FirstClash (a : List SChange) (ha : a.length ≤ 9223372036854775807) (_ : ∀ x ∈ a, okChange x) : m_laws_FnExactFirstClash 2000000 a = some true := by
  unfold m_laws_FnExactFirstClash
  obtain ⟨v, hv, hcase⟩ := p_szChangeS 2000000 a 1048576 (by omega) (by omega) ha
  rw [hv]
  simp only [Option.bind_some]
  rcases hcase with h | ⟨h, he⟩
  · simp [h]
  · have hd : decide (v < 0) = false := by simp; omega
    have la : a.length ≤ 1048576 := by omega
    obtain ⟨r, h1, h2⟩ := p_FirstClash 2000000 a la (by omega)
    simp [hd, p_toChangeS 2000000 _ la, h1, h2, p_eqChangeS 2000000 _ la]

end Go.Gv
