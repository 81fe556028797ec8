/- Plain laws (those of another seat, turned to this one by tools/renum.py). -/
import Derived.Test.YtlplbjeegkkilaaDoorPa
import Derived.Test.YtlplbjeegkkilaaDoorPn
namespace Go.Gv
open Go Go.RowKit

def mostC (k : Int) : Int := if k = 1 then 200 else if k = 2 ∨ k = 3 ∨ k = 4 then 300 else if k = 5 then 150 else -1

theorem p_l22Most (n : Nat) (k : Int) : m_spec_l22Most n k = some (mostC k) := by
  unfold m_spec_l22Most mostC
  by_cases h1 : k = 1 <;> by_cases h2 : k = 2 <;> by_cases h3 : k = 3 <;> by_cases h4 : k = 4 <;> by_cases h5 : k = 5 <;> simp_all

theorem p_mostChange (n : Nat) (k : Int) : m_impl_mostChange n k = some (if mostC k = -1 then 0 else mostC k) := by
  unfold m_impl_mostChange mostC
  by_cases h : 1 ≤ k ∧ k ≤ 5
  · have : k = 1 ∨ k = 2 ∨ k = 3 ∨ k = 4 ∨ k = 5 := by omega
    rcases this with rfl | rfl | rfl | rfl | rfl <;> simp [m_impl_within, idx]
  · have h1 : k ≠ 1 := by omega
    have h2 : k ≠ 2 := by omega
    have h3 : k ≠ 3 := by omega
    have h4 : k ≠ 4 := by omega
    have h5 : k ≠ 5 := by omega
    by_cases h0 : 1 ≤ k
    · have : ¬ k ≤ 5 := by omega
      simp [m_impl_within, h0, this, h1, h2, h3, h4, h5]
    · simp [m_impl_within, h0, h1, h2, h3, h4, h5]

theorem p_specSameChanges (n : Nat) (a b : List SChange) (ha : a.length ≤ 1048576) (hn : 1048576 < n) : m_spec_SameChanges n a b = some (decide (a = b)) := by
  unfold m_spec_SameChanges
  by_cases hl : a.length = b.length
  · have e : ((a.length : Int) != (b.length : Int)) = false := by simp [hl]
    simp only [e, Bool.false_eq_true, if_false]
    have := loopN_all (body := m_spec_SameChanges_l1 n a b) (fun i => (i : Int)) (.inl ()) (.inr false) a.length (fun i => decide (a[i]? = b[i]?))
      (fun i hi => by
        unfold m_spec_SameChanges_l1
        obtain ⟨x, hx⟩ : ∃ x, a[i]? = some x := ⟨_, List.getElem?_eq_getElem hi⟩
        obtain ⟨y, hy⟩ : ∃ y, b[i]? = some y := ⟨_, List.getElem?_eq_getElem (by omega)⟩
        simp only [ltB hi, if_true, idx_nat, hx, hy, Option.bind_some, succ64 hi (by omega)]
        by_cases hxy : x = y <;> simp [hxy])
      (by unfold m_spec_SameChanges_l1; simp) n (by omega)
    have h2 : loopN (m_spec_SameChanges_l1 n a b) n 0 = _ := this
    rw [h2]
    have key : (List.range a.length).all (fun i => decide (a[i]? = b[i]?)) = decide (a = b) := by
      rw [Bool.eq_iff_iff, List.all_eq_true]
      simp only [List.mem_range, decide_eq_true_eq]
      constructor
      · intro h
        apply List.ext_getElem? 
        intro i
        by_cases hi : i < a.length
        · exact h i hi
        · rw [List.getElem?_eq_none (by omega), List.getElem?_eq_none (by omega)]
      · rintro rfl i hi; rfl
    rw [key]
    by_cases hab : a = b <;> simp [hab]
  · have e : ((a.length : Int) != (b.length : Int)) = true := by simp; omega
    have e2 : a ≠ b := fun h => hl (by rw [h])
    simp [e, e2]

theorem mostC_bd (k : Int) : -1 ≤ mostC k ∧ mostC k ≤ 300 ∧ mostC k ≠ 0 := by
  unfold mostC; repeat' split
  all_goals omega

/-- A change that may be. -/
def vch (c : SChange) : Bool := decide (c.Amount ≠ 0) && (decide (-(mostC c.Kind) ≤ c.Amount) && decide (c.Amount ≤ mostC c.Kind))

theorem p_l22One (n : Nat) (c : SChange) : m_spec_l22One n c = some (vch c) := by
  unfold m_spec_l22One vch
  obtain ⟨h1, h2, _⟩ := mostC_bd c.Kind
  rw [p_l22Most]
  simp only [Option.bind_some, p_l00In, wI64_eq (x := 0 - mostC c.Kind) (by omega) (by omega)]
  by_cases h : c.Amount = 0
  · simp [h]
  · simp [h]

theorem p_validChange (n : Nat) (c : SChange) : m_impl_validChange n c = some (vch c) := by
  unfold m_impl_validChange vch
  obtain ⟨h1, h2, h3⟩ := mostC_bd c.Kind
  rw [p_mostChange]
  by_cases hm : mostC c.Kind = -1
  · rw [hm]
    by_cases h : c.Amount = 0
    · simp [h]
    · have : ¬ (1 ≤ c.Amount ∧ c.Amount ≤ -1) := by omega
      simp [h]; omega
  · have hpos : mostC c.Kind > 0 := by omega
    simp only [hm, if_false, Option.bind_some, hpos, decide_true, if_true, p_within, wI64_eq (x := 0 - mostC c.Kind) (by omega) (by omega)]
    by_cases h : c.Amount = 0
    · simp [h]
    · simp [h]

theorem p_l22Ok (n : Nat) (a : List SChange) (ha : a.length ≤ 1048576) (hn : 1048576 < n) : m_spec_l22Ok n a = some (decide (a.length ≤ 20) && a.all vch) := by
  unfold m_spec_l22Ok
  have := loopN_listAll (body := m_spec_l22Ok_l1 n a) a vch (fun i => (i : Int)) (.inl ()) (.inr false)
    (fun i x hx => by
      have hlt := lt_of_get hx
      unfold m_spec_l22Ok_l1
      simp only [ltB hlt, if_true, idx_nat, hx, Option.bind_some, p_l22One, succ64 hlt (by omega)]
      cases vch x <;> simp)
    (by unfold m_spec_l22Ok_l1; simp) n (by omega)
  have h2 : loopN (m_spec_l22Ok_l1 n a) n 0 = _ := this
  rw [h2]
  cases h : a.all vch
  · simp
  · simp only [if_true, Option.bind_some, Bool.and_true]
    congr 2; simp; omega

theorem p_implValidChanges (n : Nat) (a : List SChange) (ha : a.length ≤ 1048576) (hn : 1048576 < n) : m_impl_ValidChanges n a = some (decide (a.length ≤ 20) && a.all vch) := by
  unfold m_impl_ValidChanges m_slices_ContainsFunc_impl_Change_impl_Change_f60 m_slices_IndexFunc_impl_Change_impl_Change_f60
  have := loopN_index (body := m_slices_IndexFunc_impl_Change_impl_Change_f60_l1 n a) a (fun x => !vch x)
    (fun i x hx => by
      have hlt := lt_of_get hx
      unfold m_slices_IndexFunc_impl_Change_impl_Change_f60_l1 m_impl_ValidChanges_1
      simp only [ltB hlt, if_true, idx_nat, hx, Option.bind_some, p_validChange, succ64 hlt (by omega)]
      cases vch x <;> simp)
    (by unfold m_slices_IndexFunc_impl_Change_impl_Change_f60_l1; simp) n (by omega)
  rw [this]
  by_cases h : a.length ≤ 20
  · have e : decide ((a.length : Int) ≤ 20) = true := by simp; omega
    simp only [e, if_true, h, decide_true, Bool.true_and]
    cases hf : a.findIdx? (fun x => !vch x) with
    | none =>
      rw [List.findIdx?_eq_none_iff] at hf
      have : a.all vch = true := by rw [List.all_eq_true]; intro x hx; simpa using hf x hx
      simp [this]
    | some i =>
      rw [List.findIdx?_eq_some_iff_getElem] at hf
      obtain ⟨hi, hp, _⟩ := hf
      have : a.all vch = false := by rw [List.all_eq_false]; exact ⟨a[i], List.getElem_mem hi, by simpa using hp⟩
      simp [this]
  · have e : decide ((a.length : Int) ≤ 20) = false := by simp; omega
    simp [e, h]

/-- The marks are held. -/
theorem held_mark (N : Nat) : decide (1 + (N : Int) < 0) = false := by simp; omega

/-- Two changes that lead apart. -/
def clash (o c : SChange) : Bool := decide (o.Kind = c.Kind) && (decide (o.Amount < 0) != decide (c.Amount < 0))

theorem sub_take {α : Type} (xs : List α) {i : Nat} (h : i ≤ xs.length) : Gv.sub xs 0 (i : Int) = some (xs.take i) := by
  unfold Gv.sub; rw [if_pos (by omega)]; simp

/-! ### Changes out of amounts -/

def ofF : Nat → List Int → List SChange
  | _, [] => []
  | k, a :: l => if a = 0 then ofF (k + 1) l else ⟨((k + 1 : Nat) : Int), a⟩ :: ofF (k + 1) l

theorem ofF_len : ∀ (l : List Int) (k : Nat), (ofF k l).length ≤ l.length
  | [], k => by simp [ofF]
  | a :: l, k => by
    have := ofF_len l (k + 1)
    unfold ofF; split
    · simp; omega
    · simp; omega

theorem p_specOf (n : Nat) (m : List Int) (hm : m.length ≤ 1000) (hn : 1048576 < n) : m_spec_l22Of n m = some (if (ofF 0 m).all vch then (ofF 0 m, 0) else ([], 5)) := by
  unfold m_spec_l22Of
  have key := loopN_runL (body := m_spec_l22Of_l1 n m) m (fun i (b : List SChange) x => if x = 0 then .ok b else if vch ⟨((i + 1 : Nat) : Int), x⟩ then .ok (b ++ [⟨((i + 1 : Nat) : Int), x⟩]) else .error (.inr ([], 5))) [] (fun i b => (b, (i : Int))) (fun b => .inl b) (fun i b => b.length ≤ i) (by simp)
    (fun i x b hx hb => by
      have hlt := lt_of_get hx
      have e1 := succ64 hlt (by omega)
      by_cases h0 : x = 0
      · simp only [h0, if_true]
        refine ⟨?_, by omega⟩
        unfold m_spec_l22Of_l1
        subst h0
        simp only [ltB hlt, if_true, idx_nat, hx, Option.bind_some, e1, BEq.rfl]
      · have hb0 : (x == 0) = false := by simp [h0]
        cases hv : vch ⟨((i + 1 : Nat) : Int), x⟩ with
        | true =>
          simp only [h0, if_false, if_true]
          refine ⟨?_, by simp; omega⟩
          unfold m_spec_l22Of_l1
          simp only [ltB hlt, if_true, idx_nat, hx, Option.bind_some, e1, hb0, Bool.false_eq_true, if_false, p_l22One, hv, Bool.not_true]
          rw [app_eq (by simp; omega)]; rfl
        | false =>
          simp only [h0, if_false, Bool.false_eq_true]
          unfold m_spec_l22Of_l1
          simp only [ltB hlt, if_true, idx_nat, hx, Option.bind_some, e1, hb0, Bool.false_eq_true, if_false, p_l22One, hv, Bool.not_false])
    (fun b _ => by unfold m_spec_l22Of_l1; simp) n (by omega)
  have hrun : ∀ (l : List Int) (i : Nat) (b : List SChange), runL (fun i (b : List SChange) x => if x = 0 then .ok b else if vch ⟨((i + 1 : Nat) : Int), x⟩ then .ok (b ++ [⟨((i + 1 : Nat) : Int), x⟩]) else .error (Sum.inr (([] : List SChange), (5 : Int)) : List SChange ⊕ (List SChange × Int))) i l b = if (ofF i l).all vch then .ok (b ++ ofF i l) else .error (.inr ([], 5)) := by
    intro l
    induction l with
    | nil => intro i b; simp [runL, ofF]
    | cons a l ih =>
      intro i b
      unfold runL ofF
      by_cases h0 : a = 0
      · simp only [h0, if_true]; exact ih (i + 1) b
      · simp only [h0, if_false]
        cases hv : vch ⟨((i + 1 : Nat) : Int), a⟩ with
        | true =>
          simp only [if_true, List.all_cons, hv, Bool.true_and]
          rw [ih (i + 1)]
          simp only [List.append_assoc, List.singleton_append]
        | false => simp only [Bool.false_eq_true, if_false, List.all_cons, hv, Bool.false_and]
  have h1 := key.1
  rw [hrun] at h1
  have h2 : loopN (m_spec_l22Of_l1 n m) n ([], 0) = _ := h1
  rw [h2]
  by_cases hv : (ofF 0 m).all vch = true
  · simp [hv]
  · simp [hv]

theorem p_implOf (n : Nat) (m : List Int) (hm : m.length ≤ 20) (hn : 1048576 < n) : m_impl_changesOf n m = some (if (ofF 0 m).all vch then (ofF 0 m, 0) else ([], 5)) := by
  unfold m_impl_changesOf
  have key := loopN_runL (body := m_impl_changesOf_l1 n m) m (fun i (b : List SChange) x => .ok (if x = 0 then b else b ++ [⟨((i + 1 : Nat) : Int), x⟩])) [] (fun i b => (b, (i : Int))) id (fun i b => b.length ≤ i) (by simp)
    (fun i x b hx hb => by
      have hlt := lt_of_get hx
      have e1 := succ64 hlt (by omega)
      refine ⟨?_, by by_cases h : x = 0 <;> simp [h] <;> omega⟩
      unfold m_impl_changesOf_l1
      simp only [ltB hlt, if_true, idx_nat, hx, Option.bind_some, e1]
      by_cases h0 : x = 0
      · subst h0; simp
      · have hb0 : (x != 0) = true := by simp [h0]
        simp only [hb0, h0, if_true, if_false]
        rw [app_eq (by simp; omega)]; rfl)
    (fun b _ => by unfold m_impl_changesOf_l1; simp) n (by omega)
  have hrun : ∀ (l : List Int) (i : Nat) (b : List SChange), runL (τ := List SChange) (fun i (b : List SChange) x => .ok (if x = 0 then b else b ++ [⟨((i + 1 : Nat) : Int), x⟩])) i l b = .ok (b ++ ofF i l) := by
    intro l
    induction l with
    | nil => intro i b; simp [runL, ofF]
    | cons a l ih =>
      intro i b
      unfold runL ofF
      simp only
      rw [ih (i + 1)]
      by_cases h0 : a = 0 <;> simp [h0]
  have h1 := key.1
  rw [hrun] at h1
  have h2 : loopN (m_impl_changesOf_l1 n m) n ([], 0) = _ := h1
  rw [h2]
  have hl := ofF_len m 0
  simp only [Option.bind_some, id, List.nil_append]
  rw [p_implValidChanges n _ (by omega) hn]
  have h20 : decide ((ofF 0 m).length ≤ 20) = true := decide_eq_true (by omega)
  simp only [h20, Bool.true_and, Option.bind_some]
  cases (ofF 0 m).all vch <;> rfl

theorem ofF_small (m : List Int) (hm : m.length ≤ 20) : (if (ofF 0 m).all vch then (ofF 0 m, (0 : Int)) else ([], 5)).1.length ≤ 400 := by
  have := ofF_len m 0
  split
  · show (ofF 0 m).length ≤ 400; omega
  · simp

/-! ### Merged -/

theorem vch_kind {c : SChange} (h : vch c = true) : 1 ≤ c.Kind ∧ c.Kind ≤ 5 := by
  unfold vch mostC at h
  simp only [Bool.and_eq_true, decide_eq_true_eq] at h
  obtain ⟨h0, h1, h2⟩ := h
  repeat' split at h1
  all_goals omega

theorem kind_place {c : SChange} (h : vch c = true) : ∃ k : Nat, k < 5 ∧ wI64 (c.Kind - 1) = (k : Int) := by
  have := vch_kind h
  refine ⟨(c.Kind - 1).toNat, by omega, ?_⟩
  rw [wI64_eq (by omega) (by omega)]; omega

def merF (b : List Int) (c : SChange) : List Int := b.set (wI64 (c.Kind - 1)).toNat (wI64 (b.getD (wI64 (c.Kind - 1)).toNat 0 + c.Amount))

theorem merF_len (b : List Int) (c : SChange) : (merF b c).length = b.length := by simp [merF]

theorem p_merge (n : Nat) (l : List SChange) (hl : l.length ≤ 1048576) (hv : ∀ c ∈ l, vch c = true) (hn : 1048576 < n) :
    loopN (m_spec_MergeChanges_l1 n l) n (0, [0, 0, 0, 0, 0]) = some (l.foldl merF [0, 0, 0, 0, 0]) ∧ loopN (m_impl_MergeChanges_l1 n l) n (0, [0, 0, 0, 0, 0]) = some (l.foldl merF [0, 0, 0, 0, 0]) ∧ (l.foldl merF [0, 0, 0, 0, 0]).length = 5 := by
  have a := loopN_fold (body := m_spec_MergeChanges_l1 n l) l merF [0, 0, 0, 0, 0] (fun i b => ((i : Int), b)) id (fun _ b => b.length = 5) rfl
    (fun i c b hx hb => by
      have hlt := lt_of_get hx
      obtain ⟨k, hk, hk2⟩ := kind_place (hv c (List.mem_of_getElem? hx))
      have hg : b[k]? = some (b.getD k 0) := getD_of (by omega) 0
      refine ⟨?_, by rw [merF_len]; exact hb⟩
      unfold m_spec_MergeChanges_l1 merF
      simp only [ltB hlt, if_true, idx_nat, hx, Option.bind_some, hk2, hg, succ64 hlt (by omega), Int.toNat_natCast])
    (fun b _ => by unfold m_spec_MergeChanges_l1; simp) n (by omega)
  have b := loopN_fold (body := m_impl_MergeChanges_l1 n l) l merF [0, 0, 0, 0, 0] (fun i b => ((i : Int), b)) id (fun _ b => b.length = 5) rfl
    (fun i c b hx hb => by
      have hlt := lt_of_get hx
      obtain ⟨k, hk, hk2⟩ := kind_place (hv c (List.mem_of_getElem? hx))
      have hg : b[k]? = some (b.getD k 0) := getD_of (by omega) 0
      refine ⟨?_, by rw [merF_len]; exact hb⟩
      unfold m_impl_MergeChanges_l1 merF
      simp only [ltB hlt, if_true, idx_nat, hx, Option.bind_some, hk2, hg, succ64 hlt (by omega), Int.toNat_natCast])
    (fun b _ => by unfold m_impl_MergeChanges_l1; simp) n (by omega)
  exact ⟨a.1, b.1, a.2⟩

theorem p_MergeChanges (n : Nat) (a : List SChange) (ha : a.length ≤ 1048576) (hn : 1048576 < n) : ∃ l e, l.length ≤ 400 ∧ m_spec_MergeChanges n a = some (l, e) ∧ m_impl_MergeChanges n a = some (l, e) := by
  unfold m_spec_MergeChanges m_impl_MergeChanges
  rw [p_l22Ok n a ha hn, p_implValidChanges n a ha hn]
  simp only [Option.bind_some]
  by_cases hv : (decide (a.length ≤ 20) && a.all vch) = true
  · have hall : ∀ c ∈ a, vch c = true := by
      simp only [Bool.and_eq_true, List.all_eq_true] at hv; exact hv.2
    obtain ⟨m1, m2, m3⟩ := p_merge n a ha hall hn
    have hmk : mk (0 : Int) 5 = some [0, 0, 0, 0, 0] := rfl
    simp only [hv, Bool.not_true, Bool.false_eq_true, if_false, hmk, Option.bind_some, m1, m2, p_specOf n _ (by omega : (a.foldl merF [0, 0, 0, 0, 0]).length ≤ 1000) hn, p_implOf n _ (by omega : (a.foldl merF [0, 0, 0, 0, 0]).length ≤ 20) hn]
    exact ⟨_, _, ofF_small _ (by omega), rfl, rfl⟩
  · simp only [hv, Bool.not_false, if_true]
    exact ⟨[], 1, by simp, rfl, rfl⟩

/-! ### Lasts -/

def inR (lo hi v : Int) : Bool := decide (lo ≤ v) && decide (v ≤ hi)

/-- A last. -/
def lastB (x : SLast) : Bool := nameB x.Name && (inR 500 5000 x.Length && inR 500 5000 x.Ball && inR 500 5000 x.Instep && inR 500 5000 x.Heel) && inR 0 1000 x.Pitch

theorem p_outside (n : Nat) (l : List Int) (lo hi : Int) (hl : l.length ≤ 1048576) (hn : 1048576 < n) : m_impl_outside n l lo hi = some (!l.all (inR lo hi)) := by
  unfold m_impl_outside m_slices_ContainsFunc_int64_int64_f86 m_slices_IndexFunc_int64_int64_f86
  have := loopN_index (body := m_slices_IndexFunc_int64_int64_f86_l1 n l lo hi) l (fun x => !inR lo hi x)
    (fun i x hx => by
      have hlt := lt_of_get hx
      unfold m_slices_IndexFunc_int64_int64_f86_l1 m_impl_outside_1
      have e : (decide (lo ≤ x) && decide (x ≤ hi)) = inR lo hi x := rfl
      simp only [ltB hlt, if_true, idx_nat, hx, Option.bind_some, p_within, succ64 hlt (by omega), e]
      cases inR lo hi x <;> rfl)
    (by unfold m_slices_IndexFunc_int64_int64_f86_l1; simp) n (by omega)
  rw [this]
  have e := List.findIdx?_isSome (xs := l) (p := fun x => !inR lo hi x)
  have e2 : l.any (fun x => !inR lo hi x) = !l.all (inR lo hi) := by rw [List.not_all_eq_any_not]
  rw [← e2, ← e]
  cases hf : l.findIdx? (fun x => !inR lo hi x) with
  | none => simp
  | some i => simp

theorem p_specLast (n : Nat) (x : SLast) (hl : strok x.Name) (hn : 1048576 < n) : m_spec_l04One n x = some (lastB x) := by
  unfold m_spec_l04One m_spec_l04Foot m_spec_l02Foot m_spec_l02One lastB inR
  rw [p_specIsName n _ hl hn]
  simp only [p_l00In, Option.bind_some]
  cases nameB x.Name <;> simp only [if_true, if_false, Bool.false_eq_true, Option.bind_some, Bool.false_and, Bool.true_and]
  cases (decide (500 ≤ x.Length) && decide (x.Length ≤ 5000)) <;> simp only [if_true, if_false, Bool.false_eq_true, Option.bind_some, Bool.false_and, Bool.true_and]
  cases (decide (500 ≤ x.Ball) && decide (x.Ball ≤ 5000)) <;> simp only [if_true, if_false, Bool.false_eq_true, Option.bind_some, Bool.false_and, Bool.true_and]
  cases (decide (500 ≤ x.Instep) && decide (x.Instep ≤ 5000)) <;> simp only [if_true, if_false, Bool.false_eq_true, Option.bind_some, Bool.false_and, Bool.true_and]
  cases (decide (500 ≤ x.Heel) && decide (x.Heel ≤ 5000)) <;> simp only [if_true, if_false, Bool.false_eq_true, Option.bind_some, Bool.false_and, Bool.true_and]

theorem p_implLast (n : Nat) (x : SLast) (hl : strok x.Name) (hn : 1048576 < n) : m_impl_validLast n x = some (lastB x) := by
  unfold m_impl_validLast m_impl_Last_foot m_impl_ValidFoot m_impl_Foot_measures lastB
  rw [p_implIsName n _ hl hn]
  simp only [p_within, Option.bind_some]
  rw [p_outside n _ 500 5000 (by simp) hn]
  simp only [Option.bind_some, Bool.not_not, List.all_cons, List.all_nil, Bool.and_true]
  have e : ∀ v, (decide (0 ≤ v) && decide (v ≤ 1000)) = inR 0 1000 v := fun _ => rfl
  have hq : (inR 500 5000 x.Length && (inR 500 5000 x.Ball && (inR 500 5000 x.Instep && inR 500 5000 x.Heel))) = (inR 500 5000 x.Length && inR 500 5000 x.Ball && inR 500 5000 x.Instep && inR 500 5000 x.Heel) := by simp only [Bool.and_assoc]
  simp only [hq, e]
  cases nameB x.Name <;> cases (inR 500 5000 x.Length && inR 500 5000 x.Ball && inR 500 5000 x.Instep && inR 500 5000 x.Heel) <;> rfl

/-! ### Between -/

theorem p_btw (n : Nat) (a0 a1 a2 a3 a4 b0 b1 b2 b3 b4 : Int) (hn : 1048576 < n) :
    loopN (m_spec_ChangesBetween_l1 n [a0, a1, a2, a3, a4]) n (0, [b0, b1, b2, b3, b4]) = some [wI64 (b0 - a0), wI64 (b1 - a1), wI64 (b2 - a2), wI64 (b3 - a3), wI64 (b4 - a4)] ∧
    loopN (m_impl_ChangesBetween_l1 n [a0, a1, a2, a3, a4]) n (0, [b0, b1, b2, b3, b4]) = some [wI64 (b0 - a0), wI64 (b1 - a1), wI64 (b2 - a2), wI64 (b3 - a3), wI64 (b4 - a4)] := by
  obtain ⟨m, rfl⟩ : ∃ m, n = m + 6 := ⟨n - 6, by omega⟩
  generalize hq : m + 6 = q
  rw [← hq]
  clear hn hq
  exact ⟨rfl, rfl⟩

theorem p_ChangesBetween (n : Nat) (a b : SLast) (ha : strok a.Name) (hb : strok b.Name) (hn : 1048576 < n) : ∃ l e, l.length ≤ 400 ∧ m_spec_ChangesBetween n a b = some (l, e) ∧ m_impl_ChangesBetween n a b = some (l, e) := by
  unfold m_spec_ChangesBetween m_impl_ChangesBetween m_spec_l22Five m_impl_Last_numbers
  rw [p_specLast n a ha hn, p_specLast n b hb hn, p_implLast n a ha hn, p_implLast n b hb hn]
  simp only [Option.bind_some]
  cases lastB a with
  | false => exact ⟨[], 1, by simp, rfl, rfl⟩
  | true =>
    cases lastB b with
    | false => exact ⟨[], 1, by simp, rfl, rfl⟩
    | true =>
      obtain ⟨h1, h2⟩ := p_btw n a.Length a.Ball a.Instep a.Heel a.Pitch b.Length b.Ball b.Instep b.Heel b.Pitch hn
      simp only [Bool.not_true, Bool.false_eq_true, if_false, Option.bind_some, h1, h2]
      rw [p_specOf n _ (by simp) hn, p_implOf n _ (by simp) hn]
      simp only [Option.bind_some]
      exact ⟨_, _, ofF_small _ (by simp), rfl, rfl⟩

/-! ### Applied -/

def fiveL (x : SLast) : List Int := [x.Length, x.Ball, x.Instep, x.Heel, x.Pitch]

def ofFive (x : SLast) (m : List Int) : SLast := ⟨x.Name, m.getD 0 0, m.getD 1 0, m.getD 2 0, m.getD 3 0, m.getD 4 0⟩

def appF (x : SLast) (c : SChange) : SLast := ofFive x (merF (fiveL x) c)

theorem five_of (x : SLast) {m : List Int} (h : m.length = 5) : fiveL (ofFive x m) = m := by
  match m, h with
  | [a, b, c, d, e], _ => rfl

theorem get5 {m : List Int} (h : m.length = 5) : idx m 0 = some (m.getD 0 0) ∧ idx m 1 = some (m.getD 1 0) ∧ idx m 2 = some (m.getD 2 0) ∧ idx m 3 = some (m.getD 3 0) ∧ idx m 4 = some (m.getD 4 0) := by
  match m, h with
  | [a, b, c, d, e], _ => exact ⟨rfl, rfl, rfl, rfl, rfl⟩

theorem p_ApplyChanges (n : Nat) (x : SLast) (a : List SChange) (hx : strok x.Name) (ha : a.length ≤ 1048576) (hn : 1048576 < n) : ∃ r, m_spec_ApplyChanges n x a = some r ∧ m_impl_ApplyChanges n x a = some r := by
  unfold m_spec_ApplyChanges m_impl_ApplyChanges m_spec_l22Five
  rw [p_specLast n x hx hn, p_implLast n x hx hn, p_l22Ok n a ha hn, p_implValidChanges n a ha hn]
  simp only [Option.bind_some]
  cases hL : lastB x with
  | false => exact ⟨_, rfl, rfl⟩
  | true =>
    by_cases hv : (decide (a.length ≤ 20) && a.all vch) = true
    · have hall : ∀ c ∈ a, vch c = true := by
        simp only [Bool.and_eq_true, List.all_eq_true] at hv; exact hv.2
      simp only [Bool.not_true, Bool.false_eq_true, if_false, hv, Option.bind_some]
      have sp := loopN_runL (body := m_spec_ApplyChanges_l1 n x a) a (fun _ (y : SLast) c => if lastB (appF y c) then .ok (appF y c) else .error (.inr ((SLast.mk [] 0 0 0 0 0), (10 : Int)))) x (fun i y => ((i : Int), fiveL y, y.Length, y.Ball, y.Instep, y.Heel, y.Pitch)) (fun y => .inl (fiveL y, y.Length, y.Ball, y.Instep, y.Heel, y.Pitch)) (fun _ y => y.Name = x.Name) rfl
        (fun i c y hc hy => by
          have hlt := lt_of_get hc
          obtain ⟨k, hk, hk2⟩ := kind_place (hall c (List.mem_of_getElem? hc))
          have hlen : (merF (fiveL y) c).length = 5 := by rw [merF_len]; rfl
          have hg : (fiveL y)[k]? = some ((fiveL y).getD k 0) := getD_of (by show k < 5; exact hk) 0
          have hm : (fiveL y).set k (wI64 ((fiveL y).getD k 0 + c.Amount)) = merF (fiveL y) c := by unfold merF; rw [hk2]; rfl
          obtain ⟨g0, g1, g2, g3, g4⟩ := get5 hlen
          have hlast : SLast.mk x.Name ((merF (fiveL y) c).getD 0 0) ((merF (fiveL y) c).getD 1 0) ((merF (fiveL y) c).getD 2 0) ((merF (fiveL y) c).getD 3 0) ((merF (fiveL y) c).getD 4 0) = appF y c := by
            unfold appF ofFive; rw [hy]
          have hp := p_specLast n (appF y c) (by show strok y.Name; rw [hy]; exact hx) hn
          have hbody : m_spec_ApplyChanges_l1 n x a ((i : Int), fiveL y, y.Length, y.Ball, y.Instep, y.Heel, y.Pitch) = if lastB (appF y c) then some (.next (((i + 1 : Nat) : Int), fiveL (appF y c), (appF y c).Length, (appF y c).Ball, (appF y c).Instep, (appF y c).Heel, (appF y c).Pitch)) else some (.done (.inr ((SLast.mk [] 0 0 0 0 0), (10 : Int)))) := by
            unfold m_spec_ApplyChanges_l1
            simp only [ltB hlt, if_true, idx_nat, hc, Option.bind_some, hk2, hg, Int.toNat_natCast, hm, g0, g1, g2, g3, g4, hlast, hp, succ64 hlt (by omega)]
            have e5 : fiveL (appF y c) = merF (fiveL y) c := five_of y hlen
            rw [e5]
            cases lastB (appF y c) <;> rfl
          cases hb : lastB (appF y c) with
          | true =>
            simp only [if_true]
            rw [hbody, hb]
            exact ⟨rfl, hy⟩
          | false =>
            simp only [Bool.false_eq_true, if_false]
            rw [hbody, hb]; rfl)
        (fun y _ => by unfold m_spec_ApplyChanges_l1; simp) n (by omega)
      have im := loopN_runL (body := m_impl_ApplyChanges_l1 n a) a (fun _ (y : SLast) c => if lastB (appF y c) then .ok (appF y c) else .error (.inr ((SLast.mk [] 0 0 0 0 0), (10 : Int)))) x (fun i y => ((i : Int), y.Name, y.Length, y.Ball, y.Instep, y.Heel, y.Pitch)) (fun y => .inl (y.Name, y.Length, y.Ball, y.Instep, y.Heel, y.Pitch)) (fun _ y => y.Name = x.Name) rfl
        (fun i c y hc hy => by
          have hlt := lt_of_get hc
          obtain ⟨k, hk, hk2⟩ := kind_place (hall c (List.mem_of_getElem? hc))
          have hlen : (merF (fiveL y) c).length = 5 := by rw [merF_len]; rfl
          have hg : (fiveL y)[k]? = some ((fiveL y).getD k 0) := getD_of (by show k < 5; exact hk) 0
          have hm : (fiveL y).set k (wI64 ((fiveL y).getD k 0 + c.Amount)) = merF (fiveL y) c := by unfold merF; rw [hk2]; rfl
          obtain ⟨g0, g1, g2, g3, g4⟩ := get5 hlen
          have hch : m_impl_Last_changed n y c = some (appF y c) := by
            unfold m_impl_Last_changed m_impl_Last_numbers
            have e5 : ([y.Length, y.Ball, y.Instep, y.Heel, y.Pitch] : List Int) = fiveL y := rfl
            simp only [Option.bind_some, e5, hk2, idx_nat, hg, Int.toNat_natCast, hm, g0, g1, g2, g3, g4]
            rfl
          have hp := p_implLast n (appF y c) (by show strok y.Name; rw [hy]; exact hx) hn
          have hbody : m_impl_ApplyChanges_l1 n a ((i : Int), y.Name, y.Length, y.Ball, y.Instep, y.Heel, y.Pitch) = if lastB (appF y c) then some (.next (((i + 1 : Nat) : Int), (appF y c).Name, (appF y c).Length, (appF y c).Ball, (appF y c).Instep, (appF y c).Heel, (appF y c).Pitch)) else some (.done (.inr ((SLast.mk [] 0 0 0 0 0), (10 : Int)))) := by
            unfold m_impl_ApplyChanges_l1
            have ey : SLast.mk y.Name y.Length y.Ball y.Instep y.Heel y.Pitch = y := rfl
            simp only [ltB hlt, if_true, idx_nat, hc, Option.bind_some, ey, hch, hp, succ64 hlt (by omega)]
            cases lastB (appF y c) <;> rfl
          cases hb : lastB (appF y c) with
          | true =>
            simp only [if_true]
            rw [hbody, hb]
            exact ⟨rfl, hy⟩
          | false =>
            simp only [Bool.false_eq_true, if_false]
            rw [hbody, hb]; rfl)
        (fun y _ => by unfold m_impl_ApplyChanges_l1; simp) n (by omega)
      have sp1 : loopN (m_spec_ApplyChanges_l1 n x a) n (0, [x.Length, x.Ball, x.Instep, x.Heel, x.Pitch], x.Length, x.Ball, x.Instep, x.Heel, x.Pitch) = _ := sp.1
      have im1 : loopN (m_impl_ApplyChanges_l1 n a) n (0, x.Name, x.Length, x.Ball, x.Instep, x.Heel, x.Pitch) = _ := im.1
      rw [sp1, im1]
      have hnm := sp.2
      have same : ∀ (l : List SChange) (i : Nat) (y : SLast), (∀ y', runL (τ := (List Int × Int × Int × Int × Int × Int) ⊕ (SLast × Int)) (fun _ (y : SLast) c => if lastB (appF y c) then .ok (appF y c) else .error (.inr ((SLast.mk [] 0 0 0 0 0), (10 : Int)))) i l y = .ok y' ↔ runL (τ := (List UInt8 × Int × Int × Int × Int × Int) ⊕ (SLast × Int)) (fun _ (y : SLast) c => if lastB (appF y c) then .ok (appF y c) else .error (.inr ((SLast.mk [] 0 0 0 0 0), (10 : Int)))) i l y = .ok y') ∧
          ((∃ y', runL (τ := (List Int × Int × Int × Int × Int × Int) ⊕ (SLast × Int)) (fun _ (y : SLast) c => if lastB (appF y c) then .ok (appF y c) else .error (.inr ((SLast.mk [] 0 0 0 0 0), (10 : Int)))) i l y = .ok y') ∨ (runL (τ := (List Int × Int × Int × Int × Int × Int) ⊕ (SLast × Int)) (fun _ (y : SLast) c => if lastB (appF y c) then .ok (appF y c) else .error (.inr ((SLast.mk [] 0 0 0 0 0), (10 : Int)))) i l y = .error (.inr ((SLast.mk [] 0 0 0 0 0), 10)) ∧ runL (τ := (List UInt8 × Int × Int × Int × Int × Int) ⊕ (SLast × Int)) (fun _ (y : SLast) c => if lastB (appF y c) then .ok (appF y c) else .error (.inr ((SLast.mk [] 0 0 0 0 0), (10 : Int)))) i l y = .error (.inr ((SLast.mk [] 0 0 0 0 0), 10)))) := by
        intro l
        induction l with
        | nil => intro i y; exact ⟨fun y' => by simp [runL], .inl ⟨y, rfl⟩⟩
        | cons c l ih =>
          intro i y
          unfold runL
          cases hb : lastB (appF y c) with
          | true => simp only [if_true]; exact ih (i + 1) (appF y c)
          | false => simp only [Bool.false_eq_true, if_false]; exact ⟨fun y' => by simp, by simp⟩
      obtain ⟨s1, s2⟩ := same a 0 x
      rcases s2 with ⟨y', hy'⟩ | ⟨e1, e2⟩
      · have h2 := (s1 y').1 hy'
        have hn2 := hnm y' hy'
        rw [hy', h2]
        simp only [Option.bind_some]
        exact ⟨_, rfl, by rw [hn2]⟩
      · rw [e1, e2]
        simp only [Option.bind_some]
        exact ⟨_, rfl, rfl⟩
    · simp only [hv, Bool.not_true, Bool.not_false, Bool.false_eq_true, if_false, if_true, Option.bind_some]
      exact ⟨_, rfl, rfl⟩

def negC (c : SChange) : SChange := SChange.mk c.Kind (wI64 (0 - c.Amount))

theorem p_specUndoL (n : Nat) (a : List SChange) (ha : a.length ≤ 1048576) (hn : 1048576 < n) : loopN (m_spec_UndoChanges_l1 n a) n (([] : List SChange), wI64 ((a.length : Int) - 1)) = some (a.reverse.map negC) := by
  have e0 : wI64 ((a.length : Int) - 1) = (a.length : Int) - 1 - ((0 : Nat) : Int) := by rw [wI64_eq (by omega) (by omega)]; simp
  have h := loopN_run (body := m_spec_UndoChanges_l1 n a) (fun k => ((a.reverse.take k).map negC, (a.length : Int) - 1 - (k : Int))) (a.reverse.map negC) a.length (fun k hk => ?_) ?_ n (by omega)
  · rw [e0]; exact h
  · obtain ⟨x, hx⟩ : ∃ x, a[a.length - 1 - k]? = some x := ⟨_, List.getElem?_eq_getElem (by omega)⟩
    have hr : a.reverse[k]? = some x := by rw [List.getElem?_reverse hk]; exact hx
    have hi : idx a ((a.length : Int) - 1 - (k : Int)) = some x := by rw [idx_of (k := a.length - 1 - k) (by omega)]; exact hx
    have hd : decide ((a.length : Int) - 1 - (k : Int) ≥ 0) = true := decide_eq_true (by omega)
    have e1 : wI64 ((a.length : Int) - 1 - (k : Int) - 1) = (a.length : Int) - 1 - ((k + 1 : Nat) : Int) := by rw [wI64_eq (by omega) (by omega)]; omega
    have hl : ((a.reverse.take k).map negC).length = k := by simp; omega
    unfold m_spec_UndoChanges_l1
    simp only [hd, if_true, hi, Option.bind_some, e1]
    rw [app_eq (by rw [hl]; simp; omega), List.take_add_one, hr]
    simp [negC]
  · have hd : decide ((a.length : Int) - 1 - (a.length : Int) ≥ 0) = false := decide_eq_false (by omega)
    have ht : a.reverse.take a.length = a.reverse := by rw [← List.length_reverse]; exact List.take_length
    unfold m_spec_UndoChanges_l1
    simp only [hd, Bool.false_eq_true, if_false, ht]

theorem p_specUndo (n : Nat) (a : List SChange) (ha : a.length ≤ 1048576) (hn : 1048576 < n) : m_spec_UndoChanges n a = some (if decide (a.length ≤ 20) && a.all vch then (a.reverse.map negC, 0) else ([], 1)) := by
  unfold m_spec_UndoChanges
  rw [p_l22Ok n a ha hn, p_specUndoL n a ha hn]
  simp only [Option.bind_some]
  cases (decide (a.length ≤ 20) && a.all vch) <;> rfl

theorem p_implUndo (n : Nat) (a : List SChange) (ha : a.length ≤ 1048576) (hn : 1048576 < n) : m_impl_UndoChanges n a = some (if decide (a.length ≤ 20) && a.all vch then (a.reverse.map negC, 0) else ([], 1)) := by
  unfold m_impl_UndoChanges
  rw [p_implValidChanges n a ha hn]
  have hl : a.length ≤ 4294967296 := by omega
  simp only [Option.bind_some, hl, if_true]
  cases (decide (a.length ≤ 20) && a.all vch) <;> rfl

end Go.Gv
