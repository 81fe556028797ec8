/- Plain laws of prescriptions: changes read from texts. -/
import Derived.Test.YtlplbjeegkkilaaDoorPcT
namespace Go.Gv
open Go Go.RowKit

theorem trim_plus (s : List UInt8) : Lib.trimPrefix s [43] = if s.head? = some 43 then s.tail else s := by
  unfold Lib.trimPrefix Lib.hasPrefix
  cases s with
  | nil => rfl
  | cons c r =>
    by_cases h : c = 43
    · subst h; simp
    · have h2 : ¬ (43 = c) := fun e => h e.symm
      simp [h, h2]

theorem cut_at {w r : List UInt8} (h : ∀ c ∈ w, c ≠ 32) : Lib.cut (w ++ 32 :: r) [32] = (w, r, true) := by
  have e1 := Lib.index_one (w ++ 32 :: r) 32
  have hw : Lib.index (w ++ 32 :: r) [32] = (w.length : Int) := by
    rw [e1]
    have hge := Lib.index_ge (w ++ 32 :: r) [32]
    rw [e1] at hge
    by_cases h1 : Lib.indexByte (w ++ 32 :: r) 32 = -1
    · exfalso
      have := Lib.indexByte_none h1 w.length
      apply this; simp
    · obtain ⟨i, hi⟩ : ∃ i : Nat, Lib.indexByte (w ++ 32 :: r) 32 = i := ⟨(Lib.indexByte (w ++ 32 :: r) 32).toNat, by omega⟩
      obtain ⟨hb, hlo⟩ := Lib.indexByte_some hi
      rcases Nat.lt_trichotomy i w.length with h2 | h2 | h2
      · exfalso
        rw [List.getElem?_append_left h2] at hb
        exact h 32 (List.mem_of_getElem? hb) rfl
      · rw [hi, h2]
      · exfalso
        exact hlo w.length h2 (by simp)
  unfold Lib.cut
  rw [hw, if_pos (by omega)]
  simp

theorem cut_nil : Lib.cut [] [32] = ([], [], false) := rfl

theorem p_indexNames (n : Nat) (w : List UInt8) (hn : 1048576 < n) : ∃ v, m_slices_Index_string_string n v_changeNames w = some v ∧ ∀ k : Nat, 1 ≤ k → k ≤ 5 → w = name5 k → v = (k : Int) := by
  unfold m_slices_Index_string_string
  have := loopN_index (body := m_slices_Index_string_string_l1 n v_changeNames w) v_changeNames (fun x => w == x)
    (fun i x hx => by
      have hlt := lt_of_get hx
      have h6 : v_changeNames.length = 6 := rfl
      unfold m_slices_Index_string_string_l1
      simp only [ltB hlt, if_true, idx_nat, hx, Option.bind_some, succ64 hlt (by omega)]
      cases w == x <;> simp)
    (by unfold m_slices_Index_string_string_l1; simp) n (by have h6 : v_changeNames.length = 6 := rfl; omega)
  rw [this]
  refine ⟨match v_changeNames.findIdx? (fun x => w == x) with | some i => (i : Int) | none => -1, by cases v_changeNames.findIdx? (fun x => w == x) <;> rfl, ?_⟩
  intro k h1 h5 hw
  have : k = 1 ∨ k = 2 ∨ k = 3 ∨ k = 4 ∨ k = 5 := by omega
  rcases this with rfl | rfl | rfl | rfl | rfl <;> subst hw <;> rfl

/-- What is no change's text is read as none. -/
def NoTxt (s : List UInt8) : Prop := ∀ c, vch c = true → s ≠ txtC c

theorem txtC_len {c : SChange} (hv : vch c = true) : (txtC c).length ≤ 40 := by
  obtain ⟨k, k1, k5, hk, a0, al, ah⟩ := vch_facts hv
  obtain ⟨f1, f2, f3, f4⟩ := name5_facts k1 k5
  have hd := natD_small (k := c.Amount.natAbs) (by omega)
  unfold txtC
  rw [hk, Int.toNat_natCast]
  simp; omega

theorem p_implRead_yes (n : Nat) (c : SChange) (hv : vch c = true) (hn : 1048576 < n) : m_impl_ReadChange n (txtC c) = some (c, true) := by
  obtain ⟨k, k1, k5, hk, a0, al, ah⟩ := vch_facts hv
  obtain ⟨f1, f2, f3, f4⟩ := name5_facts k1 k5
  have hlen := txtC_len hv
  have h3 : ∀ b ∈ name5 c.Kind.toNat, b ≠ 32 := by rw [hk, Int.toNat_natCast]; exact f3
  have hcut : Lib.cut (txtC c) [32] = (name5 c.Kind.toNat, (if c.Amount < 0 then 45 else 43) :: natD c.Amount.natAbs, true) := cut_at h3
  have htrim : Lib.trimPrefix ((if c.Amount < 0 then 45 else 43) :: natD c.Amount.natAbs) [43] = decZ c.Amount := by
    rw [trim_plus]
    by_cases h : c.Amount < 0
    · rw [if_pos h, decZ_neg h]; simp
    · rw [if_neg h, decZ_nn (by omega)]; simp
  have hrd : readD (decZ c.Amount) = (c.Amount, true) := by
    rw [readD_dec, if_pos]
    have : (10 : Nat) ^ 18 = 1000000000000000000 := by decide
    omega
  obtain ⟨v, e1, e2⟩ := p_indexNames n (name5 c.Kind.toNat) hn
  have hvk : v = c.Kind := by rw [hk]; exact e2 k k1 k5 (by rw [hk, Int.toNat_natCast])
  have hc : SChange.mk c.Kind c.Amount = c := by cases c; rfl
  unfold m_impl_ReadChange m_strings_Cut m_strings_TrimPrefix
  rw [if_pos (by omega), hcut]
  simp only [Option.bind_some, htrim, p_implReadDecimal, hrd, e1, hvk, hc, p_implText, hv, if_true, Bool.not_true, Bool.false_eq_true, if_false, BEq.rfl]

theorem p_implRead_no (n : Nat) (s : List UInt8) (hs : s.length ≤ 1048576) (h : NoTxt s) (hn : 1048576 < n) : m_impl_ReadChange n s = some (⟨0, 0⟩, false) := by
  unfold m_impl_ReadChange m_strings_Cut m_strings_TrimPrefix
  rw [if_pos (by omega)]
  simp only [Option.bind_some, p_implReadDecimal]
  obtain ⟨v, e1, -⟩ := p_indexNames n (Lib.cut s [32]).1 hn
  simp only [e1, Option.bind_some]
  cases hr : (readD (Lib.trimPrefix (Lib.cut s [32]).2.1 [43])).2 with
  | false => simp
  | true =>
    simp only [Bool.not_true, Bool.false_eq_true, if_false, p_implText, Option.bind_some]
    have hne : ((if vch (SChange.mk v (readD (Lib.trimPrefix (Lib.cut s [32]).2.1 [43])).1) then txtC (SChange.mk v (readD (Lib.trimPrefix (Lib.cut s [32]).2.1 [43])).1) else []) == s) = false := by
      rw [beq_eq_false_iff_ne]
      intro he
      split at he
      · rename_i hv; exact h _ hv he.symm
      · subst he
        have e0 : (Lib.cut ([] : List UInt8) [32]).2.1 = [] := by rw [cut_nil]
        rw [e0] at hr
        revert hr; decide
    rw [hne]; rfl

/-! ### The reference -/

def kindL (w : List UInt8) : Int := if name5 5 = w then 5 else if name5 4 = w then 4 else if name5 3 = w then 3 else if name5 2 = w then 2 else if name5 1 = w then 1 else 0

def names5 : List (List UInt8) := [[108, 101, 110, 103, 116, 104], [98, 97, 108, 108], [105, 110, 115, 116, 101, 112], [104, 101, 101, 108], [112, 105, 116, 99, 104]]

theorem kindL_at {w : List UInt8} {k : Nat} (h1 : 1 ≤ k) (h5 : k ≤ 5) : kindL w = (k : Int) ↔ w = name5 k := by
  have d1 : name5 1 ≠ name5 2 := by decide
  have d2 : name5 1 ≠ name5 3 := by decide
  have d3 : name5 1 ≠ name5 4 := by decide
  have d4 : name5 1 ≠ name5 5 := by decide
  have d5 : name5 2 ≠ name5 3 := by decide
  have d6 : name5 2 ≠ name5 4 := by decide
  have d7 : name5 2 ≠ name5 5 := by decide
  have d8 : name5 3 ≠ name5 4 := by decide
  have d9 : name5 3 ≠ name5 5 := by decide
  have d10 : name5 4 ≠ name5 5 := by decide
  have : k = 1 ∨ k = 2 ∨ k = 3 ∨ k = 4 ∨ k = 5 := by omega
  unfold kindL
  rcases this with rfl | rfl | rfl | rfl | rfl
  all_goals
    constructor
    · intro h
      repeat' split at h
      all_goals first | (exact Eq.symm (by assumption)) | (exfalso; omega)
    · rintro rfl
      simp [d1.symm, d2.symm, d3.symm, d4.symm, d5.symm, d6.symm, d7.symm, d8.symm, d9.symm, d10.symm]

theorem p_kinds (n : Nat) (ws : List (List UInt8)) (w : List UInt8) (hw : idx ws 0 = some w) (hn : 1048576 < n) : loopN (m_spec_ReadChange_l1 n ws names5) n (0, 0) = some (kindL w) := by
  have h := loopN_run (body := m_spec_ReadChange_l1 n ws names5) (fun i => ((i : Int), (List.range i).foldl (fun (b : Int) (j : Nat) => if names5.getD j [] = w then (j : Int) + 1 else b) 0)) ((List.range 5).foldl (fun (b : Int) (j : Nat) => if names5.getD j [] = w then (j : Int) + 1 else b) 0) 5
    (fun i hi => by
      have hx : names5[i]? = some (names5.getD i []) := getD_of (by have : names5.length = 5 := rfl; omega) []
      have hd : decide ((i : Int) < (names5.length : Int)) = true := decide_eq_true (by have : names5.length = 5 := rfl; omega)
      have e1 : wI64 ((i : Int) + 1) = ((i + 1 : Nat) : Int) := by rw [wI64_eq (by omega) (by omega)]; omega
      unfold m_spec_ReadChange_l1
      simp only [hd, if_true, idx_nat, hx, hw, Option.bind_some, e1, List.range_succ, List.foldl_append, List.foldl_cons, List.foldl_nil]
      by_cases he : names5.getD i [] = w
      · simp only [he, BEq.rfl, if_true, Option.bind_some]
        congr 3
      · have : (names5.getD i [] == w) = false := by simpa using he
        simp only [this, Bool.false_eq_true, if_false, he, Option.bind_some])
    (by unfold m_spec_ReadChange_l1; rfl) n (by omega)
  have h2 : loopN (m_spec_ReadChange_l1 n ws names5) n (0, 0) = _ := h
  rw [h2]
  rfl

theorem p_specRead_yes (n : Nat) (c : SChange) (hv : vch c = true) (hn : 1500000 < n) : m_spec_ReadChange n (txtC c) = some (c, true) := by
  obtain ⟨k, k1, k5, hk, a0, al, ah⟩ := vch_facts hv
  have hlen := txtC_len hv
  have hl1 := natD_len c.Amount.natAbs
  obtain ⟨m, hm⟩ : ∃ m, m = c.Amount.natAbs := ⟨_, rfl⟩
  obtain ⟨b, hb⟩ : ∃ b : UInt8, b = if c.Amount < 0 then 45 else 43 := ⟨_, rfl⟩
  have hsp := txt_split c hv
  rw [← hb, ← hm] at hsp
  rw [← hm] at hl1
  have e1 : m_spec_l01Split n (txtC c) 32 = some (splitL 32 (txtC c)) := p_l01Split n (txtC c) 32 (by omega) hn
  have i0 : idx [name5 c.Kind.toNat, b :: natD m] 0 = some (name5 c.Kind.toNat) := rfl
  have i1 : idx [name5 c.Kind.toNat, b :: natD m] 1 = some (b :: natD m) := rfl
  have ib : idx (b :: natD m) 0 = some b := rfl
  have hsub : sub (b :: natD m) 1 (((b :: natD m).length : Nat) : Int) = some (natD m) := by
    unfold sub; rw [if_pos ⟨by omega, by simp; omega, by omega⟩]
    simp
  have hnum : m_spec_l01Number n (natD m) = some ((m : Int), true) := by
    have h18 : (natD m).length ≤ 20 := natD_small (by omega)
    rw [p_l01Number n _ (by omega) (by omega)]
    have := readD_dec (m : Int)
    rw [decZ_nn (by omega), Int.natAbs_natCast, if_pos (by have : (10 : Nat) ^ 18 = 1000000000000000000 := by decide
                                                           omega)] at this
    rw [this]
  have hd2 : decide (((b :: natD m).length : Int) < 2) = false := decide_eq_false (by simp; omega)
  have hkd : kindL (name5 c.Kind.toNat) = c.Kind := by rw [hk, Int.toNat_natCast]; exact (kindL_at k1 k5).2 rfl
  have hin : (decide ((1 : Int) ≤ (m : Int)) && decide ((m : Int) ≤ 300)) = true := by simp; omega
  have hc : SChange.mk c.Kind c.Amount = c := by cases c; rfl
  unfold m_spec_ReadChange
  rw [e1, hsp]
  have hn5 : m_spec_l22Names n = some names5 := rfl
  have hl2 : ((([name5 c.Kind.toNat, b :: natD m] : List (List UInt8)).length : Int) != 2) = false := rfl
  simp only [Option.bind_some, hl2, Bool.false_eq_true, if_false, i1, hd2, ib]
  by_cases h : c.Amount < 0
  · have hb2 : b = 45 := by rw [hb, if_pos h]
    subst hb2
    have n1 : (((45 : UInt8).toNat : Int) != 43) = true := rfl
    have n2 : (((45 : UInt8).toNat : Int) != 45) = false := rfl
    have n3 : (((45 : UInt8).toNat : Int) == 45) = true := rfl
    have hw : wI64 (0 - (m : Int)) = c.Amount := by rw [wI64_eq (by omega) (by omega)]; omega
    simp only [n1, n2, n3, if_true, Bool.false_eq_true, if_false, Option.bind_some, hsub, hnum, hn5, p_kinds n _ _ i0 (by omega), Bool.not_true, p_l00In, hin, hkd, hw, hc, p_l22One, hv]
  · have hb2 : b = 43 := by rw [hb, if_neg h]
    subst hb2
    have n1 : (((43 : UInt8).toNat : Int) != 43) = false := rfl
    have n3 : (((43 : UInt8).toNat : Int) == 45) = false := rfl
    have hw : (m : Int) = c.Amount := by omega
    simp only [n1, n3, if_true, Bool.false_eq_true, if_false, Option.bind_some, hsub, hnum, hn5, p_kinds n _ _ i0 (by omega), Bool.not_true, p_l00In, hin, hkd, hw, hc, p_l22One, hv]
    rw [← hw, hin]; rfl

theorem p_specRead_no (n : Nat) (s : List UInt8) (hs : s.length ≤ 1048576) (h : NoTxt s) (hn : 1500000 < n) : m_spec_ReadChange n s = some (⟨0, 0⟩, false) := by
  have e1 : m_spec_l01Split n s 32 = some (splitL 32 s) := p_l01Split n s 32 (by omega) hn
  unfold m_spec_ReadChange
  rw [e1]
  simp only [Option.bind_some]
  by_cases hl : (splitL 32 s).length = 2
  · obtain ⟨x, y, hxy⟩ : ∃ x y, splitL 32 s = [x, y] := by
      match hq : splitL 32 s, hl with
      | [x, y], _ => exact ⟨x, y, rfl⟩
    have hsx := split_two hxy
    rw [hxy]
    have hl2 : ((([x, y] : List (List UInt8)).length : Int) != 2) = false := rfl
    have i0 : idx [x, y] 0 = some x := rfl
    have i1 : idx [x, y] 1 = some y := rfl
    simp only [hl2, Bool.false_eq_true, if_false, i1, Option.bind_some]
    by_cases hy : (y.length : Int) < 2
    · rw [decide_eq_true hy]; rfl
    · rw [decide_eq_false hy]
      obtain ⟨b, r, rfl⟩ : ∃ b r, y = b :: r := by
        cases y with
        | nil => simp at hy
        | cons b r => exact ⟨b, r, rfl⟩
      have ib : idx (b :: r) 0 = some b := rfl
      simp only [Bool.false_eq_true, if_false, ib, Option.bind_some]
      by_cases hb : b = 43 ∨ b = 45
      · have hcond : (if ((b.toNat : Int) != 43) then some ((b.toNat : Int) != 45) else some false) = some false := by
          rcases hb with rfl | rfl <;> rfl
        have hsub : sub (b :: r) 1 (((b :: r).length : Nat) : Int) = some r := by
          unfold sub; rw [if_pos ⟨by omega, by simp; omega, by omega⟩]
          simp
        have hrl : r.length ≤ 1048576 := by rw [hsx] at hs; simp at hs; omega
        have hn5 : m_spec_l22Names n = some names5 := rfl
        simp only [hcond, Option.bind_some, Bool.false_eq_true, if_false, hsub, p_l01Number n r (by omega) (by omega), hn5, p_kinds n _ _ i0 (by omega)]
        cases hr : (readD r).2 with
        | false => rfl
        | true =>
          obtain ⟨z, hz⟩ : ∃ z, readD r = (z, true) := ⟨(readD r).1, by rw [← hr]⟩
          obtain ⟨hrz, hz18⟩ := readD_true hz
          rw [hz]
          simp only [Bool.not_true, Bool.false_eq_true, if_false, p_l00In, Option.bind_some]
          by_cases hin : 1 ≤ z ∧ z ≤ 300
          · have hi2 : (decide (1 ≤ z) && decide (z ≤ 300)) = true := by simp; omega
            simp only [hi2, Bool.not_true, Bool.false_eq_true, if_false]
            have fin : ∀ a : Int, a.natAbs = z.natAbs → (if a < 0 then 45 else 43) = b → vch (SChange.mk (kindL x) a) = false := by
              intro a ha hab
              cases hv : vch (SChange.mk (kindL x) a) with
              | false => rfl
              | true =>
                exfalso
                obtain ⟨k, k1, k5, hk, _⟩ := vch_facts hv
                have hxk : x = name5 k := (kindL_at k1 k5).1 hk
                refine h _ hv ?_
                unfold txtC
                have hk2 : (SChange.mk (kindL x) a).Kind.toNat = k := by rw [hk]; rfl
                rw [hk2, hsx, hxk]
                show _ = name5 k ++ 32 :: ((if a < 0 then 45 else 43) :: natD a.natAbs)
                rw [hab, ha, hrz, decZ_nn (by omega)]
            rcases hb with rfl | rfl
            · have n3 : (((43 : UInt8).toNat : Int) == 45) = false := rfl
              have := fin z rfl (by rw [if_neg (by omega)])
              simp only [n3, Bool.false_eq_true, if_false, Option.bind_some, p_l22One, this, Bool.not_false, if_true]
            · have n3 : (((45 : UInt8).toNat : Int) == 45) = true := rfl
              have hw : wI64 (0 - z) = -z := by rw [wI64_eq (by omega) (by omega)]; omega
              have := fin (-z) (by omega) (by rw [if_pos (by omega)])
              simp only [n3, if_true, Option.bind_some, hw, p_l22One, this, Bool.not_false]
          · have hi2 : (decide (1 ≤ z) && decide (z ≤ 300)) = false := by
              rw [Bool.and_eq_false_iff]; simp only [decide_eq_false_iff_not]; omega
            simp only [hi2, Bool.not_false, if_true]
      · have hcond : (if ((b.toNat : Int) != 43) then some ((b.toNat : Int) != 45) else some false) = some true := by
          have q1 : ((b.toNat : Int) != 43) = true := by
            rw [bne_iff_ne]; intro e
            exact hb (.inl (UInt8.toNat_inj.1 (by show b.toNat = 43; omega)))
          have q2 : ((b.toNat : Int) != 45) = true := by
            rw [bne_iff_ne]; intro e
            exact hb (.inr (UInt8.toNat_inj.1 (by show b.toNat = 45; omega)))
          rw [q1, q2]; rfl
        simp only [hcond, Option.bind_some, if_true]
  · have : (((splitL 32 s).length : Int) != 2) = true := by rw [bne_iff_ne]; omega
    simp only [this, if_true, Option.bind_some]

/-- The statement on ReadChange. -/
theorem law_ReadChange (s : List UInt8) (_hs : strok s) : m_laws_FnExactReadChange 2000000 s = some true := by
  unfold m_laws_FnExactReadChange
  by_cases hb : (s.length : Int) > 1048576
  · rw [decide_eq_true hb]; rfl
  rw [decide_eq_false hb]
  simp only [Bool.false_eq_true, if_false]
  by_cases h : ∃ c, vch c = true ∧ s = txtC c
  · obtain ⟨c, hv, rfl⟩ := h
    simp [p_specRead_yes 2000000 c hv, p_implRead_yes 2000000 c hv, p_eqChange]
  · have hno : NoTxt s := fun c hv e => h ⟨c, hv, e⟩
    have hl : s.length ≤ 1048576 := by omega
    simp [p_specRead_no 2000000 s hl hno, p_implRead_no 2000000 s hl hno, p_eqChange]

end Go.Gv
