/- Plain laws of wear: the program's functions and the reference's come to the same lists. -/
import Derived.Test.YtoljnpoiclklpaaPa
namespace Go.Gv
open Go Go.RowKit

def dig (c : UInt8) : Bool := decide (48 ≤ c.toNat) && decide (c.toNat ≤ 57)
def rowB (m : Nat) (r : List UInt8) : Bool := (r.length == m) && (decide (2 ≤ r.length) && decide (r.length ≤ 8)) && r.all dig
/-- A wear map. -/
def wearB (rows : List (List UInt8)) : Bool := decide (2 ≤ rows.length) && decide (rows.length ≤ 12) && rows.all (rowB (rows.headD []).length)

theorem p_l01Digit (n : Nat) (c : UInt8) : m_spec_l01Digit n (c.toNat : Int) = some (dig c) := by
  unfold m_spec_l01Digit dig
  by_cases h : 48 ≤ c.toNat
  · have : decide ((c.toNat : Int) ≥ 48) = true := by simp; omega
    rw [this]; simp [h]; omega
  · have : decide ((c.toNat : Int) ≥ 48) = false := by simp; omega
    rw [this]; simp [h]

theorem p_l20Ok (n : Nat) (rows : List (List UInt8)) (hr : rows.length ≤ 1048576) (hs : ∀ r ∈ rows, r.length ≤ 1048576) (hn : 1048576 < n) : m_spec_l20Ok n rows = some (wearB rows) := by
  obtain ⟨m, hm⟩ : ∃ m, m = (rows.headD []).length := ⟨_, rfl⟩
  have h1 := loopN_listAll (body := m_spec_l20Ok_l1 n rows) rows (rowB m) (fun i => (i : Int)) (.inl ()) (.inr false)
    (fun i x hx => by
      have hlt := lt_of_get hx
      obtain ⟨r0, h0, hr0⟩ : ∃ r0, rows[0]? = some r0 ∧ r0.length = m := by cases rows with
        | nil => simp at hlt
        | cons y ys => exact ⟨y, rfl, hm.symm⟩
      have hxl := hs x (List.mem_of_getElem? hx)
      unfold m_spec_l20Ok_l1
      simp only [ltB hlt, if_true, idx_nat, idx_zero, hx, h0, Option.bind_some, p_l00In, hr0]
      have inner := loopN_listAll (body := m_spec_l20Ok_l2 n rows (i : Int)) x dig (fun j => (j : Int)) (.inl ()) (.inr false)
        (fun j c hc => by
          have hj := lt_of_get hc
          unfold m_spec_l20Ok_l2
          simp only [idx_nat, hx, Option.bind_some, ltB hj, if_true, hc, p_l01Digit, succ64 hj (by omega)]
          cases dig c <;> simp)
        (by unfold m_spec_l20Ok_l2; simp only [idx_nat, hx, Option.bind_some, ltB_self]; simp) n (by omega)
      have inner' : loopN (m_spec_l20Ok_l2 n rows (i : Int)) n 0 = _ := inner
      by_cases e1 : x.length = m
      · have e1' : ((x.length : Int) != (m : Int)) = false := by simp [e1]
        rw [e1']
        by_cases e2 : 2 ≤ x.length <;> by_cases e3 : x.length ≤ 8
        · have a1 : decide ((2 : Int) ≤ (x.length : Int)) = true := by simp; omega
          have a2 : decide ((x.length : Int) ≤ 8) = true := by simp; omega
          simp only [a1, a2, Bool.false_eq_true, if_false, Option.bind_some, Bool.and_self, Bool.not_true, inner', succ64 hlt (by omega)]
          have eb : rowB m x = x.all dig := by
            have q1 : decide (2 ≤ x.length) = true := by simp [e2]
            have q2 : decide (x.length ≤ 8) = true := by simp [e3]
            unfold rowB; rw [q1, q2, e1]; simp
          rw [eb]
          cases hx2 : x.all dig <;> simp
        · have a2 : decide ((x.length : Int) ≤ 8) = false := by simp; omega
          simp [a2, rowB, e3]
        · have a1 : decide ((2 : Int) ≤ (x.length : Int)) = false := by simp; omega
          simp [a1, rowB, e2]
        · have a1 : decide ((2 : Int) ≤ (x.length : Int)) = false := by simp; omega
          simp [a1, rowB, e2]
      · have e1' : ((x.length : Int) != (m : Int)) = true := by simp; omega
        have eb : rowB m x = false := by simp [rowB, e1]
        rw [e1', eb]; simp)
    (by unfold m_spec_l20Ok_l1; simp) n (by omega)
  have h1' : loopN (m_spec_l20Ok_l1 n rows) n 0 = _ := h1
  unfold m_spec_l20Ok
  rw [h1']
  unfold wearB
  rw [← hm]
  cases ha : rows.all (rowB m)
  · simp
  · simp only [if_true, Option.bind_some, p_l00In, Bool.and_true]
    congr 2 <;> simp <;> omega

theorem p_implValidWear (n : Nat) (rows : List (List UInt8)) (hr : rows.length ≤ 1048576) (hs : ∀ r ∈ rows, r.length ≤ 1048576) (hn : 1048576 < n) : m_impl_ValidWear n rows = some (wearB rows) := by
  obtain ⟨m, hm⟩ : ∃ m, m = (rows.headD []).length := ⟨_, rfl⟩
  unfold m_impl_ValidWear
  rw [p_within]
  simp only [Option.bind_some]
  by_cases c1 : 2 ≤ rows.length ∧ rows.length ≤ 12
  · obtain ⟨c1, c2⟩ := c1
    have a1 : decide ((2 : Int) ≤ (rows.length : Int)) = true := by simp; omega
    have a2 : decide ((rows.length : Int) ≤ 12) = true := by simp; omega
    obtain ⟨r0, h0, hr0⟩ : ∃ r0, rows[0]? = some r0 ∧ r0.length = m := by cases rows with
      | nil => simp at c1
      | cons y ys => exact ⟨y, rfl, hm.symm⟩
    simp only [a1, a2, Bool.and_self, Bool.not_true, Bool.false_eq_true, if_false, idx_zero, h0, Option.bind_some, p_within, hr0]
    have hw : wearB rows = rows.all (rowB m) := by unfold wearB; rw [← hm]; simp [c1, c2]
    rw [hw]
    by_cases d : 2 ≤ m ∧ m ≤ 8
    · have b1 : decide ((2 : Int) ≤ (m : Int)) = true := by simp; omega
      have b2 : decide ((m : Int) ≤ 8) = true := by simp; omega
      simp only [b1, b2, Bool.and_self, Bool.not_true, Bool.false_eq_true, if_false]
      have h1 := loopN_listAll (body := m_impl_ValidWear_l1 n rows) rows (rowB m) (fun i => (i : Int)) (.inl ()) (.inr false)
        (fun i x hx => by
          have hlt := lt_of_get hx
          have hxl := hs x (List.mem_of_getElem? hx)
          unfold m_impl_ValidWear_l1
          simp only [ltB hlt, if_true, idx_nat, idx_zero, hx, h0, Option.bind_some, hr0]
          have inner := loopN_listAll (body := m_impl_ValidWear_l2 n x) x dig (fun j => (j : Int)) (.inl ()) (.inr false)
            (fun j c hc => by
              have hj := lt_of_get hc
              unfold m_impl_ValidWear_l2
              simp only [idx_nat, ltB hj, if_true, hc, Option.bind_some, succ64 hj (by omega)]
              by_cases g1 : c.toNat < 48
              · have q1 : decide ((c.toNat : Int) < 48) = true := by simp; omega
                have q2 : dig c = false := by simp [dig]; omega
                simp [q1, q2]
              · have q1 : decide ((c.toNat : Int) < 48) = false := by simp; omega
                by_cases g2 : c.toNat ≤ 57
                · have q3 : decide ((c.toNat : Int) > 57) = false := by simp; omega
                  have q2 : dig c = true := by simp [dig]; omega
                  simp [q1, q2, q3]
                · have q3 : decide ((c.toNat : Int) > 57) = true := by simp; omega
                  have q2 : dig c = false := by simp [dig]; omega
                  simp [q1, q2, q3])
            (by unfold m_impl_ValidWear_l2; simp) n (by omega)
          have inner' : loopN (m_impl_ValidWear_l2 n x) n 0 = _ := inner
          by_cases e1 : x.length = m
          · have e1' : ((x.length : Int) != (m : Int)) = false := by simp [e1]
            have eb : rowB m x = x.all dig := by simp [rowB, e1, d.1, d.2]
            rw [e1', eb]
            simp only [Bool.false_eq_true, if_false, inner', Option.bind_some, succ64 hlt (by omega)]
            cases hx2 : x.all dig <;> simp
          · have e1' : ((x.length : Int) != (m : Int)) = true := by simp; omega
            have eb : rowB m x = false := by simp [rowB, e1]
            rw [e1', eb]; simp)
        (by unfold m_impl_ValidWear_l1; simp) n (by omega)
      have h1' : loopN (m_impl_ValidWear_l1 n rows) n 0 = _ := h1
      rw [h1']
      cases ha : rows.all (rowB m) <;> simp
    · have hf : rows.all (rowB m) = false := by
        rw [List.all_eq_false]
        refine ⟨r0, List.mem_of_getElem? h0, ?_⟩
        simp [rowB, hr0]; omega
      rw [hf]
      by_cases d1 : 2 ≤ m
      · have b2 : decide ((m : Int) ≤ 8) = false := by simp; omega
        simp [b2]
      · have b1 : decide ((2 : Int) ≤ (m : Int)) = false := by simp; omega
        simp [b1]
  · have hf : wearB rows = false := by
      unfold wearB
      by_cases c2 : 2 ≤ rows.length
      · have : ¬ rows.length ≤ 12 := fun h => c1 ⟨c2, h⟩
        simp [this]
      · simp [c2]
    rw [hf]
    by_cases c2 : 2 ≤ rows.length
    · have b2 : decide ((rows.length : Int) ≤ 12) = false := by simp; omega
      simp [b2]
    · have b1 : decide ((2 : Int) ≤ (rows.length : Int)) = false := by simp; omega
      simp [b1]

/-- The statement on ValidWear. -/
theorem law_ValidWear (rows : List (List UInt8)) (hl : rows.length ≤ 9223372036854775807) (hs : ∀ r ∈ rows, strok r) : m_laws_FnExactValidWear 2000000 rows = some true := by
  unfold m_laws_FnExactValidWear
  obtain ⟨v, hv, hcase⟩ := p_szStringS 2000000 rows 1048576 (by omega) (by omega) hl hs (by omega)
  rw [hv]
  simp only [Option.bind_some]
  rcases hcase with h | ⟨h, he⟩
  · simp [h]
  · have hd : decide (v < 0) = false := by simp; omega
    have hlen : rows.length ≤ 1048576 := by omega
    have hrs : ∀ r ∈ rows, r.length ≤ 1048576 := fun r hr => by have := mem_le_total hr; omega
    simp only [hd, Bool.false_eq_true, if_false, p_toStringS 2000000 rows hlen (by omega), Option.bind_some, m_spec_ValidWear, p_l20Ok 2000000 rows hlen hrs (by omega), p_implValidWear 2000000 rows hlen hrs (by omega), p_eqStringS 2000000 rows hlen (by omega)]
    simp

/-! ### Digits -/

/-- What a digit is worth, as the program reckons it. -/
def dv (c : UInt8) : Int := wI64 (IntKind.u8.wrap ((c.toNat : Int) - 48))

theorem dv_dig {c : UInt8} (h : dig c = true) : dv c = (c.toNat : Int) - 48 ∧ 0 ≤ dv c ∧ dv c ≤ 9 := by
  unfold dig at h; simp at h
  unfold dv
  rw [wU8_eq (by omega) (by omega), wI64_eq (by omega) (by omega)]; omega

theorem total_take {rows : List (List UInt8)} {i : Nat} {r : List UInt8} (h : rows[i]? = some r) : total (rows.take (i + 1)) = total (rows.take i) + r.length ∧ total (rows.take i) + r.length ≤ total rows := by
  have h1 : total (rows.take (i + 1)) = total (rows.take i) + r.length := by
    rw [List.take_add_one, h]; simp [total]
  refine ⟨h1, ?_⟩
  rw [← h1]
  have : total rows = total (rows.take (i + 1)) + total (rows.drop (i + 1)) := by
    have e : total rows = total (rows.take (i + 1) ++ rows.drop (i + 1)) := by rw [List.take_append_drop]
    rw [e]; simp only [total, List.map_append, List.sum_append]
  omega

theorem p_l20At (n : Nat) (rows : List (List UInt8)) {y x : Nat} {r : List UInt8} {c : UInt8} (hr : rows[y]? = some r) (hc : r[x]? = some c) : m_spec_l20At n rows (y : Int) (x : Int) = some (dv c) := by
  unfold m_spec_l20At
  simp only [idx_nat, hr, hc, Option.bind_some]; rfl

theorem p_digits (n : Nat) (rows : List (List UInt8)) (hr : rows.length ≤ 1048576) (ht : total rows ≤ 1048576) (hn : 1048576 < n) : m_impl_digits n rows = some (rows.flatMap (·.map dv)) := by
  unfold m_impl_digits
  have := loopN_fold (body := m_impl_digits_l1 n rows) rows (fun b r => b ++ r.map dv) ([] : List Int) (fun i b => (b, (i : Int))) id (fun i b => b.length = total (rows.take i)) (by simp [total])
    (fun i r b hx hb => by
      have hlt := lt_of_get hx
      obtain ⟨t1, t2⟩ := total_take hx
      have inner := loopN_fold (body := m_impl_digits_l2 n r) r (fun b c => b ++ [dv c]) b (fun j b => (b, (j : Int))) id (fun j l => l.length = b.length + j) (by simp)
        (fun j c l hc hl => by
          have hj := lt_of_get hc
          unfold m_impl_digits_l2
          simp only [ltB hj, if_true, idx_nat, hc, Option.bind_some, succ64 hj (by omega)]
          rw [app_eq (by simp; omega)]
          refine ⟨rfl, by simp; omega⟩)
        (fun l _ => by unfold m_impl_digits_l2; simp) n (by omega)
      have inner' : loopN (m_impl_digits_l2 n r) n (b, 0) = _ := inner.1
      have e : ∀ (r : List UInt8) (b : List Int), r.foldl (fun b c => b ++ [dv c]) b = b ++ r.map dv := by
        intro r; induction r with
        | nil => intro b; simp
        | cons c r ih => intro b; simp [ih]
      constructor
      · unfold m_impl_digits_l1
        simp only [ltB hlt, if_true, idx_nat, hx, Option.bind_some, inner', succ64 hlt (by omega), id, e]
      · simp; omega)
    (fun b _ => by unfold m_impl_digits_l1; simp) n (by omega)
  have h2 : loopN (m_impl_digits_l1 n rows) n ([], 0) = _ := this.1
  rw [h2]
  have e : ∀ (rows : List (List UInt8)) (b : List Int), rows.foldl (fun b r => b ++ r.map dv) b = b ++ rows.flatMap (·.map dv) := by
    intro rows; induction rows with
    | nil => intro b; simp
    | cons c r ih => intro b; simp [ih]
  simp [e]

theorem p_wearCode (n : Nat) (rows : List (List UInt8)) (least : Int) (hr : rows.length ≤ 1048576) (hs : ∀ r ∈ rows, r.length ≤ 1048576) (hn : 1048576 < n) :
    m_spec_l20Code n rows least = some (if wearB rows then (if 1 ≤ least ∧ least ≤ 9 then 0 else 2) else 1) ∧ m_impl_wearCode n rows least = some (if wearB rows then (if 1 ≤ least ∧ least ≤ 9 then 0 else 2) else 1) := by
  unfold m_spec_l20Code m_impl_wearCode
  rw [p_l20Ok n rows hr hs hn, p_implValidWear n rows hr hs hn]
  simp only [Option.bind_some, p_l00In, p_within]
  cases wearB rows
  · simp
  · by_cases h1 : 1 ≤ least <;> by_cases h2 : least ≤ 9 <;> simp [h1, h2]

theorem wear_total {rows : List (List UInt8)} (h : wearB rows = true) : rows.length ≤ 12 ∧ ∀ r ∈ rows, r.length = (rows.headD []).length ∧ 2 ≤ r.length ∧ r.length ≤ 8 ∧ ∀ c ∈ r, dig c = true := by
  unfold wearB at h
  simp only [Bool.and_eq_true, decide_eq_true_eq, List.all_eq_true] at h
  refine ⟨h.1.2, fun r hr => ?_⟩
  have := h.2 r hr
  unfold rowB at this
  simp only [Bool.and_eq_true, decide_eq_true_eq, List.all_eq_true, beq_iff_eq] at this
  exact ⟨this.1.1, this.1.2.1, this.1.2.2, this.2⟩

/-- How many fields are worn that much. -/
def countF (least : Int) (b x : Int) : Int := if x ≥ least then wI64 (b + 1) else b

theorem p_WornFields (n : Nat) (rows : List (List UInt8)) (least : Int) (hr : rows.length ≤ 1048576) (ht : total rows ≤ 1048576) (hn : 1048576 < n) : ∃ r, m_spec_WornFields n rows least = some r ∧ m_impl_WornFields n rows least = some r := by
  have hs : ∀ r ∈ rows, r.length ≤ 1048576 := fun r hr => by have := mem_le_total hr; omega
  unfold m_spec_WornFields m_impl_WornFields
  obtain ⟨c1, c2⟩ := p_wearCode n rows least hr hs hn
  rw [c1, c2]
  simp only [Option.bind_some]
  obtain ⟨k, hk⟩ : ∃ k, k = (if wearB rows then (if 1 ≤ least ∧ least ≤ 9 then 0 else 2) else 1 : Int) := ⟨_, rfl⟩
  rw [← hk]
  by_cases h0 : k = 0
  · subst h0
    simp only [bne_self_eq_false, Bool.false_eq_true, if_false, p_digits n rows hr ht hn, Option.bind_some]
    obtain ⟨ds, hds⟩ : ∃ ds, ds = rows.flatMap (·.map dv) := ⟨_, rfl⟩
    have hdl : ds.length ≤ 1048576 := by rw [hds, List.length_flatMap]; simpa [total] using ht
    rw [← hds]
    have hi := loopN_fold (body := m_impl_WornFields_l1 n least ds) ds (countF least) 0 (fun i b => (b, (i : Int))) id (fun _ _ => True) trivial
      (fun i x b hx _ => by
        have hlt := lt_of_get hx
        unfold m_impl_WornFields_l1 countF
        simp only [ltB hlt, if_true, idx_nat, hx, Option.bind_some, succ64 hlt (by omega)]
        by_cases h : x ≥ least <;> simp [h])
      (fun b _ => by unfold m_impl_WornFields_l1; simp) n (by omega)
    have hi' : loopN (m_impl_WornFields_l1 n least ds) n (0, 0) = _ := hi.1
    have hsp := loopN_fold (body := m_spec_WornFields_l1 n rows least) rows (fun b r => (r.map dv).foldl (countF least) b) 0 (fun i b => (b, (i : Int))) id (fun _ _ => True) trivial
      (fun i r b hx _ => by
        have hlt := lt_of_get hx
        have hrl := hs r (List.mem_of_getElem? hx)
        have inner := loopN_fold (body := m_spec_WornFields_l2 n rows least (b, (i : Int))) r (fun b c => countF least b (dv c)) b (fun j b => (b, (j : Int))) id (fun _ _ => True) trivial
          (fun j c b' hc _ => by
            have hj := lt_of_get hc
            unfold m_spec_WornFields_l2 countF
            simp only [idx_nat, hx, Option.bind_some, ltB hj, if_true, p_l20At n rows hx hc, succ64 hj (by omega)]
            by_cases h : dv c ≥ least <;> simp [h])
          (fun b' _ => by unfold m_spec_WornFields_l2; simp [idx_nat, hx]) n (by omega)
        have inner' : loopN (m_spec_WornFields_l2 n rows least (b, (i : Int))) n (b, 0) = _ := inner.1
        refine ⟨?_, trivial⟩
        unfold m_spec_WornFields_l1
        simp only [ltB hlt, if_true, inner', Option.bind_some, succ64 hlt (by omega), id, List.foldl_map])
      (fun b _ => by unfold m_spec_WornFields_l1; simp) n (by omega)
    have hsp' : loopN (m_spec_WornFields_l1 n rows least) n (0, 0) = _ := hsp.1
    rw [hi', hsp', hds]
    refine ⟨_, rfl, ?_⟩
    simp only [Option.bind_some, id, List.foldl_flatMap]
  · have : (k != 0) = true := by simpa using h0
    simp only [this, if_true]
    exact ⟨_, rfl, rfl⟩

/-- What the size of rows of texts gives. -/
theorem sz_cases (rows : List (List UInt8)) (hl : rows.length ≤ 9223372036854775807) (hs : ∀ r ∈ rows, strok r) (L : Int) (h0 : 0 ≤ L) (h1 : L ≤ 1048576) :
    ∃ v, m_laws_szStringS 2000000 rows L = some v ∧ (decide (v < 0) = true ∨ (decide (v < 0) = false ∧ 0 ≤ v ∧ v ≤ L ∧ rows.length ≤ 1048576 ∧ total rows ≤ 1048576 ∧ ∀ r ∈ rows, r.length ≤ 1048576)) := by
  obtain ⟨v, hv, hcase⟩ := p_szStringS 2000000 rows L h0 h1 hl hs (by omega)
  refine ⟨v, hv, ?_⟩
  rcases hcase with h | ⟨h, he⟩
  · exact .inl (by simpa using h)
  · exact .inr ⟨by simp; omega, h, by omega, by omega, by omega, fun r hr => by have := mem_le_total hr; omega⟩

/-- The statement on WornFields. -/
theorem law_WornFields (rows : List (List UInt8)) (least : Int) (hl : rows.length ≤ 9223372036854775807) (hs : ∀ r ∈ rows, strok r) (_ : i64ok least) : m_laws_FnExactWornFields 2000000 rows least = some true := by
  unfold m_laws_FnExactWornFields
  obtain ⟨v, hv, hc⟩ := sz_cases rows hl hs 1048576 (by omega) (by omega)
  rw [hv]
  simp only [Option.bind_some]
  rcases hc with h | ⟨h, _, _, h1, h2, h3⟩
  · simp [h]
  · obtain ⟨r, e1, e2⟩ := p_WornFields 2000000 rows least h1 h2 (by omega)
    simp [h, p_toStringS 2000000 rows h1, e1, e2, p_eqStringS 2000000 rows h1]

end Go.Gv
