/- Plain laws of stock: what comes and goes. -/
import Derived.Test.YtkpdicajinionaaPgC
namespace Go.Gv
open Go Go.RowKit

theorem goodsB_set {l : List SGood} {k : Nat} {g g' : SGood} (h : goodsB l = true) (hg : l[k]? = some g) (hn : g'.Name = g.Name) (hb : goodB g' = true) : goodsB (l.set k g') = true := by
  have hk := lt_of_get hg
  have nm : ∀ i, ((l.set k g').getD i gD).Name = (l.getD i gD).Name := by
    intro i
    rw [List.getD_eq_getElem?_getD, List.getD_eq_getElem?_getD, List.getElem?_set]
    split
    · rename_i e; subst e; rw [hg]; simpa using hn
    · rfl
  unfold goodsB at h ⊢
  simp only [Bool.and_eq_true, decide_eq_true_eq, List.all_eq_true, List.mem_range, List.length_set] at h ⊢
  refine ⟨fun i hi => ?_, h.2⟩
  have := h.1 i hi
  unfold atB at this ⊢
  simp only [nm]
  simp only [Bool.and_eq_true] at this ⊢
  refine ⟨?_, this.2⟩
  rw [List.getD_eq_getElem?_getD, List.getElem?_set]
  split
  · exact hb
  · have := this.1; rwa [List.getD_eq_getElem?_getD] at this

theorem names_set {l : List SGood} {k : Nat} {g g' : SGood} (hs : ∀ g ∈ l, strok g.Name) (hg : l[k]? = some g) (hn : g'.Name = g.Name) : ∀ x ∈ l.set k g', strok x.Name := by
  intro x hx
  rcases List.mem_or_eq_of_mem_set hx with h | h
  · exact hs x h
  · subst h; rw [hn]; exact hs g (List.mem_of_getElem? hg)

def takeAt (l : List SGood) (m : Int) (k : Nat) (g : SGood) : List SGood × Int :=
  if g.OnHand + m < g.Reserved then ([], 6) else if g.OnHand + m > 1000000 then ([], 5) else (l.set k ⟨g.Name, g.OnHand + m, g.Reserved, g.Least⟩, 0)

def takeR (l : List SGood) (t : STake) : List SGood × Int :=
  if findZ l t.Name < 0 then ([], 3) else takeAt l t.Many (findZ l t.Name).toNat (l.getD (findZ l t.Name).toNat gD)

/-- A round with one good. -/
theorem p_take (n : Nat) (l : List SGood) (t : STake) (hl : l.length ≤ 1048576) (hs : ∀ g ∈ l, strok g.Name) (hv : goodsB l = true) (ht : inRB (-1000000) 1000000 t.Many = true) (hn : 1048576 < n) :
    m_spec_l23Change n l t = some ((takeR l t).2, if (takeR l t).2 = 0 then (takeR l t).1 else l) ∧ m_impl_taken n l t = some (takeR l t) ∧
    (takeR l t).1.length ≤ l.length ∧ ((takeR l t).2 = 0 → goodsB (takeR l t).1 = true ∧ (takeR l t).1.length = l.length ∧ ∀ g ∈ (takeR l t).1, strok g.Name) := by
  unfold inRB at ht
  simp only [Bool.and_eq_true, decide_eq_true_eq] at ht
  obtain ⟨p, hP, hp⟩ := p_goodPlace n l t.Name (stock_of hv) hn
  have hf := place_find (stock_of hv) hP
  unfold m_spec_l23Change m_impl_taken takeR
  rw [p_l23Find n l t.Name hl hn, hp]
  simp only [Option.bind_some, hf]
  cases hb : foundB l t.Name p with
  | false => simp
  | true =>
    rw [hb, if_pos rfl] at hf
    obtain ⟨g, hg, hgn⟩ := find_get hf
    obtain ⟨r1, r2, r3, r4, r5, r6⟩ := goodB_range ((stock_of hv).good g (List.mem_of_getElem? hg))
    have hk := lt_of_get hg
    have w1 : wI64 (g.OnHand + t.Many) = g.OnHand + t.Many := wI64_eq (by omega) (by omega)
    have hd : decide ((p : Int) < 0) = false := decide_eq_false (by omega)
    have hd2 : ¬ ((p : Int) < 0) := by omega
    have hgd : l.getD p gD = g := by rw [List.getD_eq_getElem?_getD, hg]; rfl
    simp only [if_true, hd, hd2, Bool.false_eq_true, if_false, Bool.not_true, idx_nat, hg, Option.bind_some, w1, p_Clone n l hl, Int.toNat_natCast, hgd, takeAt, m_spec_l23Many, p_l00In]
    have hset : (l.set p (SGood.mk g.Name (g.OnHand + t.Many) g.Reserved g.Least))[p]? = some (SGood.mk g.Name (g.OnHand + t.Many) g.Reserved g.Least) := by simp [hk]
    simp only [hset, Option.bind_some]
    by_cases c1 : g.OnHand + t.Many < g.Reserved
    · simp [c1]
    · have d1 : decide (0 ≤ g.OnHand + t.Many) = true := decide_eq_true (by omega)
      simp only [c1, decide_false, Bool.false_eq_true, if_false, d1, Bool.true_and]
      by_cases c2 : g.OnHand + t.Many > 1000000
      · rw [decide_eq_false (by omega : ¬ g.OnHand + t.Many ≤ 1000000)]
        simp [c2]
      · rw [decide_eq_true (by omega : g.OnHand + t.Many ≤ 1000000)]
        have hb2 : goodB (SGood.mk g.Name (g.OnHand + t.Many) g.Reserved g.Least) = true := by
          have := (stock_of hv).good g (List.mem_of_getElem? hg)
          unfold goodB inRB at this ⊢
          simp only [Bool.and_eq_true, decide_eq_true_eq] at this ⊢
          refine ⟨this.1, ?_, ?_, ?_⟩ <;> omega
        have q1 := goodsB_set hv hg (g' := SGood.mk g.Name (g.OnHand + t.Many) g.Reserved g.Least) rfl hb2
        have q2 := names_set hs hg (g' := SGood.mk g.Name (g.OnHand + t.Many) g.Reserved g.Least) rfl
        simp only [c2, decide_false, Bool.not_true, Bool.false_eq_true, if_false, if_true]
        exact ⟨trivial, trivial, by simp, fun _ => ⟨q1, by simp, q2⟩⟩

theorem change_o1 (n : Nat) (l : List SGood) (t : STake) : m_spec_l23Change_o1 n l t = m_spec_l23Change n l t := rfl

def changeR (l : List SGood) (t : STake) : List SGood × Int :=
  if goodsB l then (if inRB (-1000000) 1000000 t.Many then (if (takeR l t).2 ≠ 0 then ([], (takeR l t).2) else takeR l t) else ([], 2)) else ([], 1)

theorem takeR_nil (l : List SGood) (t : STake) (h : (takeR l t).2 ≠ 0) : (takeR l t).1 = [] := by
  unfold takeR takeAt at h ⊢
  split
  · rfl
  · rename_i c
    rw [if_neg c] at h
    split
    · rfl
    · rename_i c2; rw [if_neg c2] at h
      split
      · rfl
      · rename_i c3; rw [if_neg c3] at h; exact absurd rfl h

theorem p_Change (n : Nat) (l : List SGood) (t : STake) (hl : l.length ≤ 1048576) (hs : ∀ g ∈ l, strok g.Name) (hn : 1048576 < n) :
    m_spec_ChangeGood n l t = some (changeR l t) ∧ m_impl_ChangeGood n l t = some (changeR l t) ∧ (changeR l t).1.length ≤ l.length := by
  unfold m_spec_ChangeGood m_impl_ChangeGood changeR m_spec_l23Take m_impl_isTake
  have e : (decide (-1000000 ≤ t.Many) && decide (t.Many ≤ 1000000)) = inRB (-1000000) 1000000 t.Many := rfl
  rw [p_l23Ok n l hl hs hn, p_implValidGoods n l hl hs hn]
  simp only [Option.bind_some, p_l00In, p_within, e]
  cases hv : goodsB l with
  | false => simp
  | true =>
    cases hm : inRB (-1000000) 1000000 t.Many with
    | false => simp
    | true =>
      obtain ⟨t1, t2, t3, _⟩ := p_take n l t hl hs hv hm hn
      rw [app_eq (by simp; omega)]
      simp only [Bool.not_true, Bool.false_eq_true, if_false, if_true, Option.bind_some, List.nil_append, change_o1, t1, t2]
      by_cases h : (takeR l t).2 = 0
      · have h1 : takeR l t = ((takeR l t).1, 0) := by rw [← h]
        simp only [h, ne_eq, not_true_eq_false, if_false, bne_self_eq_false, Bool.false_eq_true, if_true]
        exact ⟨by rw [← h1], by rw [← h1], t3⟩
      · have h1 := takeR_nil l t h
        simp [h, h1]

def roundG (l : List SGood) (i : Nat) (b : List SGood) (t : STake) : Except ((List SGood) ⊕ (List SGood × Int × Int)) (List SGood) :=
  if (takeR b t).2 = 0 then .ok (takeR b t).1 else .error (.inr (l, (i : Int), 0))

theorem runL_error {α β τ : Type} (f : Nat → β → α → Except τ β) : ∀ (xs : List α) (i : Nat) (b : β) (t : τ), runL f i xs b = .error t → ∃ j b' x, f j b' x = .error t := by
  intro xs
  induction xs with
  | nil => intro i b t h; simp [runL] at h
  | cons x xs ih =>
    intro i b t h
    cases hf : f i b x with
    | error u => simp [runL, hf] at h; subst h; exact ⟨i, b, x, hf⟩
    | ok b' => simp [runL, hf] at h; exact ih _ _ _ h

theorem p_badTake (n : Nat) (ts : List STake) (ht : ts.length ≤ 1048576) (hn : 1048576 < n) : m_slices_ContainsFunc_impl_Take_impl_Take_f71 n ts = some (!ts.all (fun t => inRB (-1000000) 1000000 t.Many)) := by
  unfold m_slices_ContainsFunc_impl_Take_impl_Take_f71 m_slices_IndexFunc_impl_Take_impl_Take_f71
  have := loopN_index (body := m_slices_IndexFunc_impl_Take_impl_Take_f71_l1 n ts) ts (fun t => !inRB (-1000000) 1000000 t.Many)
    (fun i t hx => by
      have hlt := lt_of_get hx
      have e : (decide (-1000000 ≤ t.Many) && decide (t.Many ≤ 1000000)) = inRB (-1000000) 1000000 t.Many := rfl
      unfold m_slices_IndexFunc_impl_Take_impl_Take_f71_l1 m_impl_ChangeGoods_1 m_impl_isTake
      simp only [ltB hlt, if_true, idx_nat, hx, Option.bind_some, p_within, e, succ64 hlt (by omega)]
      cases inRB (-1000000) 1000000 t.Many <;> rfl)
    (by unfold m_slices_IndexFunc_impl_Take_impl_Take_f71_l1; simp) n (by omega)
  rw [this]
  have e := List.findIdx?_isSome (xs := ts) (p := fun t => !inRB (-1000000) 1000000 t.Many)
  have e2 : ts.any (fun t => !inRB (-1000000) 1000000 t.Many) = !ts.all (fun t => inRB (-1000000) 1000000 t.Many) := by rw [List.not_all_eq_any_not]
  rw [← e2, ← e]
  cases hf : ts.findIdx? (fun t => !inRB (-1000000) 1000000 t.Many) with
  | none => simp
  | some i => simp

theorem p_ChangeGoodsR (n : Nat) (l : List SGood) (ts : List STake) (hl : l.length ≤ 1048576) (hs : ∀ g ∈ l, strok g.Name) (ht : ts.length ≤ 1048576) (hn : 1048577 < n) :
    ∃ r, m_spec_ChangeGoods n l ts = some r ∧ m_impl_ChangeGoods n l ts = some r ∧ r.1.length ≤ 1048576 ∧
      (goodsB l = true → ts.length ≤ 60 → (∀ t ∈ ts, inRB (-1000000) 1000000 t.Many = true) → (∃ b, runL (roundG l) 0 ts l = .ok b ∧ r = (b, -1, 0)) ∨ ∃ j : Nat, (∀ b, runL (roundG l) 0 ts l ≠ .ok b) ∧ r = (l, (j : Int), 0)) := by
  unfold m_spec_ChangeGoods m_impl_ChangeGoods
  rw [p_l23Takes n l ts hl hs ht (by omega), p_implValidGoods n l hl hs (by omega), p_badTake n ts ht (by omega)]
  simp only [Option.bind_some]
  cases hv : goodsB l with
  | false => exact ⟨([], 0, 1), by simp, by simp, by simp, by simp⟩
  | true =>
    simp only [if_true, Bool.not_true, Bool.false_eq_true, if_false]
    by_cases h60 : ts.length > 60
    · refine ⟨([], 0, 2), ?_, ?_, by simp, fun _ h => by omega⟩
      · cases ts.all (fun t => inRB (-1000000) 1000000 t.Many) <;> simp [h60]
      · rw [decide_eq_true (by omega : (ts.length : Int) > 60)]; simp
    · rw [decide_eq_false (by omega : ¬ (ts.length : Int) > 60)]
      cases ha : ts.all (fun t => inRB (-1000000) 1000000 t.Many) with
      | false =>
        refine ⟨([], 0, 2), by simp, by simp, by simp, fun _ _ h => ?_⟩
        rw [List.all_eq_false] at ha
        obtain ⟨t, ht', hbad⟩ := ha
        exact absurd (h t ht') hbad
      | true =>
        rw [List.all_eq_true] at ha
        rw [app_eq (by simp; omega), p_Clone n l hl]
        have sp := loopN_runL (body := m_spec_ChangeGoods_l1 n l ts) ts (roundG l) l (fun i b => ((i : Int), b)) .inl (fun _ b => goodsB b = true ∧ b.length = l.length ∧ ∀ g ∈ b, strok g.Name) ⟨hv, rfl, hs⟩
          (fun i t b hx hb => by
            have hlt := lt_of_get hx
            obtain ⟨t1, t2, t3, t4⟩ := p_take n b t (by omega) hb.2.2 hb.1 (ha t (List.mem_of_getElem? hx)) (by omega)
            unfold roundG
            by_cases h : (takeR b t).2 = 0
            · rw [if_pos h]
              refine ⟨?_, ?_⟩
              · unfold m_spec_ChangeGoods_l1
                simp only [ltB hlt, if_true, idx_nat, hx, Option.bind_some, t1, h, bne_self_eq_false, Bool.false_eq_true, if_false, succ64 hlt (by omega)]
              · have := t4 h; exact ⟨this.1, by rw [this.2.1, hb.2.1], this.2.2⟩
            · rw [if_neg h]
              unfold m_spec_ChangeGoods_l1
              rw [app_eq (by simp; omega)]
              have hne : ((takeR b t).2 != 0) = true := by simpa using h
              simp only [ltB hlt, if_true, idx_nat, hx, Option.bind_some, t1, hne, List.nil_append])
          (fun b _ => by unfold m_spec_ChangeGoods_l1; simp) n (by omega)
        have im := loopN_runL (body := m_impl_ChangeGoods_l1 n l ts) ts (roundG l) l (fun i b => (b, (i : Int))) .inl (fun _ b => goodsB b = true ∧ b.length = l.length ∧ ∀ g ∈ b, strok g.Name) ⟨hv, rfl, hs⟩
          (fun i t b hx hb => by
            have hlt := lt_of_get hx
            obtain ⟨t1, t2, t3, t4⟩ := p_take n b t (by omega) hb.2.2 hb.1 (ha t (List.mem_of_getElem? hx)) (by omega)
            unfold roundG
            by_cases h : (takeR b t).2 = 0
            · rw [if_pos h]
              refine ⟨?_, ?_⟩
              · unfold m_impl_ChangeGoods_l1
                simp only [ltB hlt, if_true, idx_nat, hx, Option.bind_some, t2, h, bne_self_eq_false, Bool.false_eq_true, if_false, succ64 hlt (by omega)]
              · have := t4 h; exact ⟨this.1, by rw [this.2.1, hb.2.1], this.2.2⟩
            · rw [if_neg h]
              unfold m_impl_ChangeGoods_l1
              have hne : ((takeR b t).2 != 0) = true := by simpa using h
              simp only [ltB hlt, if_true, idx_nat, hx, Option.bind_some, t2, hne, p_Clone n l hl])
          (fun b _ => by unfold m_impl_ChangeGoods_l1; simp) n (by omega)
        have s1 : loopN (m_spec_ChangeGoods_l1 n l ts) n (0, l) = _ := sp.1
        have i1 : loopN (m_impl_ChangeGoods_l1 n l ts) n (l, 0) = _ := im.1
        simp only [List.nil_append, Option.bind_some, bne_self_eq_false, Bool.false_eq_true, if_false, if_true, Bool.not_true, gt_iff_lt, (by omega : ¬ 60 < ts.length), s1, i1]
        cases hr : runL (roundG l) 0 ts l with
        | ok b =>
          have := sp.2 b hr
          exact ⟨(b, -1, 0), rfl, rfl, by show b.length ≤ _; rw [this.2.1]; exact hl, fun _ _ _ => .inl ⟨b, rfl, rfl⟩⟩
        | error u =>
          obtain ⟨j, b, x, hx⟩ := runL_error _ _ _ _ _ hr
          unfold roundG at hx
          split at hx
          · cases hx
          · cases hx
            exact ⟨(l, (j : Int), 0), rfl, rfl, hl, fun _ _ _ => .inr ⟨j, fun b' hb' => (by cases hb'), rfl⟩⟩

theorem p_ChangeGoods (n : Nat) (l : List SGood) (ts : List STake) (hl : l.length ≤ 1048576) (hs : ∀ g ∈ l, strok g.Name) (ht : ts.length ≤ 1048576) (hn : 1048577 < n) :
    ∃ r, m_spec_ChangeGoods n l ts = some r ∧ m_impl_ChangeGoods n l ts = some r ∧ r.1.length ≤ 1048576 ∧
      (goodsB l = true → ts.length ≤ 60 → (∀ t ∈ ts, inRB (-1000000) 1000000 t.Many = true) → ∀ b, runL (roundG l) 0 ts l = .ok b → r = (b, -1, 0)) := by
  obtain ⟨r, h1, h2, h3, h4⟩ := p_ChangeGoodsR n l ts hl hs ht hn
  refine ⟨r, h1, h2, h3, fun a b c d e => ?_⟩
  rcases h4 a b c with ⟨b', g1, g2⟩ | ⟨j, g1, g2⟩
  · rw [g1] at e; cases e; exact g2
  · exact absurd e (g1 d)

theorem law_ChangeGood (a : List SGood) (t : STake) (ha : a.length ≤ 9223372036854775807) (hao : ∀ x ∈ a, okGood x) (hto : okTake t) : m_laws_FnExactChangeGood 2000000 a t = some true := by
  unfold m_laws_FnExactChangeGood
  obtain ⟨v, hv, hc⟩ := p_szGoodS 2000000 a 1048576 (by omega) (by omega) ha (fun g hg => (hao g hg).1) (by omega)
  rw [hv]
  simp only [Option.bind_some]
  rcases hc with h | ⟨h0, h⟩
  · simp [h]
  · have hd : decide (v < 0) = false := decide_eq_false (by omega)
    have la : a.length ≤ 1048576 := by omega
    obtain ⟨u, hu, hc2⟩ := p_szTake 2000000 t v (by omega) (by omega) hto.1
    simp only [hd, Bool.false_eq_true, if_false, hu, Option.bind_some]
    rcases hc2 with g | ⟨g0, g⟩
    · simp [g]
    · have hd2 : decide (u < 0) = false := decide_eq_false (by omega)
      obtain ⟨e1, e2, e3⟩ := p_Change 2000000 a t la (fun g hg => (hao g hg).1) (by omega)
      have lt : (changeR a t).1.length ≤ 1048576 := Nat.le_trans e3 la
      have hne : ¬ (1 + 4 * (a.length : Int) < 0) := by omega
      have hne2 : ¬ (1 + 4 * ((changeR a t).1.length : Int) < 0) := by omega
      simp [hd2, p_toTake, p_toGoodS 2000000 _ la, e1, e2, p_eqGoodS 2000000 _ la, p_eqGoodS 2000000 _ lt, p_markGoodS 2000000 a la, p_markGoodS 2000000 _ lt, p_heldGoodS 2000000 _ lt, hne, hne2]

theorem law_ChangeGoods (a : List SGood) (ts : List STake) (ha : a.length ≤ 9223372036854775807) (hao : ∀ x ∈ a, okGood x) (hb : ts.length ≤ 9223372036854775807) (hbo : ∀ x ∈ ts, okTake x) : m_laws_FnExactChangeGoods 2000000 a ts = some true := by
  unfold m_laws_FnExactChangeGoods
  obtain ⟨v, hv, hc⟩ := p_szGoodS 2000000 a 1048576 (by omega) (by omega) ha (fun g hg => (hao g hg).1) (by omega)
  rw [hv]
  simp only [Option.bind_some]
  rcases hc with h | ⟨h0, h⟩
  · simp [h]
  · have hd : decide (v < 0) = false := decide_eq_false (by omega)
    simp only [hd, Bool.false_eq_true, if_false]
    obtain ⟨u, hu, hc2⟩ := p_szTakeS 2000000 ts v (by omega) (by omega) hb (fun g hg => (hbo g hg).1) (by omega)
    rw [hu]
    simp only [Option.bind_some]
    rcases hc2 with g | ⟨g0, g⟩
    · simp [g]
    · have hd2 : decide (u < 0) = false := decide_eq_false (by omega)
      have la : a.length ≤ 1048576 := by omega
      have lb : ts.length ≤ 1048576 := by omega
      obtain ⟨⟨t, e, e'⟩, e1, e2, lt, _⟩ := p_ChangeGoods 2000000 a ts la (fun g hg => (hao g hg).1) lb (by omega)
      have lt : t.length ≤ 1048576 := lt
      have hne2 : ¬ (1 + 4 * (t.length : Int) < 0) := by omega
      have hne3 : ¬ (1 + 4 * (a.length : Int) + 2 * (ts.length : Int) < 0) := by omega
      have hmk := p_markTakeK 2000000 (1 + 4 * (a.length : Int)) ts (by omega) lb (by omega) (by omega)
      simp [hd2, p_toGoodS 2000000 _ la, p_toTakeS 2000000 _ lb, e1, e2, p_eqGoodS 2000000 _ la, p_eqTakeS 2000000 _ lb, p_eqGoodS 2000000 t lt, p_markGoodS 2000000 a la, hmk, p_markGoodS 2000000 t lt, p_heldGoodS 2000000 t.length lt, hne2, hne3]

end Go.Gv
