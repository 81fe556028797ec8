/- Plain laws (those of another seat, turned to this one by tools/renum.py). -/
import Derived.Test.YtkpdicajinionaaGreatDoorQgA
namespace Go.Gv
open Go Go.RowKit

theorem p_badTake (n : Nat) (ts : List STake) (ht : ts.length ≤ 1048576) (hn : 1048576 < n) : m_slices_ContainsFunc_impl_Take_impl_Take_f31 n ts = some (!ts.all (fun t => inRB (-1000000) 1000000 t.Many)) := by
  unfold m_slices_ContainsFunc_impl_Take_impl_Take_f31 m_slices_IndexFunc_impl_Take_impl_Take_f31
  have := loopN_index (body := m_slices_IndexFunc_impl_Take_impl_Take_f31_l1 n ts) ts (fun t => !inRB (-1000000) 1000000 t.Many)
    (fun i t hx => by
      have hlt := lt_of_get hx
      have e : (decide (-1000000 ≤ t.Many) && decide (t.Many ≤ 1000000)) = inRB (-1000000) 1000000 t.Many := rfl
      unfold m_slices_IndexFunc_impl_Take_impl_Take_f31_l1 m_impl_ChangeGoods_1 m_impl_isTake
      simp only [ltB hlt, if_true, idx_nat, hx, Option.bind_some, p_within, e, succ64 hlt (by omega)]
      cases inRB (-1000000) 1000000 t.Many <;> rfl)
    (by unfold m_slices_IndexFunc_impl_Take_impl_Take_f31_l1; simp) n (by omega)
  rw [this]
  have e := List.findIdx?_isSome (xs := ts) (p := fun t => !inRB (-1000000) 1000000 t.Many)
  have e2 : ts.any (fun t => !inRB (-1000000) 1000000 t.Many) = !ts.all (fun t => inRB (-1000000) 1000000 t.Many) := by rw [List.not_all_eq_any_not]
  rw [← e2, ← e]
  cases hf : ts.findIdx? (fun t => !inRB (-1000000) 1000000 t.Many) with
  | none => simp
  | some i => simp

theorem p_ChangeGoodsR (n : Nat) (l : List SGood) (ts : List STake) (hl : l.length ≤ 1048576) (hs : ∀ g ∈ l, strok g.Name) (ht : ts.length ≤ 1048576) (hn : 1048577 < n) :
    ∃ r, m_spec_ChangeGoods n l ts = some r ∧ m_impl_ChangeGoods n l ts = some r ∧ r.1.length ≤ 1048576 ∧
      (goodsB l = true → ts.length ≤ 60 → (∀ t ∈ ts, inRB (-1000000) 1000000 t.Many = true) → (∃ b, runL (roundG l) 0 ts l = .ok b ∧ r = (b, -1, 0)) ∨ ∃ j : Nat, (∀ b, runL (roundG l) 0 ts l ≠ .ok b) ∧ r = (l, (j : Int), 0)) := by
  unfold m_spec_ChangeGoods m_impl_ChangeGoods
  rw [p_l23Takes n l ts hl hs ht (by omega), p_implValidGoods n l hl hs (by omega), p_badTake n ts ht (by omega)]
  simp only [Option.bind_some]
  cases hv : goodsB l with
  | false => exact ⟨([], 0, 1), by simp, by simp, by simp, by simp⟩
  | true =>
    simp only [if_true, Bool.not_true, Bool.false_eq_true, if_false]
    by_cases h60 : ts.length > 60
    · refine ⟨([], 0, 2), ?_, ?_, by simp, fun _ h => by omega⟩
      · cases ts.all (fun t => inRB (-1000000) 1000000 t.Many) <;> simp [h60]
      · rw [decide_eq_true (by omega : (ts.length : Int) > 60)]; simp
    · rw [decide_eq_false (by omega : ¬ (ts.length : Int) > 60)]
      cases ha : ts.all (fun t => inRB (-1000000) 1000000 t.Many) with
      | false =>
        refine ⟨([], 0, 2), by simp, by simp, by simp, fun _ _ h => ?_⟩
        rw [List.all_eq_false] at ha
        obtain ⟨t, ht', hbad⟩ := ha
        exact absurd (h t ht') hbad
      | true =>
        rw [List.all_eq_true] at ha
        rw [app_eq (by simp; omega), p_Clone n l hl]
        have sp := loopN_runL (body := m_spec_ChangeGoods_l1 n l ts) ts (roundG l) l (fun i b => ((i : Int), b)) .inl (fun _ b => goodsB b = true ∧ b.length = l.length ∧ ∀ g ∈ b, strok g.Name) ⟨hv, rfl, hs⟩
          (fun i t b hx hb => by
            have hlt := lt_of_get hx
            obtain ⟨t1, t2, t3, t4⟩ := p_take n b t (by omega) hb.2.2 hb.1 (ha t (List.mem_of_getElem? hx)) (by omega)
            unfold roundG
            by_cases h : (takeR b t).2 = 0
            · rw [if_pos h]
              refine ⟨?_, ?_⟩
              · unfold m_spec_ChangeGoods_l1
                simp only [ltB hlt, if_true, idx_nat, hx, Option.bind_some, t1, h, bne_self_eq_false, Bool.false_eq_true, if_false, succ64 hlt (by omega)]
              · have := t4 h; exact ⟨this.1, by rw [this.2.1, hb.2.1], this.2.2⟩
            · rw [if_neg h]
              unfold m_spec_ChangeGoods_l1
              rw [app_eq (by simp; omega)]
              have hne : ((takeR b t).2 != 0) = true := by simpa using h
              simp only [ltB hlt, if_true, idx_nat, hx, Option.bind_some, t1, hne, List.nil_append])
          (fun b _ => by unfold m_spec_ChangeGoods_l1; simp) n (by omega)
        have im := loopN_runL (body := m_impl_ChangeGoods_l1 n l ts) ts (roundG l) l (fun i b => (b, (i : Int))) .inl (fun _ b => goodsB b = true ∧ b.length = l.length ∧ ∀ g ∈ b, strok g.Name) ⟨hv, rfl, hs⟩
          (fun i t b hx hb => by
            have hlt := lt_of_get hx
            obtain ⟨t1, t2, t3, t4⟩ := p_take n b t (by omega) hb.2.2 hb.1 (ha t (List.mem_of_getElem? hx)) (by omega)
            unfold roundG
            by_cases h : (takeR b t).2 = 0
            · rw [if_pos h]
              refine ⟨?_, ?_⟩
              · unfold m_impl_ChangeGoods_l1
                simp only [ltB hlt, if_true, idx_nat, hx, Option.bind_some, t2, h, bne_self_eq_false, Bool.false_eq_true, if_false, succ64 hlt (by omega)]
              · have := t4 h; exact ⟨this.1, by rw [this.2.1, hb.2.1], this.2.2⟩
            · rw [if_neg h]
              unfold m_impl_ChangeGoods_l1
              have hne : ((takeR b t).2 != 0) = true := by simpa using h
              simp only [ltB hlt, if_true, idx_nat, hx, Option.bind_some, t2, hne, p_Clone n l hl])
          (fun b _ => by unfold m_impl_ChangeGoods_l1; simp) n (by omega)
        have s1 : loopN (m_spec_ChangeGoods_l1 n l ts) n (0, l) = _ := sp.1
        have i1 : loopN (m_impl_ChangeGoods_l1 n l ts) n (l, 0) = _ := im.1
        simp only [List.nil_append, Option.bind_some, bne_self_eq_false, Bool.false_eq_true, if_false, if_true, Bool.not_true, gt_iff_lt, (by omega : ¬ 60 < ts.length), s1, i1]
        cases hr : runL (roundG l) 0 ts l with
        | ok b =>
          have := sp.2 b hr
          exact ⟨(b, -1, 0), rfl, rfl, by show b.length ≤ _; rw [this.2.1]; exact hl, fun _ _ _ => .inl ⟨b, rfl, rfl⟩⟩
        | error u =>
          obtain ⟨j, b, x, hx⟩ := runL_error _ _ _ _ _ hr
          unfold roundG at hx
          split at hx
          · cases hx
          · cases hx
            exact ⟨(l, (j : Int), 0), rfl, rfl, hl, fun _ _ _ => .inr ⟨j, fun b' hb' => (by cases hb'), rfl⟩⟩

theorem p_ChangeGoods (n : Nat) (l : List SGood) (ts : List STake) (hl : l.length ≤ 1048576) (hs : ∀ g ∈ l, strok g.Name) (ht : ts.length ≤ 1048576) (hn : 1048577 < n) :
    ∃ r, m_spec_ChangeGoods n l ts = some r ∧ m_impl_ChangeGoods n l ts = some r ∧ r.1.length ≤ 1048576 ∧
      (goodsB l = true → ts.length ≤ 60 → (∀ t ∈ ts, inRB (-1000000) 1000000 t.Many = true) → ∀ b, runL (roundG l) 0 ts l = .ok b → r = (b, -1, 0)) := by
  obtain ⟨r, h1, h2, h3, h4⟩ := p_ChangeGoodsR n l ts hl hs ht hn
  refine ⟨r, h1, h2, h3, fun a b c d e => ?_⟩
  rcases h4 a b c with ⟨b', g1, g2⟩ | ⟨j, g1, g2⟩
  · rw [g1] at e; cases e; exact g2
  · exact absurd e (g1 d)

/-- One good with another number on hand. -/
def addG (g : SGood) (m : Int) : SGood := ⟨g.Name, g.OnHand + m, g.Reserved, g.Least⟩

theorem addG_zero (g : SGood) : addG g 0 = g := by unfold addG; cases g; simp

def namesG (l : List SGood) : List (List UInt8) := l.map (·.Name)

theorem find_names {l l' : List SGood} (h : namesG l = namesG l') (name : List UInt8) : findZ l name = findZ l' name := by
  have e : ∀ l : List SGood, l.findIdx? (fun g => g.Name == name) = (namesG l).findIdx? (fun w => w == name) := by
    intro l
    induction l with
    | nil => rfl
    | cons g l ih => simp only [namesG, List.map_cons, List.findIdx?_cons] at ih ⊢; rw [ih]
  unfold findZ
  rw [e l, e l', h]

theorem sumK_names {l l' : List SGood} (h : namesG l = namesG l') (k : Nat) (ts : List STake) : sumK l k ts = sumK l' k ts := by
  unfold sumK
  congr 1
  apply List.map_congr_left
  intro t _
  rw [find_names h]

theorem names_at {l : List SGood} {k : Nat} {g g' : SGood} (hg : l[k]? = some g) (hn : g'.Name = g.Name) : namesG (l.set k g') = namesG l := by
  unfold namesG
  rw [List.map_set]
  apply List.ext_getElem?
  intro i
  rw [List.getElem?_set]
  split
  · rename_i e
    subst e
    rw [List.getElem?_map, hg]
    have hk := lt_of_get hg
    simp [hk, hn]
  · rfl

theorem takeR_ok {b : List SGood} {t : STake} (h : (takeR b t).2 = 0) : ∃ (k : Nat) (g : SGood), findZ b t.Name = (k : Int) ∧ b[k]? = some g ∧ (takeR b t).1 = b.set k (addG g t.Many) ∧ g.Reserved ≤ g.OnHand + t.Many ∧ g.OnHand + t.Many ≤ 1000000 := by
  unfold takeR at h ⊢
  rcases find_cases b t.Name with h1 | ⟨k, h1, h2⟩
  · rw [if_pos (by omega)] at h; simp at h
  · rw [if_neg (by omega), h1, Int.toNat_natCast] at h ⊢
    obtain ⟨g, hg, _⟩ := find_get h1
    have hgd : b.getD k gD = g := by rw [List.getD_eq_getElem?_getD, hg]; rfl
    rw [hgd] at h ⊢
    unfold takeAt at h ⊢
    by_cases c1 : g.OnHand + t.Many < g.Reserved
    · rw [if_pos c1] at h; simp at h
    · by_cases c2 : g.OnHand + t.Many > 1000000
      · rw [if_neg c1, if_pos c2] at h; simp at h
      · rw [if_neg c1, if_neg c2]
        exact ⟨k, g, rfl, hg, rfl, by omega, by omega⟩

theorem set_getG {b : List SGood} {k q : Nat} {g : SGood} (hk : k < b.length) : (b.set k g).getD q gD = if k = q then g else b.getD q gD := by
  rw [List.getD_eq_getElem?_getD, List.getElem?_set]
  split
  · rename_i e; subst e; simp [hk]
  · rw [← List.getD_eq_getElem?_getD]

/-- What all takes leave, if all are made. -/
theorem run_sum (l0 : List SGood) : ∀ (ts : List STake) (i : Nat) (b b' : List SGood), runL (roundG l0) i ts b = .ok b' → b'.length = b.length ∧ namesG b' = namesG b ∧ ∀ k, k < b.length → b'.getD k gD = addG (b.getD k gD) (sumK b k ts)
  | [], i, b, b', h => by
    simp only [runL, Except.ok.injEq] at h
    subst h
    refine ⟨rfl, rfl, fun k _ => ?_⟩
    have : sumK b k [] = 0 := by simp [sumK]
    rw [this, addG_zero]
  | t :: ts, i, b, b', h => by
    by_cases hc : (takeR b t).2 = 0
    · have hr : roundG l0 i b t = .ok (takeR b t).1 := by unfold roundG; rw [if_pos hc]
      rw [runL, hr] at h
      simp only at h
      obtain ⟨q, g, h1, h2, h3, _, _⟩ := takeR_ok hc
      have hq := lt_of_get h2
      have hgd : b.getD q gD = g := by rw [List.getD_eq_getElem?_getD, h2]; rfl
      rw [h3] at h
      obtain ⟨i1, i2, i3⟩ := run_sum l0 ts _ _ _ h
      have hn := names_at (g' := addG g t.Many) h2 rfl
      refine ⟨by rw [i1]; simp, i2.trans hn, fun k hk => ?_⟩
      rw [i3 k (by simpa using hk), set_getG hq, sumK_names hn]
      have hs : sumK b k (t :: ts) = (if findZ b t.Name = (k : Int) then t.Many else 0) + sumK b k ts := by simp [sumK]
      rw [hs, h1]
      by_cases e : q = k
      · subst e
        rw [if_pos rfl, if_pos rfl, hgd]
        unfold addG; simp; omega
      · rw [if_neg e, if_neg (by omega), Int.zero_add]
    · have hr : roundG l0 i b t = .error (.inr (l0, (i : Int), 0)) := by unfold roundG; rw [if_neg hc]
      rw [runL, hr] at h
      simp at h

/-- Takes that only take away, and leave enough of all, are all made. -/
theorem run_down (l0 : List SGood) : ∀ (ts : List STake) (i : Nat) (b : List SGood), (∀ t ∈ ts, t.Many ≤ 0 ∧ 0 ≤ findZ b t.Name) →
    (∀ k, k < b.length → (b.getD k gD).Reserved ≤ (b.getD k gD).OnHand + sumK b k ts ∧ (b.getD k gD).OnHand ≤ 1000000) → ∃ b', runL (roundG l0) i ts b = .ok b'
  | [], i, b, _, _ => ⟨b, rfl⟩
  | t :: ts, i, b, ht, hb => by
    obtain ⟨t1, t2⟩ := ht t (by simp)
    have neg : ∀ (k : Nat) (us : List STake), (∀ u ∈ us, u.Many ≤ 0) → sumK b k us ≤ 0 := by
      intro k us
      induction us with
      | nil => intro _; simp [sumK]
      | cons u us ih =>
        intro hu
        have h1 := ih fun v hv => hu v (by simp [hv])
        have h2 := hu u (by simp)
        have : sumK b k (u :: us) = (if findZ b u.Name = (k : Int) then u.Many else 0) + sumK b k us := by simp [sumK]
        rw [this]; split <;> omega
    rcases find_cases b t.Name with h | ⟨q, h1, h2⟩
    · omega
    · obtain ⟨g, hg, _⟩ := find_get h1
      have hgd : b.getD q gD = g := by rw [List.getD_eq_getElem?_getD, hg]; rfl
      have hs : ∀ k, sumK b k (t :: ts) = (if findZ b t.Name = (k : Int) then t.Many else 0) + sumK b k ts := fun k => by simp [sumK]
      have hbq := hb q h2
      rw [hs q, if_pos h1, hgd] at hbq
      have hneg := neg q ts fun u hu => (ht u (by simp [hu])).1
      have hc : takeR b t = (b.set q (addG g t.Many), 0) := by
        unfold takeR
        rw [if_neg (by omega), h1, Int.toNat_natCast, hgd]
        unfold takeAt
        rw [if_neg (by omega), if_neg (by omega)]; rfl
      have hr : roundG l0 i b t = .ok (b.set q (addG g t.Many)) := by unfold roundG; rw [hc]; rfl
      rw [runL, hr]
      have hn := names_at (g' := addG g t.Many) hg rfl
      refine run_down l0 ts _ _ (fun u hu => ⟨(ht u (by simp [hu])).1, by rw [find_names hn]; exact (ht u (by simp [hu])).2⟩) fun k hk => ?_
      rw [List.length_set] at hk
      have hbk := hb k hk
      rw [sumK_names hn, set_getG h2]
      rw [hs k, h1] at hbk
      by_cases e : q = k
      · subst e
        rw [if_pos rfl] at hbk ⊢
        rw [hgd] at hbk
        exact ⟨by show g.Reserved ≤ g.OnHand + t.Many + _; omega, by show g.OnHand + t.Many ≤ _; omega⟩
      · rw [if_neg e]
        rw [if_neg (by omega)] at hbk
        exact ⟨by omega, hbk.2⟩

theorem goodsB_run (l0 : List SGood) : ∀ (ts : List STake) (i : Nat) (b b' : List SGood), goodsB b = true → runL (roundG l0) i ts b = .ok b' → goodsB b' = true
  | [], i, b, b', hb, h => by simp only [runL, Except.ok.injEq] at h; subst h; exact hb
  | t :: ts, i, b, b', hb, h => by
    by_cases hc : (takeR b t).2 = 0
    · have hr : roundG l0 i b t = .ok (takeR b t).1 := by unfold roundG; rw [if_pos hc]
      rw [runL, hr] at h
      obtain ⟨q, g, h1, h2, h3, h4, h5⟩ := takeR_ok hc
      simp only at h
      rw [h3] at h
      have hg := (stock_of hb).good g (List.mem_of_getElem? h2)
      obtain ⟨r1, r2, r3, r4, r5, r6⟩ := goodB_range hg
      refine goodsB_run l0 ts _ _ _ (goodsB_set hb h2 (g' := addG g t.Many) rfl ?_) h
      unfold goodB inRB at hg ⊢
      simp only [Bool.and_eq_true, decide_eq_true_eq] at hg ⊢
      refine ⟨hg.1, ?_, ?_, ?_⟩
      · show 0 ≤ g.OnHand + t.Many ∧ g.OnHand + t.Many ≤ 1000000; omega
      · show 0 ≤ g.Reserved ∧ g.Reserved ≤ g.OnHand + t.Many; omega
      · exact hg.2.2.2
    · have hr : roundG l0 i b t = .error (.inr (l0, (i : Int), 0)) := by unfold roundG; rw [if_neg hc]
      rw [runL, hr] at h
      simp at h

/-! ### What is missing -/

def missG (g : SGood) : Int := g.Least - (g.OnHand - g.Reserved)

theorem sum_single {α : Type} (h : α → Int) (d : α) : ∀ (l : List α) (k : Nat), k < l.length → (∀ j, j < l.length → j ≠ k → h (l.getD j d) = 0) → (l.map h).sum = h (l.getD k d)
  | [], k, hk, _ => by simp at hk
  | x :: l, 0, _, hz => by
    have : (l.map h).sum = 0 := by
      have key : ∀ (m : List α), (∀ y ∈ m, h y = 0) → (m.map h).sum = 0 := by
        intro m
        induction m with
        | nil => intro _; rfl
        | cons y m ih => intro hy; simp [hy y (by simp), ih fun z hz => hy z (by simp [hz])]
      refine key l fun y hy => ?_
      obtain ⟨j, hj⟩ := List.getElem?_of_mem hy
      have := hz (j + 1) (by simp; exact lt_of_get hj) (by omega)
      simpa [hj] using this
    simp [this]
  | x :: l, k + 1, hk, hz => by
    have h0 : h x = 0 := by simpa using hz 0 (by simp) (by omega)
    have ih := sum_single h d l k (by simpa using hk) (fun j hj hjk => by simpa using hz (j + 1) (by simpa using hj) (by omega))
    simp only [List.map_cons, List.sum_cons, h0, Int.zero_add, ih]
    simp

theorem find_self {l : List SGood} (hS : Stock l) {k : Nat} {g : SGood} (hg : l[k]? = some g) : findZ l g.Name = (k : Int) := by
  unfold findZ
  cases hf : l.findIdx? (fun h => h.Name == g.Name) with
  | none =>
    rw [List.findIdx?_eq_none_iff] at hf
    have := hf g (List.mem_of_getElem? hg)
    simp at this
  | some i =>
    rw [List.findIdx?_eq_some_iff_getElem] at hf
    obtain ⟨hi, he, hlt⟩ := hf
    have hgi : l[i]? = some l[i] := List.getElem?_eq_getElem hi
    have hne : l[i].Name = g.Name := by simpa using he
    have : i = k := by
      rcases Nat.lt_trichotomy i k with h1 | h1 | h1
      · have := hS.less i k _ _ h1 hgi hg
        rw [hne, sl_irr] at this; cases this
      · exact h1
      · have := hS.less k i _ _ h1 hg hgi
        rw [hne, sl_irr] at this; cases this
    subst this; rfl

theorem sum_short (b : List SGood) (k : Nat) : ∀ (l : List SGood) (acc : List STake), sumK b k (l.foldl shortF acc) = sumK b k acc + (l.map fun g => if missG g > 0 then (if findZ b g.Name = (k : Int) then missG g else 0) else 0).sum
  | [], acc => by simp
  | g :: l, acc => by
    rw [List.foldl_cons, sum_short b k l]
    have e : sumK b k (shortF acc g) = sumK b k acc + (if missG g > 0 then (if findZ b g.Name = (k : Int) then missG g else 0) else 0) := by
      unfold shortF missG
      by_cases h : g.Least - (g.OnHand - g.Reserved) > 0
      · rw [if_pos h, if_pos h]; simp [sumK]
      · rw [if_neg h, if_neg h]; simp
    rw [e]
    simp only [List.map_cons, List.sum_cons]; omega

theorem short_sum {b : List SGood} (hS : Stock b) {k : Nat} (hk : k < b.length) : sumK b k (b.foldl shortF []) = if missG (b.getD k gD) > 0 then missG (b.getD k gD) else 0 := by
  rw [sum_short]
  have h0 : sumK b k [] = 0 := by simp [sumK]
  rw [h0, Int.zero_add]
  have hat : ∀ j, j < b.length → findZ b (b.getD j gD).Name = (j : Int) := fun j hj => find_self hS (getD_of hj gD)
  rw [sum_single (fun g => if missG g > 0 then (if findZ b g.Name = (k : Int) then missG g else 0) else 0) gD b k hk (fun j hj hjk => by
    rw [hat j hj]
    split
    · rw [if_neg (by omega)]
    · rfl)]
  rw [hat k hk, if_pos rfl]

theorem short_mem : ∀ (l : List SGood) (acc : List STake) (t : STake), t ∈ l.foldl shortF acc → t ∈ acc ∨ ∃ g ∈ l, t = ⟨g.Name, missG g⟩ ∧ missG g > 0
  | [], acc, t, h => .inl h
  | g :: l, acc, t, h => by
    rw [List.foldl_cons] at h
    rcases short_mem l _ t h with h | ⟨g', h1, h2⟩
    · unfold shortF at h
      split at h
      · rename_i hp
        rcases List.mem_append.1 h with h | h
        · exact .inl h
        · simp at h; exact .inr ⟨g, by simp, h, hp⟩
      · exact .inl h
    · exact .inr ⟨g', by simp [h1], h2⟩

theorem short_nil : ∀ (l : List SGood) (acc : List STake), (∀ g ∈ l, ¬ missG g > 0) → l.foldl shortF acc = acc
  | [], _, _ => rfl
  | g :: l, acc, h => by
    rw [List.foldl_cons]
    have : shortF acc g = acc := by have hg := h g (by simp); unfold missG at hg; unfold shortF; rw [if_neg hg]
    rw [this]
    exact short_nil l acc fun g' hg => h g' (by simp [hg])

/-- Where all that is missing has come, nothing is missing. -/
theorem filled_none {b f : List SGood} (hv : goodsB b = true) (l0 : List SGood) (h : runL (roundG l0) 0 (b.foldl shortF []) b = .ok f) : shortR f = ([], 0) := by
  have hS := stock_of hv
  obtain ⟨h1, h2, h3⟩ := run_sum l0 _ _ _ _ h
  have hf := goodsB_run l0 _ _ _ _ hv h
  unfold shortR
  rw [if_pos hf, short_nil]
  intro g hg
  obtain ⟨k, hk⟩ := List.getElem?_of_mem hg
  have hlt := lt_of_get hk
  have hgd : f.getD k gD = g := by rw [List.getD_eq_getElem?_getD, hk]; rfl
  have := h3 k (by omega)
  rw [hgd, short_sum hS (by omega)] at this
  rw [this]
  unfold missG addG
  simp only
  split <;> omega

def insG (l : List SGood) (p : Nat) (g : SGood) : List SGood := l.take p ++ [g] ++ l.drop p

theorem insG_len {l : List SGood} {p : Nat} {g : SGood} (h : p ≤ l.length) : (insG l p g).length = l.length + 1 := by
  unfold insG; simp; omega

theorem insG_at {l : List SGood} {p : Nat} {g : SGood} (h : p ≤ l.length) (i : Nat) : (insG l p g)[i]? = if i < p then l[i]? else if i = p then some g else l[i - 1]? := by
  unfold insG
  have hl : (l.take p).length = p := by simp; omega
  by_cases h1 : i < p
  · rw [if_pos h1, List.append_assoc, List.getElem?_append_left (by omega), List.getElem?_take, if_pos h1]
  · rw [if_neg h1, List.append_assoc, List.getElem?_append_right (by omega), hl]
    by_cases h2 : i = p
    · subst h2; simp
    · rw [if_neg h2, List.getElem?_append_right (by simp; omega), List.getElem?_drop]
      congr 1; simp; omega

theorem goods_of {l : List SGood} (hl : l.length ≤ 40) (hg : ∀ g ∈ l, goodB g = true) (hs : ∀ (i : Nat) g h, l[i]? = some g → l[i + 1]? = some h → strLt g.Name h.Name = true) : goodsB l = true := by
  unfold goodsB
  simp only [Bool.and_eq_true, decide_eq_true_eq, List.all_eq_true, List.mem_range]
  refine ⟨fun i hi => ?_, hl⟩
  obtain ⟨g, h1⟩ : ∃ g, l[i]? = some g := ⟨_, List.getElem?_eq_getElem hi⟩
  unfold atB
  rw [List.getD_eq_getElem?_getD, h1, Option.getD_some]
  simp only [Bool.and_eq_true, Bool.or_eq_true, decide_eq_true_eq]
  refine ⟨hg g (List.mem_of_getElem? h1), ?_⟩
  cases i with
  | zero => exact .inl rfl
  | succ i =>
    obtain ⟨h, h2⟩ : ∃ h, l[i]? = some h := ⟨_, List.getElem?_eq_getElem (by omega)⟩
    right
    rw [Nat.add_sub_cancel, List.getD_eq_getElem?_getD, h2, Option.getD_some]
    exact hs i h g h2 h1

theorem goods_ins {l : List SGood} {p : Nat} {g : SGood} (hS : Stock l) (hP : Place l g.Name p) (hl : l.length < 40) (hg : goodB g = true) (hf : ∀ h ∈ l, h.Name ≠ g.Name) : goodsB (insG l p g) = true := by
  have hle := hP.le
  refine goods_of (by rw [insG_len hle]; omega) ?_ ?_
  · intro h hh
    unfold insG at hh
    simp only [List.mem_append, List.mem_singleton] at hh
    rcases hh with (hh | rfl) | hh
    · exact hS.good h (List.mem_of_mem_take hh)
    · exact hg
    · exact hS.good h (List.mem_of_mem_drop hh)
  · intro i a b ha hb
    rw [insG_at hle] at ha hb
    by_cases h1 : i + 1 < p
    · rw [if_pos (by omega)] at ha; rw [if_pos h1] at hb
      exact hS.less i (i + 1) a b (by omega) ha hb
    · rw [if_neg h1] at hb
      by_cases h2 : i + 1 = p
      · rw [if_pos h2] at hb; cases hb
        rw [if_pos (by omega)] at ha
        exact hP.lo i a (by omega) ha
      · rw [if_neg h2, Nat.add_sub_cancel] at hb
        rw [if_neg (by omega)] at ha
        by_cases h3 : i = p
        · rw [if_pos h3] at ha; cases ha
          have hlo := hP.hi i b (by omega) hb
          rcases sl_tri g.Name b.Name with h | h | h
          · exact h
          · exact absurd h.symm (hf b (List.mem_of_getElem? hb))
          · rw [h] at hlo; cases hlo
        · rw [if_neg h3] at ha
          exact hS.less (i - 1) i a b (by omega) ha hb

theorem find_none {l : List SGood} {name : List UInt8} (h : findZ l name = -1) : ∀ g ∈ l, g.Name ≠ name := by
  unfold findZ at h
  cases hf : l.findIdx? (fun g => g.Name == name) with
  | some i => rw [hf] at h; simp only at h; omega
  | none =>
    rw [List.findIdx?_eq_none_iff] at hf
    intro g hg
    simpa using hf g hg

theorem p_addLoop (n : Nat) (l : List SGood) (g : SGood) (p : Nat) (hl : l.length ≤ 40) (hP : Place l g.Name p) (hf : ∀ h ∈ l, h.Name ≠ g.Name) (hn : 1048576 < n) : loopN (m_spec_AddGood_l1 n l g) n (l.length : Int) = some (p : Int) := by
  have hle := hP.le
  have h := loopN_run (body := m_spec_AddGood_l1 n l g) (fun i => (l.length : Int) - (i : Int)) (p : Int) (l.length - p) (fun i hi => ?_) ?_ n (by omega)
  · simpa using h
  · obtain ⟨x, hx⟩ : ∃ x, l[l.length - i - 1]? = some x := ⟨_, List.getElem?_eq_getElem (by omega)⟩
    have hw : wI64 ((l.length : Int) - (i : Int) - 1) = (l.length : Int) - ((i + 1 : Nat) : Int) := by rw [wI64_eq (by omega) (by omega)]; omega
    have hi2 : idx l ((l.length : Int) - ((i + 1 : Nat) : Int)) = some x := by rw [idx_of (k := l.length - i - 1) (by omega)]; exact hx
    have hd : decide ((l.length : Int) - (i : Int) > 0) = true := decide_eq_true (by omega)
    have hlt := hP.hi (l.length - i - 1) x (by omega) hx
    have hne : (x.Name == g.Name) = false := by simpa using hf x (List.mem_of_getElem? hx)
    unfold m_spec_AddGood_l1
    simp only [hd, if_true, hw, hi2, Option.bind_some, hlt, hne, Bool.or_false, Bool.not_false]
  · have e : (l.length : Int) - ((l.length - p : Nat) : Int) = (p : Int) := by omega
    unfold m_spec_AddGood_l1
    rw [e]
    by_cases h0 : p = 0
    · subst h0; simp
    · obtain ⟨x, hx⟩ : ∃ x, l[p - 1]? = some x := ⟨_, List.getElem?_eq_getElem (by omega)⟩
      have hw : wI64 ((p : Int) - 1) = ((p - 1 : Nat) : Int) := by rw [wI64_eq (by omega) (by omega)]; omega
      have hd : decide ((p : Int) > 0) = true := decide_eq_true (by omega)
      have hlt := hP.lo (p - 1) x (by omega) hx
      simp only [hd, if_true, hw, idx_nat, hx, Option.bind_some, hlt, Bool.true_or, Bool.not_true, Bool.false_eq_true, if_false]

theorem p_AddGood (n : Nat) (l : List SGood) (g : SGood) (hl : l.length ≤ 1048576) (hs : ∀ g ∈ l, strok g.Name) (hg : strok g.Name) (hn : 1048576 < n) :
    ∃ R : List SGood × Int, m_spec_AddGood n l g = some R ∧ m_impl_AddGood n l g = some R ∧ ((R.2 ≠ 0 ∧ R.1 = []) ∨ (R.2 = 0 ∧ R.1.length = l.length + 1 ∧ R.1.length ≤ 40 ∧ goodsB R.1 = true)) := by
  unfold m_spec_AddGood m_impl_AddGood
  rw [p_l23Ok n l hl hs hn, p_implValidGoods n l hl hs hn, p_l23One n g hg hn, p_validGood n g hg hn]
  simp only [Option.bind_some]
  cases hv : goodsB l with
  | false => exact ⟨([], 1), rfl, rfl, .inl ⟨by decide, rfl⟩⟩
  | true =>
    cases hb : goodB g with
    | false => exact ⟨([], 2), rfl, rfl, .inl ⟨by decide, rfl⟩⟩
    | true =>
      have hS := stock_of hv
      obtain ⟨p, hP, e1⟩ := p_goodPlace n l g.Name hS hn
      have hfz := place_find hS hP
      rw [e1, p_l23Find n l g.Name hl hn]
      simp only [Bool.not_true, Bool.false_eq_true, if_false, Option.bind_some]
      cases hf : foundB l g.Name p with
      | true =>
        rw [hf] at hfz; simp only [if_true] at hfz
        have hd : decide (findZ l g.Name ≥ 0) = true := decide_eq_true (by omega)
        simp only [hd, if_true]
        exact ⟨([], 4), rfl, rfl, .inl ⟨by decide, rfl⟩⟩
      | false =>
        rw [hf] at hfz; simp only [Bool.false_eq_true, if_false] at hfz
        have hd : decide (findZ l g.Name ≥ 0) = false := decide_eq_false (by omega)
        simp only [hd, Bool.false_eq_true, if_false]
        have h40 := hS.len
        by_cases h : l.length = 40
        · have d1 : decide ((l.length : Int) ≥ 40) = true := decide_eq_true (by omega)
          have d2 : ((l.length : Int) == 40) = true := by rw [beq_iff_eq]; omega
          simp only [d1, d2, if_true]
          exact ⟨([], 5), rfl, rfl, .inl ⟨by decide, rfl⟩⟩
        · have d1 : decide ((l.length : Int) ≥ 40) = false := decide_eq_false (by omega)
          have d2 : ((l.length : Int) == 40) = false := by rw [beq_eq_false_iff_ne]; omega
          have hle := hP.le
          have hne := find_none hfz
          have e2 : m_slices_Insert_impl_Good_impl_Good n l (p : Int) [g] = some (insG l p g) := by
            unfold m_slices_Insert_impl_Good_impl_Good insG big
            rw [if_pos ⟨by omega, by omega, rfl, by simp; omega⟩]
            simp
          have e3 : sub l 0 (p : Int) = some (l.take p) := by
            unfold sub; rw [if_pos ⟨by omega, by omega, by omega⟩]; simp
          have e4 : sub l (p : Int) (l.length : Int) = some (l.drop p) := by
            unfold sub; rw [if_pos ⟨by omega, by omega, by omega⟩]; simp
          have a1 : app ([] : List SGood) (l.take p) = some (l.take p) := by rw [app_eq (by simp; omega)]; rfl
          have a2 : app (l.take p) [g] = some (l.take p ++ [g]) := app_eq (by simp; omega)
          have a3 : app (l.take p ++ [g]) (l.drop p) = some (insG l p g) := by rw [app_eq (by simp; omega)]; rfl
          simp only [d1, d2, Bool.false_eq_true, if_false, p_Clone n l hl, Option.bind_some, e2, p_addLoop n l g p h40 hP hne hn, e3, e4, a1, a2, a3]
          exact ⟨(insG l p g, 0), rfl, rfl, .inr ⟨rfl, insG_len hle, by show (insG l p g).length ≤ 40; rw [insG_len hle]; omega, goods_ins hS hP (by omega) hb hne⟩⟩

theorem p_among (n : Nat) {code : List Int} (hc : bytesok code) (a : Nat) (ha : a ≤ 900000000) (seed : Int) (xs : List Int) (h1 : 1 ≤ xs.length) (h2 : xs.length ≤ 1000) :
    ∃ x a' seed', m_spec_l00Src_among_o1 n code (a : Int) seed xs = some (x, ((a' : Nat) : Int), seed') ∧ x ∈ xs ∧ a' ≤ a + 2 := by
  unfold m_spec_l00Src_among_o1
  obtain ⟨x, a', s', e, h3, h4, h5⟩ := p_pick n hc a ha seed (xs.length : Int) (by omega)
  rw [e]
  have h6 := h4 (by omega)
  obtain ⟨k, rfl⟩ : ∃ k : Nat, x = (k : Int) := ⟨x.toNat, by omega⟩
  have hk : k < xs.length := by omega
  have hg : xs[k]? = some xs[k] := List.getElem?_eq_getElem hk
  simp only [Option.bind_some, idx_nat, hg]
  exact ⟨_, a', s', rfl, List.getElem_mem hk, h5⟩

theorem p_text (n : Nat) {code : List Int} (hc : bytesok code) (a : Nat) (ha : a ≤ 900000000) (seed : Int) (xs : List (List UInt8)) (h1 : 1 ≤ xs.length) (h2 : xs.length ≤ 1000) :
    ∃ x a' seed', m_spec_l00Src_text_o1 n code (a : Int) seed xs = some (x, ((a' : Nat) : Int), seed') ∧ x ∈ xs ∧ a' ≤ a + 2 := by
  unfold m_spec_l00Src_text_o1
  obtain ⟨x, a', s', e, h3, h4, h5⟩ := p_pick n hc a ha seed (xs.length : Int) (by omega)
  rw [e]
  have h6 := h4 (by omega)
  obtain ⟨k, rfl⟩ : ∃ k : Nat, x = (k : Int) := ⟨x.toNat, by omega⟩
  have hk : k < xs.length := by omega
  have hg : xs[k]? = some xs[k] := List.getElem?_eq_getElem hk
  simp only [Option.bind_some, idx_nat, hg]
  exact ⟨_, a', s', rfl, List.getElem_mem hk, h5⟩

theorem inc64 {i : Nat} (h : i ≤ 1000000) : wI64 ((i : Int) + 1) = ((i + 1 : Nat) : Int) := by rw [wI64_eq (by omega) (by omega)]; omega

theorem p_l00From (n : Nat) (code : List Int) : m_spec_l00From n code = some (0, 0) := rfl

/-- A stock that is drawn. -/
def DG (l : List SGood) : Prop := l.length ≤ 41 ∧ ∀ g ∈ l, g.Name.length ≤ 12

theorem DG.ok {l : List SGood} (h : DG l) : l.length ≤ 1048576 ∧ ∀ g ∈ l, strok g.Name := ⟨by have := h.1; omega, fun g hg => by have := h.2 g hg; unfold strok; omega⟩

theorem DG.snoc {l : List SGood} {k : Nat} (hl : l.length ≤ k) (hk : k < 41) (h : ∀ g ∈ l, g.Name.length ≤ 12) {g : SGood} (hg : g.Name.length ≤ 12) : (l ++ [g]).length ≤ k + 1 ∧ ∀ x ∈ l ++ [g], x.Name.length ≤ 12 := by
  refine ⟨by simp; omega, fun x hx => ?_⟩
  rcases List.mem_append.1 hx with hx | hx
  · exact h x hx
  · simp at hx; subst hx; exact hg

def goodNames : List (List UInt8) := [[99, 97, 108, 102], [99, 111, 114, 107], [101, 121, 101, 108, 101, 116], [104, 101, 101, 108, 45, 51], [108, 97, 99, 101], [110, 97, 105, 108], [116, 104, 114, 101, 97, 100], [119, 97, 120]]

theorem goodNames_len : ∀ w ∈ goodNames, w.length ≤ 12 := by decide

theorem p_l23Names (n : Nat) : m_spec_l23Names n = some goodNames := rfl

theorem p_l23New (n : Nat) {code : List Int} (hc : bytesok code) (A : Nat) (hA : A ≤ 800000000) (seed : Int) (name : List UInt8) :
    ∃ (g : SGood) (a : Nat) (s : Int), m_spec_l23New n code (A : Int) seed name = some (g, (a : Int), s) ∧ g.Name = name ∧ a ≤ A + 8 := by
  unfold m_spec_l23New
  obtain ⟨h, a1, s1, e1, h0, h1, h2⟩ := p_pick n hc A (by omega) seed 120 (by omega)
  have h1' := h1 (by omega)
  have w : wI64 (h + 1) = h + 1 := wI64_eq (by omega) (by omega)
  obtain ⟨r, a2, s2, e2, _, _, h3⟩ := p_pick n hc a1 (by omega) s1 (h + 1) (by omega)
  obtain ⟨b, a3, s3, e3, h4⟩ := p_one n hc a2 (by omega) s2 2 (by omega)
  obtain ⟨l, a4, s4, e4, _, _, h5⟩ := p_pick n hc a3 (by omega) s3 60 (by omega)
  simp only [e1, Option.bind_some, w, e2, e3]
  cases b <;> simp only [Bool.false_eq_true, if_false, if_true, Option.bind_some, e4] <;> exact ⟨_, a4, s4, rfl, rfl, by omega⟩

theorem d_l23Draw (n : Nat) {code : List Int} (hc : bytesok code) (A : Nat) (hA : A ≤ 700000000) (seed : Int) (hn : 100 < n) :
    ∃ q : List SGood × Int × Int, loopN (m_spec_l23Draw_l1 n code goodNames) n (([] : List SGood), 0, (A : Int), seed) = some q ∧ q.1.length ≤ 8 ∧ (∀ g ∈ q.1, g.Name.length ≤ 12) ∧ ∃ a : Nat, q.2.1 = (a : Int) ∧ a ≤ A + 80 :=
  loopN_count (body := m_spec_l23Draw_l1 n code goodNames) (fun i s => s.2.1 = (i : Int) ∧ s.1.length ≤ i ∧ (∀ g ∈ s.1, g.Name.length ≤ 12) ∧ ∃ a : Nat, s.2.2.1 = (a : Int) ∧ a ≤ A + 10 * i) 8
    (fun q => q.1.length ≤ 8 ∧ (∀ g ∈ q.1, g.Name.length ≤ 12) ∧ ∃ a : Nat, q.2.1 = (a : Int) ∧ a ≤ A + 80)
    (fun i s hi hJ => by
      obtain ⟨o, k, t, sd⟩ := s
      obtain ⟨h1, h2, h3, a, h4, h5⟩ := hJ
      simp only at h1 h2 h3 h4
      subst h1 h4
      have hnm : i < goodNames.length := by simp [goodNames]; omega
      have hg : goodNames[i]? = some goodNames[i] := List.getElem?_eq_getElem hnm
      obtain ⟨b, a1, s1, e1, h6⟩ := p_one n hc a (by omega) sd 2 (by omega)
      unfold m_spec_l23Draw_l1
      simp only [ltB hnm, if_true, e1, Option.bind_some, inc64 (show i ≤ 1000000 by omega)]
      cases b with
      | false => exact ⟨_, rfl, rfl, by simp only; omega, h3, a1, rfl, by omega⟩
      | true =>
        obtain ⟨g, a2, s2, e2, h7, h8⟩ := p_l23New n hc a1 (by omega) s1 goodNames[i]
        simp only [if_true, idx_nat, hg, Option.bind_some, e2, app_eq (show o.length + [g].length ≤ 4294967296 by simp; omega)]
        obtain ⟨k1, k2⟩ := DG.snoc (g := g) h2 (by omega) h3 (by rw [h7]; exact goodNames_len _ (List.getElem_mem hnm))
        exact ⟨_, rfl, rfl, k1, k2, a2, rfl, by omega⟩)
    (fun s hJ => by
      obtain ⟨o, k, t, sd⟩ := s
      obtain ⟨h1, h2, h3, a, h4, h5⟩ := hJ
      simp only at h1 h2 h3 h4
      subst h1 h4
      exact ⟨_, rfl, h2, h3, a, rfl, by omega⟩) n (by omega) _ ⟨rfl, by simp, by simp, A, rfl, by omega⟩

theorem bent_g (n : Nat) (K : Nat) (hK : K ≤ 41) (hn : 100 < n) : ∃ q : List SGood, loopN (m_spec_l23Bent_l4 n) n (([] : List SGood), (K : Int)) = some q ∧ DG q :=
  loopN_count (body := m_spec_l23Bent_l4 n) (fun i s => s.1.length ≤ i ∧ s.2 = ((K - i : Nat) : Int) ∧ ∀ g ∈ s.1, g.Name.length ≤ 12) K DG
    (fun i s hi hJ => by
      obtain ⟨o, k⟩ := s
      obtain ⟨h1, h2, h3⟩ := hJ
      simp only at h1 h2 h3
      subst h2
      have hgt : decide (((K - i : Nat) : Int) > 0) = true := decide_eq_true (by omega)
      have w : wI64 (((K - i : Nat) : Int) - 1) = ((K - (i + 1) : Nat) : Int) := by rw [wI64_eq (by omega) (by omega)]; omega
      have hl : ∀ x y : Int, (ofBytes ([x, y] : List Int)).length = 2 := fun x y => by simp [ofBytes]
      obtain ⟨nm, hnm, hnl⟩ : ∃ nm, app [103] (ofBytes ([(IntKind.u8.wrap (wI64 (97 + (wI64 (Int.tdiv (o.length : Int) 26))))), (IntKind.u8.wrap (wI64 (97 + (Int.tmod (o.length : Int) 26))))] : List Int)) = some nm ∧ nm.length ≤ 12 :=
        ⟨_, app_eq (by rw [hl]; simp), by rw [List.length_append, hl]; simp⟩
      unfold m_spec_l23Bent_l4
      simp only [hgt, if_true, hnm, w, Option.bind_some, app_eq (show o.length + [SGood.mk nm 9 0 0].length ≤ 4294967296 by simp; omega)]
      obtain ⟨k1, k2⟩ := DG.snoc (g := SGood.mk nm 9 0 0) h1 (by omega) h3 hnl
      exact ⟨_, rfl, k1, rfl, k2⟩)
    (fun s hJ => by
      obtain ⟨o, k⟩ := s
      obtain ⟨h1, h2, h3⟩ := hJ
      simp only at h1 h2 h3
      rw [Nat.sub_self] at h2
      subst h2
      exact ⟨o, rfl, by omega, h3⟩) n (by omega) _ ⟨by simp, by simp, by simp⟩

theorem DG.set {l : List SGood} {i : Nat} {g : SGood} (h : DG l) (hg : g.Name.length ≤ 12) : DG (l.set i g) := by
  refine ⟨by simpa using h.1, fun x hx => ?_⟩
  rcases List.mem_or_eq_of_mem_set hx with hx | hx
  · exact h.2 x hx
  · subst hx; exact hg

theorem p_l23Spoil (n : Nat) {code : List Int} (hc : bytesok code) (A : Nat) (hA : A ≤ 800000000) (seed : Int) (l : List SGood) (hl : DG l) (i : Int) (g : SGood) (hg : g.Name.length ≤ 12) :
    ∃ (l' : List SGood) (a : Nat) (s : Int), m_spec_l23Spoil_o1 n code (A : Int) seed l i g = some (l', (a : Int), s) ∧ DG l' ∧ a ≤ A + 4 := by
  unfold m_spec_l23Spoil_o1
  obtain ⟨p, a1, s1, e1, _, _, h1⟩ := p_pick n hc A (by omega) seed 4 (by omega)
  simp only [e1, Option.bind_some]
  cases p == 0 with
  | true =>
    obtain ⟨v, a2, s2, e2, hv, h2⟩ := p_text n hc a1 (by omega) s1 [[], [67, 97, 108, 102], [122, 122]] (by simp) (by simp)
    simp only [if_true, e2, Option.bind_some]
    have : ∀ v ∈ ([[], [67, 97, 108, 102], [122, 122]] : List (List UInt8)), v.length ≤ 12 := by decide
    exact ⟨_, a2, s2, rfl, hl.set (this v hv), by omega⟩
  | false =>
    simp only [Bool.false_eq_true, if_false]
    cases p == 1 with
    | true =>
      obtain ⟨v, a2, s2, e2, hv, h2⟩ := p_among n hc a1 (by omega) s1 [(-1), 0, 1000000, 1000001] (by simp) (by simp)
      simp only [if_true, e2, Option.bind_some]
      exact ⟨_, a2, s2, rfl, hl.set hg, by omega⟩
    | false =>
      simp only [Bool.false_eq_true, if_false]
      cases p == 2 with
      | true =>
        obtain ⟨v, a2, s2, e2, hv, h2⟩ := p_among n hc a1 (by omega) s1 [(-1), g.OnHand, (wI64 (g.OnHand + 1)), (-9223372036854775808)] (by simp) (by simp)
        simp only [if_true, e2, Option.bind_some]
        exact ⟨_, a2, s2, rfl, hl.set hg, by omega⟩
      | false =>
        simp only [Bool.false_eq_true, if_false]
        cases p == 3 with
        | true =>
          obtain ⟨v, a2, s2, e2, hv, h2⟩ := p_among n hc a1 (by omega) s1 [(-1), 0, 1000000, 1000001] (by simp) (by simp)
          simp only [if_true, e2, Option.bind_some]
          exact ⟨_, a2, s2, rfl, hl.set hg, by omega⟩
        | false =>
          simp only [Bool.false_eq_true, if_false, Option.bind_some]
          exact ⟨_, a1, s1, rfl, hl, by omega⟩

theorem p_l23Bent (n : Nat) {code : List Int} (hc : bytesok code) (A : Nat) (hA : A ≤ 500000000) (seed : Int) (hn : 100 < n) :
    ∃ (l : List SGood) (a : Nat) (s : Int), m_spec_l23Bent n code (A : Int) seed = some (l, (a : Int), s) ∧ DG l ∧ a ≤ A + 1000 := by
  unfold m_spec_l23Bent m_spec_l23Draw
  obtain ⟨⟨l, t, s⟩, e1, h1, h2, a1, h3, h4⟩ := d_l23Draw n hc A (by omega) seed hn
  simp only at h1 h2 h3
  subst h3
  obtain ⟨b, a2, s2, e2, h5⟩ := p_one n hc a1 (by omega) s 24 (by omega)
  simp only [p_l23Names, Option.bind_some, e1, e2]
  obtain ⟨l2, a3, s3, e3, h6, h7⟩ : ∃ (l2 : List SGood) (a3 : Nat) (s3 : Int), (if b = true then Option.bind (m_spec_l00Src_pick n code (a2 : Int) s2 2) fun x270 => Option.bind (loopN (m_spec_l23Bent_l4 n) n (([] : List SGood), (wI64 (40 + x270.1)))) fun q329 => some (q329, x270.2.1, x270.2.2) else some (l, (a2 : Int), s2)) = some (l2, (a3 : Int), s3) ∧ DG l2 ∧ a3 ≤ a2 + 2 := by
    cases b with
    | false => exact ⟨l, a2, s2, rfl, ⟨by omega, h2⟩, by omega⟩
    | true =>
      obtain ⟨p, a3, s3, e3, p0, p1, h6⟩ := p_pick n hc a2 (by omega) s2 2 (by omega)
      have p1' := p1 (by omega)
      obtain ⟨K, hK, hK2⟩ : ∃ K : Nat, wI64 (40 + p) = (K : Int) ∧ K ≤ 41 := ⟨(40 + p).toNat, by rw [wI64_eq (by omega) (by omega)]; omega, by omega⟩
      obtain ⟨q, e4, q1⟩ := bent_g n K hK2 hn
      simp only [if_true, e3, Option.bind_some, hK, e4]
      exact ⟨q, a3, s3, rfl, q1, h6⟩
  rw [e3]
  simp only [Option.bind_some]
  cases hz : decide ((l2.length : Int) > 0) with
  | false =>
    simp only [Bool.false_eq_true, if_false, Option.bind_some]
    exact ⟨l2, a3, s3, rfl, h6, by omega⟩
  | true =>
    have hpos : 0 < l2.length := by have := of_decide_eq_true hz; omega
    obtain ⟨c, a4, s4, e4, h8⟩ := p_one n hc a3 (by omega) s3 10 (by omega)
    simp only [if_true, e4, Option.bind_some]
    cases c with
    | false => exact ⟨l2, a4, s4, rfl, h6, by omega⟩
    | true =>
      have hll := h6.1
      obtain ⟨p, a5, s5, e5, p0, p1, h9⟩ := p_pick n hc a4 (by omega) s4 (l2.length : Int) (by omega)
      have p1' := p1 (by omega)
      obtain ⟨k, rfl⟩ : ∃ k : Nat, p = (k : Int) := ⟨p.toNat, by omega⟩
      have hk : k < l2.length := by omega
      have hg : l2[k]? = some l2[k] := List.getElem?_eq_getElem hk
      obtain ⟨l3, a6, s6, e6, h10, h11⟩ := p_l23Spoil n hc a5 (by omega) s5 l2 h6 (k : Int) l2[k] (h6.2 _ (List.getElem_mem hk))
      simp only [if_true, e5, Option.bind_some, idx_nat, hg, e6]
      exact ⟨l3, a6, s6, rfl, h10, by omega⟩

theorem p_l23Name (n : Nat) {code : List Int} (hc : bytesok code) (A : Nat) (hA : A ≤ 800000000) (seed : Int) (l : List SGood) (hl : DG l) :
    ∃ (w : List UInt8) (a : Nat) (s : Int), m_spec_l23Name_o1 n code (A : Int) seed l = some (w, (a : Int), s) ∧ w.length ≤ 12 ∧ a ≤ A + 6 := by
  unfold m_spec_l23Name_o1
  have hll := hl.1
  obtain ⟨b, a1, s1, e1, h1, h2⟩ : ∃ (b : Bool) (a1 : Nat) (s1 : Int), (if decide ((l.length : Int) > 0) = true then Option.bind (m_spec_l00Src_one n code (A : Int) seed 6) fun x39 => some ((!x39.1), x39.2.1, x39.2.2) else some (false, (A : Int), seed)) = some (b, (a1 : Int), s1) ∧ a1 ≤ A + 2 ∧ (b = true → 0 < l.length) := by
    cases hz : decide ((l.length : Int) > 0) with
    | false => exact ⟨false, A, seed, rfl, by omega, fun h => by cases h⟩
    | true =>
      obtain ⟨c, a1, s1, e1, h1⟩ := p_one n hc A (by omega) seed 6 (by omega)
      simp only [if_true, e1, Option.bind_some]
      exact ⟨!c, a1, s1, rfl, h1, fun _ => by have := of_decide_eq_true hz; omega⟩
  rw [e1]
  simp only [Option.bind_some]
  cases b with
  | true =>
    have hpos := h2 rfl
    obtain ⟨p, a2, s2, e2, p0, p1, h3⟩ := p_pick n hc a1 (by omega) s1 (l.length : Int) (by omega)
    have p1' := p1 (by omega)
    obtain ⟨k, rfl⟩ : ∃ k : Nat, p = (k : Int) := ⟨p.toNat, by omega⟩
    have hk : k < l.length := by omega
    have hg : l[k]? = some l[k] := List.getElem?_eq_getElem hk
    simp only [if_true, e2, Option.bind_some, idx_nat, hg]
    exact ⟨_, a2, s2, rfl, hl.2 _ (List.getElem_mem hk), by omega⟩
  | false =>
    obtain ⟨v, a2, s2, e2, hv, h3⟩ := p_text n hc a1 (by omega) s1 goodNames (by decide) (by decide)
    simp only [Bool.false_eq_true, if_false, p_l23Names, Option.bind_some, e2]
    exact ⟨_, a2, s2, rfl, goodNames_len v hv, by omega⟩

theorem p_l23Ask (n : Nat) {code : List Int} (hc : bytesok code) (hn : 100 < n) : ∃ (l : List SGood) (w : List UInt8) (m : Int), m_spec_l23Ask n code = some (l, w, m) ∧ DG l := by
  unfold m_spec_l23Ask
  rw [p_l00From]
  obtain ⟨l, a1, s1, e1, h1, h2⟩ := p_l23Bent n hc 0 (by omega) 0 hn
  have e1' : m_spec_l23Bent n code 0 0 = some (l, (a1 : Int), s1) := e1
  obtain ⟨w, a2, s2, e2, h3, h4⟩ := p_l23Name n hc a1 (by omega) s1 l h1
  obtain ⟨b, a3, s3, e3, h5⟩ := p_one n hc a2 (by omega) s2 8 (by omega)
  simp only [Option.bind_some, e1', e2, e3]
  cases b with
  | true =>
    obtain ⟨v, a4, s4, e4, _, _⟩ := p_among n hc a3 (by omega) s3 [(-1), 0, 1, 1000000, 1000001] (by simp) (by simp)
    simp only [if_true, e4, Option.bind_some]
    exact ⟨l, w, v, rfl, h1⟩
  | false =>
    obtain ⟨v, a4, s4, e4, _, _, _⟩ := p_pick n hc a3 (by omega) s3 60 (by omega)
    simp only [Bool.false_eq_true, if_false, e4, Option.bind_some]
    exact ⟨l, w, _, rfl, h1⟩

theorem d_can (n : Nat) {code : List Int} (hc : bytesok code) (x14 : List SGood × Int × Int) (hl : DG x14.1) (K : Nat) (hK : K ≤ 5) (A : Nat) (hA : A ≤ 700000000) (seed : Int) (hn : 100 < n) :
    ∃ q : List STake × Int × Int, loopN (m_spec_DrawCanMake_l1 n code x14) n (([] : List STake), (K : Int), (A : Int), seed) = some q ∧ q.1.length ≤ 5 ∧ ∃ a : Nat, q.2.1 = (a : Int) ∧ a ≤ A + 50 :=
  loopN_count (body := m_spec_DrawCanMake_l1 n code x14) (fun i s => s.1.length ≤ i ∧ s.2.1 = ((K - i : Nat) : Int) ∧ ∃ a : Nat, s.2.2.1 = (a : Int) ∧ a ≤ A + 10 * i) K (fun q => q.1.length ≤ 5 ∧ ∃ a : Nat, q.2.1 = (a : Int) ∧ a ≤ A + 50)
    (fun i s hi hJ => by
      obtain ⟨o, k, t, sd⟩ := s
      obtain ⟨h1, h2, a, h4, h5⟩ := hJ
      simp only at h1 h2 h4
      subst h2 h4
      have hgt : decide (((K - i : Nat) : Int) > 0) = true := decide_eq_true (by omega)
      have w : wI64 (((K - i : Nat) : Int) - 1) = ((K - (i + 1) : Nat) : Int) := by rw [wI64_eq (by omega) (by omega)]; omega
      obtain ⟨nm, a1, s1, e1, h6, h7⟩ := p_l23Name n hc a (by omega) sd x14.1 hl
      obtain ⟨p, a2, s2, e2, _, _, h8⟩ := p_pick n hc a1 (by omega) s1 9 (by omega)
      unfold m_spec_DrawCanMake_l1
      simp only [hgt, if_true, e1, e2, Option.bind_some, w, app_eq (show o.length + [STake.mk nm (wI64 (1 + p))].length ≤ 4294967296 by simp; omega)]
      exact ⟨_, rfl, by simp; omega, rfl, a2, rfl, by omega⟩)
    (fun s hJ => by
      obtain ⟨o, k, t, sd⟩ := s
      obtain ⟨h1, h2, a, h4, h5⟩ := hJ
      simp only at h1 h2 h4
      rw [Nat.sub_self] at h2
      subst h2 h4
      exact ⟨_, rfl, by simp only; omega, a, rfl, by omega⟩) n (by omega) _ ⟨by simp, by simp, A, rfl, by omega⟩

theorem p_DrawCanMake (n : Nat) {code : List Int} (hc : bytesok code) (hn : 100 < n) : ∃ (l : List SGood) (ts : List STake), m_spec_DrawCanMake n code = some (l, ts) ∧ DG l ∧ ts.length ≤ 5 := by
  unfold m_spec_DrawCanMake
  rw [p_l00From]
  obtain ⟨l, a1, s1, e1, h1, h2⟩ := p_l23Bent n hc 0 (by omega) 0 hn
  have e1' : m_spec_l23Bent n code 0 0 = some (l, (a1 : Int), s1) := e1
  obtain ⟨p, a2, s2, e2, p0, p1, h3⟩ := p_pick n hc a1 (by omega) s1 5 (by omega)
  have p1' := p1 (by omega)
  obtain ⟨K, rfl⟩ : ∃ K : Nat, p = (K : Int) := ⟨p.toNat, by omega⟩
  obtain ⟨⟨o, t, s3⟩, e3, h4, a3, h5, h6⟩ := d_can n hc (l, (a1 : Int), s1) h1 K (by omega) a2 (by omega) s2 hn
  simp only at h4 h5
  subst h5
  simp only [Option.bind_some, e1', e2, e3]
  cases hz : decide ((o.length : Int) > 0) with
  | false =>
    simp only [Bool.false_eq_true, if_false, Option.bind_some]
    exact ⟨l, o, rfl, h1, h4⟩
  | true =>
    have hpos : 0 < o.length := by have := of_decide_eq_true hz; omega
    have hg : o[0]? = some o[0] := List.getElem?_eq_getElem hpos
    obtain ⟨c, a4, s4, e4, h8⟩ := p_one n hc a3 (by omega) s3 10 (by omega)
    simp only [if_true, e4, Option.bind_some]
    cases c with
    | false => exact ⟨l, o, rfl, h1, h4⟩
    | true =>
      obtain ⟨v, a5, s5, e5, _, _⟩ := p_among n hc a4 (by omega) s4 [(-1), 0, 1, 1000000, 1000001] (by simp) (by simp)
      simp only [if_true, e5, Option.bind_some, idx_zero, hg]
      exact ⟨l, _, rfl, h1, by simp; omega⟩

def wLeast : List UInt8 := [108, 101, 97, 115, 116]

end Go.Gv
