/- Plain laws of stock: how often all needs can be taken. -/
import Derived.Test.YtkpdicajinionaaPgA
namespace Go.Gv
open Go Go.RowKit

theorem p_l23Takes (n : Nat) (l : List SGood) (ts : List STake) (hl : l.length ≤ 1048576) (hs : ∀ g ∈ l, strok g.Name) (ht : ts.length ≤ 1048576) (hn : 1048576 < n) :
    m_spec_l23Takes n l ts = some (if goodsB l then (if ts.all (fun t => inRB (-1000000) 1000000 t.Many) then (if ts.length > 60 then 2 else 0) else 2) else 1) := by
  unfold m_spec_l23Takes
  rw [p_l23Ok n l hl hs hn]
  simp only [Option.bind_some]
  cases goodsB l with
  | false => rfl
  | true =>
    simp only [Bool.not_true, Bool.false_eq_true, if_false, if_true]
    have key := loopN_listAll (body := m_spec_l23Takes_l1 n ts) ts (fun t => inRB (-1000000) 1000000 t.Many) (fun i => (i : Int)) (.inl ()) (.inr 2)
      (fun i t hx => by
        have hlt := lt_of_get hx
        have e : (decide (-1000000 ≤ t.Many) && decide (t.Many ≤ 1000000)) = inRB (-1000000) 1000000 t.Many := rfl
        unfold m_spec_l23Takes_l1 m_spec_l23Take
        simp only [ltB hlt, if_true, idx_nat, hx, Option.bind_some, p_l00In, e, succ64 hlt (by omega)]
        cases inRB (-1000000) 1000000 t.Many <;> rfl)
      (by unfold m_spec_l23Takes_l1; simp) n (by omega)
    have k1 : loopN (m_spec_l23Takes_l1 n ts) n 0 = _ := key
    rw [k1]
    cases ts.all (fun t => inRB (-1000000) 1000000 t.Many) with
    | false => rfl
    | true =>
      simp only [if_true, Option.bind_some]
      by_cases h : ts.length > 60
      · rw [decide_eq_true (by omega : (ts.length : Int) > 60)]; simp [h]
      · rw [decide_eq_false (by omega : ¬ (ts.length : Int) > 60)]; simp [h]

theorem p_many (n : Nat) (ts : List STake) (ht : ts.length ≤ 1048576) : ∀ (m i : Nat), ts.length - i + 1 < m → i ≤ ts.length → loopN (m_spec_CanMake_l1 n ts) m (0, (i : Int)) = some (if (ts.drop i).all (fun t => decide (1 ≤ t.Many)) then 0 else 2) := by
  intro m
  induction m with
  | zero => intro i h; omega
  | succ m ih =>
    intro i hm hi
    by_cases hlt : i < ts.length
    · obtain ⟨t, hx⟩ : ∃ t, ts[i]? = some t := ⟨_, List.getElem?_eq_getElem hlt⟩
      have hd : ts.drop i = t :: ts.drop (i + 1) := by
        rw [List.drop_eq_getElem_cons hlt]
        rw [List.getElem?_eq_getElem hlt] at hx
        rw [Option.some.inj hx]
      have hb : m_spec_CanMake_l1 n ts (0, (i : Int)) = some (.next (if t.Many < 1 then 2 else 0, ((i + 1 : Nat) : Int))) := by
        unfold m_spec_CanMake_l1
        simp only [ltB hlt, if_true, BEq.rfl, Option.bind_some, idx_nat, hx, succ64 hlt (by omega)]
        by_cases h : t.Many < 1
        · simp only [h, decide_true, if_true, Option.bind_some]
        · simp only [h, decide_false, Bool.false_eq_true, if_false, Option.bind_some]
      simp only [loopN, hb, Option.bind_some, hd, List.all_cons]
      by_cases h : t.Many < 1
      · have h1 : ¬ 1 ≤ t.Many := by omega
        simp only [h, if_true, h1, decide_false, Bool.false_and, Bool.false_eq_true, if_false]
        obtain ⟨m', rfl⟩ : ∃ q, m = q + 1 := ⟨m - 1, by omega⟩
        have h20 : ((2 : Int) == 0) = false := rfl
        by_cases h3 : i + 1 < ts.length
        · simp [loopN, m_spec_CanMake_l1, ltB h3]
        · have : decide (((i + 1 : Nat) : Int) < (ts.length : Int)) = false := decide_eq_false (by omega)
          simp only [loopN, m_spec_CanMake_l1, this, Bool.false_eq_true, if_false, Option.bind_some]
      · have h1 : 1 ≤ t.Many := by omega
        simp only [h, if_false, h1, decide_true, Bool.true_and]
        exact ih (i + 1) (by omega) (by omega)
    · have he : i = ts.length := by omega
      subst he
      simp [loopN, m_spec_CanMake_l1]

theorem p_needs (n : Nat) (ts : List STake) (ht : ts.length ≤ 1048576) (hn : 1048576 < n) : m_slices_ContainsFunc_impl_Take_impl_Take_f66 n ts = some (!ts.all (fun t => inRB 1 1000000 t.Many)) := by
  unfold m_slices_ContainsFunc_impl_Take_impl_Take_f66 m_slices_IndexFunc_impl_Take_impl_Take_f66
  have := loopN_index (body := m_slices_IndexFunc_impl_Take_impl_Take_f66_l1 n ts) ts (fun t => !inRB 1 1000000 t.Many)
    (fun i t hx => by
      have hlt := lt_of_get hx
      have e : (decide (1 ≤ t.Many) && decide (t.Many ≤ 1000000)) = inRB 1 1000000 t.Many := rfl
      unfold m_slices_IndexFunc_impl_Take_impl_Take_f66_l1 m_impl_CanMake_1
      simp only [ltB hlt, if_true, idx_nat, hx, Option.bind_some, p_within, e, succ64 hlt (by omega)]
      cases inRB 1 1000000 t.Many <;> rfl)
    (by unfold m_slices_IndexFunc_impl_Take_impl_Take_f66_l1; simp) n (by omega)
  rw [this]
  have e := List.findIdx?_isSome (xs := ts) (p := fun t => !inRB 1 1000000 t.Many)
  have e2 : ts.any (fun t => !inRB 1 1000000 t.Many) = !ts.all (fun t => inRB 1 1000000 t.Many) := by rw [List.not_all_eq_any_not]
  rw [← e2, ← e]
  cases hf : ts.findIdx? (fun t => !inRB 1 1000000 t.Many) with
  | none => simp
  | some i => simp

/-! ### Sums -/

def sumN (name : List UInt8) (ts : List STake) : Int := (ts.map fun t => if t.Name = name then t.Many else 0).sum
def sumK (l : List SGood) (k : Nat) (ts : List STake) : Int := (ts.map fun t => if findZ l t.Name = (k : Int) then t.Many else 0).sum

theorem sums_bound (p : STake → Bool) : ∀ (ts : List STake), (∀ t ∈ ts, 1 ≤ t.Many ∧ t.Many ≤ 1000000) → 0 ≤ (ts.map fun t => if p t then t.Many else 0).sum ∧ (ts.map fun t => if p t then t.Many else 0).sum ≤ 1000000 * (ts.length : Int) ∧ (∀ t ∈ ts, p t = true → 1 ≤ (ts.map fun t => if p t then t.Many else 0).sum) ∧ ((ts.map fun t => if p t then t.Many else 0).sum ≠ 0 → ∃ t ∈ ts, p t = true)
  | [], _ => ⟨by simp, by simp, by simp, by simp⟩
  | t :: ts, h => by
    have ht := h t (by simp)
    obtain ⟨h1, h2, h3, h4⟩ := sums_bound p ts (fun q hq => h q (by simp [hq]))
    simp only [List.map_cons, List.sum_cons, List.length_cons]
    cases hp : p t with
    | true =>
      simp only [if_true]
      exact ⟨by omega, by omega, fun _ _ _ => by omega, fun _ => ⟨t, by simp, hp⟩⟩
    | false =>
      simp only [Bool.false_eq_true, if_false, Int.zero_add]
      refine ⟨h1, by omega, fun q hq hqp => ?_, fun hne => ?_⟩
      · simp only [List.mem_cons] at hq
        rcases hq with rfl | hq
        · rw [hp] at hqp; cases hqp
        · exact h3 q hq hqp
      · obtain ⟨q, hq, hqp⟩ := h4 hne
        exact ⟨q, by simp [hq], hqp⟩

theorem find_get {l : List SGood} {name : List UInt8} {k : Nat} (h : findZ l name = (k : Int)) : ∃ g, l[k]? = some g ∧ g.Name = name := by
  unfold findZ at h
  cases hf : l.findIdx? (fun g => g.Name == name) with
  | none => rw [hf] at h; have h' : (-1 : Int) = (k : Int) := h; omega
  | some i =>
    rw [hf] at h
    have h' : (i : Int) = (k : Int) := h
    have : i = k := by omega
    subst this
    rw [List.findIdx?_eq_some_iff_getElem] at hf
    obtain ⟨hi, he, _⟩ := hf
    exact ⟨l[i], List.getElem?_eq_getElem hi, by simpa using he⟩

theorem find_cases (l : List SGood) (name : List UInt8) : findZ l name = -1 ∨ ∃ k : Nat, findZ l name = (k : Int) ∧ k < l.length := by
  unfold findZ
  cases hf : l.findIdx? (fun g => g.Name == name) with
  | none => exact .inl rfl
  | some i =>
    rw [List.findIdx?_eq_some_iff_getElem] at hf
    exact .inr ⟨i, rfl, hf.1⟩

theorem sum_same {l : List SGood} {name : List UInt8} {k : Nat} (h : findZ l name = (k : Int)) (ts : List STake) : sumN name ts = sumK l k ts := by
  unfold sumN sumK
  congr 1
  apply List.map_congr_left
  intro t _
  by_cases he : t.Name = name
  · rw [if_pos he, he, if_pos h]
  · rw [if_neg he]
    by_cases h2 : findZ l t.Name = (k : Int)
    · obtain ⟨g, g1, g2⟩ := find_get h
      obtain ⟨g', g1', g2'⟩ := find_get h2
      rw [g1] at g1'; cases g1'
      exact absurd (g2'.symm.trans g2) he
    · rw [if_neg h2]

/-- What is free of the k-th good, for all needs of it. -/
def freeQ (l : List SGood) (ts : List STake) (k : Nat) : Int := Int.tdiv ((l.getD k gD).OnHand - (l.getD k gD).Reserved) (sumK l k ts)

def setF (l : List SGood) (b : List Int) (t : STake) : List Int := b.set (findZ l t.Name).toNat (wI64 (b.getD (findZ l t.Name).toNat 0 + t.Many))

theorem set_sum (l : List SGood) : ∀ (ts : List STake) (b : List Int) (B : Int), b.length = l.length → (∀ t ∈ ts, 1 ≤ t.Many ∧ t.Many ≤ 1000000 ∧ 0 ≤ findZ l t.Name) → (∀ k, 0 ≤ b.getD k 0 ∧ b.getD k 0 ≤ B) → 0 ≤ B → B + 1000000 * (ts.length : Int) ≤ 1000000000 →
    (ts.foldl (setF l) b).length = l.length ∧ ∀ k, k < l.length → (ts.foldl (setF l) b).getD k 0 = b.getD k 0 + sumK l k ts
  | [], b, B, hl, _, _, _, _ => ⟨hl, fun k _ => by simp [sumK]⟩
  | t :: ts, b, B, hl, ht, hb, hB0, hB => by
    obtain ⟨t1, t2, t3⟩ := ht t (by simp)
    simp only [List.length_cons] at hB
    obtain ⟨q, hq, hql⟩ : ∃ q : Nat, findZ l t.Name = (q : Int) ∧ q < l.length := by
      rcases find_cases l t.Name with h | ⟨k, h1, h2⟩
      · omega
      · exact ⟨k, h1, h2⟩
    have hbq := hb q
    have hstep : ∀ k, (setF l b t).getD k 0 = b.getD k 0 + (if findZ l t.Name = (k : Int) then t.Many else 0) := by
      intro k
      unfold setF
      rw [hq, Int.toNat_natCast, wI64_eq (by omega) (by omega)]
      by_cases e : q = k
      · subst e
        rw [if_pos rfl, List.getD_eq_getElem?_getD, List.getElem?_set_self (by omega)]; rfl
      · rw [if_neg (by omega), List.getD_eq_getElem?_getD, List.getElem?_set_ne e, ← List.getD_eq_getElem?_getD]; omega
    have hlen : (setF l b t).length = l.length := by unfold setF; simpa using hl
    obtain ⟨i1, i2⟩ := set_sum l ts (setF l b t) (B + 1000000) hlen (fun x hx => ht x (by simp [hx])) (fun k => by
      rw [hstep]; have := hb k; split <;> omega) (by omega) (by omega)
    refine ⟨i1, fun k hk => ?_⟩
    rw [List.foldl_cons, i2 k hk, hstep k]
    simp only [sumK, List.map_cons, List.sum_cons]; omega

def freeL (l : List SGood) (ts : List STake) : List Int := ts.map fun t => freeQ l ts (findZ l t.Name).toNat

def canR (l : List SGood) (ts : List STake) : Int × Int :=
  if goodsB l = true then
    if ts.length > 60 then (0, 2) else
    if ts.all (fun t => inRB 1 1000000 t.Many) = true then
      if ts.length = 0 then (0, 6) else
      if ts.all (fun t => decide (0 ≤ findZ l t.Name)) = true then ((freeL l ts).foldl minF (-1), 0) else (0, 3)
    else (0, 2)
  else (0, 1)

theorem p_CanMakeR (n : Nat) (l : List SGood) (ts : List STake) (hl : l.length ≤ 1048576) (hs : ∀ g ∈ l, strok g.Name) (ht : ts.length ≤ 1048576) (hn : 1048577 < n) : ∃ r, m_spec_CanMake n l ts = some r ∧ m_impl_CanMake n l ts = some r ∧ r = canR l ts := by
  unfold m_spec_CanMake m_impl_CanMake
  rw [p_l23Takes n l ts hl hs ht (by omega), p_implValidGoods n l hl hs (by omega), p_needs n ts ht (by omega)]
  simp only [Option.bind_some]
  have done : ∀ c : Int, c ≠ 0 → loopN (m_spec_CanMake_l1 n ts) n (c, 0) = some c := by
    intro c hc
    obtain ⟨m, rfl⟩ : ∃ q, n = q + 1 := ⟨n - 1, by omega⟩
    have hb : (c == 0) = false := by simp [hc]
    unfold loopN m_spec_CanMake_l1
    cases decide ((0 : Int) < (ts.length : Int)) with
    | true => simp only [if_true, hb, Option.bind_some, Bool.false_eq_true, if_false]
    | false => simp only [Bool.false_eq_true, if_false, Option.bind_some]
  cases hv : goodsB l with
  | false =>
    simp only [Bool.false_eq_true, if_false, Bool.not_false, if_true]
    rw [done 1 (by omega)]
    exact ⟨_, rfl, rfl, by unfold canR; rw [hv]; rfl⟩
  | true =>
    have hS := stock_of hv
    have hlen := hS.len
    simp only [if_true, Bool.not_true, Bool.false_eq_true, if_false]
    by_cases h60 : ts.length > 60
    · have hd : decide ((ts.length : Int) > 60) = true := decide_eq_true (by omega)
      have hcode : (if ts.all (fun t => inRB (-1000000) 1000000 t.Many) then (if ts.length > 60 then (2 : Int) else 0) else 2) = 2 := by simp [h60]
      rw [hcode, done 2 (by omega), hd]
      exact ⟨_, rfl, rfl, by unfold canR; rw [if_pos hv, if_pos h60]⟩
    · have hd : decide ((ts.length : Int) > 60) = false := decide_eq_false (by omega)
      simp only [hd, Bool.false_eq_true, if_false, Option.bind_some]
      have p_done : ∀ b : Bool, loopN (m_spec_CanMake_l1 n ts) n ((if b = true then (if ts.length > 60 then (2 : Int) else 0) else 2), 0) = some (if b = true ∧ ts.all (fun t => decide (1 ≤ t.Many)) = true then 0 else 2) := by
        intro b
        cases b with
        | false => simpa using done 2 (by omega)
        | true =>
          have := p_many n ts ht n 0 (by omega) (by omega)
          simp only [if_true, h60, if_false, true_and]
          simpa using this
      rw [p_done]
      have hall : (ts.all (fun t => inRB (-1000000) 1000000 t.Many) = true ∧ ts.all (fun t => decide (1 ≤ t.Many)) = true) ↔ ts.all (fun t => inRB 1 1000000 t.Many) = true := by
        simp only [List.all_eq_true, inRB, Bool.and_eq_true, decide_eq_true_eq]
        constructor
        · rintro ⟨h1, h2⟩ t ht'
          have := h1 t ht'; have := h2 t ht'; omega
        · intro h
          exact ⟨fun t ht' => by have := h t ht'; omega, fun t ht' => by have := h t ht'; omega⟩
      cases hm : ts.all (fun t => inRB 1 1000000 t.Many) with
      | false =>
        rw [if_neg (fun h => by have := hall.1 h; rw [hm] at this; cases this)]
        exact ⟨_, rfl, rfl, by unfold canR; rw [if_pos hv, if_neg h60, hm]; rfl⟩
      | true =>
        rw [if_pos (hall.2 hm)]
        have hmany : ∀ t ∈ ts, 1 ≤ t.Many ∧ t.Many ≤ 1000000 := by
          intro t ht'
          simp only [List.all_eq_true, inRB, Bool.and_eq_true, decide_eq_true_eq] at hm
          exact hm t ht'
        simp only [BEq.rfl, if_true, Bool.not_true, Bool.false_eq_true, if_false, Option.bind_some]
        by_cases h0 : ts.length = 0
        · have hb : ((ts.length : Int) == 0) = true := by simp [h0]
          rw [hb]
          exact ⟨_, rfl, rfl, by unfold canR; rw [if_pos hv, if_neg h60, if_pos hm, if_pos h0]⟩
        · have hb : ((ts.length : Int) == 0) = false := by
            rw [beq_eq_false_iff_ne]; omega
          have h00 : ((0 : Int) != 0) = false := rfl
          simp only [hb, Bool.false_eq_true, if_false, h00, Option.bind_some]
          rw [mk_nat _ _ (by omega)]
          simp only [Option.bind_some]
          have hinner : ∀ (t : STake) (st : Int × Int) (i : Nat), ts[i]? = some t → st.2 = (i : Int) → loopN (m_spec_CanMake_l5 n ts st) n (0, 0) = some (sumN t.Name ts) := by
            intro t st i hti hst
            have key := loopN_fold (body := m_spec_CanMake_l5 n ts st) ts (fun (b : Int) u => if u.Name = t.Name then b + u.Many else b) 0 (fun j b => (b, (j : Int))) id (fun j b => 0 ≤ b ∧ b ≤ 1000000 * (j : Int)) ⟨by omega, by omega⟩
              (fun j u b hu hb => by
                have hlt := lt_of_get hu
                have hum := hmany u (List.mem_of_getElem? hu)
                refine ⟨?_, by split <;> constructor <;> omega⟩
                unfold m_spec_CanMake_l5
                have hw : wI64 (b + u.Many) = b + u.Many := wI64_eq (by omega) (by omega)
                simp only [ltB hlt, if_true, idx_nat, hu, hst, hti, Option.bind_some, hw, succ64 hlt (by omega)]
                by_cases he : u.Name = t.Name
                · simp [he]
                · have : (u.Name == t.Name) = false := by simp [he]
                  simp [he, this])
              (fun b _ => by unfold m_spec_CanMake_l5; simp) n (by omega)
            have k1 : loopN (m_spec_CanMake_l5 n ts st) n (0, 0) = _ := key.1
            rw [k1]
            congr 1
            have : ∀ (us : List STake) (b : Int), us.foldl (fun (b : Int) u => if u.Name = t.Name then b + u.Many else b) b = b + (us.map fun u => if u.Name = t.Name then u.Many else 0).sum := by
              intro us
              induction us with
              | nil => intro b; simp
              | cons u us ih =>
                intro b
                simp only [List.foldl_cons, ih, List.map_cons, List.sum_cons]
                split <;> omega
            have := this ts 0
            unfold sumN
            simpa using this
          have spec := loopN_runL (body := m_spec_CanMake_l4 n l ts) ts (fun _ (b : Int) t => if decide (0 ≤ findZ l t.Name) then .ok (minF b (freeQ l ts (findZ l t.Name).toNat)) else .error (.inr (0, 3))) (-1) (fun i b => (b, (i : Int))) (fun b => .inl b) (fun _ _ => True) trivial
            (fun i t b hti _ => by
              have hlt := lt_of_get hti
              unfold m_spec_CanMake_l4
              simp only [ltB hlt, if_true, idx_nat, hti, Option.bind_some, p_l23Find n l t.Name hl (by omega), succ64 hlt (by omega)]
              rcases find_cases l t.Name with h | ⟨k, h1, h2⟩
              · rw [h]; rfl
              · obtain ⟨g, g1, g2⟩ := find_get h1
                obtain ⟨r1, r2, r3, r4, r5, r6⟩ := goodB_range (hS.good g (List.mem_of_getElem? g1))
                have hsum := sum_same h1 ts
                have hsb := sums_bound (fun u => decide (findZ l u.Name = (k : Int))) ts hmany
                simp only [decide_eq_true_eq] at hsb
                have hpos : 1 ≤ sumK l k ts := hsb.2.2.1 t (List.mem_of_getElem? hti) h1
                have hup : sumK l k ts ≤ 60000000 := by have := hsb.2.1; show (ts.map _).sum ≤ _; omega
                rw [h1, hinner t (b, (i : Int)) i hti rfl, hsum]
                have hk0 : decide ((k : Int) < 0) = false := decide_eq_false (by omega)
                have hk1 : decide (0 ≤ (k : Int)) = true := decide_eq_true (by omega)
                have hw : wI64 (g.OnHand - g.Reserved) = g.OnHand - g.Reserved := wI64_eq (by omega) (by omega)
                have hqd : quo .i64 (g.OnHand - g.Reserved) (sumK l k ts) = some (freeQ l ts k) := by
                  unfold quo freeQ
                  have hgd : l.getD k gD = g := by rw [List.getD_eq_getElem?_getD, g1]; rfl
                  rw [if_neg (by omega), hgd]
                  congr 1
                  have h0 : 0 ≤ Int.tdiv (g.OnHand - g.Reserved) (sumK l k ts) := Int.tdiv_nonneg (by omega) (by omega)
                  have h1 : Int.tdiv (g.OnHand - g.Reserved) (sumK l k ts) ≤ g.OnHand - g.Reserved := by
                    rw [Int.tdiv_eq_ediv_of_nonneg (by omega)]; exact Int.ediv_le_self _ (by omega)
                  exact wI64_eq (by omega) (by omega)
                simp only [hk0, hk1, Bool.false_eq_true, if_false, if_true, Option.bind_some, idx_nat, g1, hw, hqd, Int.toNat_natCast, and_true]
                unfold minF
                by_cases hb0 : b < 0
                · simp [hb0]
                · by_cases hb1 : freeQ l ts k < b
                  · simp [hb0, hb1]
                  · simp [hb0, hb1])
            (fun b _ => by unfold m_spec_CanMake_l4; simp) n (by omega)
          have impl := loopN_runL (body := m_impl_CanMake_l1 n l ts) ts (fun _ (b : List Int) t => if decide (0 ≤ findZ l t.Name) then .ok (setF l b t) else .error (.inr (0, 3))) (List.replicate l.length 0) (fun i b => ((i : Int), b)) (fun b => .inl b) (fun _ b => b.length = l.length) (by simp)
            (fun i t b hti hbl => by
              have hlt := lt_of_get hti
              obtain ⟨p, p1, p2⟩ := p_goodPlace n l t.Name hS (by omega)
              have hpf := place_find hS p1
              unfold m_impl_CanMake_l1
              simp only [ltB hlt, if_true, idx_nat, hti, Option.bind_some, p2, succ64 hlt (by omega)]
              cases hfb : foundB l t.Name p with
              | false =>
                rw [hfb] at hpf
                rw [hpf]; rfl
              | true =>
                rw [hfb] at hpf
                simp only [if_true] at hpf
                have hpl : p < l.length := by
                  unfold foundB at hfb
                  cases hq : l[p]? with
                  | none => rw [hq] at hfb; cases hfb
                  | some g => exact lt_of_get hq
                have hg : b[p]? = some (b.getD p 0) := getD_of (by omega) 0
                rw [hpf]
                have hk1 : decide (0 ≤ (p : Int)) = true := decide_eq_true (by omega)
                simp only [hk1, if_true, Bool.not_true, Bool.false_eq_true, if_false, hg, Option.bind_some, Int.toNat_natCast]
                unfold setF
                rw [hpf, Int.toNat_natCast]
                exact ⟨rfl, by simpa using hbl⟩)
            (fun b _ => by unfold m_impl_CanMake_l1; simp) n (by omega)
          have s1 : loopN (m_spec_CanMake_l4 n l ts) n ((-1), 0) = _ := spec.1
          have i1 : loopN (m_impl_CanMake_l1 n l ts) n (0, List.replicate l.length 0) = _ := impl.1
          rw [runL_if] at s1 i1
          rw [s1, i1]
          cases hk : ts.all (fun t => decide (0 ≤ findZ l t.Name)) with
          | false => exact ⟨_, rfl, rfl, by unfold canR; rw [if_pos hv, if_neg h60, if_pos hm, if_neg h0, hk]; rfl⟩
          | true =>
            simp only [if_true, Option.bind_some]
            have hkn : ∀ t ∈ ts, 0 ≤ findZ l t.Name := by simpa [List.all_eq_true] using hk
            obtain ⟨a1, a2⟩ := set_sum l ts (List.replicate l.length 0) 0 (by simp) (fun t ht' => ⟨(hmany t ht').1, (hmany t ht').2, hkn t ht'⟩) (fun k => by
              rw [List.getD_eq_getElem?_getD, List.getElem?_replicate]; split <;> simp) (by omega) (by omega)
            obtain ⟨A, hA⟩ : ∃ A, A = ts.foldl (setF l) (List.replicate l.length 0) := ⟨_, rfl⟩
            rw [← hA] at a1 a2 ⊢
            have a3 : ∀ k, k < l.length → A.getD k 0 = sumK l k ts := by
              intro k hk'
              rw [a2 k hk', List.getD_eq_getElem?_getD, List.getElem?_replicate, if_pos hk']; simp
            have last := loopN_fold (body := m_impl_CanMake_l4 n l A) (List.range l.length) (fun (b : Int) k => if sumK l k ts = 0 then b else minF b (freeQ l ts k)) (-1) (fun i b => (b, (i : Int))) id (fun _ _ => True) trivial
              (fun i k b hx _ => by
                have hlt := lt_of_get hx
                simp at hlt
                have hki : k = i := by rw [List.getElem?_range hlt] at hx; exact (Option.some.inj hx).symm
                subst hki
                have hAg : A[k]? = some (sumK l k ts) := by rw [getD_of (by omega) 0, a3 k hlt]
                obtain ⟨g, g1⟩ : ∃ g, l[k]? = some g := ⟨_, List.getElem?_eq_getElem hlt⟩
                obtain ⟨r1, r2, r3, r4, r5, r6⟩ := goodB_range (hS.good g (List.mem_of_getElem? g1))
                have hsb := sums_bound (fun u => decide (findZ l u.Name = (k : Int))) ts hmany
                simp only [decide_eq_true_eq] at hsb
                have hup : sumK l k ts ≤ 60000000 := by have := hsb.2.1; show (ts.map _).sum ≤ _; omega
                have hlo : 0 ≤ sumK l k ts := hsb.1
                refine ⟨?_, trivial⟩
                unfold m_impl_CanMake_l4
                rw [a1]
                simp only [ltB hlt, if_true, idx_nat, hAg, Option.bind_some, succ64 hlt (by omega)]
                by_cases hz : sumK l k ts = 0
                · simp [hz]
                · have hzb : (sumK l k ts == 0) = false := by rw [beq_eq_false_iff_ne]; exact hz
                  have hw : wI64 (g.OnHand - g.Reserved) = g.OnHand - g.Reserved := wI64_eq (by omega) (by omega)
                  have hqd : quo .i64 (g.OnHand - g.Reserved) (sumK l k ts) = some (freeQ l ts k) := by
                    unfold quo freeQ
                    have hgd : l.getD k gD = g := by rw [List.getD_eq_getElem?_getD, g1]; rfl
                    rw [if_neg hz, hgd]
                    congr 1
                    have h0 : 0 ≤ Int.tdiv (g.OnHand - g.Reserved) (sumK l k ts) := Int.tdiv_nonneg (by omega) (by omega)
                    have h1 : Int.tdiv (g.OnHand - g.Reserved) (sumK l k ts) ≤ g.OnHand - g.Reserved := by
                      rw [Int.tdiv_eq_ediv_of_nonneg (by omega)]; exact Int.ediv_le_self _ (by omega)
                    exact wI64_eq (by omega) (by omega)
                  simp only [hzb, hz, Bool.false_eq_true, if_false, g1, Option.bind_some, hw, hqd]
                  unfold minF
                  by_cases hb0 : b < 0
                  · simp [hb0]
                  · by_cases hb1 : freeQ l ts k < b
                    · simp [hb0, hb1]
                    · simp [hb0, hb1])
              (fun b _ => by unfold m_impl_CanMake_l4; rw [a1]; simp) n (by simp; omega)
            have l1 : loopN (m_impl_CanMake_l4 n l A) n ((-1), 0) = _ := last.1
            rw [l1]
            simp only [Option.bind_some, id]
            have f1 : ts.foldl (fun b t => minF b (freeQ l ts (findZ l t.Name).toNat)) (-1) = (ts.map fun t => freeQ l ts (findZ l t.Name).toNat).foldl minF (-1) := by rw [List.foldl_map]
            have f2 : (List.range l.length).foldl (fun (b : Int) k => if sumK l k ts = 0 then b else minF b (freeQ l ts k)) (-1) = (((List.range l.length).filter (fun k => decide (sumK l k ts ≠ 0))).map (freeQ l ts)).foldl minF (-1) := by
              rw [List.foldl_map, List.foldl_filter]
              congr 1
              funext b k
              by_cases hz : sumK l k ts = 0 <;> simp [hz]
            rw [f1, f2]
            have hq0 : ∀ k, k < l.length → 0 ≤ freeQ l ts k := by
              intro k hk'
              obtain ⟨g, g1⟩ : ∃ g, l[k]? = some g := ⟨_, List.getElem?_eq_getElem hk'⟩
              obtain ⟨r1, r2, r3, r4, r5, r6⟩ := goodB_range (hS.good g (List.mem_of_getElem? g1))
              have hsb := sums_bound (fun u => decide (findZ l u.Name = (k : Int))) ts hmany
              simp only [decide_eq_true_eq] at hsb
              have hlo : 0 ≤ sumK l k ts := hsb.1
              have hgd : l.getD k gD = g := by rw [List.getD_eq_getElem?_getD, g1]; rfl
              unfold freeQ
              rw [hgd]
              exact Int.tdiv_nonneg (by omega) hlo
            have hsame := minF_same (l := ts.map fun t => freeQ l ts (findZ l t.Name).toNat) (m := ((List.range l.length).filter (fun k => decide (sumK l k ts ≠ 0))).map (freeQ l ts))
              (fun x hx => by
                rw [List.mem_map] at hx
                obtain ⟨t, ht', rfl⟩ := hx
                rcases find_cases l t.Name with h | ⟨k, h1, h2⟩
                · have := hkn t ht'; omega
                · rw [h1, Int.toNat_natCast]; exact hq0 k h2)
              (fun x hx => by
                rw [List.mem_map] at hx
                obtain ⟨t, ht', rfl⟩ := hx
                rcases find_cases l t.Name with h | ⟨k, h1, h2⟩
                · have := hkn t ht'; omega
                · rw [h1, Int.toNat_natCast, List.mem_map]
                  refine ⟨k, ?_, rfl⟩
                  rw [List.mem_filter, List.mem_range, decide_eq_true_eq]
                  have hsb := sums_bound (fun u => decide (findZ l u.Name = (k : Int))) ts hmany
                  simp only [decide_eq_true_eq] at hsb
                  have hpos : 1 ≤ sumK l k ts := hsb.2.2.1 t ht' h1
                  exact ⟨h2, by omega⟩)
              (fun x hx => by
                rw [List.mem_map] at hx
                obtain ⟨k, hk', rfl⟩ := hx
                rw [List.mem_filter, List.mem_range, decide_eq_true_eq] at hk'
                have hsb := sums_bound (fun u => decide (findZ l u.Name = (k : Int))) ts hmany
                simp only [decide_eq_true_eq] at hsb
                obtain ⟨t, ht', hf⟩ := hsb.2.2.2 hk'.2
                rw [List.mem_map]
                exact ⟨t, ht', by rw [hf, Int.toNat_natCast]⟩)
            rw [← hsame]
            exact ⟨_, rfl, rfl, by unfold canR; rw [if_pos hv, if_neg h60, if_pos hm, if_neg h0, if_pos hk]; rfl⟩

theorem p_CanMake (n : Nat) (l : List SGood) (ts : List STake) (hl : l.length ≤ 1048576) (hs : ∀ g ∈ l, strok g.Name) (ht : ts.length ≤ 1048576) (hn : 1048577 < n) : ∃ r, m_spec_CanMake n l ts = some r ∧ m_impl_CanMake n l ts = some r := by
  obtain ⟨r, h1, h2, _⟩ := p_CanMakeR n l ts hl hs ht hn
  exact ⟨r, h1, h2⟩

theorem law_CanMake (a : List SGood) (ts : List STake) (ha : a.length ≤ 9223372036854775807) (hao : ∀ x ∈ a, okGood x) (hb : ts.length ≤ 9223372036854775807) (hbo : ∀ x ∈ ts, okTake x) : m_laws_FnExactCanMake 2000000 a ts = some true := by
  unfold m_laws_FnExactCanMake
  obtain ⟨v, hv, hc⟩ := p_szGoodS 2000000 a 1048576 (by omega) (by omega) ha (fun g hg => (hao g hg).1) (by omega)
  rw [hv]
  simp only [Option.bind_some]
  rcases hc with h | ⟨h0, h⟩
  · simp [h]
  · have hd : decide (v < 0) = false := decide_eq_false (by omega)
    simp only [hd, Bool.false_eq_true, if_false]
    obtain ⟨u, hu, hc2⟩ := p_szTakeS 2000000 ts v (by omega) (by omega) hb (fun g hg => (hbo g hg).1) (by omega)
    rw [hu]
    simp only [Option.bind_some]
    rcases hc2 with g | ⟨g0, g⟩
    · simp [g]
    · have hd2 : decide (u < 0) = false := decide_eq_false (by omega)
      have la : a.length ≤ 1048576 := by omega
      have lb : ts.length ≤ 1048576 := by omega
      obtain ⟨r, e1, e2⟩ := p_CanMake 2000000 a ts la (fun g hg => (hao g hg).1) lb (by omega)
      simp [hd2, p_toGoodS 2000000 _ la, p_toTakeS 2000000 _ lb, e1, e2, p_eqGoodS 2000000 _ la, p_eqTakeS 2000000 _ lb]

end Go.Gv
