/- Plain laws of repairs: what mends all; the fewest complete repairs. -/
import Derived.Test.YtkglfbcelaphhaaPvD
namespace Go.Gv
open Go Go.RowKit

theorem contains_loop {α : Type} (n : Nat) (body : Int → Option (Step Int (Unit ⊕ Int))) (xs : List α) (p : α → Bool) (hstep : ∀ (i : Nat) x, xs[i]? = some x → body (i : Int) = some (if p x then .done (.inr (i : Int)) else .next ((i + 1 : Nat) : Int)))
    (hend : body (xs.length : Int) = some (.done (.inl ()))) (hn : xs.length < n) :
    Option.bind (Option.bind (loopN body n 0) fun t => match t with | .inl _ => some (-1) | .inr r => some r) (fun x => some (decide (x ≥ 0))) = some (xs.any p) := by
  rw [loopN_index (body := body) xs p hstep hend n hn]
  cases h : xs.findIdx? p with
  | none =>
    rw [List.findIdx?_eq_none_iff] at h
    have : xs.any p = false := by rw [List.any_eq_false]; intro x hx; simp [h x hx]
    rw [this]; rfl
  | some i =>
    rw [List.findIdx?_eq_some_iff_getElem] at h
    obtain ⟨hi, hp, -⟩ := h
    have : xs.any p = true := by rw [List.any_eq_true]; exact ⟨_, List.getElem_mem hi, hp⟩
    rw [this]
    have h0 : decide ((i : Int) ≥ 0) = true := decide_eq_true (by omega)
    simp only [Option.bind_some, h0]

def mendB (l : List SRepair) (s : List Int) (f : Int) : Bool := s.any fun k => (l.getD k.toNat rD).Mends.contains f
def allB (l : List SRepair) (s f : List Int) : Bool := f.all (mendB l s) && closedB l s

theorem mends_len {l : List SRepair} (hl : Vr l) {x : SRepair} (hx : x ∈ l) : x.Mends.length ≤ 10 := by
  have h := hl.mends x hx
  have := inc_len x.Mends 0 10 (fun k hk => by have := h.1 k hk; omega) h.2
  omega

theorem first_len {l : List SRepair} (hl : Vr l) {x : SRepair} (hx : x ∈ l) : x.First.length ≤ 10 := by
  obtain ⟨i, hi⟩ := List.getElem?_of_mem hx
  have h := hl.first i x hi
  have := inc_len x.First 0 i (fun k hk => h.1 k hk) h.2
  have := lt_of_get hi
  have := hl.len
  omega

theorem p_l21Mended (n : Nat) (l : List SRepair) (s : List Int) (f : Int) (hl : Vr l) (hs : Sm l s) (hn : 1048576 < n) : m_spec_l21Mended n l s f = some (mendB l s f) := by
  have hsh := hs.short hl
  unfold m_spec_l21Mended mendB
  have key := loopN_listAll (body := m_spec_l21Mended_l1 n l s f) s (fun k => !(l.getD k.toNat rD).Mends.contains f) (fun i => (i : Int)) (.inl ()) (.inr true)
    (fun i k hk => by
      have hlt := lt_of_get hk
      obtain ⟨g1, g2, -⟩ := hs.at (List.mem_of_getElem? hk)
      unfold m_spec_l21Mended_l1
      simp only [ltB hlt, if_true, idx_nat, hk, g1, Option.bind_some, p_l00Has n _ _ (Nat.le_trans (mends_len hl g2) (by omega)) hn, succ64 hlt (by omega)]
      cases (l.getD k.toNat rD).Mends.contains f <;> rfl)
    (by unfold m_spec_l21Mended_l1; simp) n (by omega)
  have k1 : loopN (m_spec_l21Mended_l1 n l s f) n 0 = _ := key
  rw [k1]
  have e : (s.any fun k => (l.getD k.toNat rD).Mends.contains f) = !s.all (fun k => !(l.getD k.toNat rD).Mends.contains f) := by rw [List.all_eq_not_any_not]; simp
  rw [e]
  cases s.all (fun k => !(l.getD k.toNat rD).Mends.contains f) <;> rfl

theorem p_l21All (n : Nat) (l : List SRepair) (s f : List Int) (hl : Vr l) (hs : Sm l s) (hf : f.length ≤ 1048576) (hn : 1048576 < n) : m_spec_l21All n l s f = some (allB l s f) := by
  unfold m_spec_l21All allB
  have key := loopN_listAll (body := m_spec_l21All_l1 n l s f) f (mendB l s) (fun i => (i : Int)) (.inl ()) (.inr false)
    (fun i x hx => by
      have hlt := lt_of_get hx
      unfold m_spec_l21All_l1
      simp only [ltB hlt, if_true, idx_nat, hx, Option.bind_some, p_l21Mended n l s x hl hs hn, succ64 hlt (by omega)]
      cases mendB l s x <;> rfl)
    (by unfold m_spec_l21All_l1; simp) n (by omega)
  have k1 : loopN (m_spec_l21All_l1 n l s f) n 0 = _ := key
  rw [k1]
  have hlen : (((withL l l.length s).length : Int) == (s.length : Int)) = closedB l s := by
    rw [← withL_closed hs]
    by_cases h : (withL l l.length s).length = s.length
    · have e : ((withL l l.length s).length == s.length) = true := by rw [h]; exact beq_self_eq_true _
      rw [e, h]; exact beq_self_eq_true _
    · have h3 : ¬ (((withL l l.length s).length : Int) = (s.length : Int)) := by omega
      rw [beq_eq_false_iff_ne.2 h, beq_eq_false_iff_ne.2 h3]
  cases f.all (mendB l s) with
  | true => simp only [if_true, Option.bind_some, p_l21With n l s hl hs hn, hlen, Bool.true_and]
  | false => rfl

theorem p_f95 (n : Nat) (F s : List Int) (hF : F.length ≤ 1048576) (hs : s.length ≤ 1048576) (hn : 1048576 < n) : m_slices_ContainsFunc_int64_int64_f95 n F s = some (!F.all (fun b => s.contains b)) := by
  unfold m_slices_ContainsFunc_int64_int64_f95 m_slices_IndexFunc_int64_int64_f95
  have h1 := contains_loop n (m_slices_IndexFunc_int64_int64_f95_l1 n F s) F (fun b => !s.contains b)
    (fun i x hx => by
      have hlt := lt_of_get hx
      unfold m_slices_IndexFunc_int64_int64_f95_l1 m_impl_mendsAll_1
      simp only [ltB hlt, if_true, idx_nat, hx, Option.bind_some, p_Contains n s _ hs hn, succ64 hlt (by omega)]
      cases s.contains x <;> rfl)
    (by unfold m_slices_IndexFunc_int64_int64_f95_l1; simp) (by omega)
  rw [List.all_eq_not_any_not, Bool.not_not]; exact h1

theorem p_f97 (n : Nat) (l : List SRepair) (s : List Int) (f : Int) (hl : Vr l) (hs : Sm l s) (hn : 1048576 < n) : m_slices_ContainsFunc_int64_int64_f97 n s l f = some (mendB l s f) := by
  have hsh := hs.short hl
  unfold m_slices_ContainsFunc_int64_int64_f97 m_slices_IndexFunc_int64_int64_f97
  exact contains_loop n (m_slices_IndexFunc_int64_int64_f97_l1 n s l f) s (fun k => (l.getD k.toNat rD).Mends.contains f)
    (fun i k hk => by
      have hlt := lt_of_get hk
      obtain ⟨g1, g2, -⟩ := hs.at (List.mem_of_getElem? hk)
      unfold m_slices_IndexFunc_int64_int64_f97_l1 m_impl_mendsAll_2_1
      simp only [ltB hlt, if_true, idx_nat, hk, g1, Option.bind_some, p_Contains n _ _ (Nat.le_trans (mends_len hl g2) (by omega)) hn, succ64 hlt (by omega)]
      cases (l.getD k.toNat rD).Mends.contains f <;> rfl)
    (by unfold m_slices_IndexFunc_int64_int64_f97_l1; simp) (by omega)

theorem p_f96 (n : Nat) (l : List SRepair) (s f : List Int) (hl : Vr l) (hs : Sm l s) (hf : f.length ≤ 1048576) (hn : 1048576 < n) : m_slices_ContainsFunc_int64_int64_f96 n f s l = some (!f.all (mendB l s)) := by
  unfold m_slices_ContainsFunc_int64_int64_f96 m_slices_IndexFunc_int64_int64_f96
  have h1 := contains_loop n (m_slices_IndexFunc_int64_int64_f96_l1 n f s l) f (fun x => !mendB l s x)
    (fun i x hx => by
      have hlt := lt_of_get hx
      unfold m_slices_IndexFunc_int64_int64_f96_l1 m_impl_mendsAll_2
      simp only [ltB hlt, if_true, idx_nat, hx, Option.bind_some, p_f97 n l s x hl hs hn, succ64 hlt (by omega)]
      cases mendB l s x <;> rfl)
    (by unfold m_slices_IndexFunc_int64_int64_f96_l1; simp) (by omega)
  rw [List.all_eq_not_any_not, Bool.not_not]; exact h1

theorem p_mendsAll (n : Nat) (l : List SRepair) (s f : List Int) (hl : Vr l) (hs : Sm l s) (hf : f.length ≤ 1048576) (hn : 1048576 < n) : m_impl_mendsAll n l s f = some (allB l s f) := by
  have hsh := hs.short hl
  unfold m_impl_mendsAll allB closedB
  have key := loopN_listAll (body := m_impl_mendsAll_l1 n l s) s (fun k => (l.getD k.toNat rD).First.all fun b => s.contains b) (fun i => (i : Int)) (.inl ()) (.inr false)
    (fun i k hk => by
      have hlt := lt_of_get hk
      obtain ⟨g1, g2, -⟩ := hs.at (List.mem_of_getElem? hk)
      unfold m_impl_mendsAll_l1
      simp only [ltB hlt, if_true, idx_nat, hk, g1, Option.bind_some, p_f95 n _ s (Nat.le_trans (first_len hl g2) (by omega)) (by omega) hn, succ64 hlt (by omega)]
      cases (l.getD k.toNat rD).First.all (fun b => s.contains b) <;> rfl)
    (by unfold m_impl_mendsAll_l1; simp) n (by omega)
  have k1 : loopN (m_impl_mendsAll_l1 n l s) n 0 = _ := key
  rw [k1]
  cases s.all (fun k => (l.getD k.toNat rD).First.all fun b => s.contains b) with
  | true => simp only [if_true, p_f96 n l s f hl hs hf hn, Option.bind_some, Bool.not_not, Bool.and_true]
  | false => simp

theorem p_specMendsAll (n : Nat) (l : List SRepair) (s f : List Int) (hl : smallR l) (hs : s.length ≤ 1048576) (hf : f.length ≤ 1048576) (hn : 1048576 < n) :
    m_spec_MendsAll n l s f = some (if codeB l s f = 0 then (allB l s f, 0) else (false, codeB l s f)) := by
  unfold m_spec_MendsAll
  simp only [p_l21Faults n l s f hl hs hf hn, Option.bind_some]
  by_cases h : codeB l s f = 0
  · obtain ⟨h1, h2, -⟩ := code0 h
    simp only [h, bne_self_eq_false, Bool.false_eq_true, if_false, p_l21All n l s f h1 h2 hf hn, Option.bind_some, if_true]
  · have hb : (codeB l s f != 0) = true := by simp [bne, h]
    simp only [hb, h, if_true, if_false]

theorem p_implMendsAll (n : Nat) (l : List SRepair) (s f : List Int) (hl : smallR l) (hs : s.length ≤ 1048576) (hf : f.length ≤ 1048576) (hn : 1048576 < n) :
    m_impl_MendsAll n l s f = some (if codeB l s f = 0 then (allB l s f, 0) else (false, codeB l s f)) := by
  unfold m_impl_MendsAll
  simp only [p_someCode n l s f hl hs hf hn, Option.bind_some]
  by_cases h : codeB l s f = 0
  · obtain ⟨h1, h2, -⟩ := code0 h
    simp only [h, bne_self_eq_false, Bool.false_eq_true, if_false, p_mendsAll n l s f h1 h2 hf hn, Option.bind_some, if_true]
  · have hb : (codeB l s f != 0) = true := by simp [bne, h]
    simp only [hb, h, if_true, if_false]

theorem law_MendsAll (a : List SRepair) (s f : List Int) (ha : a.length ≤ 9223372036854775807) (oa : ∀ x ∈ a, okRepair x) (_hs : s.length ≤ 9223372036854775807) (_os : ∀ x ∈ s, i64ok x) (_hf : f.length ≤ 9223372036854775807) (_of : ∀ x ∈ f, i64ok x) :
    m_laws_FnExactMendsAll 2000000 a s f = some true := by
  unfold m_laws_FnExactMendsAll
  cases hbig : decide ((s.length : Int) > 1048576) with
  | true => rfl
  | false =>
    have hsl := big_len hbig
    simp only [Bool.false_eq_true, if_false]
    cases hbig2 : decide ((f.length : Int) > 1048576) with
    | true => rfl
    | false =>
      have hfl := big_len hbig2
      simp only [Bool.false_eq_true, if_false]
      obtain ⟨v, hv, h⟩ := p_szRepairS 2000000 a 1048576 (by omega) (by omega) ha oa (by omega)
      rw [hv]
      simp only [Option.bind_some]
      rcases h with h | ⟨h0, h1⟩
      · simp [h]
      · have hnv : ¬ v < 0 := by omega
        have sa := smallR_of h1 h0 (by omega) oa
        simp only [hnv, decide_false, Bool.false_eq_true, if_false, p_toRepairS 2000000 a sa (by omega), p_toInt64S 2000000 s hsl (by omega), p_toInt64S 2000000 f hfl (by omega), Option.bind_some, p_specMendsAll 2000000 a s f sa hsl hfl (by omega),
          p_implMendsAll 2000000 a s f sa hsl hfl (by omega), p_eqRepairS 2000000 a sa (by omega), p_eqInt64S 2000000 s hsl (by omega), p_eqInt64S 2000000 f hfl (by omega), beq_self_eq_true, bne_self_eq_false, Bool.not_true]

/-! ### A list turned round -/

theorem set_getD {l : List Int} {i j : Nat} {v : Int} (hi : i < l.length) : (l.set i v).getD j 0 = if i = j then v else l.getD j 0 := by
  rw [List.getD_eq_getElem?_getD, List.getD_eq_getElem?_getD, List.getElem?_set]
  by_cases e : i = j
  · subst e; simp [hi]
  · simp [e]

theorem p_Reverse (n : Nat) (l : List Int) (hl : l.length ≤ 1048576) (hn : 1048576 < n) : m_slices_Reverse_int64_int64 n l = some l.reverse := by
  unfold m_slices_Reverse_int64_int64
  have key : ∀ (d k : Nat) (xs : List Int) (f : Nat), xs.length = l.length → 2 * k + d = l.length → d < f → (∀ t, t < l.length → xs.getD t 0 = if t < k ∨ l.length - 1 - k < t then l.getD (l.length - 1 - t) 0 else l.getD t 0) →
      loopN (m_slices_Reverse_int64_int64_l1 n) f ((k : Int), (l.length : Int) - 1 - (k : Int), xs) = some l.reverse := by
    intro d
    induction d using Nat.strongRecOn with
    | _ d ih =>
      intro k xs f hx hd hf hI
      obtain ⟨f, rfl⟩ : ∃ g, f = g + 1 := ⟨f - 1, by omega⟩
      by_cases hlt : (k : Int) < (l.length : Int) - 1 - (k : Int)
      · have e1 : (l.length : Int) - 1 - (k : Int) = ((l.length - 1 - k : Nat) : Int) := by omega
        have g1 : xs[k]? = some (xs.getD k 0) := getD_of (by omega) 0
        have g2 : xs[l.length - 1 - k]? = some (xs.getD (l.length - 1 - k) 0) := getD_of (by omega) 0
        have g3 : (xs.set k (xs.getD (l.length - 1 - k) 0))[l.length - 1 - k]? = some (xs.getD (l.length - 1 - k) 0) := by
          rw [List.getElem?_set_ne (by omega)]; exact g2
        have u1 : wI64 ((k : Int) + 1) = ((k + 1 : Nat) : Int) := succ64 (N := 1048576) (by omega) (by omega)
        have u2 : wI64 (((l.length - 1 - k : Nat) : Int) - 1) = (l.length : Int) - 1 - ((k + 1 : Nat) : Int) := by rw [wI64_eq (by omega) (by omega)]; omega
        have hb : decide ((k : Int) < ((l.length - 1 - k : Nat) : Int)) = true := decide_eq_true (by omega)
        have hstep : m_slices_Reverse_int64_int64_l1 n ((k : Int), (l.length : Int) - 1 - (k : Int), xs) = some (.next (((k + 1 : Nat) : Int), (l.length : Int) - 1 - ((k + 1 : Nat) : Int), (xs.set k (xs.getD (l.length - 1 - k) 0)).set (l.length - 1 - k) (xs.getD k 0))) := by
          unfold m_slices_Reverse_int64_int64_l1
          simp only [e1, hb, if_true, idx_nat, g1, g2, Option.bind_some, Int.toNat_natCast, g3, u1, u2]
        unfold loopN
        rw [hstep]
        refine ih (d - 2) (by omega) (k + 1) _ f (by simp [hx]) (by omega) (by omega) fun t ht => ?_
        rw [set_getD (by simp; omega), set_getD (by omega)]
        have hk := hI k (by omega)
        have hj := hI (l.length - 1 - k) (by omega)
        have c1 : ¬ (k < k ∨ l.length - 1 - k < k) := by omega
        have c2 : ¬ (l.length - 1 - k < k ∨ l.length - 1 - k < l.length - 1 - k) := by omega
        rw [if_neg c1] at hk
        rw [if_neg c2] at hj
        by_cases e2 : l.length - 1 - k = t
        · rw [if_pos e2, hk, if_pos (by omega)]; congr 1; omega
        · rw [if_neg e2]
          by_cases e3 : k = t
          · rw [if_pos e3, hj, if_pos (by omega)]; congr 1; omega
          · rw [if_neg e3, hI t ht]
            by_cases e4 : t < k ∨ l.length - 1 - k < t
            · rw [if_pos e4, if_pos (by omega)]
            · rw [if_neg e4, if_neg (by omega)]
      · have hb : decide ((k : Int) < (l.length : Int) - 1 - (k : Int)) = false := decide_eq_false hlt
        have hstep : m_slices_Reverse_int64_int64_l1 n ((k : Int), (l.length : Int) - 1 - (k : Int), xs) = some (.done xs) := by
          unfold m_slices_Reverse_int64_int64_l1
          simp only [hb, Bool.false_eq_true, if_false]
        unfold loopN
        rw [hstep]
        have : xs = l.reverse := by
          apply List.ext_getElem (by simp [hx])
          intro t h1 h2
          have ht : t < l.length := by omega
          have := hI t ht
          rw [List.getElem_reverse]
          have a1 : xs.getD t 0 = xs[t] := by rw [List.getD_eq_getElem?_getD, List.getElem?_eq_getElem h1]; rfl
          have a2 : l.getD (l.length - 1 - t) 0 = l[l.length - 1 - t]'(by omega) := by rw [List.getD_eq_getElem?_getD, List.getElem?_eq_getElem (by omega)]; rfl
          have a3 : l.getD t 0 = l[t] := by rw [List.getD_eq_getElem?_getD, List.getElem?_eq_getElem ht]; rfl
          rw [a1, a2, a3] at this
          rw [this]
          by_cases e4 : t < k ∨ l.length - 1 - k < t
          · rw [if_pos e4]
          · rw [if_neg e4]
            have e : t = l.length - 1 - t := by omega
            congr 1
        simp [this]
  by_cases h0 : l.length = 0
  · have hnil : l = [] := List.eq_nil_of_length_eq_zero h0
    subst hnil
    obtain ⟨m, rfl⟩ : ∃ m, n = m + 1 := ⟨n - 1, by omega⟩
    have : wI64 (((([] : List Int).length : Nat) : Int) - 1) = -1 := by rw [wI64_eq (by simp) (by simp)]; simp
    rw [this]
    unfold loopN m_slices_Reverse_int64_int64_l1; simp
  · have hw : wI64 ((l.length : Int) - 1) = (l.length : Int) - 1 := wI64_eq (by omega) (by omega)
    have := key l.length 0 l n rfl (by omega) (by omega) (fun t ht => by rw [if_neg (by omega)])
    rw [hw]
    have h2 : loopN (m_slices_Reverse_int64_int64_l1 n) n (0, (l.length : Int) - 1, l) = some l.reverse := by simpa using this
    rw [h2]; rfl

/-! ### The walk with a mask -/

/-- What the walk downwards gathers. -/
def visitL (l : List SRepair) : Nat → List Int → List Int → List Int
  | 0, _, out => out
  | i + 1, S, out => visitL l i (stepW l i S) (if S.contains (i : Int) then out ++ [(i : Int)] else out)

theorem filter_lt {W : List Int} (hW : W.Pairwise (· < ·)) (i : Nat) : W.filter (fun x => decide (x < ((i + 1 : Nat) : Int))) = W.filter (fun x => decide (x < (i : Int))) ++ (if W.contains (i : Int) then [(i : Int)] else []) := by
  refine sorted_ext _ _ (hW.filter _) ?_ fun x => ?_
  · rw [List.pairwise_append]
    refine ⟨hW.filter _, by split <;> simp, fun a ha b hb => ?_⟩
    rw [List.mem_filter] at ha
    split at hb
    · simp at hb; subst hb; simpa using ha.2
    · simp at hb
  · rw [List.mem_append, List.mem_filter, List.mem_filter]
    by_cases hc : (i : Int) ∈ W
    · have : W.contains (i : Int) = true := by rw [List.contains_iff_mem]; exact hc
      simp only [this, if_true, decide_eq_true_eq, List.mem_singleton]
      constructor
      · rintro ⟨h1, h2⟩
        by_cases e : x = (i : Int)
        · exact .inr e
        · exact .inl ⟨h1, by omega⟩
      · rintro (⟨h1, h2⟩ | rfl)
        · exact ⟨h1, by omega⟩
        · exact ⟨hc, by omega⟩
    · have : W.contains (i : Int) = false := by rw [Bool.eq_false_iff]; intro h; rw [List.contains_iff_mem] at h; exact hc h
      simp only [this, Bool.false_eq_true, if_false, decide_eq_true_eq, List.not_mem_nil, or_false]
      constructor
      · rintro ⟨h1, h2⟩
        have : x ≠ (i : Int) := fun e => hc (e ▸ h1)
        exact ⟨h1, by omega⟩
      · rintro ⟨h1, h2⟩; exact ⟨h1, by omega⟩

theorem visitL_eq {l : List SRepair} (hl : Vr l) : ∀ (i : Nat) (S out : List Int), i ≤ l.length → Sm l S → visitL l i S out = out ++ ((withL l i S).filter (fun x => decide (x < (i : Int)))).reverse
  | 0, S, out, _, hS => by
    have : (withL l 0 S).filter (fun x => decide (x < ((0 : Nat) : Int))) = [] := by
      rw [List.filter_eq_nil_iff]
      intro x hx
      have := hS.mem x hx
      simp; omega
    rw [this]; simp [visitL]
  | i + 1, S, out, hi, hS => by
    have ih := visitL_eq hl i (stepW l i S) (if S.contains (i : Int) then out ++ [(i : Int)] else out) (by omega) (stepW_sm hl hS (by omega))
    show visitL l i (stepW l i S) _ = _
    rw [ih]
    have hW := withL_sm hl i (stepW l i S) (by omega) (stepW_sm hl hS (by omega))
    show _ = out ++ ((withL l i (stepW l i S)).filter (fun x => decide (x < ((i + 1 : Nat) : Int)))).reverse
    rw [filter_lt hW.inc i]
    have hc : (withL l i (stepW l i S)).contains (i : Int) = S.contains (i : Int) := by
      rw [Bool.eq_iff_iff, List.contains_iff_mem, List.contains_iff_mem]
      constructor
      · intro h
        rcases withL_low hl _ i _ (by omega) h with h | h
        · unfold stepW at h
          split at h
          · rename_i h2; rwa [List.contains_iff_mem] at h2
          · exact h
        · omega
      · intro h; exact withL_sub l _ i _ (stepW_sub l i S _ h)
    rw [hc]
    cases S.contains (i : Int) <;> simp

theorem p_implWithWalk (n : Nat) (l : List SRepair) (s : List Int) (hl : Vr l) (hs : Sm l s) (hn : 1048576 < n) (m : Nat) (hm : MaskIs m s) :
    loopN (m_impl_WithFirst_l4 n l) n ((m : Int), ([] : List Int), (l.length : Int) - 1) = some (withL l l.length s).reverse := by
  have hll := hl.len
  have outer : ∀ (i : Nat) (S out : List Int) (m : Nat) (f : Nat), i ≤ l.length → Sm l S → MaskIs m S → out.length + i ≤ 100 → i < f → loopN (m_impl_WithFirst_l4 n l) f ((m : Int), out, (i : Int) - 1) = some (visitL l i S out) := by
    intro i
    induction i with
    | zero =>
      intro S out m f _ _ _ _ hf
      obtain ⟨f, rfl⟩ : ∃ g, f = g + 1 := ⟨f - 1, by omega⟩
      unfold loopN m_impl_WithFirst_l4; simp [visitL]
    | succ i ih =>
      intro S out m f hi hS hm ho hf
      obtain ⟨f, rfl⟩ : ∃ g, f = g + 1 := ⟨f - 1, by omega⟩
      have e : ((i + 1 : Nat) : Int) - 1 = (i : Int) := by omega
      have hge : decide ((i : Int) ≥ 0) = true := decide_eq_true (by omega)
      have hg : l[i]? = some (l.getD i rD) := getD_of (by omega) rD
      have hF := hl.first i _ hg
      have hFl := first_len hl (List.mem_of_getElem? hg)
      unfold loopN
      rw [e]
      cases hc : S.contains (i : Int) with
      | false =>
        have hstep : m_impl_WithFirst_l4 n l ((m : Int), out, (i : Int)) = some (.next ((m : Int), out, (i : Int) - 1)) := by
          unfold m_impl_WithFirst_l4
          simp only [hge, if_true, p_has n m i hm.1 (by omega), hm.2 i (by omega), hc, Option.bind_some, Bool.not_false, pred64 (show i ≤ 1048576 by omega)]
        rw [hstep]
        have e2 : stepW l i S = S := by unfold stepW; rw [hc]; rfl
        show loopN _ _ _ = some (visitL l i (stepW l i S) _)
        rw [e2, hc]
        exact ih S out m f (by omega) hS hm (by omega) (by omega)
      | true =>
        obtain ⟨m', hm1, hm2⟩ := mask_loop n (m_impl_WithFirst_l5 n (l.getD i rD)) (l.getD i rD).First (fun k hk => by have := hF.1 k hk; omega) (by omega) rfl hn m S hm
        have hstep : m_impl_WithFirst_l4 n l ((m : Int), out, (i : Int)) = some (.next ((m' : Int), out ++ [(i : Int)], (i : Int) - 1)) := by
          unfold m_impl_WithFirst_l4
          simp only [hge, if_true, p_has n m i hm.1 (by omega), hm.2 i (by omega), hc, Option.bind_some, Bool.not_true, Bool.false_eq_true, if_false, idx_nat, hg, hm1, pred64 (show i ≤ 1048576 by omega)]
          rw [app_eq (by simp; omega)]; rfl
        rw [hstep]
        show loopN _ _ _ = some (visitL l i (stepW l i S) _)
        rw [hc]
        refine ih (stepW l i S) _ m' f (by omega) (stepW_sm hl hS (by omega)) (hm2.congr fun x => ?_) (by simp; omega) (by omega)
        unfold stepW
        rw [hc, if_pos rfl, putAllL_mem, List.mem_append]
  have := outer l.length s [] m n (Nat.le_refl _) hs hm (by simp; omega) (by omega)
  rw [this, visitL_eq hl l.length s [] (Nat.le_refl _) hs]
  have hW := withL_sm hl l.length s (Nat.le_refl _) hs
  have : (withL l l.length s).filter (fun x => decide (x < (l.length : Int))) = withL l l.length s := by
    rw [List.filter_eq_self]
    intro x hx
    have := hW.mem x hx
    simp; omega
  rw [this]; simp

def withB (l : List SRepair) (s : List Int) : List Int × Int := if codeB l s [] = 0 then (withL l l.length s, 0) else ([], codeB l s [])

theorem p_specWithFirst (n : Nat) (l : List SRepair) (s : List Int) (hl : smallR l) (hs : s.length ≤ 1048576) (hn : 1048576 < n) : m_spec_WithFirst n l s = some (withB l s) := by
  unfold m_spec_WithFirst withB
  simp only [p_l21Some n l s hl hs hn, Option.bind_some]
  by_cases h : codeB l s [] = 0
  · obtain ⟨h1, h2, -⟩ := code0 h
    simp only [h, bne_self_eq_false, Bool.false_eq_true, if_false, p_l21With n l s h1 h2 hn, Option.bind_some, if_true]
  · have hb : (codeB l s [] != 0) = true := by simp [bne, h]
    simp only [hb, h, if_true, if_false]

theorem withB_len (l : List SRepair) (s : List Int) : (withB l s).1.length ≤ 10 := by
  unfold withB
  by_cases h : codeB l s [] = 0
  · obtain ⟨h1, h2, -⟩ := code0 h
    rw [if_pos h]
    exact (withL_sm h1 l.length s (Nat.le_refl _) h2).short h1
  · rw [if_neg h]; simp

theorem p_implWithFirst (n : Nat) (l : List SRepair) (s : List Int) (hl : smallR l) (hs : s.length ≤ 1048576) (hn : 1048576 < n) : m_impl_WithFirst n l s = some (withB l s) := by
  unfold m_impl_WithFirst withB
  simp only [p_someCode n l s [] hl hs (by simp) hn, Option.bind_some]
  by_cases h : codeB l s [] = 0
  · obtain ⟨h1, h2, -⟩ := code0 h
    have hll := h1.len
    obtain ⟨m, hm1, hm2⟩ := mask_loop n (m_impl_WithFirst_l1 n s) s (fun k hk => by have := h2.mem k hk; omega) hs rfl hn 0 [] MaskIs.zero
    have hm1' : loopN (m_impl_WithFirst_l1 n s) n (0, 0) = some (m : Int) := hm1
    have hW := (withL_sm h1 l.length s (Nat.le_refl _) h2).short h1
    simp only [h, bne_self_eq_false, Bool.false_eq_true, if_false, hm1', Option.bind_some, pred64 (show l.length ≤ 1048576 by omega), p_implWithWalk n l s h1 h2 hn m (by simpa using hm2), if_true]
    rw [p_Reverse n _ (by simp; omega) hn]; simp
  · have hb : (codeB l s [] != 0) = true := by simp [bne, h]
    simp only [hb, h, if_true, if_false]

theorem law_WithFirst (a : List SRepair) (s : List Int) (ha : a.length ≤ 9223372036854775807) (oa : ∀ x ∈ a, okRepair x) (_hs : s.length ≤ 9223372036854775807) (_os : ∀ x ∈ s, i64ok x) : m_laws_FnExactWithFirst 2000000 a s = some true := by
  unfold m_laws_FnExactWithFirst
  cases hbig : decide ((s.length : Int) > 1048576) with
  | true => rfl
  | false =>
    have hsl := big_len hbig
    simp only [Bool.false_eq_true, if_false]
    obtain ⟨v, hv, h⟩ := p_szRepairS 2000000 a 1048576 (by omega) (by omega) ha oa (by omega)
    rw [hv]
    simp only [Option.bind_some]
    rcases h with h | ⟨h0, h1⟩
    · simp [h]
    · have hnv : ¬ v < 0 := by omega
      have sa := smallR_of h1 h0 (by omega) oa
      have hr : (withB a s).1.length ≤ 1048576 := by have := withB_len a s; omega
      obtain ⟨K, rows, hK, hK0, hK1⟩ := p_markRepairS 2000000 a sa (by omega)
      have hnK : ¬ K < 0 := by omega
      have hm : ¬ (1 + ((withB a s).1.length : Int)) < 0 := by omega
      have hm2 : ¬ (K + (s.length : Int)) < 0 := by omega
      simp only [hnv, decide_false, Bool.false_eq_true, if_false, p_toRepairS 2000000 a sa (by omega), p_toInt64S 2000000 s hsl (by omega), Option.bind_some, p_specWithFirst 2000000 a s sa hsl (by omega), p_implWithFirst 2000000 a s sa hsl (by omega),
        p_eqRepairS 2000000 a sa (by omega), p_eqInt64S 2000000 s hsl (by omega), p_eqInt64S 2000000 _ hr (by omega), bne_self_eq_false, Bool.not_true, hK, hnK, p_markInt64S 2000000 _ hr (by omega), p_heldInt64S 2000000 _ hr (by omega), hm, w64_Name 2000000 K s hK0 hsl (by omega) (by omega), hm2]

end Go.Gv
