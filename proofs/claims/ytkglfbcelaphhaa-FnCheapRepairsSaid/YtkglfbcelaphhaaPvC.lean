/- Plain laws of repairs: codes, sums, the repairs that mend a fault. -/
import Derived.Test.YtkglfbcelaphhaaPvB
namespace Go.Gv
open Go Go.RowKit

def someB (l : List SRepair) (s : List Int) : Bool := risB 0 ((l.length : Int) - 1) s
def codeB (l : List SRepair) (s f : List Int) : Int := if repsB l then (if someB l s && risB 0 9 f then 0 else 2) else 1

theorem codeB_01 (l : List SRepair) (s f : List Int) : codeB l s f = 0 ∨ codeB l s f = 1 ∨ codeB l s f = 2 := by
  unfold codeB
  cases repsB l <;> cases (someB l s && risB 0 9 f) <;> simp

theorem risB_nil (lo hi : Int) : risB lo hi [] = true := rfl

theorem p_l21Some (n : Nat) (l : List SRepair) (s : List Int) (hl : smallR l) (hs : s.length ≤ 1048576) (hn : 1048576 < n) : m_spec_l21Some n l s = some (codeB l s []) := by
  have hll : l.length ≤ 1048576 := by have := hl.1; omega
  unfold m_spec_l21Some codeB someB
  simp only [p_l21Ok n l hl hn, Option.bind_some, pred64 hll, p_l00Rises n s _ _ hs hn, risB_nil, Bool.and_true]
  cases repsB l <;> cases risB 0 ((l.length : Int) - 1) s <;> rfl

theorem p_l21Faults (n : Nat) (l : List SRepair) (s f : List Int) (hl : smallR l) (hs : s.length ≤ 1048576) (hf : f.length ≤ 1048576) (hn : 1048576 < n) : m_spec_l21Faults n l s f = some (codeB l s f) := by
  unfold m_spec_l21Faults
  simp only [p_l21Some n l s hl hs hn, Option.bind_some, p_l00Rises n f _ _ hf hn]
  unfold codeB
  simp only [risB_nil, Bool.and_true]
  cases repsB l <;> cases someB l s <;> cases risB 0 9 f <;> rfl

theorem p_someCode (n : Nat) (l : List SRepair) (s f : List Int) (hl : smallR l) (hs : s.length ≤ 1048576) (hf : f.length ≤ 1048576) (hn : 1048576 < n) : m_impl_someCode n l s f = some (codeB l s f) := by
  have hll : l.length ≤ 1048576 := by have := hl.1; omega
  unfold m_impl_someCode m_impl_areFaults codeB someB
  simp only [p_implValidRepairs n l hl hn, Option.bind_some, pred64 hll, p_isIncreasing n s _ _ hs hn, p_isIncreasing n f _ _ hf hn]
  cases repsB l <;> cases risB 0 ((l.length : Int) - 1) s <;> cases risB 0 9 f <;> rfl

/-- What is known of valid repairs. -/
structure Vr (l : List SRepair) : Prop where
  len : l.length ≤ 10
  first : ∀ (i : Nat) x, l[i]? = some x → (∀ b ∈ x.First, 0 ≤ b ∧ b < (i : Int)) ∧ x.First.Pairwise (· < ·)
  mends : ∀ x ∈ l, (∀ b ∈ x.Mends, 0 ≤ b ∧ b ≤ 9) ∧ x.Mends.Pairwise (· < ·)
  price : ∀ x ∈ l, 0 ≤ x.Price ∧ x.Price ≤ 100000
  hours : ∀ x ∈ l, 0 ≤ x.Hours ∧ x.Hours ≤ 1000

theorem vr_of {l : List SRepair} (h : repsB l = true) : Vr l := by
  unfold repsB at h
  simp only [Bool.and_eq_true, decide_eq_true_eq, List.all_eq_true, List.mem_range] at h
  obtain ⟨h1, h2⟩ := h
  have at_ : ∀ (i : Nat) x, l[i]? = some x → risB 0 9 x.Mends = true ∧ risB 0 ((i : Int) - 1) x.First = true ∧ (0 ≤ x.Price ∧ x.Price ≤ 100000) ∧ 0 ≤ x.Hours ∧ x.Hours ≤ 1000 := by
    intro i x hx
    have := h1 i (lt_of_get hx)
    unfold repB inRB at this
    rw [List.getD_eq_getElem?_getD, hx] at this
    simp only [Option.getD_some, Bool.and_eq_true, decide_eq_true_eq] at this
    exact ⟨this.2.1, this.2.2.1, this.2.2.2.1, this.2.2.2.2.1⟩
  refine ⟨h2, fun i x hx => ?_, fun x hx => ?_, fun x hx => ?_, fun x hx => ?_⟩
  · obtain ⟨g1, g2⟩ := risB_spec.1 (at_ i x hx).2.1
    exact ⟨fun b hb => by have := g1 b hb; omega, g2⟩
  all_goals
    obtain ⟨i, hi⟩ := List.getElem?_of_mem hx
    have := at_ i x hi
  · exact risB_spec.1 this.1
  · exact this.2.2.1
  · exact this.2.2.2

/-- What is known of some of them. -/
structure Sm (l : List SRepair) (s : List Int) : Prop where
  mem : ∀ k ∈ s, 0 ≤ k ∧ k < (l.length : Int)
  inc : s.Pairwise (· < ·)

theorem sm_of {l : List SRepair} {s : List Int} (h : someB l s = true) : Sm l s := by
  obtain ⟨h1, h2⟩ := risB_spec.1 h
  exact ⟨fun k hk => by have := h1 k hk; omega, h2⟩

theorem someB_of {l : List SRepair} {s : List Int} (h : Sm l s) : someB l s = true := risB_spec.2 ⟨fun k hk => by have := h.mem k hk; omega, h.inc⟩

theorem code0 {l : List SRepair} {s f : List Int} (h : codeB l s f = 0) : Vr l ∧ Sm l s ∧ ((∀ b ∈ f, 0 ≤ b ∧ b ≤ 9) ∧ f.Pairwise (· < ·)) := by
  unfold codeB at h
  cases h1 : repsB l with
  | false => simp [h1] at h
  | true =>
    cases h2 : someB l s with
    | false => simp [h1, h2] at h
    | true =>
      cases h3 : risB 0 9 f with
      | false => simp [h1, h2, h3] at h
      | true => exact ⟨vr_of h1, sm_of h2, risB_spec.1 h3⟩

/-- Rising numbers from 0 on, below a bound, are few. -/
theorem inc_len : ∀ (s : List Int) (a N : Nat), (∀ k ∈ s, (a : Int) ≤ k ∧ k < (N : Int)) → s.Pairwise (· < ·) → s.length ≤ N - a
  | [], _, _, _, _ => by simp
  | x :: xs, a, N, h, hp => by
    have hx := h x (by simp)
    rw [List.pairwise_cons] at hp
    have := inc_len xs (x.toNat + 1) N (fun k hk => ⟨by have := hp.1 k hk; omega, (h k (by simp [hk])).2⟩) hp.2
    simp only [List.length_cons]; omega

theorem Sm.len {l : List SRepair} {s : List Int} (h : Sm l s) : s.length ≤ l.length := by
  have := inc_len s 0 l.length (fun k hk => h.mem k hk) h.inc
  omega

theorem Sm.at {l : List SRepair} {s : List Int} (h : Sm l s) {k : Int} (hk : k ∈ s) : idx l k = some (l.getD k.toNat rD) ∧ l.getD k.toNat rD ∈ l ∧ k.toNat < l.length := by
  have := h.mem k hk
  have hlt : k.toNat < l.length := by omega
  have hg := getD_of hlt rD
  refine ⟨?_, List.mem_of_getElem? hg, hlt⟩
  unfold idx; rw [if_pos this.1]; exact hg

def sumL (f : SRepair → Int) (l : List SRepair) (s : List Int) : Int := s.foldl (fun b k => b + f (l.getD k.toNat rD)) 0

theorem foldl_add (g : Int → Int) : ∀ (s : List Int) (b : Int), s.foldl (fun b k => b + g k) b = b + s.foldl (fun b k => b + g k) 0
  | [], b => by simp
  | x :: xs, b => by
    simp only [List.foldl_cons]
    rw [foldl_add g xs (b + g x), foldl_add g xs (0 + g x)]; omega

theorem foldl_bound (g : Int → Int) (C : Nat) : ∀ (s : List Int), (∀ k ∈ s, 0 ≤ g k ∧ g k ≤ (C : Int)) → 0 ≤ s.foldl (fun b k => b + g k) 0 ∧ s.foldl (fun b k => b + g k) 0 ≤ ((C * s.length : Nat) : Int)
  | [], _ => by simp
  | x :: xs, h => by
    have h1 := foldl_bound g C xs fun k hk => h k (by simp [hk])
    have h2 := h x (by simp)
    simp only [List.foldl_cons, List.length_cons]
    rw [foldl_add]
    have : C * (xs.length + 1) = C * xs.length + C := by rw [Nat.mul_add, Nat.mul_one]
    omega

theorem sum_loop (n : Nat) (body : Int × Int → Option (Step (Int × Int) Int)) (f : SRepair → Int) (C : Nat) (hC : C ≤ 100000) (l : List SRepair) (s : List Int) (hs : Sm l s) (hl : l.length ≤ 10) (hf : ∀ x ∈ l, 0 ≤ f x ∧ f x ≤ (C : Int))
    (hb : body = fun st => if (decide (st.2 < (s.length : Int))) then Option.bind (idx s st.2) fun x => Option.bind (idx l x) fun y => some (.next ((wI64 (st.1 + f y)), (wI64 (st.2 + 1)))) else some (.done st.1)) (hn : 1048576 < n) :
    loopN body n (0, 0) = some (sumL f l s) := by
  have hsl := hs.len
  have hg : ∀ k ∈ s, 0 ≤ f (l.getD k.toNat rD) ∧ f (l.getD k.toNat rD) ≤ (C : Int) := fun k hk => hf _ (hs.at hk).2.1
  have key := loopN_fold (body := body) s (fun b k => b + f (l.getD k.toNat rD)) (0 : Int) (fun i b => (b, (i : Int))) id (fun i b => b = (s.take i).foldl (fun b k => b + f (l.getD k.toNat rD)) 0) (by simp)
    (fun i x b hx hb2 => by
      have hlt := lt_of_get hx
      have hm := List.mem_of_getElem? hx
      have h1 := foldl_bound (fun k => f (l.getD k.toNat rD)) C (s.take i) (fun k hk => hg k (List.mem_of_mem_take hk))
      have h2 := hg x hm
      rw [← hb2] at h1
      have hlen : (s.take i).length ≤ 10 := by simp; omega
      have hmul : C * (s.take i).length ≤ 100000 * 10 := Nat.mul_le_mul hC hlen
      have w1 : wI64 (b + f (l.getD x.toNat rD)) = b + f (l.getD x.toNat rD) := wI64_eq (by omega) (by omega)
      refine ⟨?_, ?_⟩
      · rw [hb]
        simp only [ltB hlt, if_true, idx_nat, hx, Option.bind_some, (hs.at hm).1, w1, succ64 hlt (by omega)]
      · rw [List.take_add_one, hx, List.foldl_append, ← hb2]; rfl)
    (fun b _ => by rw [hb]; simp) n (by omega)
  exact key.1

theorem p_specPrice (n : Nat) (l : List SRepair) (s : List Int) (hl : Vr l) (hs : Sm l s) (hn : 1048576 < n) : m_spec_l21Price n l s = some (sumL (·.Price) l s) := by
  unfold m_spec_l21Price
  rw [sum_loop n (m_spec_l21Price_l1 n l s) (·.Price) 100000 (by omega) l s hs hl.len (fun x hx => hl.price x hx) rfl hn]; rfl

theorem p_implPrice (n : Nat) (l : List SRepair) (s : List Int) (hl : Vr l) (hs : Sm l s) (hn : 1048576 < n) : m_impl_priceOf n l s = some (sumL (·.Price) l s) := p_specPrice n l s hl hs hn

theorem sumL_bound {l : List SRepair} {s : List Int} (hl : Vr l) (hs : Sm l s) : 0 ≤ sumL (·.Price) l s ∧ sumL (·.Price) l s ≤ 1000000 := by
  have h1 := foldl_bound (fun k => (l.getD k.toNat rD).Price) 100000 s (fun k hk => hl.price _ (hs.at hk).2.1)
  have h2 := hs.len
  have h3 := hl.len
  have hmul : 100000 * s.length ≤ 100000 * 10 := Nat.mul_le_mul_left _ (by omega)
  refine ⟨h1.1, Int.le_trans h1.2 ?_⟩
  omega

theorem p_specPriceOf (n : Nat) (l : List SRepair) (s : List Int) (hl : smallR l) (hs : s.length ≤ 1048576) (hn : 1048576 < n) :
    m_spec_PriceOfRepairs n l s = some (if codeB l s [] = 0 then (sumL (·.Price) l s, 0) else (0, codeB l s [])) := by
  unfold m_spec_PriceOfRepairs
  simp only [p_l21Some n l s hl hs hn, Option.bind_some]
  by_cases h : codeB l s [] = 0
  · obtain ⟨h1, h2, -⟩ := code0 h
    simp only [h, bne_self_eq_false, Bool.false_eq_true, if_false, p_specPrice n l s h1 h2 hn, Option.bind_some, if_true]
  · have hb : (codeB l s [] != 0) = true := by simp [bne, h]
    simp only [hb, h, if_true, if_false]

theorem p_implPriceOf (n : Nat) (l : List SRepair) (s : List Int) (hl : smallR l) (hs : s.length ≤ 1048576) (hn : 1048576 < n) :
    m_impl_PriceOfRepairs n l s = some (if codeB l s [] = 0 then (sumL (·.Price) l s, 0) else (0, codeB l s [])) := by
  unfold m_impl_PriceOfRepairs
  simp only [p_someCode n l s [] hl hs (by simp) hn, Option.bind_some]
  by_cases h : codeB l s [] = 0
  · obtain ⟨h1, h2, -⟩ := code0 h
    simp only [h, bne_self_eq_false, Bool.false_eq_true, if_false, p_implPrice n l s h1 h2 hn, Option.bind_some, if_true]
  · have hb : (codeB l s [] != 0) = true := by simp [bne, h]
    simp only [hb, h, if_true, if_false]

theorem p_specHoursOf (n : Nat) (l : List SRepair) (s : List Int) (hl : smallR l) (hs : s.length ≤ 1048576) (hn : 1048576 < n) :
    m_spec_HoursOfRepairs n l s = some (if codeB l s [] = 0 then (sumL (·.Hours) l s, 0) else (0, codeB l s [])) := by
  unfold m_spec_HoursOfRepairs
  simp only [p_l21Some n l s hl hs hn, Option.bind_some]
  by_cases h : codeB l s [] = 0
  · obtain ⟨h1, h2, -⟩ := code0 h
    simp only [h, bne_self_eq_false, Bool.false_eq_true, if_false, sum_loop n (m_spec_HoursOfRepairs_l1 n l s) (·.Hours) 1000 (by omega) l s h2 h1.len (fun x hx => h1.hours x hx) rfl hn, Option.bind_some, if_true]
  · have hb : (codeB l s [] != 0) = true := by simp [bne, h]
    simp only [hb, h, if_true, if_false]

theorem p_implHoursOf (n : Nat) (l : List SRepair) (s : List Int) (hl : smallR l) (hs : s.length ≤ 1048576) (hn : 1048576 < n) :
    m_impl_HoursOfRepairs n l s = some (if codeB l s [] = 0 then (sumL (·.Hours) l s, 0) else (0, codeB l s [])) := by
  unfold m_impl_HoursOfRepairs
  simp only [p_someCode n l s [] hl hs (by simp) hn, Option.bind_some]
  by_cases h : codeB l s [] = 0
  · obtain ⟨h1, h2, -⟩ := code0 h
    simp only [h, bne_self_eq_false, Bool.false_eq_true, if_false, sum_loop n (m_impl_HoursOfRepairs_l1 n l s) (·.Hours) 1000 (by omega) l s h2 h1.len (fun x hx => h1.hours x hx) rfl hn, Option.bind_some, if_true]
  · have hb : (codeB l s [] != 0) = true := by simp [bne, h]
    simp only [hb, h, if_true, if_false]

theorem big_len {s : List Int} (h : decide ((s.length : Int) > 1048576) = false) : s.length ≤ 1048576 := by
  have := of_decide_eq_false h; omega

theorem law_PriceOfRepairs (a : List SRepair) (s : List Int) (ha : a.length ≤ 9223372036854775807) (oa : ∀ x ∈ a, okRepair x) (_hs : s.length ≤ 9223372036854775807) (_os : ∀ x ∈ s, i64ok x) : m_laws_FnExactPriceOfRepairs 2000000 a s = some true := by
  unfold m_laws_FnExactPriceOfRepairs
  cases hbig : decide ((s.length : Int) > 1048576) with
  | true => rfl
  | false =>
    have hsl := big_len hbig
    simp only [Bool.false_eq_true, if_false]
    obtain ⟨v, hv, h⟩ := p_szRepairS 2000000 a 1048576 (by omega) (by omega) ha oa (by omega)
    rw [hv]
    simp only [Option.bind_some]
    rcases h with h | ⟨h0, h1⟩
    · simp [h]
    · have hnv : ¬ v < 0 := by omega
      have sa := smallR_of h1 h0 (by omega) oa
      simp only [hnv, decide_false, Bool.false_eq_true, if_false, p_toRepairS 2000000 a sa (by omega), p_toInt64S 2000000 s hsl (by omega), Option.bind_some, p_specPriceOf 2000000 a s sa hsl (by omega), p_implPriceOf 2000000 a s sa hsl (by omega),
        p_eqRepairS 2000000 a sa (by omega), p_eqInt64S 2000000 s hsl (by omega), bne_self_eq_false, Bool.not_true]

theorem law_HoursOfRepairs (a : List SRepair) (s : List Int) (ha : a.length ≤ 9223372036854775807) (oa : ∀ x ∈ a, okRepair x) (_hs : s.length ≤ 9223372036854775807) (_os : ∀ x ∈ s, i64ok x) : m_laws_FnExactHoursOfRepairs 2000000 a s = some true := by
  unfold m_laws_FnExactHoursOfRepairs
  cases hbig : decide ((s.length : Int) > 1048576) with
  | true => rfl
  | false =>
    have hsl := big_len hbig
    simp only [Bool.false_eq_true, if_false]
    obtain ⟨v, hv, h⟩ := p_szRepairS 2000000 a 1048576 (by omega) (by omega) ha oa (by omega)
    rw [hv]
    simp only [Option.bind_some]
    rcases h with h | ⟨h0, h1⟩
    · simp [h]
    · have hnv : ¬ v < 0 := by omega
      have sa := smallR_of h1 h0 (by omega) oa
      simp only [hnv, decide_false, Bool.false_eq_true, if_false, p_toRepairS 2000000 a sa (by omega), p_toInt64S 2000000 s hsl (by omega), Option.bind_some, p_specHoursOf 2000000 a s sa hsl (by omega), p_implHoursOf 2000000 a s sa hsl (by omega),
        p_eqRepairS 2000000 a sa (by omega), p_eqInt64S 2000000 s hsl (by omega), bne_self_eq_false, Bool.not_true]

/-! ### A number in a list -/

theorem p_l00Has (n : Nat) (l : List Int) (v : Int) (hl : l.length ≤ 1048576) (hn : 1048576 < n) : m_spec_l00Has n l v = some (l.contains v) := by
  unfold m_spec_l00Has
  have key := loopN_listAll (body := m_spec_l00Has_l1 n l v) l (fun x => !(x == v)) (fun i => (i : Int)) (.inl ()) (.inr true)
    (fun i x hx => by
      have hlt := lt_of_get hx
      unfold m_spec_l00Has_l1
      simp only [ltB hlt, if_true, idx_nat, hx, Option.bind_some, succ64 hlt (by omega)]
      cases x == v <;> rfl)
    (by unfold m_spec_l00Has_l1; simp) n (by omega)
  have k1 : loopN (m_spec_l00Has_l1 n l v) n 0 = _ := key
  rw [k1]
  have hc : l.contains v = !l.all (fun x => !(x == v)) := by
    rw [Bool.eq_iff_iff, List.contains_iff_mem]
    simp only [Bool.not_eq_true', List.all_eq_false]
    constructor
    · intro h; exact ⟨v, h, by simp⟩
    · rintro ⟨x, hx, h⟩
      have : x = v := by simpa using h
      exact this ▸ hx
  rw [hc]
  cases l.all (fun x => !(x == v)) <;> rfl

theorem p_Contains (n : Nat) (l : List Int) (v : Int) (hl : l.length ≤ 1048576) (hn : 1048576 < n) : m_slices_Contains_int64_int64 n l v = some (l.contains v) := by
  unfold m_slices_Contains_int64_int64 m_slices_Index_int64_int64
  have key := loopN_index (body := m_slices_Index_int64_int64_l1 n l v) l (fun x => v == x)
    (fun i x hx => by
      have hlt := lt_of_get hx
      unfold m_slices_Index_int64_int64_l1
      simp only [ltB hlt, if_true, idx_nat, hx, Option.bind_some, succ64 hlt (by omega)]
      cases v == x <;> rfl)
    (by unfold m_slices_Index_int64_int64_l1; simp) n (by omega)
  rw [key]
  cases h : l.findIdx? (fun x => v == x) with
  | none =>
    rw [List.findIdx?_eq_none_iff] at h
    have : l.contains v = false := by
      rw [Bool.eq_false_iff]; intro hc
      rw [List.contains_iff_mem] at hc
      have := h v hc; simp at this
    rw [this]; rfl
  | some i =>
    rw [List.findIdx?_eq_some_iff_getElem] at h
    obtain ⟨hi, hp, -⟩ := h
    have : l.contains v = true := by
      rw [List.contains_iff_mem]
      have e : v = l[i] := by simpa using hp
      rw [e]; exact List.getElem_mem hi
    rw [this]
    have h0 : decide ((i : Int) ≥ 0) = true := decide_eq_true (by omega)
    simp only [Option.bind_some, h0]

/-- A loop that keeps the numbers of some rounds. -/
theorem loopN_keep {τ : Type} {body : List Int × Int → Option (Step (List Int × Int) τ)} (N : Nat) (c : Nat → Bool) (g : Nat → Int) (out : List Int → τ)
    (hstep : ∀ i l, i < N → l.length ≤ i → body (l, (i : Int)) = some (.next (if c i then l ++ [g i] else l, ((i + 1 : Nat) : Int))))
    (hend : ∀ l, l.length ≤ N → body (l, (N : Int)) = some (.done (out l))) (n : Nat) (hn : N < n) : loopN body n ([], 0) = some (out (((List.range N).filter c).map g)) := by
  have hlen : ∀ i, (((List.range i).filter c).map g).length ≤ i := fun i => by
    rw [List.length_map]; have := List.length_filter_le c (List.range i); simpa using this
  have := loopN_run (body := body) (fun i => (((List.range i).filter c).map g, (i : Int))) (out (((List.range N).filter c).map g)) N (fun i hi => by
    rw [hstep i _ hi (hlen i), List.range_succ, List.filter_append, List.map_append]
    cases hc : c i <;> simp [hc]) (hend _ (hlen N)) n hn
  simpa using this

def mendsB (l : List SRepair) (f : Int) (i : Nat) : Bool := (l.getD i rD).Mends.contains f
def mendersL (l : List SRepair) (f : Int) : List Int := ((List.range l.length).filter (mendsB l f)).map (fun i : Nat => (i : Int))

theorem mendersL_len (l : List SRepair) (f : Int) : (mendersL l f).length ≤ l.length := by
  unfold mendersL; rw [List.length_map]; have := List.length_filter_le (mendsB l f) (List.range l.length); simpa using this

def forB (l : List SRepair) (f : Int) : List Int × Int := if repsB l then (if inRB 0 9 f then (mendersL l f, 0) else ([], 2)) else ([], 1)

theorem forB_len (l : List SRepair) (f : Int) (hl : smallR l) : (forB l f).1.length ≤ 1048576 := by
  have hll : l.length ≤ 1048576 := by have := hl.1; omega
  have := mendersL_len l f
  unfold forB
  cases repsB l <;> cases inRB 0 9 f <;> simp
  omega

theorem p_specRepairsFor (n : Nat) (l : List SRepair) (f : Int) (hl : smallR l) (hn : 1048576 < n) : m_spec_RepairsFor n l f = some (forB l f) := by
  have hll : l.length ≤ 1048576 := by have := hl.1; omega
  unfold m_spec_RepairsFor forB
  have key := loopN_keep (body := m_spec_RepairsFor_l1 n l f) l.length (mendsB l f) (fun i : Nat => (i : Int)) id
    (fun i o hi ho => by
      have hg : l[i]? = some (l.getD i rD) := getD_of hi rD
      obtain ⟨-, b1, -, -⟩ := smallR_rows hl (List.mem_of_getElem? hg)
      unfold m_spec_RepairsFor_l1 mendsB
      simp only [ltB hi, if_true, idx_nat, hg, Option.bind_some, p_l00Has n _ _ b1 hn, succ64 hi (by omega)]
      rw [app_eq (by simp; omega)]
      cases (l.getD i rD).Mends.contains f <;> rfl)
    (fun o _ => by unfold m_spec_RepairsFor_l1; simp) n (by omega)
  simp only [p_l21Ok n l hl hn, Option.bind_some, p_l00In, key]
  unfold inRB
  cases repsB l <;> cases (decide (0 ≤ f) && decide (f ≤ 9)) <;> rfl

theorem p_implRepairsFor (n : Nat) (l : List SRepair) (f : Int) (hl : smallR l) (hn : 1048576 < n) : m_impl_RepairsFor n l f = some (forB l f) := by
  have hll : l.length ≤ 1048576 := by have := hl.1; omega
  unfold m_impl_RepairsFor forB
  have key := loopN_keep (body := m_impl_RepairsFor_l1 n l f) l.length (mendsB l f) (fun i : Nat => (i : Int)) id
    (fun i o hi ho => by
      have hg : l[i]? = some (l.getD i rD) := getD_of hi rD
      obtain ⟨-, b1, -, -⟩ := smallR_rows hl (List.mem_of_getElem? hg)
      unfold m_impl_RepairsFor_l1 mendsB
      simp only [ltB hi, if_true, idx_nat, hg, Option.bind_some, p_Contains n _ _ b1 hn, succ64 hi (by omega)]
      rw [app_eq (by simp; omega)]
      cases (l.getD i rD).Mends.contains f <;> rfl)
    (fun o _ => by unfold m_impl_RepairsFor_l1; simp) n (by omega)
  simp only [p_implValidRepairs n l hl hn, Option.bind_some, p_within, key]
  unfold inRB
  cases repsB l <;> cases (decide (0 ≤ f) && decide (f ≤ 9)) <;> rfl

theorem law_RepairsFor (a : List SRepair) (f : Int) (ha : a.length ≤ 9223372036854775807) (oa : ∀ x ∈ a, okRepair x) (_of : i64ok f) : m_laws_FnExactRepairsFor 2000000 a f = some true := by
  unfold m_laws_FnExactRepairsFor
  obtain ⟨v, hv, h⟩ := p_szRepairS 2000000 a 1048576 (by omega) (by omega) ha oa (by omega)
  rw [hv]
  simp only [Option.bind_some]
  rcases h with h | ⟨h0, h1⟩
  · simp [h]
  · have hnv : ¬ v < 0 := by omega
    have sa := smallR_of h1 h0 (by omega) oa
    have hr := forB_len a f sa
    obtain ⟨K, rows, hK, hK0, -⟩ := p_markRepairS 2000000 a sa (by omega)
    have hnK : ¬ K < 0 := by omega
    have hm : ¬ (1 + ((forB a f).1.length : Int)) < 0 := by omega
    simp only [hnv, decide_false, Bool.false_eq_true, if_false, p_toRepairS 2000000 a sa (by omega), Option.bind_some, p_specRepairsFor 2000000 a f sa (by omega), p_implRepairsFor 2000000 a f sa (by omega), p_eqRepairS 2000000 a sa (by omega),
      p_eqInt64S 2000000 _ hr (by omega), bne_self_eq_false, Bool.not_true, hK, hnK, p_markInt64S 2000000 _ hr (by omega), p_heldInt64S 2000000 _ hr (by omega), hm]

end Go.Gv
