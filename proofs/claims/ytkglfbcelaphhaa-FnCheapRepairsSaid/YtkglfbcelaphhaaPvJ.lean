/- Plain law: the cheapest repairs are the cheapest, and nothing in them is needless. -/
import Derived.Test.YtkglfbcelaphhaaPvI
namespace Go.Gv
open Go Go.RowKit

theorem f6ints_self (n : Nat) (a : List Int) (ha : a.length ≤ 1048576) (hn : 1048576 < n) : m_laws_f6ints n a a = some true := by
  have h := p_eqInts n a a ha hn
  have e : m_laws_f6ints n a a = m_laws_eqInt64S n a a := rfl
  rw [e, h]; simp

/-! ### Sums -/

theorem sumL_append (f : SRepair → Int) (l : List SRepair) (a b : List Int) : sumL f l (a ++ b) = sumL f l a + sumL f l b := by
  unfold sumL
  rw [List.foldl_append, foldl_add (fun k => f (l.getD k.toNat rD))]

theorem sumL_one (f : SRepair → Int) (l : List SRepair) (k : Int) : sumL f l [k] = f (l.getD k.toNat rD) := by unfold sumL; simp

theorem restL_split (s : List Int) {i : Nat} (h : i < s.length) : s = s.take i ++ ([s.getD i 0] ++ s.drop (i + 1)) := by
  have h1 : s.drop i = s[i] :: s.drop (i + 1) := List.drop_eq_getElem_cons h
  have h2 : s.getD i 0 = s[i] := by simp [h]
  rw [h2, List.singleton_append, ← h1, List.take_append_drop]

theorem restL_sum (l : List SRepair) (s : List Int) {i : Nat} (h : i < s.length) : sumL (·.Price) l s = sumL (·.Price) l (restL s i) + (l.getD (s.getD i 0).toNat rD).Price := by
  conv => lhs; rw [restL_split s h]
  unfold restL
  rw [sumL_append, sumL_append, sumL_append, sumL_one]; omega

theorem restL_len (s : List Int) {i : Nat} (h : i < s.length) : (restL s i).length + 1 = s.length := by
  unfold restL; simp; omega

/-! ### Every choice has a mask -/

theorem mask_ex : ∀ (s : List Int), (∀ k ∈ s, 0 ≤ k ∧ k < 62) → ∃ m, MaskIs m s
  | [], _ => ⟨0, MaskIs.zero⟩
  | k :: s, h => by
    obtain ⟨m, hm⟩ := mask_ex s fun k' hk => h k' (by simp [hk])
    have hk := h k (by simp)
    obtain ⟨b, rfl⟩ : ∃ b : Nat, k = (b : Int) := ⟨k.toNat, by omega⟩
    exact ⟨_, hm.cons (by omega)⟩

theorem own_ex {l : List SRepair} (hl : Vr l) {s : List Int} (hs : Sm l s) : ∃ m, m < 2 ^ l.length ∧ ownL l.length m = s := by
  have hlen := hl.len
  obtain ⟨m, h1, h2⟩ := mask_ex s fun k hk => by have := hs.mem k hk; omega
  refine ⟨m, ?_, ?_⟩
  · refine Nat.lt_pow_two_of_testBit m fun i hi => ?_
    by_cases h62 : i < 62
    · rw [h2 i h62]
      cases hc : s.contains (i : Int) with
      | false => rfl
      | true => have := hs.mem _ (List.contains_iff_mem.1 hc); omega
    · exact Nat.testBit_lt_two_pow (Nat.lt_of_lt_of_le h1 (Nat.pow_le_pow_right (by omega) (by omega)))
  · refine sorted_ext _ _ (ownL_sm (l := l) m).inc hs.inc fun x => ?_
    unfold ownL
    rw [List.mem_map]
    constructor
    · rintro ⟨i, hi, rfl⟩
      rw [List.mem_filter, List.mem_range] at hi
      have := hi.2
      rw [h2 i (by omega)] at this
      exact List.contains_iff_mem.1 this
    · intro hx
      have hb := hs.mem x hx
      refine ⟨x.toNat, ?_, by omega⟩
      rw [List.mem_filter, List.mem_range]
      refine ⟨by omega, ?_⟩
      rw [h2 _ (by omega), List.contains_iff_mem, show ((x.toNat : Nat) : Int) = x by omega]
      exact hx

/-! ### The fold picks the least -/

/-- Clearly better: a lower price, or fewer at one price. -/
def wk (l : List SRepair) (a b : List Int) : Prop := sumL (·.Price) l a < sumL (·.Price) l b ∨ (sumL (·.Price) l a = sumL (·.Price) l b ∧ a.length < b.length)

theorem better_wk {l : List SRepair} {best own : List Int} (h : betterB l best own = false) : ¬ wk l own best := by
  unfold betterB at h
  simp only [Bool.or_eq_false_iff, decide_eq_false_iff_not, Bool.and_eq_false_iff] at h
  obtain ⟨h1, h2⟩ := h
  rintro (h3 | ⟨h3, h4⟩)
  · exact h1 h3
  · rcases h2 with h2 | h2
    · rw [h3] at h2; simp at h2
    · exact h2.1 h4

theorem better_trans {l : List SRepair} {best own x : List Int} (h : betterB l best own = true) (hx : ¬ wk l x best) : ¬ wk l x own := by
  unfold betterB at h
  simp only [Bool.or_eq_true, decide_eq_true_eq, Bool.and_eq_true, beq_iff_eq] at h
  intro hw
  apply hx
  unfold wk at hw ⊢
  rcases h with h | ⟨h1, h2⟩
  · rcases hw with hw | ⟨hw, _⟩ <;> left <;> omega
  · rcases hw with hw | ⟨hw1, hw2⟩
    · left; omega
    · right; refine ⟨by omega, ?_⟩
      rcases h2 with h2 | ⟨h2, _⟩ <;> omega

theorem wk_self (l : List SRepair) (a : List Int) : ¬ wk l a a := by
  rintro (h | ⟨_, h⟩) <;> omega

def leastO (l : List SRepair) (f : List Int) (N : Nat) : Option (List Int) → Prop
  | none => ∀ m, m < N → allB l (ownL l.length m) f = false
  | some b => allB l b f = true ∧ (∃ m, b = ownL l.length m) ∧ ∀ m, m < N → allB l (ownL l.length m) f = true → ¬ wk l (ownL l.length m) b

theorem least_step {l : List SRepair} {f : List Int} {N : Nat} {b : Option (List Int)} (h : leastO l f N b) : leastO l f (N + 1) (pickF l f b N) := by
  unfold pickF
  cases ha : allB l (ownL l.length N) f with
  | false =>
    simp only [Bool.false_eq_true, if_false]
    cases b with
    | none =>
      intro m hm
      by_cases e : m = N
      · subst e; exact ha
      · exact h m (by omega)
    | some b =>
      refine ⟨h.1, h.2.1, fun m hm hma => ?_⟩
      by_cases e : m = N
      · subst e; rw [ha] at hma; cases hma
      · exact h.2.2 m (by omega) hma
  | true =>
    simp only [if_true]
    cases b with
    | none =>
      refine ⟨ha, ⟨N, rfl⟩, fun m hm hma => ?_⟩
      by_cases e : m = N
      · subst e; exact wk_self _ _
      · rw [h m (by omega)] at hma; cases hma
    | some b =>
      cases hb : betterB l b (ownL l.length N) with
      | true =>
        show leastO l f (N + 1) (if betterB l b (ownL l.length N) = true then some (ownL l.length N) else some b)
        rw [if_pos hb]
        refine ⟨ha, ⟨N, rfl⟩, fun m hm hma => ?_⟩
        by_cases e : m = N
        · subst e; exact wk_self _ _
        · exact better_trans hb (h.2.2 m (by omega) hma)
      | false =>
        show leastO l f (N + 1) (if betterB l b (ownL l.length N) = true then some (ownL l.length N) else some b)
        rw [if_neg (by rw [hb]; decide)]
        refine ⟨h.1, h.2.1, fun m hm hma => ?_⟩
        by_cases e : m = N
        · subst e; exact better_wk hb
        · exact h.2.2 m (by omega) hma

theorem cheap_least (l : List SRepair) (f : List Int) : leastO l f (2 ^ l.length) (cheapL l f) := by
  unfold cheapL
  have : ∀ N, leastO l f N ((List.range N).foldl (pickF l f) none) := by
    intro N
    induction N with
    | zero => intro m hm; omega
    | succ N ih =>
      rw [List.range_succ, List.foldl_append]
      exact least_step ih
  exact this _

theorem cheap_some {l : List SRepair} {f b : List Int} (hl : Vr l) (h : cheapL l f = some b) : allB l b f = true ∧ Sm l b ∧ ∀ s, Sm l s → allB l s f = true → ¬ wk l s b := by
  have hc := cheap_least l f
  rw [h] at hc
  have hok := cheapL_ok l f
  rw [h] at hok
  refine ⟨hc.1, hok, fun s hs ha => ?_⟩
  obtain ⟨m, hm, rfl⟩ := own_ex hl hs
  exact hc.2.2 m hm ha

theorem cheap_none {l : List SRepair} {f : List Int} (hl : Vr l) (h : cheapL l f = none) : ∀ s, Sm l s → allB l s f = false := by
  have hc := cheap_least l f
  rw [h] at hc
  intro s hs
  obtain ⟨m, hm, rfl⟩ := own_ex hl hs
  exact hc m hm

theorem need_nil {l : List SRepair} {f b : List Int} (hl : Vr l) (h : cheapL l f = some b) : needL l b f = [] := by
  obtain ⟨h1, h2, h3⟩ := cheap_some hl h
  unfold needL
  rw [List.map_eq_nil_iff, List.filter_eq_nil_iff]
  intro i hi
  rw [List.mem_range] at hi
  intro ha
  have hr := restL_sm (l := l) h2 i
  refine h3 _ hr ha ?_
  have hs := restL_sum l b hi
  have hk : b.getD i 0 ∈ b := by
    have : b[i]? = some (b.getD i 0) := getD_of hi 0
    exact List.mem_of_getElem? this
  have hp := (hl.price _ (h2.at hk).2.1).1
  have hn := restL_len b hi
  unfold wk
  by_cases e : (l.getD (b.getD i 0).toNat rD).Price = 0
  · right; exact ⟨by omega, by omega⟩
  · left; omega

theorem codeB_some {l : List SRepair} {s f : List Int} (hc : codeB l [] f = 0) (hs : Sm l s) : codeB l s f = 0 := by
  unfold codeB at hc ⊢
  cases h1 : repsB l with
  | false => rw [h1] at hc; simp at hc
  | true =>
    rw [h1] at hc
    have h2 := someB_of hs
    have h3 : someB l [] = true := rfl
    rw [h3] at hc
    rw [h2]
    exact hc

theorem codeB_less {l : List SRepair} {s f : List Int} (hc : codeB l s f = 0) : codeB l [] f = 0 ∧ codeB l s [] = 0 := by
  unfold codeB at hc ⊢
  cases h1 : repsB l with
  | false => rw [h1] at hc; simp at hc
  | true =>
    rw [h1] at hc
    cases h2 : someB l s with
    | false => rw [h2] at hc; simp at hc
    | true =>
      cases h3 : risB 0 9 f with
      | false => rw [h2, h3] at hc; simp at hc
      | true => exact ⟨rfl, rfl⟩

theorem codeB_nil {l : List SRepair} {s f : List Int} (hc : codeB l [] f = 0) (hs : Sm l s) : codeB l s [] = 0 := (codeB_less (codeB_some hc hs)).2

/-! ### The law -/

def mB (l : List SRepair) (s f : List Int) : Bool × Int := if codeB l s f = 0 then (allB l s f, 0) else (false, codeB l s f)
def prB (l : List SRepair) (s : List Int) : Int × Int := if codeB l s [] = 0 then (sumL (·.Price) l s, 0) else (0, codeB l s [])

theorem ne0 {x : Int} (h : ¬ x = 0) : (x != 0) = true := by simp [bne, h]

/-- What is said behind the comparisons. -/
def tailM (A : Bool × Int) (C D : List Int × Int) (E : Bool × Int) (F : Int × Int) (G : List Int × Int) (H : Int × Int) : Option Bool :=
  Option.bind (if (A.2 == 0) then some (!((D.2 == 0) == A.1)) else some false) fun x227 =>
  if x227 then some false else
  if (C.2 != 0) then
    Option.bind (if (A.2 != 0) then some true else if (!A.1) then some true else some (C.2 != 3)) fun x242 => some x242
  else
    Option.bind (if (E.2 != 0) then some true else if (!E.1) then some true else some (F.2 != 0)) fun x272 =>
    if x272 then some false else
    Option.bind (if (G.2 != 0) then some true else some ((G.1.length : Int) != 0)) fun x297 =>
    if x297 then some false else
    Option.bind (if (A.2 != 0) then some true else some (!A.1)) fun x309 =>
    if x309 then some true else
    Option.bind (if (H.2 == 0) then some (decide (F.1 ≤ H.1)) else some false) fun x329 => some x329

theorem tail_true (l : List SRepair) (s f : List Int) : tailM (mB l s f) (cheapB l f) (needB l s f) (mB l (cheapB l f).1 f) (prB l (cheapB l f).1) (needB l (cheapB l f).1 f) (prB l s) = some true := by
  by_cases hc : codeB l s f = 0
  · obtain ⟨hl, hs, -⟩ := code0 hc
    obtain ⟨hcf, hcs⟩ := codeB_less hc
    have hm : mB l s f = (allB l s f, 0) := by unfold mB; rw [if_pos hc]
    have hn : ((needB l s f).2 == 0) = allB l s f := by
      unfold needB; rw [if_pos hc]
      cases allB l s f <;> rfl
    unfold tailM
    rw [hm, hn]
    cases hch : cheapL l f with
    | none =>
      have hcb : cheapB l f = ([], 3) := by unfold cheapB; rw [if_pos hcf, hch]
      have ha := cheap_none hl hch s hs
      rw [hcb, ha]
      rfl
    | some b =>
      have hcb : cheapB l f = (b, 0) := by unfold cheapB; rw [if_pos hcf, hch]
      obtain ⟨h1, h2, h3⟩ := cheap_some hl hch
      have hcb2 := codeB_some hcf h2
      have hcb3 := (codeB_less hcb2).2
      have hmb : mB l b f = (true, 0) := by unfold mB; rw [if_pos hcb2, h1]
      have hpb : prB l b = (sumL (·.Price) l b, 0) := by unfold prB; rw [if_pos hcb3]
      have hnb : needB l b f = ([], 0) := by unfold needB; rw [if_pos hcb2, if_pos h1, need_nil hl hch]
      have hps : prB l s = (sumL (·.Price) l s, 0) := by unfold prB; rw [if_pos hcs]
      rw [hcb]
      simp only [hmb, hpb, hnb, hps]
      cases ha : allB l s f with
      | false => rfl
      | true =>
        have := h3 s hs ha
        unfold wk at this
        have hle : decide (sumL (·.Price) l b ≤ sumL (·.Price) l s) = true := decide_eq_true (by omega)
        simp only [hle]
        rfl
  · have hm : mB l s f = (false, codeB l s f) := by unfold mB; rw [if_neg hc]
    have h0 : (codeB l s f == 0) = false := by simp [hc]
    have h0' : (codeB l s f != 0) = true := ne0 hc
    unfold tailM
    rw [hm]
    simp only [h0, h0', Bool.false_eq_true, if_false, if_true, Option.bind_some]
    by_cases hcf : codeB l [] f = 0
    · have hl := (code0 hcf).1
      cases hch : cheapL l f with
      | none =>
        have hcb : cheapB l f = ([], 3) := by unfold cheapB; rw [if_pos hcf, hch]
        rw [hcb]; rfl
      | some b =>
        have hcb : cheapB l f = (b, 0) := by unfold cheapB; rw [if_pos hcf, hch]
        obtain ⟨h1, h2, h3⟩ := cheap_some hl hch
        have hcb2 := codeB_some hcf h2
        have hcb3 := (codeB_less hcb2).2
        have hmb : mB l b f = (true, 0) := by unfold mB; rw [if_pos hcb2, h1]
        have hpb : prB l b = (sumL (·.Price) l b, 0) := by unfold prB; rw [if_pos hcb3]
        have hnb : needB l b f = ([], 0) := by unfold needB; rw [if_pos hcb2, if_pos h1, need_nil hl hch]
        rw [hcb]
        simp only [hmb, hpb, hnb]
        rfl
    · have hcb : cheapB l f = ([], codeB l [] f) := by unfold cheapB; rw [if_neg hcf]
      have h1 : (codeB l [] f != 0) = true := ne0 hcf
      rw [hcb]; simp only [h1, if_true]

theorem law_CheapRepairs (code : List Int) (_hl : code.length ≤ 9223372036854775807) (hc : ∀ x ∈ code, u8ok x) : m_laws_FnCheapRepairs 2000000 code = some true := by
  unfold m_laws_FnCheapRepairs m_laws_f6big
  simp only [Option.bind_some]
  cases decide ((code.length : Int) > 4096) with
  | true => rfl
  | false =>
    simp only [Bool.false_eq_true, if_false]
    have hb : bytesok code := hc
    obtain ⟨l, s, f, e1, hl, hs, hf⟩ := p_l21DrawSome 2000000 hb (by omega)
    obtain ⟨l2, f2, v, p, e2, hl2, hf2⟩ := p_DrawIsWorthwhile 2000000 hb (by omega)
    have hs' : s.length ≤ 1048576 := by omega
    have hf' : f.length ≤ 1048576 := by omega
    have hf2' : f2.length ≤ 1048576 := by omega
    have hcl : (cheapB l f).1.length ≤ 1048576 := by have := cheapB_len l f; omega
    have hnl : (needB l s f).1.length ≤ 1048576 := by have := needB_len l s f; omega
    have m1 : m_impl_MendsAll 2000000 l s f = some (mB l s f) := p_implMendsAll 2000000 l s f hl hs' hf' (by omega)
    have m2 : m_spec_MendsAll 2000000 l s f = some (mB l s f) := p_specMendsAll 2000000 l s f hl hs' hf' (by omega)
    have m3 : m_impl_MendsAll 2000000 l (cheapB l f).1 f = some (mB l (cheapB l f).1 f) := p_implMendsAll 2000000 l _ f hl hcl hf' (by omega)
    have pr1 : m_impl_PriceOfRepairs 2000000 l (cheapB l f).1 = some (prB l (cheapB l f).1) := p_implPriceOf 2000000 l _ hl hcl (by omega)
    have pr2 : m_impl_PriceOfRepairs 2000000 l s = some (prB l s) := p_implPriceOf 2000000 l s hl hs' (by omega)
    have eD : m_spec_DrawMendsAll 2000000 code = some (l, s, f) := by unfold m_spec_DrawMendsAll; rw [e1]; rfl
    have ht := tail_true l s f
    simp only [eD, e2, Option.bind_some, m1, m2, m3, pr1, pr2, p_implCheapest 2000000 l f hl hf' (by omega), p_specCheapest 2000000 l f hl hf' (by omega), p_implNeed 2000000 l s f hl hs' hf' (by omega), p_specNeed 2000000 l s f hl hs' hf' (by omega),
      p_implNeed 2000000 l (cheapB l f).1 f hl hcl hf' (by omega), p_implWorth 2000000 l2 f2 v p hl2 hf2' (by omega), p_specWorth 2000000 l2 f2 v p hl2 hf2' (by omega), f6ints_self 2000000 _ hcl (by omega), f6ints_self 2000000 _ hnl (by omega),
      bne_self_eq_false, beq_self_eq_true, Bool.not_true, Bool.false_eq_true, if_false]
    -- what is said of the worth
    have worth : (worthB l2 f2 v p).2 = 0 → ∃ b, (m_spec_CheapestRepairs 2000000 l2 f2 = some (b, 0)) ∧ m_impl_PriceOfRepairs 2000000 l2 b = some (sumL (·.Price) l2 b, 0) ∧ (worthB l2 f2 v p).1 = decide (wI64 (100 * sumL (·.Price) l2 b) ≤ wI64 (v * p)) := by
      intro h0
      unfold worthB at h0 ⊢
      by_cases h1 : codeB l2 [] f2 = 0
      · rw [if_pos h1] at h0 ⊢
        cases h2 : inRB 0 100000 v && inRB 0 100 p with
        | false => rw [h2] at h0; simp at h0
        | true =>
          rw [h2] at h0
          simp only [if_true] at h0 ⊢
          cases h3 : cheapL l2 f2 with
          | none => rw [h3] at h0; simp at h0
          | some b =>
            have hl3 := (code0 h1).1
            have hok := (cheap_some hl3 h3).2.1
            have hbl := hok.short hl3
            refine ⟨b, ?_, ?_, rfl⟩
            · rw [p_specCheapest 2000000 l2 f2 hl2 hf2' (by omega)]
              unfold cheapB; rw [if_pos h1, h3]
            · rw [p_implPriceOf 2000000 l2 b hl2 (by omega) (by omega), if_pos (codeB_nil h1 hok)]
      · rw [if_neg h1] at h0; exact absurd h0 h1
    by_cases hw : (worthB l2 f2 v p).2 = 0
    · obtain ⟨b, w1, w2, w3⟩ := worth hw
      simp only [hw, w1, w2, w3, beq_self_eq_true, if_true, Option.bind_some, bne_self_eq_false, Bool.false_eq_true, if_false, Bool.not_true]
      exact ht
    · have hwb : ((worthB l2 f2 v p).2 == 0) = false := by simp [hw]
      simp only [hwb, Bool.false_eq_true, if_false]
      exact ht

end Go.Gv
