/- Plain laws of repairs: lists compared; numbers that rise; valid repairs. -/
import Derived.Test.YtkglfbcelaphhaaPvA
namespace Go.Gv
open Go Go.RowKit

theorem zip_all_eq {α : Type} [DecidableEq α] (a b : List α) (hl : a.length = b.length) : (a.zip b).all (fun p => decide (p.1 = p.2)) = decide (a = b) := by
  rw [Bool.eq_iff_iff, List.all_eq_true, decide_eq_true_eq]
  constructor
  · intro h
    apply List.ext_getElem hl
    intro i h1 h2
    have := h (a[i], b[i]) (by
      have : (a.zip b)[i]? = some (a[i], b[i]) := by rw [List.getElem?_zip_eq_some]; exact ⟨List.getElem?_eq_getElem h1, List.getElem?_eq_getElem h2⟩
      exact List.mem_of_getElem? this)
    simpa using this
  · rintro rfl p hp
    obtain ⟨i, hi⟩ := List.getElem?_of_mem hp
    rw [List.getElem?_zip_eq_some] at hi
    rw [hi.1] at hi
    simpa using Option.some.inj hi.2

theorem p_l00Same (n : Nat) (a b : List Int) (ha : a.length ≤ 1048576) (hn : 1048576 < n) : m_spec_l00Same n a b = some (decide (a = b)) := by
  unfold m_spec_l00Same
  by_cases hl : a.length = b.length
  · have hb : ((a.length : Int) != (b.length : Int)) = false := by simp [hl]
    simp only [hb, Bool.false_eq_true, if_false]
    have key := loopN_listAll (body := m_spec_l00Same_l1 n a b) (a.zip b) (fun p => decide (p.1 = p.2)) (fun i => (i : Int)) (.inl ()) (.inr false)
      (fun i p hp => by
        rw [List.getElem?_zip_eq_some] at hp
        have hlt := lt_of_get hp.1
        unfold m_spec_l00Same_l1
        simp only [ltB hlt, if_true, idx_nat, hp.1, hp.2, Option.bind_some, succ64 hlt (by omega)]
        by_cases h : p.1 = p.2 <;> simp [h])
      (by unfold m_spec_l00Same_l1; simp [hl]) n (by simp; omega)
    have k1 : loopN (m_spec_l00Same_l1 n a b) n 0 = _ := key
    rw [k1, zip_all_eq a b hl]
    cases decide (a = b) <;> rfl
  · have hb : ((a.length : Int) != (b.length : Int)) = true := by
      have : ¬ (a.length : Int) = (b.length : Int) := by omega
      simp [bne, this]
    have hne : ¬ a = b := fun e => hl (by rw [e])
    simp only [hb, if_true, hne, decide_false]

theorem p_Equal (n : Nat) (a b : List Int) (ha : a.length ≤ 1048576) (hn : 1048576 < n) : m_slices_Equal_int64_int64 n a b = some (decide (a = b)) := p_l00Same n a b ha hn
theorem p_eqInts (n : Nat) (a b : List Int) (ha : a.length ≤ 1048576) (hn : 1048576 < n) : m_laws_eqInt64S n a b = some (decide (a = b)) := p_l00Same n a b ha hn

theorem p_specSameRepairs (n : Nat) (a b : List SRepair) (ha : smallR a) (hn : 1048576 < n) : m_spec_SameRepairs n a b = some (decide (a = b)) := by
  have hal : a.length ≤ 1048576 := by have := ha.1; omega
  unfold m_spec_SameRepairs
  by_cases hl : a.length = b.length
  · have hb : ((a.length : Int) != (b.length : Int)) = false := by simp [hl]
    simp only [hb, Bool.false_eq_true, if_false]
    have key := loopN_listAll (body := m_spec_SameRepairs_l1 n a b) (a.zip b) (fun p => decide (p.1 = p.2)) (fun i => (i : Int)) (.inl ()) (.inr false)
      (fun i p hp => by
        rw [List.getElem?_zip_eq_some] at hp
        have hlt := lt_of_get hp.1
        obtain ⟨-, b1, b2, -⟩ := smallR_rows ha (List.mem_of_getElem? hp.1)
        unfold m_spec_SameRepairs_l1
        simp only [ltB hlt, if_true, idx_nat, hp.1, hp.2, Option.bind_some, succ64 hlt (by omega), p_l00Same n _ _ b1 hn, p_l00Same n _ _ b2 hn]
        obtain ⟨⟨n1, m1, f1, p1, h1⟩, ⟨n2, m2, f2, p2, h2⟩⟩ := p
        simp only [SRepair.mk.injEq]
        by_cases e1 : n1 = n2 <;> by_cases e2 : m1 = m2 <;> by_cases e3 : f1 = f2 <;> by_cases e4 : p1 = p2 <;> by_cases e5 : h1 = h2 <;> simp [e1, e2, e3, e4, e5])
      (by unfold m_spec_SameRepairs_l1; simp [hl]) n (by simp; omega)
    have k1 : loopN (m_spec_SameRepairs_l1 n a b) n 0 = _ := key
    rw [k1, zip_all_eq a b hl]
    cases decide (a = b) <;> rfl
  · have hb : ((a.length : Int) != (b.length : Int)) = true := by
      have : ¬ (a.length : Int) = (b.length : Int) := by omega
      simp [bne, this]
    have hne : ¬ a = b := fun e => hl (by rw [e])
    simp only [hb, if_true, hne, decide_false]

theorem p_same1 (n : Nat) (x y : SRepair) (hm : x.Mends.length ≤ 1048576) (hf : x.First.length ≤ 1048576) (hn : 1048576 < n) : m_impl_SameRepairs_1 n x y = some (decide (x = y)) := by
  unfold m_impl_SameRepairs_1
  simp only [p_Equal n _ _ hm hn, p_Equal n _ _ hf hn]
  clear hm hf
  obtain ⟨n1, m1, f1, p1, h1⟩ := x
  obtain ⟨n2, m2, f2, p2, h2⟩ := y
  simp only [SRepair.mk.injEq]
  by_cases e1 : n1 = n2 <;> by_cases e2 : m1 = m2 <;> by_cases e3 : f1 = f2 <;> by_cases e4 : p1 = p2 <;> by_cases e5 : h1 = h2 <;> simp [e1, e2, e3, e4, e5]

theorem p_implSameRepairs (n : Nat) (a b : List SRepair) (ha : smallR a) (hn : 1048576 < n) : m_impl_SameRepairs n a b = some (decide (a = b)) := by
  have hal : a.length ≤ 1048576 := by have := ha.1; omega
  unfold m_impl_SameRepairs m_slices_EqualFunc_impl_Repair_impl_Repair_impl_Repair_impl_Repair_f71
  by_cases hl : a.length = b.length
  · have hb : ((a.length : Int) != (b.length : Int)) = false := by simp [hl]
    simp only [hb, Bool.false_eq_true, if_false]
    have key := loopN_listAll (body := m_slices_EqualFunc_impl_Repair_impl_Repair_impl_Repair_impl_Repair_f71_l1 n a b) (a.zip b) (fun p => decide (p.1 = p.2)) (fun i => (i : Int)) (.inl ()) (.inr false)
      (fun i p hp => by
        rw [List.getElem?_zip_eq_some] at hp
        have hlt := lt_of_get hp.1
        obtain ⟨-, b1, b2, -⟩ := smallR_rows ha (List.mem_of_getElem? hp.1)
        unfold m_slices_EqualFunc_impl_Repair_impl_Repair_impl_Repair_impl_Repair_f71_l1
        simp only [ltB hlt, if_true, idx_nat, hp.1, hp.2, Option.bind_some, succ64 hlt (by omega), p_same1 n _ _ b1 b2 hn]
        cases decide (p.1 = p.2) <;> rfl)
      (by unfold m_slices_EqualFunc_impl_Repair_impl_Repair_impl_Repair_impl_Repair_f71_l1; simp [hl]) n (by simp; omega)
    have k1 : loopN (m_slices_EqualFunc_impl_Repair_impl_Repair_impl_Repair_impl_Repair_f71_l1 n a b) n 0 = _ := key
    rw [k1, zip_all_eq a b hl]
    cases decide (a = b) <;> rfl
  · have hb : ((a.length : Int) != (b.length : Int)) = true := by
      have : ¬ (a.length : Int) = (b.length : Int) := by omega
      simp [bne, this]
    have hne : ¬ a = b := fun e => hl (by rw [e])
    simp only [hb, if_true, hne, decide_false, Option.bind_some]

theorem smallR_of {l : List SRepair} {v L : Int} (h : v = L - l.length - totR l) (hv : 0 ≤ v) (hL : L ≤ 1048576) (hok : ∀ x ∈ l, okRepair x) : smallR l := ⟨by omega, hok⟩

theorem law_SameRepairs (a b : List SRepair) (ha : a.length ≤ 9223372036854775807) (oa : ∀ x ∈ a, okRepair x) (hb : b.length ≤ 9223372036854775807) (ob : ∀ x ∈ b, okRepair x) :
    m_laws_FnExactSameRepairs 2000000 a b = some true := by
  unfold m_laws_FnExactSameRepairs
  obtain ⟨v, hv, h⟩ := p_szRepairS 2000000 a 1048576 (by omega) (by omega) ha oa (by omega)
  rw [hv]
  simp only [Option.bind_some]
  rcases h with h | ⟨h0, h1⟩
  · simp [h]
  · have hnv : ¬ v < 0 := by omega
    simp only [hnv, decide_false, Bool.false_eq_true, if_false]
    obtain ⟨u, hu, g⟩ := p_szRepairS 2000000 b v h0 (by omega) hb ob (by omega)
    rw [hu]
    simp only [Option.bind_some]
    rcases g with g | ⟨g0, g1⟩
    · simp [g]
    · have hnu : ¬ u < 0 := by omega
      have sa := smallR_of h1 h0 (by omega) oa
      have sb := smallR_of g1 g0 (by omega) ob
      simp only [hnu, decide_false, Bool.false_eq_true, if_false, p_toRepairS 2000000 a sa (by omega), p_toRepairS 2000000 b sb (by omega), Option.bind_some, p_specSameRepairs 2000000 a b sa (by omega), p_implSameRepairs 2000000 a b sa (by omega),
        p_eqRepairS 2000000 a sa (by omega), p_eqRepairS 2000000 b sb (by omega), beq_self_eq_true, Bool.not_true]

/-! ### Numbers that rise -/

def inRB (lo hi v : Int) : Bool := decide (lo ≤ v) && decide (v ≤ hi)
def riseB (lo hi : Int) (l : List Int) (i : Nat) : Bool := inRB lo hi (l.getD i 0) && (decide (i = 0) || decide (l.getD (i - 1) 0 < l.getD i 0))
def risB (lo hi : Int) (l : List Int) : Bool := (List.range l.length).all (riseB lo hi l)

theorem not_ge (x y : Int) : decide (x ≥ y) = !decide (x < y) := by
  by_cases h : x < y
  · have : ¬ x ≥ y := by omega
    simp [h, this]
  · have : x ≥ y := by omega
    simp [h, this]

theorem p_l00Rises (n : Nat) (l : List Int) (lo hi : Int) (hl : l.length ≤ 1048576) (hn : 1048576 < n) : m_spec_l00Rises n l lo hi = some (risB lo hi l) := by
  unfold m_spec_l00Rises risB
  have key := loopN_all (body := m_spec_l00Rises_l1 n l lo hi) (fun i => (i : Int)) (.inl ()) (.inr false) l.length (riseB lo hi l)
    (fun i hi2 => by
      have hg : l[i]? = some (l.getD i 0) := getD_of hi2 0
      unfold m_spec_l00Rises_l1 riseB inRB
      simp only [ltB hi2, if_true, idx_nat, hg, Option.bind_some, p_l00In, succ64 hi2 (by omega)]
      cases hgb : (decide (lo ≤ l.getD i 0) && decide (l.getD i 0 ≤ hi)) with
      | false => rfl
      | true =>
        simp only [Bool.not_true, Bool.false_eq_true, if_false, Bool.true_and]
        by_cases h0 : i = 0
        · subst h0; rfl
        · have hp : decide ((i : Int) > 0) = true := decide_eq_true (by omega)
          have hw : wI64 ((i : Int) - 1) = ((i - 1 : Nat) : Int) := by rw [wI64_eq (by omega) (by omega)]; omega
          have hg2 : l[i - 1]? = some (l.getD (i - 1) 0) := getD_of (by omega) 0
          simp only [hp, if_true, hw, idx_nat, hg2, Option.bind_some, h0, decide_false, Bool.false_or, not_ge]
          cases decide (l.getD (i - 1) 0 < l.getD i 0) <;> rfl)
    (by unfold m_spec_l00Rises_l1; simp) n (by omega)
  have k1 : loopN (m_spec_l00Rises_l1 n l lo hi) n 0 = _ := key
  rw [k1]
  cases (List.range l.length).all (riseB lo hi l) <;> rfl

theorem p_isIncreasing (n : Nat) (l : List Int) (lo hi : Int) (hl : l.length ≤ 1048576) (hn : 1048576 < n) : m_impl_isIncreasing n l lo hi = some (risB lo hi l) := by
  unfold m_impl_isIncreasing risB
  have key := loopN_all (body := m_impl_isIncreasing_l1 n l lo hi) (fun i => (i : Int)) (.inl ()) (.inr false) l.length (riseB lo hi l)
    (fun i hi2 => by
      have hg : l[i]? = some (l.getD i 0) := getD_of hi2 0
      unfold m_impl_isIncreasing_l1 riseB inRB
      simp only [ltB hi2, if_true, idx_nat, hg, Option.bind_some, p_within, succ64 hi2 (by omega)]
      cases hgb : (decide (lo ≤ l.getD i 0) && decide (l.getD i 0 ≤ hi)) with
      | false => rfl
      | true =>
        simp only [Bool.not_true, Bool.false_eq_true, if_false, Bool.true_and]
        by_cases h0 : i = 0
        · subst h0; rfl
        · have hp : decide ((i : Int) > 0) = true := decide_eq_true (by omega)
          have hw : wI64 ((i : Int) - 1) = ((i - 1 : Nat) : Int) := by rw [wI64_eq (by omega) (by omega)]; omega
          have hg2 : l[i - 1]? = some (l.getD (i - 1) 0) := getD_of (by omega) 0
          simp only [hp, if_true, hw, idx_nat, hg2, Option.bind_some, h0, decide_false, Bool.false_or, not_ge]
          cases decide (l.getD (i - 1) 0 < l.getD i 0) <;> rfl)
    (by unfold m_impl_isIncreasing_l1; simp) n (by omega)
  have k1 : loopN (m_impl_isIncreasing_l1 n l lo hi) n 0 = _ := key
  rw [k1]
  cases (List.range l.length).all (riseB lo hi l) <;> rfl

/-- What it means to rise. -/
theorem risB_spec {lo hi : Int} {l : List Int} : risB lo hi l = true ↔ (∀ x ∈ l, lo ≤ x ∧ x ≤ hi) ∧ l.Pairwise (· < ·) := by
  unfold risB
  rw [List.all_eq_true]
  constructor
  · intro h
    have at_ : ∀ i (hi2 : i < l.length), lo ≤ l[i] ∧ l[i] ≤ hi ∧ (i ≠ 0 → l[i - 1]'(by omega) < l[i]) := by
      intro i hi2
      have := h i (by simpa using hi2)
      unfold riseB inRB at this
      simp only [Bool.and_eq_true, Bool.or_eq_true, decide_eq_true_eq, List.getD_eq_getElem?_getD, List.getElem?_eq_getElem hi2, List.getElem?_eq_getElem (show i - 1 < l.length by omega), Option.getD_some] at this
      exact ⟨this.1.1, this.1.2, fun h0 => this.2.resolve_left h0⟩
    refine ⟨fun x hx => ?_, ?_⟩
    · obtain ⟨i, hi2, rfl⟩ := List.getElem_of_mem hx
      exact ⟨(at_ i hi2).1, (at_ i hi2).2.1⟩
    · rw [List.pairwise_iff_getElem]
      intro i j h1 h2 hij
      have : ∀ d (hd : i + d + 1 < l.length), l[i] < l[i + d + 1] := by
        intro d
        induction d with
        | zero => intro hd; have := (at_ (i + 1) hd).2.2 (by omega); simpa using this
        | succ d ih =>
          intro hd
          have h1 := ih (by omega)
          have h2 := (at_ (i + (d + 1) + 1) hd).2.2 (by omega)
          have e : i + (d + 1) + 1 - 1 = i + d + 1 := by omega
          simp only [e] at h2
          exact Int.lt_trans h1 h2
      have := this (j - i - 1) (by omega)
      have e : i + (j - i - 1) + 1 = j := by omega
      simpa [e] using this
  · rintro ⟨h1, h2⟩ i hi2
    have hi3 : i < l.length := by simpa using hi2
    unfold riseB inRB
    simp only [Bool.and_eq_true, Bool.or_eq_true, decide_eq_true_eq, List.getD_eq_getElem?_getD, List.getElem?_eq_getElem hi3, List.getElem?_eq_getElem (show i - 1 < l.length by omega), Option.getD_some]
    refine ⟨h1 _ (List.getElem_mem hi3), ?_⟩
    by_cases h0 : i = 0
    · exact .inl h0
    · right
      rw [List.pairwise_iff_getElem] at h2
      exact h2 (i - 1) i (by omega) hi3 (by omega)

/-! ### Valid repairs -/

def repB (l : List SRepair) (i : Nat) : Bool :=
  nameB (l.getD i rD).Name && (risB 0 9 (l.getD i rD).Mends && (risB 0 ((i : Int) - 1) (l.getD i rD).First && (inRB 0 100000 (l.getD i rD).Price && (inRB 0 1000 (l.getD i rD).Hours && (l.take i).all (fun o => !(o.Name == (l.getD i rD).Name))))))
def repsB (l : List SRepair) : Bool := (List.range l.length).all (repB l) && decide (l.length ≤ 10)

theorem pred64 {i : Nat} (h : i ≤ 1048576) : wI64 ((i : Int) - 1) = (i : Int) - 1 := wI64_eq (by omega) (by omega)

theorem p_l21Ok_l2 (n : Nat) (l : List SRepair) (i : Nat) (x : SRepair) (hi : i < l.length) (hl : l.length ≤ 1048576) (hn : 1048576 < n) :
    loopN (m_spec_l21Ok_l2 n l (i : Int) x) n 0 = some (if (l.take i).all (fun o => !(o.Name == x.Name)) then .inl () else .inr false) := by
  have hlen : (l.take i).length = i := by simp; omega
  have key := loopN_listAll (body := m_spec_l21Ok_l2 n l (i : Int) x) (l.take i) (fun o => !(o.Name == x.Name)) (fun i => (i : Int)) (.inl ()) (.inr false)
    (fun k o ho => by
      have hk := lt_of_get ho
      rw [hlen] at hk
      have ho2 : l[k]? = some o := by rw [List.getElem?_take] at ho; simpa [hk] using ho
      unfold m_spec_l21Ok_l2
      simp only [ltB hk, if_true, idx_nat, ho2, Option.bind_some, succ64 hk (by omega)]
      cases o.Name == x.Name <;> rfl)
    (by unfold m_spec_l21Ok_l2; rw [hlen]; simp) n (by rw [hlen]; omega)
  exact key

theorem p_l21Ok (n : Nat) (l : List SRepair) (hs : smallR l) (hn : 1048576 < n) : m_spec_l21Ok n l = some (repsB l) := by
  have hl : l.length ≤ 1048576 := by have := hs.1; omega
  unfold m_spec_l21Ok repsB
  have key := loopN_all (body := m_spec_l21Ok_l1 n l) (fun i => (i : Int)) (.inl ()) (.inr false) l.length (repB l)
    (fun i hi => by
      have hg : l[i]? = some (l.getD i rD) := getD_of hi rD
      obtain ⟨-, b1, b2, b3⟩ := smallR_rows hs (List.mem_of_getElem? hg)
      unfold m_spec_l21Ok_l1 repB
      simp only [ltB hi, if_true, idx_nat, hg, Option.bind_some, p_specIsName n _ b3 hn, p_l00Rises n _ _ _ b1 hn, p_l00Rises n _ _ _ b2 hn, p_l00In, pred64 (show i ≤ 1048576 by omega), p_l21Ok_l2 n l i _ hi hl hn, succ64 hi (by omega)]
      unfold inRB
      cases nameB (l.getD i rD).Name <;> cases risB 0 9 (l.getD i rD).Mends <;> cases risB 0 ((i : Int) - 1) (l.getD i rD).First <;> cases (decide (0 ≤ (l.getD i rD).Price) && decide ((l.getD i rD).Price ≤ 100000)) <;>
        cases (decide (0 ≤ (l.getD i rD).Hours) && decide ((l.getD i rD).Hours ≤ 1000)) <;> cases (l.take i).all (fun o => !(o.Name == (l.getD i rD).Name)) <;> rfl)
    (by unfold m_spec_l21Ok_l1; simp) n (by omega)
  have k1 : loopN (m_spec_l21Ok_l1 n l) n 0 = _ := key
  rw [k1]
  have h10 : decide ((l.length : Int) ≤ 10) = decide (l.length ≤ 10) := decide_eq_decide.2 (by omega)
  cases (List.range l.length).all (repB l) with
  | true => simp only [if_true, Option.bind_some, h10, Bool.true_and]
  | false => rfl

theorem p_hasName (n : Nat) (l : List SRepair) (x : SRepair) (hl : l.length ≤ 1048576) (hn : 1048576 < n) : m_slices_ContainsFunc_impl_Repair_impl_Repair_f79 n l x = some (!l.all (fun o => !(o.Name == x.Name))) := by
  unfold m_slices_ContainsFunc_impl_Repair_impl_Repair_f79 m_slices_IndexFunc_impl_Repair_impl_Repair_f79
  have key := loopN_index (body := m_slices_IndexFunc_impl_Repair_impl_Repair_f79_l1 n l x) l (fun o => o.Name == x.Name)
    (fun i o ho => by
      have hlt := lt_of_get ho
      unfold m_slices_IndexFunc_impl_Repair_impl_Repair_f79_l1 m_impl_ValidRepairs_1
      simp only [ltB hlt, if_true, idx_nat, ho, Option.bind_some, succ64 hlt (by omega)]
      cases o.Name == x.Name <;> rfl)
    (by unfold m_slices_IndexFunc_impl_Repair_impl_Repair_f79_l1; simp) n (by omega)
  rw [key]
  cases h : l.findIdx? (fun o => o.Name == x.Name) with
  | none =>
    rw [List.findIdx?_eq_none_iff] at h
    have : l.all (fun o => !(o.Name == x.Name)) = true := by rw [List.all_eq_true]; intro o ho; simp [h o ho]
    rw [this]; rfl
  | some i =>
    rw [List.findIdx?_eq_some_iff_getElem] at h
    obtain ⟨hi, hp, -⟩ := h
    have : l.all (fun o => !(o.Name == x.Name)) = false := by rw [List.all_eq_false]; exact ⟨_, List.getElem_mem hi, by simp [hp]⟩
    rw [this]
    have h0 : decide ((i : Int) ≥ 0) = true := decide_eq_true (by omega)
    simp only [Option.bind_some, h0, Bool.not_false]

theorem p_implValidRepairs (n : Nat) (l : List SRepair) (hs : smallR l) (hn : 1048576 < n) : m_impl_ValidRepairs n l = some (repsB l) := by
  have hl : l.length ≤ 1048576 := by have := hs.1; omega
  unfold m_impl_ValidRepairs repsB
  have key := loopN_all (body := m_impl_ValidRepairs_l1 n l) (fun i => (i : Int)) (.inl ()) (.inr false) l.length (repB l)
    (fun i hi => by
      have hg : l[i]? = some (l.getD i rD) := getD_of hi rD
      obtain ⟨-, b1, b2, b3⟩ := smallR_rows hs (List.mem_of_getElem? hg)
      have hsub : sub l 0 (i : Int) = some (l.take i) := by
        unfold sub
        rw [if_pos ⟨by omega, by omega, by omega⟩]; simp
      have hlt : (l.take i).length ≤ 1048576 := by simp; omega
      unfold m_impl_ValidRepairs_l1 repB m_impl_areFaults
      simp only [ltB hi, if_true, idx_nat, hg, Option.bind_some, p_implIsName n _ b3 hn, p_isIncreasing n _ _ _ b1 hn, p_isIncreasing n _ _ _ b2 hn, p_within, pred64 (show i ≤ 1048576 by omega), hsub, p_hasName n _ _ hlt hn, succ64 hi (by omega)]
      unfold inRB
      cases nameB (l.getD i rD).Name <;> cases risB 0 9 (l.getD i rD).Mends <;> cases risB 0 ((i : Int) - 1) (l.getD i rD).First <;> cases (decide (0 ≤ (l.getD i rD).Price) && decide ((l.getD i rD).Price ≤ 100000)) <;>
        cases (decide (0 ≤ (l.getD i rD).Hours) && decide ((l.getD i rD).Hours ≤ 1000)) <;> cases (l.take i).all (fun o => !(o.Name == (l.getD i rD).Name)) <;> rfl)
    (by unfold m_impl_ValidRepairs_l1; simp) n (by omega)
  have k1 : loopN (m_impl_ValidRepairs_l1 n l) n 0 = _ := key
  rw [k1]
  have h10 : decide ((l.length : Int) ≤ 10) = decide (l.length ≤ 10) := decide_eq_decide.2 (by omega)
  cases (List.range l.length).all (repB l) with
  | true => simp only [if_true, Option.bind_some, h10, Bool.true_and]
  | false => rfl

theorem law_ValidRepairs (a : List SRepair) (ha : a.length ≤ 9223372036854775807) (oa : ∀ x ∈ a, okRepair x) : m_laws_FnExactValidRepairs 2000000 a = some true := by
  unfold m_laws_FnExactValidRepairs
  obtain ⟨v, hv, h⟩ := p_szRepairS 2000000 a 1048576 (by omega) (by omega) ha oa (by omega)
  rw [hv]
  simp only [Option.bind_some]
  rcases h with h | ⟨h0, h1⟩
  · simp [h]
  · have hnv : ¬ v < 0 := by omega
    have sa := smallR_of h1 h0 (by omega) oa
    simp only [hnv, decide_false, Bool.false_eq_true, if_false, p_toRepairS 2000000 a sa (by omega), Option.bind_some, m_spec_ValidRepairs, p_l21Ok 2000000 a sa (by omega), p_implValidRepairs 2000000 a sa (by omega), p_eqRepairS 2000000 a sa (by omega), beq_self_eq_true, Bool.not_true]

end Go.Gv
