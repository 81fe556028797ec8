/- Plain laws (those of another seat, turned to this one by tools/renum.py). -/
import Derived.Test.YtkglfbcelaphhaaGreatDoorPa
import Derived.Test.YtkglfbcelaphhaaGreatDoorPn
import Derived.Lib.ItoaNum
import Derived.Lib.Strings
import Derived.Lib.Join
namespace Go.Gv
open Go Go.RowKit

def szR (x : SRepair) : Nat := x.Name.length + x.Mends.length + x.First.length

def totR (l : List SRepair) : Nat := (l.map szR).sum

/-- Small enough, every part. -/
def smallR (l : List SRepair) : Prop := l.length + totR l ≤ 1048576 ∧ ∀ x ∈ l, okRepair x

theorem mem_le_totR {l : List SRepair} {x : SRepair} (h : x ∈ l) : szR x ≤ totR l := by
  induction l with
  | nil => simp at h
  | cons y ys ih =>
    simp only [totR, List.map_cons, List.sum_cons] at ih ⊢
    rcases List.mem_cons.1 h with rfl | h
    · omega
    · have := ih h; omega

theorem smallR_rows {l : List SRepair} (h : smallR l) {x : SRepair} (hx : x ∈ l) : x.Name.length ≤ 1048576 ∧ x.Mends.length ≤ 1048576 ∧ x.First.length ≤ 1048576 ∧ strok x.Name := by
  have := mem_le_totR hx
  have h1 := h.1
  unfold szR at this
  exact ⟨by omega, by omega, by omega, (h.2 x hx).1⟩

def rD : SRepair := ⟨[], [], [], 0, 0⟩

theorem zip_all_eq {α : Type} [DecidableEq α] (a b : List α) (hl : a.length = b.length) : (a.zip b).all (fun p => decide (p.1 = p.2)) = decide (a = b) := by
  rw [Bool.eq_iff_iff, List.all_eq_true, decide_eq_true_eq]
  constructor
  · intro h
    apply List.ext_getElem hl
    intro i h1 h2
    have := h (a[i], b[i]) (by
      have : (a.zip b)[i]? = some (a[i], b[i]) := by rw [List.getElem?_zip_eq_some]; exact ⟨List.getElem?_eq_getElem h1, List.getElem?_eq_getElem h2⟩
      exact List.mem_of_getElem? this)
    simpa using this
  · rintro rfl p hp
    obtain ⟨i, hi⟩ := List.getElem?_of_mem hp
    rw [List.getElem?_zip_eq_some] at hi
    rw [hi.1] at hi
    simpa using Option.some.inj hi.2

theorem p_l00Same (n : Nat) (a b : List Int) (ha : a.length ≤ 1048576) (hn : 1048576 < n) : m_spec_l00Same n a b = some (decide (a = b)) := by
  unfold m_spec_l00Same
  by_cases hl : a.length = b.length
  · have hb : ((a.length : Int) != (b.length : Int)) = false := by simp [hl]
    simp only [hb, Bool.false_eq_true, if_false]
    have key := loopN_listAll (body := m_spec_l00Same_l1 n a b) (a.zip b) (fun p => decide (p.1 = p.2)) (fun i => (i : Int)) (.inl ()) (.inr false)
      (fun i p hp => by
        rw [List.getElem?_zip_eq_some] at hp
        have hlt := lt_of_get hp.1
        unfold m_spec_l00Same_l1
        simp only [ltB hlt, if_true, idx_nat, hp.1, hp.2, Option.bind_some, succ64 hlt (by omega)]
        by_cases h : p.1 = p.2 <;> simp [h])
      (by unfold m_spec_l00Same_l1; simp [hl]) n (by simp; omega)
    have k1 : loopN (m_spec_l00Same_l1 n a b) n 0 = _ := key
    rw [k1, zip_all_eq a b hl]
    cases decide (a = b) <;> rfl
  · have hb : ((a.length : Int) != (b.length : Int)) = true := by
      have : ¬ (a.length : Int) = (b.length : Int) := by omega
      simp [bne, this]
    have hne : ¬ a = b := fun e => hl (by rw [e])
    simp only [hb, if_true, hne, decide_false]

theorem p_Equal (n : Nat) (a b : List Int) (ha : a.length ≤ 1048576) (hn : 1048576 < n) : m_slices_Equal_int64_int64 n a b = some (decide (a = b)) := p_l00Same n a b ha hn

theorem p_specSameRepairs (n : Nat) (a b : List SRepair) (ha : smallR a) (hn : 1048576 < n) : m_spec_SameRepairs n a b = some (decide (a = b)) := by
  have hal : a.length ≤ 1048576 := by have := ha.1; omega
  unfold m_spec_SameRepairs
  by_cases hl : a.length = b.length
  · have hb : ((a.length : Int) != (b.length : Int)) = false := by simp [hl]
    simp only [hb, Bool.false_eq_true, if_false]
    have key := loopN_listAll (body := m_spec_SameRepairs_l1 n a b) (a.zip b) (fun p => decide (p.1 = p.2)) (fun i => (i : Int)) (.inl ()) (.inr false)
      (fun i p hp => by
        rw [List.getElem?_zip_eq_some] at hp
        have hlt := lt_of_get hp.1
        obtain ⟨-, b1, b2, -⟩ := smallR_rows ha (List.mem_of_getElem? hp.1)
        unfold m_spec_SameRepairs_l1
        simp only [ltB hlt, if_true, idx_nat, hp.1, hp.2, Option.bind_some, succ64 hlt (by omega), p_l00Same n _ _ b1 hn, p_l00Same n _ _ b2 hn]
        obtain ⟨⟨n1, m1, f1, p1, h1⟩, ⟨n2, m2, f2, p2, h2⟩⟩ := p
        simp only [SRepair.mk.injEq]
        by_cases e1 : n1 = n2 <;> by_cases e2 : m1 = m2 <;> by_cases e3 : f1 = f2 <;> by_cases e4 : p1 = p2 <;> by_cases e5 : h1 = h2 <;> simp [e1, e2, e3, e4, e5])
      (by unfold m_spec_SameRepairs_l1; simp [hl]) n (by simp; omega)
    have k1 : loopN (m_spec_SameRepairs_l1 n a b) n 0 = _ := key
    rw [k1, zip_all_eq a b hl]
    cases decide (a = b) <;> rfl
  · have hb : ((a.length : Int) != (b.length : Int)) = true := by
      have : ¬ (a.length : Int) = (b.length : Int) := by omega
      simp [bne, this]
    have hne : ¬ a = b := fun e => hl (by rw [e])
    simp only [hb, if_true, hne, decide_false]

theorem p_same1 (n : Nat) (x y : SRepair) (hm : x.Mends.length ≤ 1048576) (hf : x.First.length ≤ 1048576) (hn : 1048576 < n) : m_impl_SameRepairs_1 n x y = some (decide (x = y)) := by
  unfold m_impl_SameRepairs_1
  simp only [p_Equal n _ _ hm hn, p_Equal n _ _ hf hn]
  clear hm hf
  obtain ⟨n1, m1, f1, p1, h1⟩ := x
  obtain ⟨n2, m2, f2, p2, h2⟩ := y
  simp only [SRepair.mk.injEq]
  by_cases e1 : n1 = n2 <;> by_cases e2 : m1 = m2 <;> by_cases e3 : f1 = f2 <;> by_cases e4 : p1 = p2 <;> by_cases e5 : h1 = h2 <;> simp [e1, e2, e3, e4, e5]

theorem p_implSameRepairs (n : Nat) (a b : List SRepair) (ha : smallR a) (hn : 1048576 < n) : m_impl_SameRepairs n a b = some (decide (a = b)) := by
  have hal : a.length ≤ 1048576 := by have := ha.1; omega
  unfold m_impl_SameRepairs m_slices_EqualFunc_impl_Repair_impl_Repair_impl_Repair_impl_Repair_f58
  by_cases hl : a.length = b.length
  · have hb : ((a.length : Int) != (b.length : Int)) = false := by simp [hl]
    simp only [hb, Bool.false_eq_true, if_false]
    have key := loopN_listAll (body := m_slices_EqualFunc_impl_Repair_impl_Repair_impl_Repair_impl_Repair_f58_l1 n a b) (a.zip b) (fun p => decide (p.1 = p.2)) (fun i => (i : Int)) (.inl ()) (.inr false)
      (fun i p hp => by
        rw [List.getElem?_zip_eq_some] at hp
        have hlt := lt_of_get hp.1
        obtain ⟨-, b1, b2, -⟩ := smallR_rows ha (List.mem_of_getElem? hp.1)
        unfold m_slices_EqualFunc_impl_Repair_impl_Repair_impl_Repair_impl_Repair_f58_l1
        simp only [ltB hlt, if_true, idx_nat, hp.1, hp.2, Option.bind_some, succ64 hlt (by omega), p_same1 n _ _ b1 b2 hn]
        cases decide (p.1 = p.2) <;> rfl)
      (by unfold m_slices_EqualFunc_impl_Repair_impl_Repair_impl_Repair_impl_Repair_f58_l1; simp [hl]) n (by simp; omega)
    have k1 : loopN (m_slices_EqualFunc_impl_Repair_impl_Repair_impl_Repair_impl_Repair_f58_l1 n a b) n 0 = _ := key
    rw [k1, zip_all_eq a b hl]
    cases decide (a = b) <;> rfl
  · have hb : ((a.length : Int) != (b.length : Int)) = true := by
      have : ¬ (a.length : Int) = (b.length : Int) := by omega
      simp [bne, this]
    have hne : ¬ a = b := fun e => hl (by rw [e])
    simp only [hb, if_true, hne, decide_false, Option.bind_some]

theorem smallR_of {l : List SRepair} {v L : Int} (h : v = L - l.length - totR l) (hv : 0 ≤ v) (hL : L ≤ 1048576) (hok : ∀ x ∈ l, okRepair x) : smallR l := ⟨by omega, hok⟩

/-! ### Numbers that rise -/

def inRB (lo hi v : Int) : Bool := decide (lo ≤ v) && decide (v ≤ hi)

def riseB (lo hi : Int) (l : List Int) (i : Nat) : Bool := inRB lo hi (l.getD i 0) && (decide (i = 0) || decide (l.getD (i - 1) 0 < l.getD i 0))

def risB (lo hi : Int) (l : List Int) : Bool := (List.range l.length).all (riseB lo hi l)

theorem not_ge (x y : Int) : decide (x ≥ y) = !decide (x < y) := by
  by_cases h : x < y
  · have : ¬ x ≥ y := by omega
    simp [h, this]
  · have : x ≥ y := by omega
    simp [h, this]

theorem p_l00Rises (n : Nat) (l : List Int) (lo hi : Int) (hl : l.length ≤ 1048576) (hn : 1048576 < n) : m_spec_l00Rises n l lo hi = some (risB lo hi l) := by
  unfold m_spec_l00Rises risB
  have key := loopN_all (body := m_spec_l00Rises_l1 n l lo hi) (fun i => (i : Int)) (.inl ()) (.inr false) l.length (riseB lo hi l)
    (fun i hi2 => by
      have hg : l[i]? = some (l.getD i 0) := getD_of hi2 0
      unfold m_spec_l00Rises_l1 riseB inRB
      simp only [ltB hi2, if_true, idx_nat, hg, Option.bind_some, p_l00In, succ64 hi2 (by omega)]
      cases hgb : (decide (lo ≤ l.getD i 0) && decide (l.getD i 0 ≤ hi)) with
      | false => rfl
      | true =>
        simp only [Bool.not_true, Bool.false_eq_true, if_false, Bool.true_and]
        by_cases h0 : i = 0
        · subst h0; rfl
        · have hp : decide ((i : Int) > 0) = true := decide_eq_true (by omega)
          have hw : wI64 ((i : Int) - 1) = ((i - 1 : Nat) : Int) := by rw [wI64_eq (by omega) (by omega)]; omega
          have hg2 : l[i - 1]? = some (l.getD (i - 1) 0) := getD_of (by omega) 0
          simp only [hp, if_true, hw, idx_nat, hg2, Option.bind_some, h0, decide_false, Bool.false_or, not_ge]
          cases decide (l.getD (i - 1) 0 < l.getD i 0) <;> rfl)
    (by unfold m_spec_l00Rises_l1; simp) n (by omega)
  have k1 : loopN (m_spec_l00Rises_l1 n l lo hi) n 0 = _ := key
  rw [k1]
  cases (List.range l.length).all (riseB lo hi l) <;> rfl

theorem p_isIncreasing (n : Nat) (l : List Int) (lo hi : Int) (hl : l.length ≤ 1048576) (hn : 1048576 < n) : m_impl_isIncreasing n l lo hi = some (risB lo hi l) := by
  unfold m_impl_isIncreasing risB
  have key := loopN_all (body := m_impl_isIncreasing_l1 n l lo hi) (fun i => (i : Int)) (.inl ()) (.inr false) l.length (riseB lo hi l)
    (fun i hi2 => by
      have hg : l[i]? = some (l.getD i 0) := getD_of hi2 0
      unfold m_impl_isIncreasing_l1 riseB inRB
      simp only [ltB hi2, if_true, idx_nat, hg, Option.bind_some, p_within, succ64 hi2 (by omega)]
      cases hgb : (decide (lo ≤ l.getD i 0) && decide (l.getD i 0 ≤ hi)) with
      | false => rfl
      | true =>
        simp only [Bool.not_true, Bool.false_eq_true, if_false, Bool.true_and]
        by_cases h0 : i = 0
        · subst h0; rfl
        · have hp : decide ((i : Int) > 0) = true := decide_eq_true (by omega)
          have hw : wI64 ((i : Int) - 1) = ((i - 1 : Nat) : Int) := by rw [wI64_eq (by omega) (by omega)]; omega
          have hg2 : l[i - 1]? = some (l.getD (i - 1) 0) := getD_of (by omega) 0
          simp only [hp, if_true, hw, idx_nat, hg2, Option.bind_some, h0, decide_false, Bool.false_or, not_ge]
          cases decide (l.getD (i - 1) 0 < l.getD i 0) <;> rfl)
    (by unfold m_impl_isIncreasing_l1; simp) n (by omega)
  have k1 : loopN (m_impl_isIncreasing_l1 n l lo hi) n 0 = _ := key
  rw [k1]
  cases (List.range l.length).all (riseB lo hi l) <;> rfl

/-- What it means to rise. -/
theorem risB_spec {lo hi : Int} {l : List Int} : risB lo hi l = true ↔ (∀ x ∈ l, lo ≤ x ∧ x ≤ hi) ∧ l.Pairwise (· < ·) := by
  unfold risB
  rw [List.all_eq_true]
  constructor
  · intro h
    have at_ : ∀ i (hi2 : i < l.length), lo ≤ l[i] ∧ l[i] ≤ hi ∧ (i ≠ 0 → l[i - 1]'(by omega) < l[i]) := by
      intro i hi2
      have := h i (by simpa using hi2)
      unfold riseB inRB at this
      simp only [Bool.and_eq_true, Bool.or_eq_true, decide_eq_true_eq, List.getD_eq_getElem?_getD, List.getElem?_eq_getElem hi2, List.getElem?_eq_getElem (show i - 1 < l.length by omega), Option.getD_some] at this
      exact ⟨this.1.1, this.1.2, fun h0 => this.2.resolve_left h0⟩
    refine ⟨fun x hx => ?_, ?_⟩
    · obtain ⟨i, hi2, rfl⟩ := List.getElem_of_mem hx
      exact ⟨(at_ i hi2).1, (at_ i hi2).2.1⟩
    · rw [List.pairwise_iff_getElem]
      intro i j h1 h2 hij
      have : ∀ d (hd : i + d + 1 < l.length), l[i] < l[i + d + 1] := by
        intro d
        induction d with
        | zero => intro hd; have := (at_ (i + 1) hd).2.2 (by omega); simpa using this
        | succ d ih =>
          intro hd
          have h1 := ih (by omega)
          have h2 := (at_ (i + (d + 1) + 1) hd).2.2 (by omega)
          have e : i + (d + 1) + 1 - 1 = i + d + 1 := by omega
          simp only [e] at h2
          exact Int.lt_trans h1 h2
      have := this (j - i - 1) (by omega)
      have e : i + (j - i - 1) + 1 = j := by omega
      simpa [e] using this
  · rintro ⟨h1, h2⟩ i hi2
    have hi3 : i < l.length := by simpa using hi2
    unfold riseB inRB
    simp only [Bool.and_eq_true, Bool.or_eq_true, decide_eq_true_eq, List.getD_eq_getElem?_getD, List.getElem?_eq_getElem hi3, List.getElem?_eq_getElem (show i - 1 < l.length by omega), Option.getD_some]
    refine ⟨h1 _ (List.getElem_mem hi3), ?_⟩
    by_cases h0 : i = 0
    · exact .inl h0
    · right
      rw [List.pairwise_iff_getElem] at h2
      exact h2 (i - 1) i (by omega) hi3 (by omega)

/-! ### Valid repairs -/

def repB (l : List SRepair) (i : Nat) : Bool :=
  nameB (l.getD i rD).Name && (risB 0 9 (l.getD i rD).Mends && (risB 0 ((i : Int) - 1) (l.getD i rD).First && (inRB 0 100000 (l.getD i rD).Price && (inRB 0 1000 (l.getD i rD).Hours && (l.take i).all (fun o => !(o.Name == (l.getD i rD).Name))))))

def repsB (l : List SRepair) : Bool := (List.range l.length).all (repB l) && decide (l.length ≤ 10)

theorem pred64 {i : Nat} (h : i ≤ 1048576) : wI64 ((i : Int) - 1) = (i : Int) - 1 := wI64_eq (by omega) (by omega)

theorem p_l21Ok_l2 (n : Nat) (l : List SRepair) (i : Nat) (x : SRepair) (hi : i < l.length) (hl : l.length ≤ 1048576) (hn : 1048576 < n) :
    loopN (m_spec_l21Ok_l2 n l (i : Int) x) n 0 = some (if (l.take i).all (fun o => !(o.Name == x.Name)) then .inl () else .inr false) := by
  have hlen : (l.take i).length = i := by simp; omega
  have key := loopN_listAll (body := m_spec_l21Ok_l2 n l (i : Int) x) (l.take i) (fun o => !(o.Name == x.Name)) (fun i => (i : Int)) (.inl ()) (.inr false)
    (fun k o ho => by
      have hk := lt_of_get ho
      rw [hlen] at hk
      have ho2 : l[k]? = some o := by rw [List.getElem?_take] at ho; simpa [hk] using ho
      unfold m_spec_l21Ok_l2
      simp only [ltB hk, if_true, idx_nat, ho2, Option.bind_some, succ64 hk (by omega)]
      cases o.Name == x.Name <;> rfl)
    (by unfold m_spec_l21Ok_l2; rw [hlen]; simp) n (by rw [hlen]; omega)
  exact key

theorem p_l21Ok (n : Nat) (l : List SRepair) (hs : smallR l) (hn : 1048576 < n) : m_spec_l21Ok n l = some (repsB l) := by
  have hl : l.length ≤ 1048576 := by have := hs.1; omega
  unfold m_spec_l21Ok repsB
  have key := loopN_all (body := m_spec_l21Ok_l1 n l) (fun i => (i : Int)) (.inl ()) (.inr false) l.length (repB l)
    (fun i hi => by
      have hg : l[i]? = some (l.getD i rD) := getD_of hi rD
      obtain ⟨-, b1, b2, b3⟩ := smallR_rows hs (List.mem_of_getElem? hg)
      unfold m_spec_l21Ok_l1 repB
      simp only [ltB hi, if_true, idx_nat, hg, Option.bind_some, p_specIsName n _ b3 hn, p_l00Rises n _ _ _ b1 hn, p_l00Rises n _ _ _ b2 hn, p_l00In, pred64 (show i ≤ 1048576 by omega), p_l21Ok_l2 n l i _ hi hl hn, succ64 hi (by omega)]
      unfold inRB
      cases nameB (l.getD i rD).Name <;> cases risB 0 9 (l.getD i rD).Mends <;> cases risB 0 ((i : Int) - 1) (l.getD i rD).First <;> cases (decide (0 ≤ (l.getD i rD).Price) && decide ((l.getD i rD).Price ≤ 100000)) <;>
        cases (decide (0 ≤ (l.getD i rD).Hours) && decide ((l.getD i rD).Hours ≤ 1000)) <;> cases (l.take i).all (fun o => !(o.Name == (l.getD i rD).Name)) <;> rfl)
    (by unfold m_spec_l21Ok_l1; simp) n (by omega)
  have k1 : loopN (m_spec_l21Ok_l1 n l) n 0 = _ := key
  rw [k1]
  have h10 : decide ((l.length : Int) ≤ 10) = decide (l.length ≤ 10) := decide_eq_decide.2 (by omega)
  cases (List.range l.length).all (repB l) with
  | true => simp only [if_true, Option.bind_some, h10, Bool.true_and]
  | false => rfl

theorem p_hasName (n : Nat) (l : List SRepair) (x : SRepair) (hl : l.length ≤ 1048576) (hn : 1048576 < n) : m_slices_ContainsFunc_impl_Repair_impl_Repair_f67 n l x = some (!l.all (fun o => !(o.Name == x.Name))) := by
  unfold m_slices_ContainsFunc_impl_Repair_impl_Repair_f67 m_slices_IndexFunc_impl_Repair_impl_Repair_f67
  have key := loopN_index (body := m_slices_IndexFunc_impl_Repair_impl_Repair_f67_l1 n l x) l (fun o => o.Name == x.Name)
    (fun i o ho => by
      have hlt := lt_of_get ho
      unfold m_slices_IndexFunc_impl_Repair_impl_Repair_f67_l1 m_impl_ValidRepairs_1
      simp only [ltB hlt, if_true, idx_nat, ho, Option.bind_some, succ64 hlt (by omega)]
      cases o.Name == x.Name <;> rfl)
    (by unfold m_slices_IndexFunc_impl_Repair_impl_Repair_f67_l1; simp) n (by omega)
  rw [key]
  cases h : l.findIdx? (fun o => o.Name == x.Name) with
  | none =>
    rw [List.findIdx?_eq_none_iff] at h
    have : l.all (fun o => !(o.Name == x.Name)) = true := by rw [List.all_eq_true]; intro o ho; simp [h o ho]
    rw [this]; rfl
  | some i =>
    rw [List.findIdx?_eq_some_iff_getElem] at h
    obtain ⟨hi, hp, -⟩ := h
    have : l.all (fun o => !(o.Name == x.Name)) = false := by rw [List.all_eq_false]; exact ⟨_, List.getElem_mem hi, by simp [hp]⟩
    rw [this]
    have h0 : decide ((i : Int) ≥ 0) = true := decide_eq_true (by omega)
    simp only [Option.bind_some, h0, Bool.not_false]

theorem p_implValidRepairs (n : Nat) (l : List SRepair) (hs : smallR l) (hn : 1048576 < n) : m_impl_ValidRepairs n l = some (repsB l) := by
  have hl : l.length ≤ 1048576 := by have := hs.1; omega
  unfold m_impl_ValidRepairs repsB
  have key := loopN_all (body := m_impl_ValidRepairs_l1 n l) (fun i => (i : Int)) (.inl ()) (.inr false) l.length (repB l)
    (fun i hi => by
      have hg : l[i]? = some (l.getD i rD) := getD_of hi rD
      obtain ⟨-, b1, b2, b3⟩ := smallR_rows hs (List.mem_of_getElem? hg)
      have hsub : sub l 0 (i : Int) = some (l.take i) := by
        unfold sub
        rw [if_pos ⟨by omega, by omega, by omega⟩]; simp
      have hlt : (l.take i).length ≤ 1048576 := by simp; omega
      unfold m_impl_ValidRepairs_l1 repB m_impl_areFaults
      simp only [ltB hi, if_true, idx_nat, hg, Option.bind_some, p_implIsName n _ b3 hn, p_isIncreasing n _ _ _ b1 hn, p_isIncreasing n _ _ _ b2 hn, p_within, pred64 (show i ≤ 1048576 by omega), hsub, p_hasName n _ _ hlt hn, succ64 hi (by omega)]
      unfold inRB
      cases nameB (l.getD i rD).Name <;> cases risB 0 9 (l.getD i rD).Mends <;> cases risB 0 ((i : Int) - 1) (l.getD i rD).First <;> cases (decide (0 ≤ (l.getD i rD).Price) && decide ((l.getD i rD).Price ≤ 100000)) <;>
        cases (decide (0 ≤ (l.getD i rD).Hours) && decide ((l.getD i rD).Hours ≤ 1000)) <;> cases (l.take i).all (fun o => !(o.Name == (l.getD i rD).Name)) <;> rfl)
    (by unfold m_impl_ValidRepairs_l1; simp) n (by omega)
  have k1 : loopN (m_impl_ValidRepairs_l1 n l) n 0 = _ := key
  rw [k1]
  have h10 : decide ((l.length : Int) ≤ 10) = decide (l.length ≤ 10) := decide_eq_decide.2 (by omega)
  cases (List.range l.length).all (repB l) with
  | true => simp only [if_true, Option.bind_some, h10, Bool.true_and]
  | false => rfl

def someB (l : List SRepair) (s : List Int) : Bool := risB 0 ((l.length : Int) - 1) s

def codeB (l : List SRepair) (s f : List Int) : Int := if repsB l then (if someB l s && risB 0 9 f then 0 else 2) else 1

theorem codeB_01 (l : List SRepair) (s f : List Int) : codeB l s f = 0 ∨ codeB l s f = 1 ∨ codeB l s f = 2 := by
  unfold codeB
  cases repsB l <;> cases (someB l s && risB 0 9 f) <;> simp

theorem risB_nil (lo hi : Int) : risB lo hi [] = true := rfl

theorem p_l21Some (n : Nat) (l : List SRepair) (s : List Int) (hl : smallR l) (hs : s.length ≤ 1048576) (hn : 1048576 < n) : m_spec_l21Some n l s = some (codeB l s []) := by
  have hll : l.length ≤ 1048576 := by have := hl.1; omega
  unfold m_spec_l21Some codeB someB
  simp only [p_l21Ok n l hl hn, Option.bind_some, pred64 hll, p_l00Rises n s _ _ hs hn, risB_nil, Bool.and_true]
  cases repsB l <;> cases risB 0 ((l.length : Int) - 1) s <;> rfl

theorem p_l21Faults (n : Nat) (l : List SRepair) (s f : List Int) (hl : smallR l) (hs : s.length ≤ 1048576) (hf : f.length ≤ 1048576) (hn : 1048576 < n) : m_spec_l21Faults n l s f = some (codeB l s f) := by
  unfold m_spec_l21Faults
  simp only [p_l21Some n l s hl hs hn, Option.bind_some, p_l00Rises n f _ _ hf hn]
  unfold codeB
  simp only [risB_nil, Bool.and_true]
  cases repsB l <;> cases someB l s <;> cases risB 0 9 f <;> rfl

theorem p_someCode (n : Nat) (l : List SRepair) (s f : List Int) (hl : smallR l) (hs : s.length ≤ 1048576) (hf : f.length ≤ 1048576) (hn : 1048576 < n) : m_impl_someCode n l s f = some (codeB l s f) := by
  have hll : l.length ≤ 1048576 := by have := hl.1; omega
  unfold m_impl_someCode m_impl_areFaults codeB someB
  simp only [p_implValidRepairs n l hl hn, Option.bind_some, pred64 hll, p_isIncreasing n s _ _ hs hn, p_isIncreasing n f _ _ hf hn]
  cases repsB l <;> cases risB 0 ((l.length : Int) - 1) s <;> cases risB 0 9 f <;> rfl

/-- What is known of valid repairs. -/
structure Vr (l : List SRepair) : Prop where
  len : l.length ≤ 10
  first : ∀ (i : Nat) x, l[i]? = some x → (∀ b ∈ x.First, 0 ≤ b ∧ b < (i : Int)) ∧ x.First.Pairwise (· < ·)
  mends : ∀ x ∈ l, (∀ b ∈ x.Mends, 0 ≤ b ∧ b ≤ 9) ∧ x.Mends.Pairwise (· < ·)
  price : ∀ x ∈ l, 0 ≤ x.Price ∧ x.Price ≤ 100000
  hours : ∀ x ∈ l, 0 ≤ x.Hours ∧ x.Hours ≤ 1000

theorem vr_of {l : List SRepair} (h : repsB l = true) : Vr l := by
  unfold repsB at h
  simp only [Bool.and_eq_true, decide_eq_true_eq, List.all_eq_true, List.mem_range] at h
  obtain ⟨h1, h2⟩ := h
  have at_ : ∀ (i : Nat) x, l[i]? = some x → risB 0 9 x.Mends = true ∧ risB 0 ((i : Int) - 1) x.First = true ∧ (0 ≤ x.Price ∧ x.Price ≤ 100000) ∧ 0 ≤ x.Hours ∧ x.Hours ≤ 1000 := by
    intro i x hx
    have := h1 i (lt_of_get hx)
    unfold repB inRB at this
    rw [List.getD_eq_getElem?_getD, hx] at this
    simp only [Option.getD_some, Bool.and_eq_true, decide_eq_true_eq] at this
    exact ⟨this.2.1, this.2.2.1, this.2.2.2.1, this.2.2.2.2.1⟩
  refine ⟨h2, fun i x hx => ?_, fun x hx => ?_, fun x hx => ?_, fun x hx => ?_⟩
  · obtain ⟨g1, g2⟩ := risB_spec.1 (at_ i x hx).2.1
    exact ⟨fun b hb => by have := g1 b hb; omega, g2⟩
  all_goals
    obtain ⟨i, hi⟩ := List.getElem?_of_mem hx
    have := at_ i x hi
  · exact risB_spec.1 this.1
  · exact this.2.2.1
  · exact this.2.2.2

/-- What is known of some of them. -/
structure Sm (l : List SRepair) (s : List Int) : Prop where
  mem : ∀ k ∈ s, 0 ≤ k ∧ k < (l.length : Int)
  inc : s.Pairwise (· < ·)

theorem sm_of {l : List SRepair} {s : List Int} (h : someB l s = true) : Sm l s := by
  obtain ⟨h1, h2⟩ := risB_spec.1 h
  exact ⟨fun k hk => by have := h1 k hk; omega, h2⟩

theorem someB_of {l : List SRepair} {s : List Int} (h : Sm l s) : someB l s = true := risB_spec.2 ⟨fun k hk => by have := h.mem k hk; omega, h.inc⟩

theorem code0 {l : List SRepair} {s f : List Int} (h : codeB l s f = 0) : Vr l ∧ Sm l s ∧ ((∀ b ∈ f, 0 ≤ b ∧ b ≤ 9) ∧ f.Pairwise (· < ·)) := by
  unfold codeB at h
  cases h1 : repsB l with
  | false => simp [h1] at h
  | true =>
    cases h2 : someB l s with
    | false => simp [h1, h2] at h
    | true =>
      cases h3 : risB 0 9 f with
      | false => simp [h1, h2, h3] at h
      | true => exact ⟨vr_of h1, sm_of h2, risB_spec.1 h3⟩

/-- Rising numbers from 0 on, below a bound, are few. -/
theorem inc_len : ∀ (s : List Int) (a N : Nat), (∀ k ∈ s, (a : Int) ≤ k ∧ k < (N : Int)) → s.Pairwise (· < ·) → s.length ≤ N - a
  | [], _, _, _, _ => by simp
  | x :: xs, a, N, h, hp => by
    have hx := h x (by simp)
    rw [List.pairwise_cons] at hp
    have := inc_len xs (x.toNat + 1) N (fun k hk => ⟨by have := hp.1 k hk; omega, (h k (by simp [hk])).2⟩) hp.2
    simp only [List.length_cons]; omega

theorem Sm.len {l : List SRepair} {s : List Int} (h : Sm l s) : s.length ≤ l.length := by
  have := inc_len s 0 l.length (fun k hk => h.mem k hk) h.inc
  omega

theorem Sm.at {l : List SRepair} {s : List Int} (h : Sm l s) {k : Int} (hk : k ∈ s) : idx l k = some (l.getD k.toNat rD) ∧ l.getD k.toNat rD ∈ l ∧ k.toNat < l.length := by
  have := h.mem k hk
  have hlt : k.toNat < l.length := by omega
  have hg := getD_of hlt rD
  refine ⟨?_, List.mem_of_getElem? hg, hlt⟩
  unfold idx; rw [if_pos this.1]; exact hg

def sumL (f : SRepair → Int) (l : List SRepair) (s : List Int) : Int := s.foldl (fun b k => b + f (l.getD k.toNat rD)) 0

theorem foldl_add (g : Int → Int) : ∀ (s : List Int) (b : Int), s.foldl (fun b k => b + g k) b = b + s.foldl (fun b k => b + g k) 0
  | [], b => by simp
  | x :: xs, b => by
    simp only [List.foldl_cons]
    rw [foldl_add g xs (b + g x), foldl_add g xs (0 + g x)]; omega

theorem foldl_bound (g : Int → Int) (C : Nat) : ∀ (s : List Int), (∀ k ∈ s, 0 ≤ g k ∧ g k ≤ (C : Int)) → 0 ≤ s.foldl (fun b k => b + g k) 0 ∧ s.foldl (fun b k => b + g k) 0 ≤ ((C * s.length : Nat) : Int)
  | [], _ => by simp
  | x :: xs, h => by
    have h1 := foldl_bound g C xs fun k hk => h k (by simp [hk])
    have h2 := h x (by simp)
    simp only [List.foldl_cons, List.length_cons]
    rw [foldl_add]
    have : C * (xs.length + 1) = C * xs.length + C := by rw [Nat.mul_add, Nat.mul_one]
    omega

theorem sum_loop (n : Nat) (body : Int × Int → Option (Step (Int × Int) Int)) (f : SRepair → Int) (C : Nat) (hC : C ≤ 100000) (l : List SRepair) (s : List Int) (hs : Sm l s) (hl : l.length ≤ 10) (hf : ∀ x ∈ l, 0 ≤ f x ∧ f x ≤ (C : Int))
    (hb : body = fun st => if (decide (st.2 < (s.length : Int))) then Option.bind (idx s st.2) fun x => Option.bind (idx l x) fun y => some (.next ((wI64 (st.1 + f y)), (wI64 (st.2 + 1)))) else some (.done st.1)) (hn : 1048576 < n) :
    loopN body n (0, 0) = some (sumL f l s) := by
  have hsl := hs.len
  have hg : ∀ k ∈ s, 0 ≤ f (l.getD k.toNat rD) ∧ f (l.getD k.toNat rD) ≤ (C : Int) := fun k hk => hf _ (hs.at hk).2.1
  have key := loopN_fold (body := body) s (fun b k => b + f (l.getD k.toNat rD)) (0 : Int) (fun i b => (b, (i : Int))) id (fun i b => b = (s.take i).foldl (fun b k => b + f (l.getD k.toNat rD)) 0) (by simp)
    (fun i x b hx hb2 => by
      have hlt := lt_of_get hx
      have hm := List.mem_of_getElem? hx
      have h1 := foldl_bound (fun k => f (l.getD k.toNat rD)) C (s.take i) (fun k hk => hg k (List.mem_of_mem_take hk))
      have h2 := hg x hm
      rw [← hb2] at h1
      have hlen : (s.take i).length ≤ 10 := by simp; omega
      have hmul : C * (s.take i).length ≤ 100000 * 10 := Nat.mul_le_mul hC hlen
      have w1 : wI64 (b + f (l.getD x.toNat rD)) = b + f (l.getD x.toNat rD) := wI64_eq (by omega) (by omega)
      refine ⟨?_, ?_⟩
      · rw [hb]
        simp only [ltB hlt, if_true, idx_nat, hx, Option.bind_some, (hs.at hm).1, w1, succ64 hlt (by omega)]
      · rw [List.take_add_one, hx, List.foldl_append, ← hb2]; rfl)
    (fun b _ => by rw [hb]; simp) n (by omega)
  exact key.1

theorem p_specPrice (n : Nat) (l : List SRepair) (s : List Int) (hl : Vr l) (hs : Sm l s) (hn : 1048576 < n) : m_spec_l21Price n l s = some (sumL (·.Price) l s) := by
  unfold m_spec_l21Price
  rw [sum_loop n (m_spec_l21Price_l1 n l s) (·.Price) 100000 (by omega) l s hs hl.len (fun x hx => hl.price x hx) rfl hn]; rfl

theorem p_implPrice (n : Nat) (l : List SRepair) (s : List Int) (hl : Vr l) (hs : Sm l s) (hn : 1048576 < n) : m_impl_priceOf n l s = some (sumL (·.Price) l s) := p_specPrice n l s hl hs hn

theorem sumL_bound {l : List SRepair} {s : List Int} (hl : Vr l) (hs : Sm l s) : 0 ≤ sumL (·.Price) l s ∧ sumL (·.Price) l s ≤ 1000000 := by
  have h1 := foldl_bound (fun k => (l.getD k.toNat rD).Price) 100000 s (fun k hk => hl.price _ (hs.at hk).2.1)
  have h2 := hs.len
  have h3 := hl.len
  have hmul : 100000 * s.length ≤ 100000 * 10 := Nat.mul_le_mul_left _ (by omega)
  refine ⟨h1.1, Int.le_trans h1.2 ?_⟩
  omega

theorem p_specPriceOf (n : Nat) (l : List SRepair) (s : List Int) (hl : smallR l) (hs : s.length ≤ 1048576) (hn : 1048576 < n) :
    m_spec_PriceOfRepairs n l s = some (if codeB l s [] = 0 then (sumL (·.Price) l s, 0) else (0, codeB l s [])) := by
  unfold m_spec_PriceOfRepairs
  simp only [p_l21Some n l s hl hs hn, Option.bind_some]
  by_cases h : codeB l s [] = 0
  · obtain ⟨h1, h2, -⟩ := code0 h
    simp only [h, bne_self_eq_false, Bool.false_eq_true, if_false, p_specPrice n l s h1 h2 hn, Option.bind_some, if_true]
  · have hb : (codeB l s [] != 0) = true := by simp [bne, h]
    simp only [hb, h, if_true, if_false]

theorem p_implPriceOf (n : Nat) (l : List SRepair) (s : List Int) (hl : smallR l) (hs : s.length ≤ 1048576) (hn : 1048576 < n) :
    m_impl_PriceOfRepairs n l s = some (if codeB l s [] = 0 then (sumL (·.Price) l s, 0) else (0, codeB l s [])) := by
  unfold m_impl_PriceOfRepairs
  simp only [p_someCode n l s [] hl hs (by simp) hn, Option.bind_some]
  by_cases h : codeB l s [] = 0
  · obtain ⟨h1, h2, -⟩ := code0 h
    simp only [h, bne_self_eq_false, Bool.false_eq_true, if_false, p_implPrice n l s h1 h2 hn, Option.bind_some, if_true]
  · have hb : (codeB l s [] != 0) = true := by simp [bne, h]
    simp only [hb, h, if_true, if_false]

theorem p_specHoursOf (n : Nat) (l : List SRepair) (s : List Int) (hl : smallR l) (hs : s.length ≤ 1048576) (hn : 1048576 < n) :
    m_spec_HoursOfRepairs n l s = some (if codeB l s [] = 0 then (sumL (·.Hours) l s, 0) else (0, codeB l s [])) := by
  unfold m_spec_HoursOfRepairs
  simp only [p_l21Some n l s hl hs hn, Option.bind_some]
  by_cases h : codeB l s [] = 0
  · obtain ⟨h1, h2, -⟩ := code0 h
    simp only [h, bne_self_eq_false, Bool.false_eq_true, if_false, sum_loop n (m_spec_HoursOfRepairs_l1 n l s) (·.Hours) 1000 (by omega) l s h2 h1.len (fun x hx => h1.hours x hx) rfl hn, Option.bind_some, if_true]
  · have hb : (codeB l s [] != 0) = true := by simp [bne, h]
    simp only [hb, h, if_true, if_false]

theorem p_implHoursOf (n : Nat) (l : List SRepair) (s : List Int) (hl : smallR l) (hs : s.length ≤ 1048576) (hn : 1048576 < n) :
    m_impl_HoursOfRepairs n l s = some (if codeB l s [] = 0 then (sumL (·.Hours) l s, 0) else (0, codeB l s [])) := by
  unfold m_impl_HoursOfRepairs
  simp only [p_someCode n l s [] hl hs (by simp) hn, Option.bind_some]
  by_cases h : codeB l s [] = 0
  · obtain ⟨h1, h2, -⟩ := code0 h
    simp only [h, bne_self_eq_false, Bool.false_eq_true, if_false, sum_loop n (m_impl_HoursOfRepairs_l1 n l s) (·.Hours) 1000 (by omega) l s h2 h1.len (fun x hx => h1.hours x hx) rfl hn, Option.bind_some, if_true]
  · have hb : (codeB l s [] != 0) = true := by simp [bne, h]
    simp only [hb, h, if_true, if_false]

theorem big_len {s : List Int} (h : decide ((s.length : Int) > 1048576) = false) : s.length ≤ 1048576 := by
  have := of_decide_eq_false h; omega

/-! ### A number in a list -/

theorem p_l00Has (n : Nat) (l : List Int) (v : Int) (hl : l.length ≤ 1048576) (hn : 1048576 < n) : m_spec_l00Has n l v = some (l.contains v) := by
  unfold m_spec_l00Has
  have key := loopN_listAll (body := m_spec_l00Has_l1 n l v) l (fun x => !(x == v)) (fun i => (i : Int)) (.inl ()) (.inr true)
    (fun i x hx => by
      have hlt := lt_of_get hx
      unfold m_spec_l00Has_l1
      simp only [ltB hlt, if_true, idx_nat, hx, Option.bind_some, succ64 hlt (by omega)]
      cases x == v <;> rfl)
    (by unfold m_spec_l00Has_l1; simp) n (by omega)
  have k1 : loopN (m_spec_l00Has_l1 n l v) n 0 = _ := key
  rw [k1]
  have hc : l.contains v = !l.all (fun x => !(x == v)) := by
    rw [Bool.eq_iff_iff, List.contains_iff_mem]
    simp only [Bool.not_eq_true', List.all_eq_false]
    constructor
    · intro h; exact ⟨v, h, by simp⟩
    · rintro ⟨x, hx, h⟩
      have : x = v := by simpa using h
      exact this ▸ hx
  rw [hc]
  cases l.all (fun x => !(x == v)) <;> rfl

theorem p_Contains (n : Nat) (l : List Int) (v : Int) (hl : l.length ≤ 1048576) (hn : 1048576 < n) : m_slices_Contains_int64_int64 n l v = some (l.contains v) := by
  unfold m_slices_Contains_int64_int64 m_slices_Index_int64_int64
  have key := loopN_index (body := m_slices_Index_int64_int64_l1 n l v) l (fun x => v == x)
    (fun i x hx => by
      have hlt := lt_of_get hx
      unfold m_slices_Index_int64_int64_l1
      simp only [ltB hlt, if_true, idx_nat, hx, Option.bind_some, succ64 hlt (by omega)]
      cases v == x <;> rfl)
    (by unfold m_slices_Index_int64_int64_l1; simp) n (by omega)
  rw [key]
  cases h : l.findIdx? (fun x => v == x) with
  | none =>
    rw [List.findIdx?_eq_none_iff] at h
    have : l.contains v = false := by
      rw [Bool.eq_false_iff]; intro hc
      rw [List.contains_iff_mem] at hc
      have := h v hc; simp at this
    rw [this]; rfl
  | some i =>
    rw [List.findIdx?_eq_some_iff_getElem] at h
    obtain ⟨hi, hp, -⟩ := h
    have : l.contains v = true := by
      rw [List.contains_iff_mem]
      have e : v = l[i] := by simpa using hp
      rw [e]; exact List.getElem_mem hi
    rw [this]
    have h0 : decide ((i : Int) ≥ 0) = true := decide_eq_true (by omega)
    simp only [Option.bind_some, h0]

/-- A loop that keeps the numbers of some rounds. -/
theorem loopN_keep {τ : Type} {body : List Int × Int → Option (Step (List Int × Int) τ)} (N : Nat) (c : Nat → Bool) (g : Nat → Int) (out : List Int → τ)
    (hstep : ∀ i l, i < N → l.length ≤ i → body (l, (i : Int)) = some (.next (if c i then l ++ [g i] else l, ((i + 1 : Nat) : Int))))
    (hend : ∀ l, l.length ≤ N → body (l, (N : Int)) = some (.done (out l))) (n : Nat) (hn : N < n) : loopN body n ([], 0) = some (out (((List.range N).filter c).map g)) := by
  have hlen : ∀ i, (((List.range i).filter c).map g).length ≤ i := fun i => by
    rw [List.length_map]; have := List.length_filter_le c (List.range i); simpa using this
  have := loopN_run (body := body) (fun i => (((List.range i).filter c).map g, (i : Int))) (out (((List.range N).filter c).map g)) N (fun i hi => by
    rw [hstep i _ hi (hlen i), List.range_succ, List.filter_append, List.map_append]
    cases hc : c i <;> simp [hc]) (hend _ (hlen N)) n hn
  simpa using this

def mendsB (l : List SRepair) (f : Int) (i : Nat) : Bool := (l.getD i rD).Mends.contains f

def mendersL (l : List SRepair) (f : Int) : List Int := ((List.range l.length).filter (mendsB l f)).map (fun i : Nat => (i : Int))

theorem mendersL_len (l : List SRepair) (f : Int) : (mendersL l f).length ≤ l.length := by
  unfold mendersL; rw [List.length_map]; have := List.length_filter_le (mendsB l f) (List.range l.length); simpa using this

def forB (l : List SRepair) (f : Int) : List Int × Int := if repsB l then (if inRB 0 9 f then (mendersL l f, 0) else ([], 2)) else ([], 1)

theorem forB_len (l : List SRepair) (f : Int) (hl : smallR l) : (forB l f).1.length ≤ 1048576 := by
  have hll : l.length ≤ 1048576 := by have := hl.1; omega
  have := mendersL_len l f
  unfold forB
  cases repsB l <;> cases inRB 0 9 f <;> simp
  omega

theorem p_specRepairsFor (n : Nat) (l : List SRepair) (f : Int) (hl : smallR l) (hn : 1048576 < n) : m_spec_RepairsFor n l f = some (forB l f) := by
  have hll : l.length ≤ 1048576 := by have := hl.1; omega
  unfold m_spec_RepairsFor forB
  have key := loopN_keep (body := m_spec_RepairsFor_l1 n l f) l.length (mendsB l f) (fun i : Nat => (i : Int)) id
    (fun i o hi ho => by
      have hg : l[i]? = some (l.getD i rD) := getD_of hi rD
      obtain ⟨-, b1, -, -⟩ := smallR_rows hl (List.mem_of_getElem? hg)
      unfold m_spec_RepairsFor_l1 mendsB
      simp only [ltB hi, if_true, idx_nat, hg, Option.bind_some, p_l00Has n _ _ b1 hn, succ64 hi (by omega)]
      rw [app_eq (by simp; omega)]
      cases (l.getD i rD).Mends.contains f <;> rfl)
    (fun o _ => by unfold m_spec_RepairsFor_l1; simp) n (by omega)
  simp only [p_l21Ok n l hl hn, Option.bind_some, p_l00In, key]
  unfold inRB
  cases repsB l <;> cases (decide (0 ≤ f) && decide (f ≤ 9)) <;> rfl

theorem p_implRepairsFor (n : Nat) (l : List SRepair) (f : Int) (hl : smallR l) (hn : 1048576 < n) : m_impl_RepairsFor n l f = some (forB l f) := by
  have hll : l.length ≤ 1048576 := by have := hl.1; omega
  unfold m_impl_RepairsFor forB
  have key := loopN_keep (body := m_impl_RepairsFor_l1 n l f) l.length (mendsB l f) (fun i : Nat => (i : Int)) id
    (fun i o hi ho => by
      have hg : l[i]? = some (l.getD i rD) := getD_of hi rD
      obtain ⟨-, b1, -, -⟩ := smallR_rows hl (List.mem_of_getElem? hg)
      unfold m_impl_RepairsFor_l1 mendsB
      simp only [ltB hi, if_true, idx_nat, hg, Option.bind_some, p_Contains n _ _ b1 hn, succ64 hi (by omega)]
      rw [app_eq (by simp; omega)]
      cases (l.getD i rD).Mends.contains f <;> rfl)
    (fun o _ => by unfold m_impl_RepairsFor_l1; simp) n (by omega)
  simp only [p_implValidRepairs n l hl hn, Option.bind_some, p_within, key]
  unfold inRB
  cases repsB l <;> cases (decide (0 ≤ f) && decide (f ≤ 9)) <;> rfl

/-! ### Masks -/

theorem ior_nat (a b : Nat) (ha : a < 2 ^ 62) (hb : b < 2 ^ 62) : ior .i64 (a : Int) (b : Int) = ((a ||| b : Nat) : Int) := by
  have h1 : a ||| b < 2 ^ 62 := Nat.or_lt_two_pow ha hb
  have e : (BitVec.ofInt 64 (a : Int) ||| BitVec.ofInt 64 (b : Int)).toNat = a ||| b := by
    rw [BitVec.ofInt_natCast, BitVec.ofInt_natCast, BitVec.toNat_or, BitVec.toNat_ofNat, BitVec.toNat_ofNat, Nat.mod_eq_of_lt (by omega), Nat.mod_eq_of_lt (by omega)]
  unfold ior
  show wI64 ((BitVec.ofInt 64 (a : Int) ||| BitVec.ofInt 64 (b : Int)).toNat : Int) = _
  rw [e, wI64_eq (by omega) (by omega)]

theorem iand_one (m : Nat) (hm : m < 2 ^ 62) : iand .i64 (m : Int) 1 = ((m % 2 : Nat) : Int) := by
  have e : (BitVec.ofInt 64 (m : Int) &&& BitVec.ofInt 64 (1 : Int)).toNat = m % 2 := by
    rw [show (1 : Int) = ((1 : Nat) : Int) from rfl, BitVec.ofInt_natCast, BitVec.ofInt_natCast, BitVec.toNat_and, BitVec.toNat_ofNat, BitVec.toNat_ofNat, Nat.mod_eq_of_lt (by omega), Nat.mod_eq_of_lt (by omega), Nat.and_one_is_mod]
  unfold iand
  show wI64 ((BitVec.ofInt 64 (m : Int) &&& BitVec.ofInt 64 (1 : Int)).toNat : Int) = _
  rw [e, wI64_eq (by omega) (by omega)]

theorem nat64 {m : Nat} (h : m < 2 ^ 62) : wI64 (m : Int) = (m : Int) := wI64_eq (by omega) (by omega)

theorem shl_one (k : Nat) (hk : k < 62) : shl .i64 1 (IntKind.u64.wrap (k : Int)) = some ((2 ^ k : Nat) : Int) := by
  rw [wU64_eq (by omega) (by omega)]
  unfold shl
  have h2 : (2 : Nat) ^ k < 2 ^ 62 := Nat.pow_lt_pow_right (by omega) hk
  have e : min (k : Int).toNat IntKind.i64.bits = k := by show min (k : Int).toNat 64 = k; omega
  rw [if_neg (by omega), e, Int.one_mul]
  have e2 : ((2 : Int) ^ k) = ((2 ^ k : Nat) : Int) := by simp
  rw [e2]
  exact congrArg some (nat64 h2)

theorem shr_nat (m k : Nat) (hk : k < 62) : shr .i64 (m : Int) (IntKind.u64.wrap (k : Int)) = some ((m / 2 ^ k : Nat) : Int) := by
  rw [wU64_eq (by omega) (by omega)]
  unfold shr
  have e : min (k : Int).toNat IntKind.i64.bits = k := by show min (k : Int).toNat 64 = k; omega
  rw [if_neg (by omega), e]
  have e2 : ((2 : Int) ^ k) = ((2 ^ k : Nat) : Int) := by simp
  rw [e2, ← Int.ofNat_fdiv]

theorem bit_eq (m k : Nat) : (((m / 2 ^ k % 2 : Nat) : Int) == 1) = m.testBit k := by
  rw [Nat.testBit_eq_decide_div_mod_eq]
  rcases Nat.mod_two_eq_zero_or_one (m / 2 ^ k) with h | h <;> rw [h] <;> rfl

theorem p_has (n m k : Nat) (hm : m < 2 ^ 62) (hk : k < 62) : m_impl_has n (m : Int) (k : Int) = some (m.testBit k) := by
  unfold m_impl_has
  have hd : m / 2 ^ k < 2 ^ 62 := Nat.lt_of_le_of_lt (Nat.div_le_self _ _) hm
  rw [shr_nat m k hk, Option.bind_some, iand_one _ hd, bit_eq]

def MaskIs (m : Nat) (S : List Int) : Prop := m < 2 ^ 62 ∧ ∀ k : Nat, k < 62 → m.testBit k = S.contains (k : Int)

theorem MaskIs.zero : MaskIs 0 [] := ⟨by decide, fun k _ => by simp⟩

theorem MaskIs.cons {m : Nat} {S : List Int} (h : MaskIs m S) {b : Nat} (hb : b < 62) : MaskIs (m ||| 2 ^ b) ((b : Int) :: S) := by
  refine ⟨Nat.or_lt_two_pow h.1 (Nat.pow_lt_pow_right (by omega) hb), fun k hk => ?_⟩
  rw [Nat.testBit_or, h.2 k hk, Nat.testBit_two_pow]
  by_cases e : b = k
  · subst e; simp
  · have e2 : ¬ ((k : Int) = (b : Int)) := by omega
    have e3 : ((k : Int) == (b : Int)) = false := by simp [e2]
    rw [List.contains_cons, e3]; simp [e]

theorem MaskIs.congr {m : Nat} {S S' : List Int} (h : MaskIs m S) (hS : ∀ x, x ∈ S ↔ x ∈ S') : MaskIs m S' :=
  ⟨h.1, fun k hk => by
    rw [h.2 k hk, Bool.eq_iff_iff, List.contains_iff_mem, List.contains_iff_mem]; exact hS _⟩

/-- Numbers are put into a mask. -/
theorem mask_loop (n : Nat) (body : Int × Int → Option (Step (Int × Int) Int)) (s : List Int) (hs : ∀ k ∈ s, 0 ≤ k ∧ k < 62) (hl : s.length ≤ 1048576)
    (hb : body = fun st => if (decide (st.2 < (s.length : Int))) then Option.bind (idx s st.2) fun x => Option.bind (shl .i64 1 (IntKind.u64.wrap x)) fun y => some (.next ((ior .i64 st.1 y), (wI64 (st.2 + 1)))) else some (.done st.1)) (hn : 1048576 < n)
    (m : Nat) (S : List Int) (hm : MaskIs m S) : ∃ m' : Nat, loopN body n ((m : Int), 0) = some (m' : Int) ∧ MaskIs m' (s ++ S) := by
  have key := loopN_fold (body := body) s (fun (b : Nat) k => b ||| 2 ^ k.toNat) m (fun i b => ((b : Int), (i : Int))) (fun b => (b : Int)) (fun i b => MaskIs b ((s.take i).reverse ++ S)) (by simpa using hm)
    (fun i x b hx hM => by
      have hlt := lt_of_get hx
      have hx2 := hs x (List.mem_of_getElem? hx)
      obtain ⟨k, rfl⟩ : ∃ k : Nat, x = (k : Int) := ⟨x.toNat, by omega⟩
      have hk : k < 62 := by omega
      refine ⟨?_, ?_⟩
      · rw [hb]
        simp only [ltB hlt, if_true, idx_nat, hx, Option.bind_some, shl_one k hk, ior_nat b (2 ^ k) hM.1 (Nat.pow_lt_pow_right (by omega) hk), succ64 hlt (by omega), Int.toNat_natCast]
      · have := hM.cons hk
        rw [List.take_add_one, hx]
        simpa using this)
    (fun b _ => by rw [hb]; simp) n (by omega)
  refine ⟨_, key.1, key.2.congr fun x => ?_⟩
  simp [List.take_length]

/-! ### Rising numbers -/

theorem sorted_ext : ∀ (a b : List Int), a.Pairwise (· < ·) → b.Pairwise (· < ·) → (∀ x, x ∈ a ↔ x ∈ b) → a = b
  | [], [], _, _, _ => rfl
  | [], y :: ys, _, _, h => by have := (h y).2 (by simp); simp at this
  | x :: xs, [], _, _, h => by have := (h x).1 (by simp); simp at this
  | x :: xs, y :: ys, ha, hb, h => by
    rw [List.pairwise_cons] at ha hb
    have hxy : x = y := by
      rcases List.mem_cons.1 ((h x).1 (by simp)) with e | e
      · exact e
      · rcases List.mem_cons.1 ((h y).2 (by simp)) with e2 | e2
        · exact e2.symm
        · have := hb.1 x e; have := ha.1 y e2; omega
    subst hxy
    congr 1
    refine sorted_ext xs ys ha.2 hb.2 fun z => ?_
    constructor
    · intro hz
      rcases List.mem_cons.1 ((h z).1 (by simp [hz])) with e | e
      · subst e; have := ha.1 z hz; omega
      · exact e
    · intro hz
      rcases List.mem_cons.1 ((h z).2 (by simp [hz])) with e | e
      · subst e; have := hb.1 z hz; omega
      · exact e

/-- A number's place among rising ones. -/
def putL (v : Int) : List Int → List Int
  | [] => [v]
  | x :: xs => if x ≥ v then (if x > v then v :: x :: xs else x :: xs) else x :: putL v xs

theorem putL_mem (v z : Int) : ∀ (l : List Int), z ∈ putL v l ↔ z = v ∨ z ∈ l
  | [] => by simp [putL]
  | x :: xs => by
    unfold putL
    by_cases h : x ≥ v
    · by_cases h2 : x > v
      · simp [h, h2]
      · have e : x = v := by omega
        subst e; simp
    · simp only [h, if_false, List.mem_cons, putL_mem v z xs]
      constructor
      · rintro (h | h | h) <;> simp [h]
      · rintro (h | h | h) <;> simp [h]

theorem putL_sorted (v : Int) : ∀ (l : List Int), l.Pairwise (· < ·) → (putL v l).Pairwise (· < ·)
  | [], _ => by simp [putL]
  | x :: xs, h => by
    have h' := h
    rw [List.pairwise_cons] at h
    unfold putL
    by_cases h1 : x ≥ v
    · by_cases h2 : x > v
      · simp only [h1, h2, if_true]
        rw [List.pairwise_cons]
        refine ⟨fun z hz => ?_, h'⟩
        rcases List.mem_cons.1 hz with rfl | hz
        · omega
        · have := h.1 z hz; omega
      · simp only [h1, h2, if_true, if_false]; exact h'
    · simp only [h1, if_false]
      rw [List.pairwise_cons]
      refine ⟨fun z hz => ?_, putL_sorted v xs h.2⟩
      rcases (putL_mem v z xs).1 hz with rfl | hz
      · omega
      · exact h.1 z hz

theorem putL_len (v : Int) : ∀ (l : List Int), putL v l = l ∨ (putL v l).length = l.length + 1
  | [] => by simp [putL]
  | x :: xs => by
    unfold putL
    by_cases h1 : x ≥ v
    · by_cases h2 : x > v
      · simp [h1, h2]
      · left; simp [h1, h2]
    · simp only [h1, if_false]
      rcases putL_len v xs with h | h
      · left; rw [h]
      · right; simp [h]

theorem putL_same (v : Int) {l : List Int} (hs : l.Pairwise (· < ·)) (h : v ∈ l) : putL v l = l :=
  sorted_ext _ _ (putL_sorted v l hs) hs fun x => by rw [putL_mem]; exact ⟨fun h' => h'.elim (fun e => e ▸ h) id, .inr⟩

def putF (v : Int) (b : List Int × Bool) (x : Int) : List Int × Bool := if (!b.2 && decide (x ≥ v)) then ((if x > v then b.1 ++ [v] else b.1) ++ [x], true) else (b.1 ++ [x], b.2)

theorem putF_done (v : Int) : ∀ (l o : List Int), l.foldl (putF v) (o, true) = (o ++ l, true)
  | [], o => by simp
  | x :: xs, o => by simp only [List.foldl_cons]; rw [show putF v (o, true) x = (o ++ [x], true) from rfl, putF_done v xs]; simp

def finF (v : Int) (b : List Int × Bool) : List Int := if b.2 then b.1 else b.1 ++ [v]

theorem putF_fold (v : Int) : ∀ (l o : List Int), finF v (l.foldl (putF v) (o, false)) = o ++ putL v l
  | [], o => by simp [putL, finF]
  | x :: xs, o => by
    rw [List.foldl_cons]
    unfold putL
    by_cases h1 : x ≥ v
    · have e : putF v (o, false) x = ((if x > v then o ++ [v] else o) ++ [x], true) := by unfold putF; simp [h1]
      rw [e, putF_done]
      by_cases h2 : x > v <;> simp [h1, h2, finF]
    · have e : putF v (o, false) x = (o ++ [x], false) := by unfold putF; simp [h1]
      rw [e, putF_fold v xs]
      simp [h1]

end Go.Gv
