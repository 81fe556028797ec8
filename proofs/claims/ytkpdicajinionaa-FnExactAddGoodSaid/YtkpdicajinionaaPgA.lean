/- Plain laws of stock: valid stocks, places, what is short. -/
import Derived.Test.YtkpdicajinionaaPn
import Derived.Test.YtkpdicajinionaaPh
namespace Go.Gv
open Go Go.RowKit

theorem p_specSameGoods (n : Nat) (a b : List SGood) (ha : a.length ≤ 1048576) (hn : 1048576 < n) : m_spec_SameGoods n a b = some (decide (a = b)) := by
  unfold m_spec_SameGoods
  by_cases hl : a.length = b.length
  · have hb : ((a.length : Int) != (b.length : Int)) = false := by simp [hl]
    simp only [hb, Bool.false_eq_true, if_false]
    have key := loopN_listAll (body := m_spec_SameGoods_l1 n a b) (a.zip b) (fun p => decide (p.1 = p.2)) (fun i => (i : Int)) (.inl ()) (.inr false)
      (fun i p hp => by
        rw [List.getElem?_zip_eq_some] at hp
        have hlt := lt_of_get hp.1
        unfold m_spec_SameGoods_l1
        simp only [ltB hlt, if_true, idx_nat, hp.1, hp.2, Option.bind_some, succ64 hlt (by omega)]
        cases decide (p.1 = p.2) <;> rfl)
      (by unfold m_spec_SameGoods_l1; simp [hl]) n (by simp; omega)
    have k1 : loopN (m_spec_SameGoods_l1 n a b) n 0 = _ := key
    rw [k1]
    have hall : (a.zip b).all (fun p => decide (p.1 = p.2)) = decide (a = b) := by
      rw [Bool.eq_iff_iff, List.all_eq_true, decide_eq_true_eq]
      constructor
      · intro h
        apply List.ext_getElem hl
        intro i h1 h2
        have := h (a[i], b[i]) (by
          have : (a.zip b)[i]? = some (a[i], b[i]) := by rw [List.getElem?_zip_eq_some]; exact ⟨List.getElem?_eq_getElem h1, List.getElem?_eq_getElem h2⟩
          exact List.mem_of_getElem? this)
        simpa using this
      · rintro rfl p hp
        obtain ⟨i, hi⟩ := List.getElem?_of_mem hp
        rw [List.getElem?_zip_eq_some] at hi
        rw [hi.1] at hi
        simpa using Option.some.inj hi.2
    rw [hall]
    cases decide (a = b) <;> rfl
  · have hb : ((a.length : Int) != (b.length : Int)) = true := by
      have : ¬ (a.length : Int) = (b.length : Int) := by omega
      simp [bne, this]
    have hne : ¬ a = b := fun e => hl (by rw [e])
    simp only [hb, if_true, hne, decide_false]

theorem p_implSameGoods (n : Nat) (a b : List SGood) (ha : a.length ≤ 1048576) (hn : 1048576 < n) : m_impl_SameGoods n a b = some (decide (a = b)) := by
  have := p_specSameGoods n a b ha hn
  unfold m_impl_SameGoods
  have e : m_slices_Equal_impl_Good_impl_Good n a b = m_spec_SameGoods n a b := rfl
  rw [e, this]; rfl

def inRB (lo hi v : Int) : Bool := decide (lo ≤ v) && decide (v ≤ hi)
def goodB (g : SGood) : Bool := nameB g.Name && (inRB 0 1000000 g.OnHand && (inRB 0 g.OnHand g.Reserved && inRB 0 1000000 g.Least))

theorem p_l23One (n : Nat) (g : SGood) (h : strok g.Name) (hn : 1048576 < n) : m_spec_l23One n g = some (goodB g) := by
  unfold m_spec_l23One m_spec_l23Many goodB inRB
  rw [p_specIsName n _ h hn]
  simp only [p_l00In, Option.bind_some]
  cases nameB g.Name <;> cases (decide (0 ≤ g.OnHand) && decide (g.OnHand ≤ 1000000)) <;> cases (decide (0 ≤ g.Reserved) && decide (g.Reserved ≤ g.OnHand)) <;> rfl

theorem p_validGood (n : Nat) (g : SGood) (h : strok g.Name) (hn : 1048576 < n) : m_impl_validGood n g = some (goodB g) := by
  unfold m_impl_validGood goodB inRB
  rw [p_implIsName n _ h hn]
  simp only [p_within, Option.bind_some]
  cases nameB g.Name <;> cases (decide (0 ≤ g.OnHand) && decide (g.OnHand ≤ 1000000)) <;> cases (decide (0 ≤ g.Reserved) && decide (g.Reserved ≤ g.OnHand)) <;> rfl

def gD : SGood := ⟨[], 0, 0, 0⟩
/-- The check of one place. -/
def atB (l : List SGood) (i : Nat) : Bool := goodB (l.getD i gD) && (decide (i = 0) || strLt (l.getD (i - 1) gD).Name (l.getD i gD).Name)
/-- A stock. -/
def goodsB (l : List SGood) : Bool := (List.range l.length).all (atB l) && decide (l.length ≤ 40)

theorem p_l23Ok (n : Nat) (l : List SGood) (hl : l.length ≤ 1048576) (hs : ∀ g ∈ l, strok g.Name) (hn : 1048576 < n) : m_spec_l23Ok n l = some (goodsB l) := by
  unfold m_spec_l23Ok goodsB
  have key := loopN_all (body := m_spec_l23Ok_l1 n l) (fun i => (i : Int)) (.inl ()) (.inr false) l.length (atB l)
    (fun i hi => by
      have hg : l[i]? = some (l.getD i gD) := getD_of hi gD
      have hso := hs _ (List.mem_of_getElem? hg)
      unfold m_spec_l23Ok_l1 atB
      simp only [ltB hi, if_true, idx_nat, hg, Option.bind_some, p_l23One n _ hso hn, succ64 hi (by omega)]
      cases hgb : goodB (l.getD i gD) with
      | false => rfl
      | true =>
        simp only [Bool.not_true, Bool.false_eq_true, if_false, Bool.true_and]
        by_cases h0 : i = 0
        · subst h0; rfl
        · have hp : decide ((i : Int) > 0) = true := decide_eq_true (by omega)
          have hw : wI64 ((i : Int) - 1) = ((i - 1 : Nat) : Int) := by rw [wI64_eq (by omega) (by omega)]; omega
          have hg2 : l[i - 1]? = some (l.getD (i - 1) gD) := getD_of (by omega) gD
          simp only [hp, if_true, hw, idx_nat, hg2, Option.bind_some, h0, decide_false, Bool.false_or]
          cases strLt (l.getD (i - 1) gD).Name (l.getD i gD).Name <;> rfl)
    (by unfold m_spec_l23Ok_l1; simp) n (by omega)
  have k1 : loopN (m_spec_l23Ok_l1 n l) n 0 = _ := key
  rw [k1]
  have h40 : decide ((l.length : Int) ≤ 40) = decide (l.length ≤ 40) := decide_eq_decide.2 (by omega)
  cases (List.range l.length).all (atB l) with
  | true => simp only [if_true, Option.bind_some, h40, Bool.true_and]
  | false => rfl

theorem p_implValidGoods (n : Nat) (l : List SGood) (hl : l.length ≤ 1048576) (hs : ∀ g ∈ l, strok g.Name) (hn : 1048576 < n) : m_impl_ValidGoods n l = some (goodsB l) := by
  unfold m_impl_ValidGoods goodsB
  have key := loopN_all (body := m_impl_ValidGoods_l1 n l) (fun i => (i : Int)) (.inl ()) (.inr false) l.length (atB l)
    (fun i hi => by
      have hg : l[i]? = some (l.getD i gD) := getD_of hi gD
      have hso := hs _ (List.mem_of_getElem? hg)
      unfold m_impl_ValidGoods_l1 atB
      simp only [ltB hi, if_true, idx_nat, hg, Option.bind_some, p_validGood n _ hso hn, succ64 hi (by omega)]
      cases hgb : goodB (l.getD i gD) with
      | false => rfl
      | true =>
        simp only [Bool.not_true, Bool.false_eq_true, if_false, Bool.true_and]
        by_cases h0 : i = 0
        · subst h0; rfl
        · have hp : decide ((i : Int) > 0) = true := decide_eq_true (by omega)
          have hw : wI64 ((i : Int) - 1) = ((i - 1 : Nat) : Int) := by rw [wI64_eq (by omega) (by omega)]; omega
          have hg2 : l[i - 1]? = some (l.getD (i - 1) gD) := getD_of (by omega) gD
          simp only [hp, if_true, hw, idx_nat, hg2, Option.bind_some, h0, decide_false, Bool.false_or]
          cases strLt (l.getD (i - 1) gD).Name (l.getD i gD).Name <;> rfl)
    (by unfold m_impl_ValidGoods_l1; simp) n (by omega)
  have k1 : loopN (m_impl_ValidGoods_l1 n l) n 0 = _ := key
  rw [k1]
  have h40 : decide ((l.length : Int) ≤ 40) = decide (l.length ≤ 40) := decide_eq_decide.2 (by omega)
  cases (List.range l.length).all (atB l) with
  | true => simp only [if_true, Option.bind_some, h40, Bool.true_and]
  | false => rfl

/-- What is known of a valid stock. -/
structure Stock (l : List SGood) : Prop where
  len : l.length ≤ 40
  good : ∀ g ∈ l, goodB g = true
  less : ∀ (i j : Nat) g h, i < j → l[i]? = some g → l[j]? = some h → strLt g.Name h.Name = true

theorem stock_of {l : List SGood} (h : goodsB l = true) : Stock l := by
  unfold goodsB at h
  simp only [Bool.and_eq_true, decide_eq_true_eq, List.all_eq_true, List.mem_range] at h
  obtain ⟨h1, h2⟩ := h
  have at_ : ∀ i, i < l.length → goodB (l.getD i gD) = true ∧ (i ≠ 0 → strLt (l.getD (i - 1) gD).Name (l.getD i gD).Name = true) := by
    intro i hi
    have := h1 i hi
    unfold atB at this
    simp only [Bool.and_eq_true, Bool.or_eq_true, decide_eq_true_eq] at this
    refine ⟨this.1, fun h0 => ?_⟩
    rcases this.2 with h | h
    · exact absurd h h0
    · exact h
  refine ⟨h2, ?_, ?_⟩
  · intro g hg
    obtain ⟨i, hi⟩ := List.getElem?_of_mem hg
    have hlt := lt_of_get hi
    have := (at_ i hlt).1
    rw [List.getD_eq_getElem?_getD, hi] at this
    exact this
  · intro i j g h hij hi hj
    induction j generalizing h with
    | zero => omega
    | succ j ih =>
      have hlt := lt_of_get hj
      have hs := (at_ (j + 1) hlt).2 (by omega)
      rw [List.getD_eq_getElem?_getD, List.getD_eq_getElem?_getD, hj, Nat.add_sub_cancel, Option.getD_some] at hs
      by_cases e : i = j
      · subst e; rw [hi] at hs; exact hs
      · obtain ⟨k, hk⟩ : ∃ k, l[j]? = some k := ⟨_, List.getElem?_eq_getElem (by omega)⟩
        have := ih k (by omega) hk
        rw [hk] at hs
        exact sl_trans this hs

/-! ### Found -/

def findZ (l : List SGood) (name : List UInt8) : Int := match l.findIdx? (fun g => g.Name == name) with | some i => (i : Int) | none => -1

theorem p_l23Find (n : Nat) (l : List SGood) (name : List UInt8) (hl : l.length ≤ 1048576) (hn : 1048576 < n) : m_spec_l23Find n l name = some (findZ l name) := by
  unfold m_spec_l23Find findZ
  have := loopN_index (body := m_spec_l23Find_l1 n l name) l (fun g => g.Name == name)
    (fun i x hx => by
      have hlt := lt_of_get hx
      unfold m_spec_l23Find_l1
      simp only [ltB hlt, if_true, idx_nat, hx, Option.bind_some, succ64 hlt (by omega)]
      cases x.Name == name <;> rfl)
    (by unfold m_spec_l23Find_l1; simp) n (by omega)
  rw [this]
  cases l.findIdx? (fun g => g.Name == name) <;> rfl

theorem p_compare (n : Nat) (x y : List UInt8) : m_cmp_Compare_string n x y = some (if strLt x y then -1 else if x = y then 0 else 1) := by
  unfold m_cmp_Compare_string m_cmp_isNaN_string
  have e : ∀ z : List UInt8, (!(z == z)) = false := fun z => by simp
  simp only [e, Option.bind_some, Bool.false_eq_true, if_false]
  cases strLt x y with
  | true => rfl
  | false =>
    by_cases h : x = y
    · subst h; simp
    · simp [h]

/-- The place of a name. -/
structure Place (l : List SGood) (name : List UInt8) (p : Nat) : Prop where
  le : p ≤ l.length
  lo : ∀ (k : Nat) g, k < p → l[k]? = some g → strLt g.Name name = true
  hi : ∀ (k : Nat) g, p ≤ k → l[k]? = some g → strLt g.Name name = false

def foundB (l : List SGood) (name : List UInt8) (p : Nat) : Bool := match l[p]? with | some g => g.Name == name | none => false

theorem place_find {l : List SGood} {name : List UInt8} {p : Nat} (hS : Stock l) (h : Place l name p) : findZ l name = if foundB l name p then (p : Int) else -1 := by
  unfold findZ foundB
  cases hf : l.findIdx? (fun g => g.Name == name) with
  | none =>
    rw [List.findIdx?_eq_none_iff] at hf
    cases hp : l[p]? with
    | none => rfl
    | some g =>
      have := hf g (List.mem_of_getElem? hp)
      simp only [this, Bool.false_eq_true, if_false]
  | some i =>
    rw [List.findIdx?_eq_some_iff_getElem] at hf
    obtain ⟨hi, he, hlt⟩ := hf
    have hgi : l[i]? = some l[i] := List.getElem?_eq_getElem hi
    have hne : l[i].Name = name := by simpa using he
    have hip : i = p := by
      rcases Nat.lt_trichotomy i p with h1 | h1 | h1
      · have := h.lo i _ h1 hgi
        rw [hne, sl_irr] at this; cases this
      · exact h1
      · exfalso
        obtain ⟨g, hg⟩ : ∃ g, l[p]? = some g := ⟨_, List.getElem?_eq_getElem (by omega)⟩
        have h2 := h.hi p g (Nat.le_refl _) hg
        have h3 := hS.less p i g l[i] h1 hg hgi
        rw [hne, h2] at h3; cases h3
    subst hip
    rw [hgi]
    simp only [he, if_true]

theorem p_goodPlace (n : Nat) (l : List SGood) (name : List UInt8) (hS : Stock l) (hn : 1048576 < n) : ∃ p, Place l name p ∧ m_impl_goodPlace n l name = some ((p : Int), foundB l name p) := by
  have hlen := hS.len
  unfold m_impl_goodPlace m_slices_BinarySearchFunc_impl_Good_impl_Good_string_f84
  have loop : ∀ (m i j : Nat), j - i < m → i ≤ j → j ≤ l.length → (∀ (k : Nat) g, k < i → l[k]? = some g → strLt g.Name name = true) → (∀ (k : Nat) g, j ≤ k → l[k]? = some g → strLt g.Name name = false) →
      ∃ p, Place l name p ∧ loopN (m_slices_BinarySearchFunc_impl_Good_impl_Good_string_f84_l1 n l name) m ((i : Int), (j : Int)) = some (p : Int) := by
    intro m
    induction m with
    | zero => intro i j h; omega
    | succ m ih =>
      intro i j hm hij hj hlo hhi
      by_cases hlt : i < j
      · have hd : decide ((i : Int) < (j : Int)) = true := decide_eq_true (by omega)
        have hsh : shr .u64 (IntKind.u64.wrap (wI64 ((i : Int) + (j : Int)))) 1 = some (((i + j) / 2 : Nat) : Int) := by
          rw [wI64_eq (by omega) (by omega), wU64_eq (by omega) (by omega)]
          unfold shr
          rw [if_neg (by omega)]
          have : ((i : Int) + (j : Int)) = ((i + j : Nat) : Int) := by omega
          have hp : (2 : Int) ^ (min (Int.toNat 1) IntKind.u64.bits) = 2 := by decide
          rw [this, hp, Int.fdiv_eq_ediv_of_nonneg _ (by omega)]
          rfl
        obtain ⟨h, hh⟩ : ∃ h, h = (i + j) / 2 := ⟨_, rfl⟩
        rw [← hh] at hsh
        have hw : wI64 ((h : Nat) : Int) = (h : Int) := wI64_eq (by omega) (by omega)
        obtain ⟨g, hg⟩ : ∃ g, l[h]? = some g := ⟨_, List.getElem?_eq_getElem (by omega)⟩
        cases hc : strLt g.Name name with
        | true =>
          obtain ⟨p, p1, p2⟩ := ih (h + 1) j (by omega) (by omega) hj (fun k g' hk hg' => by
            rcases Nat.lt_or_ge k h with h1 | h1
            · exact sl_trans (hS.less k h g' g h1 hg' hg) hc
            · have : k = h := by omega
              subst this; rw [hg] at hg'; cases hg'; exact hc) hhi
          refine ⟨p, p1, ?_⟩
          have hb : m_slices_BinarySearchFunc_impl_Good_impl_Good_string_f84_l1 n l name ((i : Int), (j : Int)) = some (.next (((h + 1 : Nat) : Int), (j : Int))) := by
            unfold m_slices_BinarySearchFunc_impl_Good_impl_Good_string_f84_l1 m_impl_goodPlace_1
            have hw2 : wI64 ((h : Int) + 1) = ((h + 1 : Nat) : Int) := by rw [wI64_eq (by omega) (by omega)]; omega
            simp only [hd, if_true, hsh, Option.bind_some, hw, idx_nat, hg, p_compare, hc, hw2]
            rfl
          simp only [loopN, hb, Option.bind_some]; exact p2
        | false =>
          obtain ⟨p, p1, p2⟩ := ih i h (by omega) (by omega) (by omega) hlo (fun k g' hk hg' => by
            rcases Nat.lt_or_ge h k with h1 | h1
            · cases hq : strLt g'.Name name with
              | false => rfl
              | true => rw [sl_trans (hS.less h k g g' h1 hg hg') hq] at hc; cases hc
            · have : k = h := by omega
              subst this; rw [hg] at hg'; cases hg'; exact hc)
          refine ⟨p, p1, ?_⟩
          have hb : m_slices_BinarySearchFunc_impl_Good_impl_Good_string_f84_l1 n l name ((i : Int), (j : Int)) = some (.next ((i : Int), (h : Int))) := by
            unfold m_slices_BinarySearchFunc_impl_Good_impl_Good_string_f84_l1 m_impl_goodPlace_1
            have hneg : decide ((if g.Name = name then (0 : Int) else 1) < 0) = false := by split <;> rfl
            simp only [hd, if_true, hsh, Option.bind_some, hw, idx_nat, hg, p_compare, hc, Bool.false_eq_true, if_false, hneg]
          simp only [loopN, hb, Option.bind_some]; exact p2
      · have he : i = j := by omega
        subst he
        refine ⟨i, ⟨hj, hlo, hhi⟩, ?_⟩
        simp [loopN, m_slices_BinarySearchFunc_impl_Good_impl_Good_string_f84_l1]
  obtain ⟨p, p1, p2⟩ := loop n 0 l.length (by omega) (by omega) (by omega) (fun k g hk => by omega) (fun k g hk hg => by have := lt_of_get hg; omega)
  refine ⟨p, p1, ?_⟩
  have p2' : loopN (m_slices_BinarySearchFunc_impl_Good_impl_Good_string_f84_l1 n l name) n (0, (l.length : Int)) = some (p : Int) := p2
  rw [p2']
  simp only [Option.bind_some]
  unfold foundB
  by_cases hp : p < l.length
  · obtain ⟨g, hg⟩ : ∃ g, l[p]? = some g := ⟨_, List.getElem?_eq_getElem hp⟩
    have hlo := p1.hi p g (Nat.le_refl _) hg
    unfold m_impl_goodPlace_1
    simp only [ltB hp, if_true, idx_nat, hg, Option.bind_some, p_compare, hlo, Bool.false_eq_true, if_false]
    by_cases he : g.Name = name
    · simp [he]
    · have : (g.Name == name) = false := by simp [he]
      simp [he]
  · have hd : decide ((p : Int) < (l.length : Int)) = false := decide_eq_false (by omega)
    rw [List.getElem?_eq_none (by omega)]
    simp only [hd, Bool.false_eq_true, if_false, Option.bind_some]

/-! ### The statements that need no more -/

theorem law_SameGoods (a b : List SGood) (ha : a.length ≤ 9223372036854775807) (hao : ∀ x ∈ a, okGood x) (hb : b.length ≤ 9223372036854775807) (hbo : ∀ x ∈ b, okGood x) : m_laws_FnExactSameGoods 2000000 a b = some true := by
  unfold m_laws_FnExactSameGoods
  obtain ⟨v, hv, hc⟩ := p_szGoodS 2000000 a 1048576 (by omega) (by omega) ha (fun g hg => (hao g hg).1) (by omega)
  rw [hv]
  simp only [Option.bind_some]
  rcases hc with h | ⟨h0, h⟩
  · simp [h]
  · have hd : decide (v < 0) = false := decide_eq_false (by omega)
    simp only [hd, Bool.false_eq_true, if_false]
    obtain ⟨u, hu, hc2⟩ := p_szGoodS 2000000 b v (by omega) (by omega) hb (fun g hg => (hbo g hg).1) (by omega)
    rw [hu]
    simp only [Option.bind_some]
    rcases hc2 with g | ⟨g0, g⟩
    · simp [g]
    · have hd2 : decide (u < 0) = false := decide_eq_false (by omega)
      have la : a.length ≤ 1048576 := by omega
      have lb : b.length ≤ 1048576 := by omega
      simp [hd2, p_toGoodS 2000000 _ la, p_toGoodS 2000000 _ lb, p_specSameGoods 2000000 a b la, p_implSameGoods 2000000 a b la, p_eqGoodS 2000000 _ la, p_eqGoodS 2000000 _ lb]

theorem law_ValidGoods (a : List SGood) (ha : a.length ≤ 9223372036854775807) (hao : ∀ x ∈ a, okGood x) : m_laws_FnExactValidGoods 2000000 a = some true := by
  unfold m_laws_FnExactValidGoods
  obtain ⟨v, hv, hc⟩ := p_szGoodS 2000000 a 1048576 (by omega) (by omega) ha (fun g hg => (hao g hg).1) (by omega)
  rw [hv]
  simp only [Option.bind_some]
  rcases hc with h | ⟨h0, h⟩
  · simp [h]
  · have hd : decide (v < 0) = false := decide_eq_false (by omega)
    have la : a.length ≤ 1048576 := by omega
    simp [hd, p_toGoodS 2000000 _ la, m_spec_ValidGoods, p_l23Ok 2000000 a la (fun g hg => (hao g hg).1), p_implValidGoods 2000000 a la (fun g hg => (hao g hg).1), p_eqGoodS 2000000 _ la]

def shortF (b : List STake) (g : SGood) : List STake := if g.Least - (g.OnHand - g.Reserved) > 0 then b ++ [⟨g.Name, g.Least - (g.OnHand - g.Reserved)⟩] else b

theorem goodB_range {g : SGood} (h : goodB g = true) : 0 ≤ g.OnHand ∧ g.OnHand ≤ 1000000 ∧ 0 ≤ g.Reserved ∧ g.Reserved ≤ g.OnHand ∧ 0 ≤ g.Least ∧ g.Least ≤ 1000000 := by
  unfold goodB inRB at h
  simp only [Bool.and_eq_true, decide_eq_true_eq] at h
  omega

def shortR (l : List SGood) : List STake × Int := if goodsB l then (l.foldl shortF [], 0) else ([], 1)

theorem p_ShortGoodsR (n : Nat) (l : List SGood) (hl : l.length ≤ 1048576) (hs : ∀ g ∈ l, strok g.Name) (hn : 1048576 < n) : m_spec_ShortGoods n l = some (shortR l) ∧ m_impl_ShortGoods n l = some (shortR l) ∧ (shortR l).1.length ≤ 400 := by
  unfold m_spec_ShortGoods m_impl_ShortGoods
  rw [p_l23Ok n l hl hs hn, p_implValidGoods n l hl hs hn]
  simp only [Option.bind_some]
  cases hv : goodsB l with
  | false =>
    have e : shortR l = ([], 1) := by unfold shortR; rw [hv]; rfl
    rw [e]; exact ⟨rfl, rfl, by simp⟩
  | true =>
    have hS := stock_of hv
    have hlen := hS.len
    simp only [Bool.not_true, Bool.false_eq_true, if_false]
    have sp := loopN_fold (body := m_spec_ShortGoods_l1 n l) l shortF [] (fun i b => (b, (i : Int))) id (fun i b => b.length ≤ i) (by simp)
      (fun i g b hg hb => by
        have hlt := lt_of_get hg
        obtain ⟨r1, r2, r3, r4, r5, r6⟩ := goodB_range (hS.good g (List.mem_of_getElem? hg))
        have w1 : wI64 (g.OnHand - g.Reserved) = g.OnHand - g.Reserved := wI64_eq (by omega) (by omega)
        have w2 : wI64 (g.Least - (g.OnHand - g.Reserved)) = g.Least - (g.OnHand - g.Reserved) := wI64_eq (by omega) (by omega)
        refine ⟨?_, by unfold shortF; split <;> (try simp) <;> omega⟩
        unfold m_spec_ShortGoods_l1 shortF
        simp only [ltB hlt, if_true, idx_nat, hg, Option.bind_some, w1, w2, succ64 hlt (by omega)]
        by_cases hc : g.Least - (g.OnHand - g.Reserved) > 0
        · have : decide (g.OnHand - g.Reserved < g.Least) = true := decide_eq_true (by omega)
          simp only [this, hc, if_true]
          rw [app_eq (by simp; omega)]; rfl
        · have : decide (g.OnHand - g.Reserved < g.Least) = false := decide_eq_false (by omega)
          simp only [this, hc, Bool.false_eq_true, if_false, Option.bind_some])
      (fun b _ => by unfold m_spec_ShortGoods_l1; simp) n (by omega)
    have im := loopN_fold (body := m_impl_ShortGoods_l1 n l) l shortF [] (fun i b => (b, (i : Int))) id (fun i b => b.length ≤ i) (by simp)
      (fun i g b hg hb => by
        have hlt := lt_of_get hg
        obtain ⟨r1, r2, r3, r4, r5, r6⟩ := goodB_range (hS.good g (List.mem_of_getElem? hg))
        have w1 : wI64 (g.OnHand - g.Reserved) = g.OnHand - g.Reserved := wI64_eq (by omega) (by omega)
        have w2 : wI64 (g.Least - (g.OnHand - g.Reserved)) = g.Least - (g.OnHand - g.Reserved) := wI64_eq (by omega) (by omega)
        refine ⟨?_, by unfold shortF; split <;> (try simp) <;> omega⟩
        unfold m_impl_ShortGoods_l1 shortF
        simp only [ltB hlt, if_true, idx_nat, hg, Option.bind_some, w1, w2, succ64 hlt (by omega)]
        by_cases hc : g.Least - (g.OnHand - g.Reserved) > 0
        · simp only [hc, decide_true, if_true]
          rw [app_eq (by simp; omega)]; rfl
        · simp only [hc, decide_false, Bool.false_eq_true, if_false, Option.bind_some])
      (fun b _ => by unfold m_impl_ShortGoods_l1; simp) n (by omega)
    have s1 : loopN (m_spec_ShortGoods_l1 n l) n ([], 0) = _ := sp.1
    have i1 : loopN (m_impl_ShortGoods_l1 n l) n ([], 0) = _ := im.1
    rw [s1, i1]
    have hlen2 := sp.2
    have e : shortR l = (l.foldl shortF [], 0) := by unfold shortR; rw [hv]; rfl
    rw [e]
    exact ⟨rfl, rfl, by show (l.foldl shortF []).length ≤ 400; omega⟩

theorem p_ShortGoods (n : Nat) (l : List SGood) (hl : l.length ≤ 1048576) (hs : ∀ g ∈ l, strok g.Name) (hn : 1048576 < n) : ∃ t e, t.length ≤ 400 ∧ m_spec_ShortGoods n l = some (t, e) ∧ m_impl_ShortGoods n l = some (t, e) := by
  obtain ⟨h1, h2, h3⟩ := p_ShortGoodsR n l hl hs hn
  exact ⟨_, _, h3, h1, h2⟩

theorem law_ShortGoods (a : List SGood) (ha : a.length ≤ 9223372036854775807) (hao : ∀ x ∈ a, okGood x) : m_laws_FnExactShortGoods 2000000 a = some true := by
  unfold m_laws_FnExactShortGoods
  obtain ⟨v, hv, hc⟩ := p_szGoodS 2000000 a 1048576 (by omega) (by omega) ha (fun g hg => (hao g hg).1) (by omega)
  rw [hv]
  simp only [Option.bind_some]
  rcases hc with h | ⟨h0, h⟩
  · simp [h]
  · have hd : decide (v < 0) = false := decide_eq_false (by omega)
    have la : a.length ≤ 1048576 := by omega
    obtain ⟨t, e, ht, e1, e2⟩ := p_ShortGoods 2000000 a la (fun g hg => (hao g hg).1) (by omega)
    have hne : ¬ (1 + 4 * (a.length : Int) < 0) := by omega
    have hne2 : ¬ (1 + 2 * (t.length : Int) < 0) := by omega
    simp [hd, p_toGoodS 2000000 _ la, e1, e2, p_eqGoodS 2000000 _ la, p_eqTakeS 2000000 t (by omega), p_markGoodS 2000000 a la, p_markTakeS 2000000 t (by omega), p_heldTakeS 2000000 t.length (by omega), hne, hne2]

end Go.Gv
