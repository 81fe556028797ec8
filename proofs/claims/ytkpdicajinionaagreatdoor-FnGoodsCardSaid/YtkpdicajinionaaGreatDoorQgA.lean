/- Plain laws (those of another seat, turned to this one by tools/renum.py). -/
import Derived.Test.YtkpdicajinionaaGreatDoorPa
import Derived.Test.YtkpdicajinionaaGreatDoorPn
import Derived.Test.YtkpdicajinionaaGreatDoorPr
import Derived.Lib.Join
namespace Go.Gv
open Go Go.RowKit

theorem sl_nil (x : List UInt8) : strLt x [] = false := by cases x <;> rfl

theorem sl_nil2 (b : UInt8) (y : List UInt8) : strLt [] (b :: y) = true := rfl

theorem sl_cons (a b : UInt8) (x y : List UInt8) : strLt (a :: x) (b :: y) = (decide (a < b) || (a == b && strLt x y)) := rfl

theorem sl_irr : ∀ x : List UInt8, strLt x x = false
  | [] => rfl
  | a :: x => by
    rw [sl_cons, sl_irr x]
    have : ¬ a < a := UInt8.lt_irrefl a
    simp [this]

theorem sl_trans : ∀ {x y z : List UInt8}, strLt x y = true → strLt y z = true → strLt x z = true
  | x, [], z, h, _ => by rw [sl_nil] at h; cases h
  | x, b :: y, [], _, h => by rw [sl_nil] at h; cases h
  | [], b :: y, c :: z, _, _ => rfl
  | a :: x, b :: y, c :: z, h1, h2 => by
    rw [sl_cons] at h1 h2 ⊢
    simp only [Bool.or_eq_true, decide_eq_true_eq, Bool.and_eq_true, beq_iff_eq] at h1 h2 ⊢
    rcases h1 with h1 | ⟨rfl, h1⟩
    · rcases h2 with h2 | ⟨rfl, h2⟩
      · exact .inl (UInt8.lt_trans h1 h2)
      · exact .inl h1
    · rcases h2 with h2 | ⟨rfl, h2⟩
      · exact .inl h2
      · exact .inr ⟨rfl, sl_trans h1 h2⟩

theorem sl_asym {x y : List UInt8} (h : strLt x y = true) : strLt y x = false := by
  cases h2 : strLt y x with
  | false => rfl
  | true => have := sl_trans h h2; rw [sl_irr] at this; cases this

theorem sl_tri : ∀ x y : List UInt8, strLt x y = true ∨ x = y ∨ strLt y x = true
  | [], [] => .inr (.inl rfl)
  | [], b :: y => .inl rfl
  | a :: x, [] => .inr (.inr rfl)
  | a :: x, b :: y => by
    rw [sl_cons, sl_cons]
    simp only [Bool.or_eq_true, decide_eq_true_eq, Bool.and_eq_true, beq_iff_eq]
    rcases Nat.lt_trichotomy a.toNat b.toNat with h | h | h
    · exact .inl (.inl h)
    · have e : a = b := UInt8.toNat_inj.1 h
      subst e
      rcases sl_tri x y with h | rfl | h
      · exact .inl (.inr ⟨rfl, h⟩)
      · exact .inr (.inl rfl)
      · exact .inr (.inr (.inr ⟨rfl, h⟩))
    · exact .inr (.inr (.inl h))

/-- A loop that is left at the first element that fails. -/
theorem runL_if {α β τ : Type} (p : α → Bool) (g : β → α → β) (e : τ) : ∀ (xs : List α) (i : Nat) (b : β), runL (fun _ b x => if p x then .ok (g b x) else .error e) i xs b = if xs.all p then .ok (xs.foldl g b) else .error e
  | [], i, b => rfl
  | x :: xs, i, b => by
    unfold runL
    cases hp : p x with
    | true => simp only [if_true, List.all_cons, hp, Bool.true_and, List.foldl_cons]; exact runL_if p g e xs _ _
    | false => simp only [Bool.false_eq_true, if_false, List.all_cons, hp, Bool.false_and]

/-- The least so far; below nothing stands for none. -/
def minF (b x : Int) : Int := if b < 0 ∨ x < b then x else b

theorem minF_fold : ∀ (l : List Int) (b : Int), 0 ≤ b → (∀ x ∈ l, 0 ≤ x) → (l.foldl minF b = b ∨ l.foldl minF b ∈ l) ∧ l.foldl minF b ≤ b ∧ (∀ x ∈ l, l.foldl minF b ≤ x) ∧ 0 ≤ l.foldl minF b
  | [], b, hb, _ => ⟨.inl rfl, Int.le_refl _, by simp, hb⟩
  | x :: l, b, hb, h => by
    have hx := h x (by simp)
    have hm : 0 ≤ minF b x ∧ minF b x ≤ b ∧ minF b x ≤ x ∧ (minF b x = b ∨ minF b x = x) := by unfold minF; split <;> omega
    obtain ⟨h1, h2, h3, h4⟩ := minF_fold l (minF b x) hm.1 (fun y hy => h y (by simp [hy]))
    simp only [List.foldl_cons]
    refine ⟨?_, by omega, ?_, h4⟩
    · rcases h1 with h1 | h1
      · rcases hm.2.2.2 with e | e
        · left; omega
        · right; rw [h1, e]; simp
      · right; simp [h1]
    · intro y hy
      simp only [List.mem_cons] at hy
      rcases hy with rfl | hy
      · omega
      · exact h3 y hy

theorem minF_first {l : List Int} (hne : l ≠ []) (h : ∀ x ∈ l, 0 ≤ x) : l.foldl minF (-1) ∈ l ∧ ∀ x ∈ l, l.foldl minF (-1) ≤ x := by
  cases l with
  | nil => exact absurd rfl hne
  | cons x l =>
    have e : minF (-1) x = x := by unfold minF; rw [if_pos (by omega)]
    obtain ⟨h1, h2, h3, h4⟩ := minF_fold l x (h x (by simp)) (fun y hy => h y (by simp [hy]))
    simp only [List.foldl_cons, e]
    refine ⟨?_, ?_⟩
    · rcases h1 with h1 | h1
      · rw [h1]; simp
      · simp [h1]
    · intro y hy
      simp only [List.mem_cons] at hy
      rcases hy with rfl | hy
      · exact h2
      · exact h3 y hy

/-- Two rows of the same numbers have the same least one. -/
theorem minF_same {l m : List Int} (hl : ∀ x ∈ l, 0 ≤ x) (h1 : ∀ x ∈ l, x ∈ m) (h2 : ∀ x ∈ m, x ∈ l) : l.foldl minF (-1) = m.foldl minF (-1) := by
  by_cases hne : l = []
  · have : m = [] := by
      cases m with
      | nil => rfl
      | cons a m => have := h2 a (by simp); rw [hne] at this; simp at this
    rw [hne, this]
  · have hm : m ≠ [] := by
      intro e
      cases l with
      | nil => exact hne rfl
      | cons a l => have := h1 a (by simp); rw [e] at this; simp at this
    obtain ⟨a1, a2⟩ := minF_first hne hl
    obtain ⟨b1, b2⟩ := minF_first hm (fun x hx => hl x (h2 x hx))
    have := a2 _ (h2 _ b1)
    have := b2 _ (h1 _ a1)
    omega

/-- A loop that goes N rounds, each of which keeps J. -/
theorem loopN_count {σ τ : Type} {body : σ → Option (Step σ τ)} (J : Nat → σ → Prop) (N : Nat) (R : τ → Prop) (hstep : ∀ i s, i < N → J i s → ∃ s', body s = some (.next s') ∧ J (i + 1) s')
    (hend : ∀ s, J N s → ∃ t, body s = some (.done t) ∧ R t) (n : Nat) (hn : N < n) (s : σ) (h0 : J 0 s) : ∃ t, loopN body n s = some t ∧ R t := by
  have key : ∀ (j n : Nat) (s : σ), j ≤ N → j < n → J (N - j) s → ∃ t, loopN body n s = some t ∧ R t := by
    intro j
    induction j with
    | zero =>
      intro n s _ hn hJ
      obtain ⟨m, rfl⟩ : ∃ m, n = m + 1 := ⟨n - 1, by omega⟩
      obtain ⟨t, h1, h2⟩ := hend s hJ
      exact ⟨t, by simp [loopN, h1], h2⟩
    | succ j ih =>
      intro n s hj hn hJ
      obtain ⟨m, rfl⟩ : ∃ m, n = m + 1 := ⟨n - 1, by omega⟩
      obtain ⟨s', h1, h2⟩ := hstep _ s (by omega) hJ
      obtain ⟨t, h3, h4⟩ := ih m s' (by omega) (by omega) (by rw [show N - (j + 1) + 1 = N - j by omega] at h2; exact h2)
      exact ⟨t, by simp only [loopN, h1, Option.bind_some]; exact h3, h4⟩
  exact key N n s (Nat.le_refl _) hn (by rw [Nat.sub_self]; exact h0)

def bytesok (code : List Int) : Prop := ∀ c ∈ code, 0 ≤ c ∧ c ≤ 255

theorem iand_255 (x : Int) : 0 ≤ wI64 (iand .u64 x 255) ∧ wI64 (iand .u64 x 255) ≤ 255 := by
  have h : (BitVec.ofInt 64 x &&& BitVec.ofInt 64 255).toNat ≤ 255 := by
    rw [BitVec.toNat_and]
    have : (BitVec.ofInt 64 255).toNat = 255 := by decide
    rw [this]
    exact Nat.and_le_right
  have e : iand .u64 x 255 = ((BitVec.ofInt 64 x &&& BitVec.ofInt 64 255).toNat : Int) := by
    unfold iand
    exact wU64_eq (by simp [IntKind.bits]) (by simp only [IntKind.bits]; omega)
  rw [e, wI64_eq (by omega) (by omega)]
  omega

theorem p_next (n : Nat) {code : List Int} (hc : bytesok code) (a : Nat) (ha : a ≤ 1000000000) (seed : Int) : ∃ x seed', m_spec_l00Src_next n code (a : Int) seed = some (x, ((a + 1 : Nat) : Int), seed') ∧ 0 ≤ x ∧ x ≤ 255 := by
  have w : wI64 ((a : Int) + 1) = ((a + 1 : Nat) : Int) := by rw [wI64_eq (by omega) (by omega)]; omega
  unfold m_spec_l00Src_next
  rw [w]
  by_cases h : a < code.length
  · obtain ⟨c, hg⟩ : ∃ c, code[a]? = some c := ⟨_, List.getElem?_eq_getElem h⟩
    have hb := hc c (List.mem_of_getElem? hg)
    have h2 : decide (((a + 1 : Nat) : Int) ≤ (code.length : Int)) = true := by simpa using (by omega : ((a + 1 : Nat) : Int) ≤ (code.length : Int))
    have w2 : wI64 c = c := wI64_eq (by omega) (by omega)
    simp only [ltB h, if_true, idx_nat, hg, Option.bind_some, h2, w2]
    exact ⟨_, _, rfl, hb.1, hb.2⟩
  · have h1 : decide ((a : Int) < (code.length : Int)) = false := by simp; omega
    have h2 : decide (((a + 1 : Nat) : Int) ≤ (code.length : Int)) = false := by simpa using (by omega : (code.length : Int) < ((a + 1 : Nat) : Int))
    simp only [h1, h2, Bool.false_eq_true, if_false, Option.bind_some, shr, show ¬ ((40 : Int) < 0) by decide]
    exact ⟨_, _, rfl, (iand_255 _).1, (iand_255 _).2⟩

theorem p_pick (n : Nat) {code : List Int} (hc : bytesok code) (a : Nat) (ha : a ≤ 900000000) (seed m : Int) (hm : m ≤ 1048576) : ∃ x a' seed', m_spec_l00Src_pick n code (a : Int) seed m = some (x, ((a' : Nat) : Int), seed') ∧ 0 ≤ x ∧ (1 ≤ m → x < m) ∧ a' ≤ a + 2 := by
  unfold m_spec_l00Src_pick
  by_cases h : m ≤ 1
  · simp only [h, decide_true, if_true]
    exact ⟨0, a, seed, rfl, by omega, fun h => by omega, by omega⟩
  · simp only [h, decide_false, Bool.false_eq_true, if_false]
    obtain ⟨x, s1, e1, x0, x1⟩ := p_next n hc a (by omega) seed
    rw [e1]
    simp only [Option.bind_some]
    have hne : ¬ m = 0 := by omega
    by_cases h2 : m > 200
    · obtain ⟨y, s2, e2, y0, y1⟩ := p_next n hc (a + 1) (by omega) s1
      have w1 : wI64 (x * 256) = x * 256 := wI64_eq (by omega) (by omega)
      have w2 : wI64 (x * 256 + y) = x * 256 + y := wI64_eq (by omega) (by omega)
      simp only [h2, decide_true, if_true, e2, Option.bind_some, w1, w2, rem, hne, if_false]
      exact ⟨_, a + 1 + 1, s2, rfl, Int.tmod_nonneg _ (by omega), fun _ => Int.tmod_lt_of_pos _ (by omega), by omega⟩
    · simp only [h2, decide_false, Bool.false_eq_true, if_false, Option.bind_some, rem, hne]
      exact ⟨_, a + 1, s1, rfl, Int.tmod_nonneg _ (by omega), fun _ => Int.tmod_lt_of_pos _ (by omega), by omega⟩

theorem p_one (n : Nat) {code : List Int} (hc : bytesok code) (a : Nat) (ha : a ≤ 900000000) (seed m : Int) (hm : m ≤ 1048576) : ∃ (b : Bool) (a' : Nat) (seed' : Int), m_spec_l00Src_one n code (a : Int) seed m = some (b, (a' : Int), seed') ∧ a' ≤ a + 2 := by
  unfold m_spec_l00Src_one
  obtain ⟨x, a', s', e, _, _, h⟩ := p_pick n hc a ha seed m hm
  rw [e]
  exact ⟨_, a', s', rfl, h⟩

theorem p_specSameGoods (n : Nat) (a b : List SGood) (ha : a.length ≤ 1048576) (hn : 1048576 < n) : m_spec_SameGoods n a b = some (decide (a = b)) := by
  unfold m_spec_SameGoods
  by_cases hl : a.length = b.length
  · have hb : ((a.length : Int) != (b.length : Int)) = false := by simp [hl]
    simp only [hb, Bool.false_eq_true, if_false]
    have key := loopN_listAll (body := m_spec_SameGoods_l1 n a b) (a.zip b) (fun p => decide (p.1 = p.2)) (fun i => (i : Int)) (.inl ()) (.inr false)
      (fun i p hp => by
        rw [List.getElem?_zip_eq_some] at hp
        have hlt := lt_of_get hp.1
        unfold m_spec_SameGoods_l1
        simp only [ltB hlt, if_true, idx_nat, hp.1, hp.2, Option.bind_some, succ64 hlt (by omega)]
        cases decide (p.1 = p.2) <;> rfl)
      (by unfold m_spec_SameGoods_l1; simp [hl]) n (by simp; omega)
    have k1 : loopN (m_spec_SameGoods_l1 n a b) n 0 = _ := key
    rw [k1]
    have hall : (a.zip b).all (fun p => decide (p.1 = p.2)) = decide (a = b) := by
      rw [Bool.eq_iff_iff, List.all_eq_true, decide_eq_true_eq]
      constructor
      · intro h
        apply List.ext_getElem hl
        intro i h1 h2
        have := h (a[i], b[i]) (by
          have : (a.zip b)[i]? = some (a[i], b[i]) := by rw [List.getElem?_zip_eq_some]; exact ⟨List.getElem?_eq_getElem h1, List.getElem?_eq_getElem h2⟩
          exact List.mem_of_getElem? this)
        simpa using this
      · rintro rfl p hp
        obtain ⟨i, hi⟩ := List.getElem?_of_mem hp
        rw [List.getElem?_zip_eq_some] at hi
        rw [hi.1] at hi
        simpa using Option.some.inj hi.2
    rw [hall]
    cases decide (a = b) <;> rfl
  · have hb : ((a.length : Int) != (b.length : Int)) = true := by
      have : ¬ (a.length : Int) = (b.length : Int) := by omega
      simp [bne, this]
    have hne : ¬ a = b := fun e => hl (by rw [e])
    simp only [hb, if_true, hne, decide_false]

theorem p_implSameGoods (n : Nat) (a b : List SGood) (ha : a.length ≤ 1048576) (hn : 1048576 < n) : m_impl_SameGoods n a b = some (decide (a = b)) := by
  have := p_specSameGoods n a b ha hn
  unfold m_impl_SameGoods
  have e : m_slices_Equal_impl_Good_impl_Good n a b = m_spec_SameGoods n a b := rfl
  rw [e, this]; rfl

def inRB (lo hi v : Int) : Bool := decide (lo ≤ v) && decide (v ≤ hi)

def goodB (g : SGood) : Bool := nameB g.Name && (inRB 0 1000000 g.OnHand && (inRB 0 g.OnHand g.Reserved && inRB 0 1000000 g.Least))

theorem p_l23One (n : Nat) (g : SGood) (h : strok g.Name) (hn : 1048576 < n) : m_spec_l23One n g = some (goodB g) := by
  unfold m_spec_l23One m_spec_l23Many goodB inRB
  rw [p_specIsName n _ h hn]
  simp only [p_l00In, Option.bind_some]
  cases nameB g.Name <;> cases (decide (0 ≤ g.OnHand) && decide (g.OnHand ≤ 1000000)) <;> cases (decide (0 ≤ g.Reserved) && decide (g.Reserved ≤ g.OnHand)) <;> rfl

theorem p_validGood (n : Nat) (g : SGood) (h : strok g.Name) (hn : 1048576 < n) : m_impl_validGood n g = some (goodB g) := by
  unfold m_impl_validGood goodB inRB
  rw [p_implIsName n _ h hn]
  simp only [p_within, Option.bind_some]
  cases nameB g.Name <;> cases (decide (0 ≤ g.OnHand) && decide (g.OnHand ≤ 1000000)) <;> cases (decide (0 ≤ g.Reserved) && decide (g.Reserved ≤ g.OnHand)) <;> rfl

def gD : SGood := ⟨[], 0, 0, 0⟩

/-- The check of one place. -/
def atB (l : List SGood) (i : Nat) : Bool := goodB (l.getD i gD) && (decide (i = 0) || strLt (l.getD (i - 1) gD).Name (l.getD i gD).Name)

/-- A stock. -/
def goodsB (l : List SGood) : Bool := (List.range l.length).all (atB l) && decide (l.length ≤ 40)

theorem p_l23Ok (n : Nat) (l : List SGood) (hl : l.length ≤ 1048576) (hs : ∀ g ∈ l, strok g.Name) (hn : 1048576 < n) : m_spec_l23Ok n l = some (goodsB l) := by
  unfold m_spec_l23Ok goodsB
  have key := loopN_all (body := m_spec_l23Ok_l1 n l) (fun i => (i : Int)) (.inl ()) (.inr false) l.length (atB l)
    (fun i hi => by
      have hg : l[i]? = some (l.getD i gD) := getD_of hi gD
      have hso := hs _ (List.mem_of_getElem? hg)
      unfold m_spec_l23Ok_l1 atB
      simp only [ltB hi, if_true, idx_nat, hg, Option.bind_some, p_l23One n _ hso hn, succ64 hi (by omega)]
      cases hgb : goodB (l.getD i gD) with
      | false => rfl
      | true =>
        simp only [Bool.not_true, Bool.false_eq_true, if_false, Bool.true_and]
        by_cases h0 : i = 0
        · subst h0; rfl
        · have hp : decide ((i : Int) > 0) = true := decide_eq_true (by omega)
          have hw : wI64 ((i : Int) - 1) = ((i - 1 : Nat) : Int) := by rw [wI64_eq (by omega) (by omega)]; omega
          have hg2 : l[i - 1]? = some (l.getD (i - 1) gD) := getD_of (by omega) gD
          simp only [hp, if_true, hw, idx_nat, hg2, Option.bind_some, h0, decide_false, Bool.false_or]
          cases strLt (l.getD (i - 1) gD).Name (l.getD i gD).Name <;> rfl)
    (by unfold m_spec_l23Ok_l1; simp) n (by omega)
  have k1 : loopN (m_spec_l23Ok_l1 n l) n 0 = _ := key
  rw [k1]
  have h40 : decide ((l.length : Int) ≤ 40) = decide (l.length ≤ 40) := decide_eq_decide.2 (by omega)
  cases (List.range l.length).all (atB l) with
  | true => simp only [if_true, Option.bind_some, h40, Bool.true_and]
  | false => rfl

theorem p_implValidGoods (n : Nat) (l : List SGood) (hl : l.length ≤ 1048576) (hs : ∀ g ∈ l, strok g.Name) (hn : 1048576 < n) : m_impl_ValidGoods n l = some (goodsB l) := by
  unfold m_impl_ValidGoods goodsB
  have key := loopN_all (body := m_impl_ValidGoods_l1 n l) (fun i => (i : Int)) (.inl ()) (.inr false) l.length (atB l)
    (fun i hi => by
      have hg : l[i]? = some (l.getD i gD) := getD_of hi gD
      have hso := hs _ (List.mem_of_getElem? hg)
      unfold m_impl_ValidGoods_l1 atB
      simp only [ltB hi, if_true, idx_nat, hg, Option.bind_some, p_validGood n _ hso hn, succ64 hi (by omega)]
      cases hgb : goodB (l.getD i gD) with
      | false => rfl
      | true =>
        simp only [Bool.not_true, Bool.false_eq_true, if_false, Bool.true_and]
        by_cases h0 : i = 0
        · subst h0; rfl
        · have hp : decide ((i : Int) > 0) = true := decide_eq_true (by omega)
          have hw : wI64 ((i : Int) - 1) = ((i - 1 : Nat) : Int) := by rw [wI64_eq (by omega) (by omega)]; omega
          have hg2 : l[i - 1]? = some (l.getD (i - 1) gD) := getD_of (by omega) gD
          simp only [hp, if_true, hw, idx_nat, hg2, Option.bind_some, h0, decide_false, Bool.false_or]
          cases strLt (l.getD (i - 1) gD).Name (l.getD i gD).Name <;> rfl)
    (by unfold m_impl_ValidGoods_l1; simp) n (by omega)
  have k1 : loopN (m_impl_ValidGoods_l1 n l) n 0 = _ := key
  rw [k1]
  have h40 : decide ((l.length : Int) ≤ 40) = decide (l.length ≤ 40) := decide_eq_decide.2 (by omega)
  cases (List.range l.length).all (atB l) with
  | true => simp only [if_true, Option.bind_some, h40, Bool.true_and]
  | false => rfl

/-- What is known of a valid stock. -/
structure Stock (l : List SGood) : Prop where
  len : l.length ≤ 40
  good : ∀ g ∈ l, goodB g = true
  less : ∀ (i j : Nat) g h, i < j → l[i]? = some g → l[j]? = some h → strLt g.Name h.Name = true

theorem stock_of {l : List SGood} (h : goodsB l = true) : Stock l := by
  unfold goodsB at h
  simp only [Bool.and_eq_true, decide_eq_true_eq, List.all_eq_true, List.mem_range] at h
  obtain ⟨h1, h2⟩ := h
  have at_ : ∀ i, i < l.length → goodB (l.getD i gD) = true ∧ (i ≠ 0 → strLt (l.getD (i - 1) gD).Name (l.getD i gD).Name = true) := by
    intro i hi
    have := h1 i hi
    unfold atB at this
    simp only [Bool.and_eq_true, Bool.or_eq_true, decide_eq_true_eq] at this
    refine ⟨this.1, fun h0 => ?_⟩
    rcases this.2 with h | h
    · exact absurd h h0
    · exact h
  refine ⟨h2, ?_, ?_⟩
  · intro g hg
    obtain ⟨i, hi⟩ := List.getElem?_of_mem hg
    have hlt := lt_of_get hi
    have := (at_ i hlt).1
    rw [List.getD_eq_getElem?_getD, hi] at this
    exact this
  · intro i j g h hij hi hj
    induction j generalizing h with
    | zero => omega
    | succ j ih =>
      have hlt := lt_of_get hj
      have hs := (at_ (j + 1) hlt).2 (by omega)
      rw [List.getD_eq_getElem?_getD, List.getD_eq_getElem?_getD, hj, Nat.add_sub_cancel, Option.getD_some] at hs
      by_cases e : i = j
      · subst e; rw [hi] at hs; exact hs
      · obtain ⟨k, hk⟩ : ∃ k, l[j]? = some k := ⟨_, List.getElem?_eq_getElem (by omega)⟩
        have := ih k (by omega) hk
        rw [hk] at hs
        exact sl_trans this hs

/-! ### Found -/

def findZ (l : List SGood) (name : List UInt8) : Int := match l.findIdx? (fun g => g.Name == name) with | some i => (i : Int) | none => -1

theorem p_l23Find (n : Nat) (l : List SGood) (name : List UInt8) (hl : l.length ≤ 1048576) (hn : 1048576 < n) : m_spec_l23Find n l name = some (findZ l name) := by
  unfold m_spec_l23Find findZ
  have := loopN_index (body := m_spec_l23Find_l1 n l name) l (fun g => g.Name == name)
    (fun i x hx => by
      have hlt := lt_of_get hx
      unfold m_spec_l23Find_l1
      simp only [ltB hlt, if_true, idx_nat, hx, Option.bind_some, succ64 hlt (by omega)]
      cases x.Name == name <;> rfl)
    (by unfold m_spec_l23Find_l1; simp) n (by omega)
  rw [this]
  cases l.findIdx? (fun g => g.Name == name) <;> rfl

theorem p_compare (n : Nat) (x y : List UInt8) : m_cmp_Compare_string n x y = some (if strLt x y then -1 else if x = y then 0 else 1) := by
  unfold m_cmp_Compare_string m_cmp_isNaN_string
  have e : ∀ z : List UInt8, (!(z == z)) = false := fun z => by simp
  simp only [e, Option.bind_some, Bool.false_eq_true, if_false]
  cases strLt x y with
  | true => rfl
  | false =>
    by_cases h : x = y
    · subst h; simp
    · simp [h]

/-- The place of a name. -/
structure Place (l : List SGood) (name : List UInt8) (p : Nat) : Prop where
  le : p ≤ l.length
  lo : ∀ (k : Nat) g, k < p → l[k]? = some g → strLt g.Name name = true
  hi : ∀ (k : Nat) g, p ≤ k → l[k]? = some g → strLt g.Name name = false

def foundB (l : List SGood) (name : List UInt8) (p : Nat) : Bool := match l[p]? with | some g => g.Name == name | none => false

theorem place_find {l : List SGood} {name : List UInt8} {p : Nat} (hS : Stock l) (h : Place l name p) : findZ l name = if foundB l name p then (p : Int) else -1 := by
  unfold findZ foundB
  cases hf : l.findIdx? (fun g => g.Name == name) with
  | none =>
    rw [List.findIdx?_eq_none_iff] at hf
    cases hp : l[p]? with
    | none => rfl
    | some g =>
      have := hf g (List.mem_of_getElem? hp)
      simp only [this, Bool.false_eq_true, if_false]
  | some i =>
    rw [List.findIdx?_eq_some_iff_getElem] at hf
    obtain ⟨hi, he, hlt⟩ := hf
    have hgi : l[i]? = some l[i] := List.getElem?_eq_getElem hi
    have hne : l[i].Name = name := by simpa using he
    have hip : i = p := by
      rcases Nat.lt_trichotomy i p with h1 | h1 | h1
      · have := h.lo i _ h1 hgi
        rw [hne, sl_irr] at this; cases this
      · exact h1
      · exfalso
        obtain ⟨g, hg⟩ : ∃ g, l[p]? = some g := ⟨_, List.getElem?_eq_getElem (by omega)⟩
        have h2 := h.hi p g (Nat.le_refl _) hg
        have h3 := hS.less p i g l[i] h1 hg hgi
        rw [hne, h2] at h3; cases h3
    subst hip
    rw [hgi]
    simp only [he, if_true]

theorem p_goodPlace (n : Nat) (l : List SGood) (name : List UInt8) (hS : Stock l) (hn : 1048576 < n) : ∃ p, Place l name p ∧ m_impl_goodPlace n l name = some ((p : Int), foundB l name p) := by
  have hlen := hS.len
  unfold m_impl_goodPlace m_slices_BinarySearchFunc_impl_Good_impl_Good_string_f66
  have loop : ∀ (m i j : Nat), j - i < m → i ≤ j → j ≤ l.length → (∀ (k : Nat) g, k < i → l[k]? = some g → strLt g.Name name = true) → (∀ (k : Nat) g, j ≤ k → l[k]? = some g → strLt g.Name name = false) →
      ∃ p, Place l name p ∧ loopN (m_slices_BinarySearchFunc_impl_Good_impl_Good_string_f66_l1 n l name) m ((i : Int), (j : Int)) = some (p : Int) := by
    intro m
    induction m with
    | zero => intro i j h; omega
    | succ m ih =>
      intro i j hm hij hj hlo hhi
      by_cases hlt : i < j
      · have hd : decide ((i : Int) < (j : Int)) = true := decide_eq_true (by omega)
        have hsh : shr .u64 (IntKind.u64.wrap (wI64 ((i : Int) + (j : Int)))) 1 = some (((i + j) / 2 : Nat) : Int) := by
          rw [wI64_eq (by omega) (by omega), wU64_eq (by omega) (by omega)]
          unfold shr
          rw [if_neg (by omega)]
          have : ((i : Int) + (j : Int)) = ((i + j : Nat) : Int) := by omega
          have hp : (2 : Int) ^ (min (Int.toNat 1) IntKind.u64.bits) = 2 := by decide
          rw [this, hp, Int.fdiv_eq_ediv_of_nonneg _ (by omega)]
          rfl
        obtain ⟨h, hh⟩ : ∃ h, h = (i + j) / 2 := ⟨_, rfl⟩
        rw [← hh] at hsh
        have hw : wI64 ((h : Nat) : Int) = (h : Int) := wI64_eq (by omega) (by omega)
        obtain ⟨g, hg⟩ : ∃ g, l[h]? = some g := ⟨_, List.getElem?_eq_getElem (by omega)⟩
        cases hc : strLt g.Name name with
        | true =>
          obtain ⟨p, p1, p2⟩ := ih (h + 1) j (by omega) (by omega) hj (fun k g' hk hg' => by
            rcases Nat.lt_or_ge k h with h1 | h1
            · exact sl_trans (hS.less k h g' g h1 hg' hg) hc
            · have : k = h := by omega
              subst this; rw [hg] at hg'; cases hg'; exact hc) hhi
          refine ⟨p, p1, ?_⟩
          have hb : m_slices_BinarySearchFunc_impl_Good_impl_Good_string_f66_l1 n l name ((i : Int), (j : Int)) = some (.next (((h + 1 : Nat) : Int), (j : Int))) := by
            unfold m_slices_BinarySearchFunc_impl_Good_impl_Good_string_f66_l1 m_impl_goodPlace_1
            have hw2 : wI64 ((h : Int) + 1) = ((h + 1 : Nat) : Int) := by rw [wI64_eq (by omega) (by omega)]; omega
            simp only [hd, if_true, hsh, Option.bind_some, hw, idx_nat, hg, p_compare, hc, hw2]
            rfl
          simp only [loopN, hb, Option.bind_some]; exact p2
        | false =>
          obtain ⟨p, p1, p2⟩ := ih i h (by omega) (by omega) (by omega) hlo (fun k g' hk hg' => by
            rcases Nat.lt_or_ge h k with h1 | h1
            · cases hq : strLt g'.Name name with
              | false => rfl
              | true => rw [sl_trans (hS.less h k g g' h1 hg hg') hq] at hc; cases hc
            · have : k = h := by omega
              subst this; rw [hg] at hg'; cases hg'; exact hc)
          refine ⟨p, p1, ?_⟩
          have hb : m_slices_BinarySearchFunc_impl_Good_impl_Good_string_f66_l1 n l name ((i : Int), (j : Int)) = some (.next ((i : Int), (h : Int))) := by
            unfold m_slices_BinarySearchFunc_impl_Good_impl_Good_string_f66_l1 m_impl_goodPlace_1
            have hneg : decide ((if g.Name = name then (0 : Int) else 1) < 0) = false := by split <;> rfl
            simp only [hd, if_true, hsh, Option.bind_some, hw, idx_nat, hg, p_compare, hc, Bool.false_eq_true, if_false, hneg]
          simp only [loopN, hb, Option.bind_some]; exact p2
      · have he : i = j := by omega
        subst he
        refine ⟨i, ⟨hj, hlo, hhi⟩, ?_⟩
        simp [loopN, m_slices_BinarySearchFunc_impl_Good_impl_Good_string_f66_l1]
  obtain ⟨p, p1, p2⟩ := loop n 0 l.length (by omega) (by omega) (by omega) (fun k g hk => by omega) (fun k g hk hg => by have := lt_of_get hg; omega)
  refine ⟨p, p1, ?_⟩
  have p2' : loopN (m_slices_BinarySearchFunc_impl_Good_impl_Good_string_f66_l1 n l name) n (0, (l.length : Int)) = some (p : Int) := p2
  rw [p2']
  simp only [Option.bind_some]
  unfold foundB
  by_cases hp : p < l.length
  · obtain ⟨g, hg⟩ : ∃ g, l[p]? = some g := ⟨_, List.getElem?_eq_getElem hp⟩
    have hlo := p1.hi p g (Nat.le_refl _) hg
    unfold m_impl_goodPlace_1
    simp only [ltB hp, if_true, idx_nat, hg, Option.bind_some, p_compare, hlo, Bool.false_eq_true, if_false]
    by_cases he : g.Name = name
    · simp [he]
    · have : (g.Name == name) = false := by simp [he]
      simp [he]
  · have hd : decide ((p : Int) < (l.length : Int)) = false := decide_eq_false (by omega)
    rw [List.getElem?_eq_none (by omega)]
    simp only [hd, Bool.false_eq_true, if_false, Option.bind_some]

def shortF (b : List STake) (g : SGood) : List STake := if g.Least - (g.OnHand - g.Reserved) > 0 then b ++ [⟨g.Name, g.Least - (g.OnHand - g.Reserved)⟩] else b

theorem goodB_range {g : SGood} (h : goodB g = true) : 0 ≤ g.OnHand ∧ g.OnHand ≤ 1000000 ∧ 0 ≤ g.Reserved ∧ g.Reserved ≤ g.OnHand ∧ 0 ≤ g.Least ∧ g.Least ≤ 1000000 := by
  unfold goodB inRB at h
  simp only [Bool.and_eq_true, decide_eq_true_eq] at h
  omega

def shortR (l : List SGood) : List STake × Int := if goodsB l then (l.foldl shortF [], 0) else ([], 1)

theorem p_l23Takes (n : Nat) (l : List SGood) (ts : List STake) (hl : l.length ≤ 1048576) (hs : ∀ g ∈ l, strok g.Name) (ht : ts.length ≤ 1048576) (hn : 1048576 < n) :
    m_spec_l23Takes n l ts = some (if goodsB l then (if ts.all (fun t => inRB (-1000000) 1000000 t.Many) then (if ts.length > 60 then 2 else 0) else 2) else 1) := by
  unfold m_spec_l23Takes
  rw [p_l23Ok n l hl hs hn]
  simp only [Option.bind_some]
  cases goodsB l with
  | false => rfl
  | true =>
    simp only [Bool.not_true, Bool.false_eq_true, if_false, if_true]
    have key := loopN_listAll (body := m_spec_l23Takes_l1 n ts) ts (fun t => inRB (-1000000) 1000000 t.Many) (fun i => (i : Int)) (.inl ()) (.inr 2)
      (fun i t hx => by
        have hlt := lt_of_get hx
        have e : (decide (-1000000 ≤ t.Many) && decide (t.Many ≤ 1000000)) = inRB (-1000000) 1000000 t.Many := rfl
        unfold m_spec_l23Takes_l1 m_spec_l23Take
        simp only [ltB hlt, if_true, idx_nat, hx, Option.bind_some, p_l00In, e, succ64 hlt (by omega)]
        cases inRB (-1000000) 1000000 t.Many <;> rfl)
      (by unfold m_spec_l23Takes_l1; simp) n (by omega)
    have k1 : loopN (m_spec_l23Takes_l1 n ts) n 0 = _ := key
    rw [k1]
    cases ts.all (fun t => inRB (-1000000) 1000000 t.Many) with
    | false => rfl
    | true =>
      simp only [if_true, Option.bind_some]
      by_cases h : ts.length > 60
      · rw [decide_eq_true (by omega : (ts.length : Int) > 60)]; simp [h]
      · rw [decide_eq_false (by omega : ¬ (ts.length : Int) > 60)]; simp [h]

theorem p_many (n : Nat) (ts : List STake) (ht : ts.length ≤ 1048576) : ∀ (m i : Nat), ts.length - i + 1 < m → i ≤ ts.length → loopN (m_spec_CanMake_l1 n ts) m (0, (i : Int)) = some (if (ts.drop i).all (fun t => decide (1 ≤ t.Many)) then 0 else 2) := by
  intro m
  induction m with
  | zero => intro i h; omega
  | succ m ih =>
    intro i hm hi
    by_cases hlt : i < ts.length
    · obtain ⟨t, hx⟩ : ∃ t, ts[i]? = some t := ⟨_, List.getElem?_eq_getElem hlt⟩
      have hd : ts.drop i = t :: ts.drop (i + 1) := by
        rw [List.drop_eq_getElem_cons hlt]
        rw [List.getElem?_eq_getElem hlt] at hx
        rw [Option.some.inj hx]
      have hb : m_spec_CanMake_l1 n ts (0, (i : Int)) = some (.next (if t.Many < 1 then 2 else 0, ((i + 1 : Nat) : Int))) := by
        unfold m_spec_CanMake_l1
        simp only [ltB hlt, if_true, BEq.rfl, Option.bind_some, idx_nat, hx, succ64 hlt (by omega)]
        by_cases h : t.Many < 1
        · simp only [h, decide_true, if_true, Option.bind_some]
        · simp only [h, decide_false, Bool.false_eq_true, if_false, Option.bind_some]
      simp only [loopN, hb, Option.bind_some, hd, List.all_cons]
      by_cases h : t.Many < 1
      · have h1 : ¬ 1 ≤ t.Many := by omega
        simp only [h, if_true, h1, decide_false, Bool.false_and, Bool.false_eq_true, if_false]
        obtain ⟨m', rfl⟩ : ∃ q, m = q + 1 := ⟨m - 1, by omega⟩
        have h20 : ((2 : Int) == 0) = false := rfl
        by_cases h3 : i + 1 < ts.length
        · simp [loopN, m_spec_CanMake_l1, ltB h3]
        · have : decide (((i + 1 : Nat) : Int) < (ts.length : Int)) = false := decide_eq_false (by omega)
          simp only [loopN, m_spec_CanMake_l1, this, Bool.false_eq_true, if_false, Option.bind_some]
      · have h1 : 1 ≤ t.Many := by omega
        simp only [h, if_false, h1, decide_true, Bool.true_and]
        exact ih (i + 1) (by omega) (by omega)
    · have he : i = ts.length := by omega
      subst he
      simp [loopN, m_spec_CanMake_l1]

/-! ### Sums -/

def sumN (name : List UInt8) (ts : List STake) : Int := (ts.map fun t => if t.Name = name then t.Many else 0).sum

def sumK (l : List SGood) (k : Nat) (ts : List STake) : Int := (ts.map fun t => if findZ l t.Name = (k : Int) then t.Many else 0).sum

theorem sums_bound (p : STake → Bool) : ∀ (ts : List STake), (∀ t ∈ ts, 1 ≤ t.Many ∧ t.Many ≤ 1000000) → 0 ≤ (ts.map fun t => if p t then t.Many else 0).sum ∧ (ts.map fun t => if p t then t.Many else 0).sum ≤ 1000000 * (ts.length : Int) ∧ (∀ t ∈ ts, p t = true → 1 ≤ (ts.map fun t => if p t then t.Many else 0).sum) ∧ ((ts.map fun t => if p t then t.Many else 0).sum ≠ 0 → ∃ t ∈ ts, p t = true)
  | [], _ => ⟨by simp, by simp, by simp, by simp⟩
  | t :: ts, h => by
    have ht := h t (by simp)
    obtain ⟨h1, h2, h3, h4⟩ := sums_bound p ts (fun q hq => h q (by simp [hq]))
    simp only [List.map_cons, List.sum_cons, List.length_cons]
    cases hp : p t with
    | true =>
      simp only [if_true]
      exact ⟨by omega, by omega, fun _ _ _ => by omega, fun _ => ⟨t, by simp, hp⟩⟩
    | false =>
      simp only [Bool.false_eq_true, if_false, Int.zero_add]
      refine ⟨h1, by omega, fun q hq hqp => ?_, fun hne => ?_⟩
      · simp only [List.mem_cons] at hq
        rcases hq with rfl | hq
        · rw [hp] at hqp; cases hqp
        · exact h3 q hq hqp
      · obtain ⟨q, hq, hqp⟩ := h4 hne
        exact ⟨q, by simp [hq], hqp⟩

theorem find_get {l : List SGood} {name : List UInt8} {k : Nat} (h : findZ l name = (k : Int)) : ∃ g, l[k]? = some g ∧ g.Name = name := by
  unfold findZ at h
  cases hf : l.findIdx? (fun g => g.Name == name) with
  | none => rw [hf] at h; have h' : (-1 : Int) = (k : Int) := h; omega
  | some i =>
    rw [hf] at h
    have h' : (i : Int) = (k : Int) := h
    have : i = k := by omega
    subst this
    rw [List.findIdx?_eq_some_iff_getElem] at hf
    obtain ⟨hi, he, _⟩ := hf
    exact ⟨l[i], List.getElem?_eq_getElem hi, by simpa using he⟩

theorem find_cases (l : List SGood) (name : List UInt8) : findZ l name = -1 ∨ ∃ k : Nat, findZ l name = (k : Int) ∧ k < l.length := by
  unfold findZ
  cases hf : l.findIdx? (fun g => g.Name == name) with
  | none => exact .inl rfl
  | some i =>
    rw [List.findIdx?_eq_some_iff_getElem] at hf
    exact .inr ⟨i, rfl, hf.1⟩

theorem sum_same {l : List SGood} {name : List UInt8} {k : Nat} (h : findZ l name = (k : Int)) (ts : List STake) : sumN name ts = sumK l k ts := by
  unfold sumN sumK
  congr 1
  apply List.map_congr_left
  intro t _
  by_cases he : t.Name = name
  · rw [if_pos he, he, if_pos h]
  · rw [if_neg he]
    by_cases h2 : findZ l t.Name = (k : Int)
    · obtain ⟨g, g1, g2⟩ := find_get h
      obtain ⟨g', g1', g2'⟩ := find_get h2
      rw [g1] at g1'; cases g1'
      exact absurd (g2'.symm.trans g2) he
    · rw [if_neg h2]

/-- What is free of the k-th good, for all needs of it. -/
def freeQ (l : List SGood) (ts : List STake) (k : Nat) : Int := Int.tdiv ((l.getD k gD).OnHand - (l.getD k gD).Reserved) (sumK l k ts)

def setF (l : List SGood) (b : List Int) (t : STake) : List Int := b.set (findZ l t.Name).toNat (wI64 (b.getD (findZ l t.Name).toNat 0 + t.Many))

theorem set_sum (l : List SGood) : ∀ (ts : List STake) (b : List Int) (B : Int), b.length = l.length → (∀ t ∈ ts, 1 ≤ t.Many ∧ t.Many ≤ 1000000 ∧ 0 ≤ findZ l t.Name) → (∀ k, 0 ≤ b.getD k 0 ∧ b.getD k 0 ≤ B) → 0 ≤ B → B + 1000000 * (ts.length : Int) ≤ 1000000000 →
    (ts.foldl (setF l) b).length = l.length ∧ ∀ k, k < l.length → (ts.foldl (setF l) b).getD k 0 = b.getD k 0 + sumK l k ts
  | [], b, B, hl, _, _, _, _ => ⟨hl, fun k _ => by simp [sumK]⟩
  | t :: ts, b, B, hl, ht, hb, hB0, hB => by
    obtain ⟨t1, t2, t3⟩ := ht t (by simp)
    simp only [List.length_cons] at hB
    obtain ⟨q, hq, hql⟩ : ∃ q : Nat, findZ l t.Name = (q : Int) ∧ q < l.length := by
      rcases find_cases l t.Name with h | ⟨k, h1, h2⟩
      · omega
      · exact ⟨k, h1, h2⟩
    have hbq := hb q
    have hstep : ∀ k, (setF l b t).getD k 0 = b.getD k 0 + (if findZ l t.Name = (k : Int) then t.Many else 0) := by
      intro k
      unfold setF
      rw [hq, Int.toNat_natCast, wI64_eq (by omega) (by omega)]
      by_cases e : q = k
      · subst e
        rw [if_pos rfl, List.getD_eq_getElem?_getD, List.getElem?_set_self (by omega)]; rfl
      · rw [if_neg (by omega), List.getD_eq_getElem?_getD, List.getElem?_set_ne e, ← List.getD_eq_getElem?_getD]; omega
    have hlen : (setF l b t).length = l.length := by unfold setF; simpa using hl
    obtain ⟨i1, i2⟩ := set_sum l ts (setF l b t) (B + 1000000) hlen (fun x hx => ht x (by simp [hx])) (fun k => by
      rw [hstep]; have := hb k; split <;> omega) (by omega) (by omega)
    refine ⟨i1, fun k hk => ?_⟩
    rw [List.foldl_cons, i2 k hk, hstep k]
    simp only [sumK, List.map_cons, List.sum_cons]; omega

def freeL (l : List SGood) (ts : List STake) : List Int := ts.map fun t => freeQ l ts (findZ l t.Name).toNat

def canR (l : List SGood) (ts : List STake) : Int × Int :=
  if goodsB l = true then
    if ts.length > 60 then (0, 2) else
    if ts.all (fun t => inRB 1 1000000 t.Many) = true then
      if ts.length = 0 then (0, 6) else
      if ts.all (fun t => decide (0 ≤ findZ l t.Name)) = true then ((freeL l ts).foldl minF (-1), 0) else (0, 3)
    else (0, 2)
  else (0, 1)

def codeG (l : List SGood) (name : List UInt8) (many : Int) : Int × Int :=
  if goodsB l then (if inRB 1 1000000 many then (if findZ l name < 0 then (0, 3) else (findZ l name, 0)) else (0, 2)) else (0, 1)

theorem p_l23Named (n : Nat) (l : List SGood) (name : List UInt8) (many : Int) (hl : l.length ≤ 1048576) (hs : ∀ g ∈ l, strok g.Name) (hn : 1048576 < n) : m_spec_l23Named n l name many = some (codeG l name many) := by
  unfold m_spec_l23Named codeG
  have e : (decide (1 ≤ many) && decide (many ≤ 1000000)) = inRB 1 1000000 many := rfl
  rw [p_l23Ok n l hl hs hn]
  simp only [Option.bind_some]
  cases goodsB l with
  | false => rfl
  | true =>
    simp only [Bool.not_true, Bool.false_eq_true, if_false, if_true, p_l00In, e, Option.bind_some]
    cases inRB 1 1000000 many with
    | false => rfl
    | true =>
      simp only [Bool.not_true, Bool.false_eq_true, if_false, if_true, p_l23Find n l name hl hn, Option.bind_some]
      by_cases h : findZ l name < 0
      · simp [h]
      · simp [h]

theorem code_cases (l : List SGood) (name : List UInt8) (many : Int) : (codeG l name many).2 ≠ 0 ∨
    ∃ (k : Nat) (g : SGood), codeG l name many = ((k : Int), 0) ∧ l[k]? = some g ∧ g.Name = name ∧ goodsB l = true ∧ 1 ≤ many ∧ many ≤ 1000000 ∧ findZ l name = (k : Int) := by
  unfold codeG
  cases hv : goodsB l with
  | false => left; simp
  | true =>
    cases hm : inRB 1 1000000 many with
    | false => left; simp
    | true =>
      unfold inRB at hm
      simp only [Bool.and_eq_true, decide_eq_true_eq] at hm
      rcases find_cases l name with h | ⟨k, hk, _⟩
      · left; simp [h]
      · right
        obtain ⟨g, hg, hgn⟩ := find_get hk
        have : ¬ ((k : Int) < 0) := by omega
        exact ⟨k, g, by simp [hk, this], hg, hgn, rfl, hm.1, hm.2, hk⟩

def resAt (l : List SGood) (many : Int) (k : Nat) (g : SGood) : List SGood × Int :=
  if g.OnHand - g.Reserved < many then ([], 10) else (l.set k ⟨g.Name, g.OnHand, g.Reserved + many, g.Least⟩, 0)

def useAt (l : List SGood) (many : Int) (k : Nat) (g : SGood) : List SGood × Int :=
  if g.Reserved < many then ([], 6) else (l.set k ⟨g.Name, g.OnHand - many, g.Reserved - many, g.Least⟩, 0)

theorem p_Clone (n : Nat) (l : List SGood) (hl : l.length ≤ 1048576) : m_slices_Clone_impl_Good_impl_Good n l = some l := by
  unfold m_slices_Clone_impl_Good_impl_Good
  rw [app_eq (by simp; omega)]; rfl

theorem resAt_len (l : List SGood) (many : Int) (k : Nat) (g : SGood) : (resAt l many k g).1.length ≤ l.length := by
  unfold resAt; split <;> simp

theorem useAt_len (l : List SGood) (many : Int) (k : Nat) (g : SGood) : (useAt l many k g).1.length ≤ l.length := by
  unfold useAt; split <;> simp

theorem goodsB_set {l : List SGood} {k : Nat} {g g' : SGood} (h : goodsB l = true) (hg : l[k]? = some g) (hn : g'.Name = g.Name) (hb : goodB g' = true) : goodsB (l.set k g') = true := by
  have hk := lt_of_get hg
  have nm : ∀ i, ((l.set k g').getD i gD).Name = (l.getD i gD).Name := by
    intro i
    rw [List.getD_eq_getElem?_getD, List.getD_eq_getElem?_getD, List.getElem?_set]
    split
    · rename_i e; subst e; rw [hg]; simpa using hn
    · rfl
  unfold goodsB at h ⊢
  simp only [Bool.and_eq_true, decide_eq_true_eq, List.all_eq_true, List.mem_range, List.length_set] at h ⊢
  refine ⟨fun i hi => ?_, h.2⟩
  have := h.1 i hi
  unfold atB at this ⊢
  simp only [nm]
  simp only [Bool.and_eq_true] at this ⊢
  refine ⟨?_, this.2⟩
  rw [List.getD_eq_getElem?_getD, List.getElem?_set]
  split
  · exact hb
  · have := this.1; rwa [List.getD_eq_getElem?_getD] at this

theorem names_set {l : List SGood} {k : Nat} {g g' : SGood} (hs : ∀ g ∈ l, strok g.Name) (hg : l[k]? = some g) (hn : g'.Name = g.Name) : ∀ x ∈ l.set k g', strok x.Name := by
  intro x hx
  rcases List.mem_or_eq_of_mem_set hx with h | h
  · exact hs x h
  · subst h; rw [hn]; exact hs g (List.mem_of_getElem? hg)

def takeAt (l : List SGood) (m : Int) (k : Nat) (g : SGood) : List SGood × Int :=
  if g.OnHand + m < g.Reserved then ([], 6) else if g.OnHand + m > 1000000 then ([], 5) else (l.set k ⟨g.Name, g.OnHand + m, g.Reserved, g.Least⟩, 0)

def takeR (l : List SGood) (t : STake) : List SGood × Int :=
  if findZ l t.Name < 0 then ([], 3) else takeAt l t.Many (findZ l t.Name).toNat (l.getD (findZ l t.Name).toNat gD)

/-- A round with one good. -/
theorem p_take (n : Nat) (l : List SGood) (t : STake) (hl : l.length ≤ 1048576) (hs : ∀ g ∈ l, strok g.Name) (hv : goodsB l = true) (ht : inRB (-1000000) 1000000 t.Many = true) (hn : 1048576 < n) :
    m_spec_l23Change n l t = some ((takeR l t).2, if (takeR l t).2 = 0 then (takeR l t).1 else l) ∧ m_impl_taken n l t = some (takeR l t) ∧
    (takeR l t).1.length ≤ l.length ∧ ((takeR l t).2 = 0 → goodsB (takeR l t).1 = true ∧ (takeR l t).1.length = l.length ∧ ∀ g ∈ (takeR l t).1, strok g.Name) := by
  unfold inRB at ht
  simp only [Bool.and_eq_true, decide_eq_true_eq] at ht
  obtain ⟨p, hP, hp⟩ := p_goodPlace n l t.Name (stock_of hv) hn
  have hf := place_find (stock_of hv) hP
  unfold m_spec_l23Change m_impl_taken takeR
  rw [p_l23Find n l t.Name hl hn, hp]
  simp only [Option.bind_some, hf]
  cases hb : foundB l t.Name p with
  | false => simp
  | true =>
    rw [hb, if_pos rfl] at hf
    obtain ⟨g, hg, hgn⟩ := find_get hf
    obtain ⟨r1, r2, r3, r4, r5, r6⟩ := goodB_range ((stock_of hv).good g (List.mem_of_getElem? hg))
    have hk := lt_of_get hg
    have w1 : wI64 (g.OnHand + t.Many) = g.OnHand + t.Many := wI64_eq (by omega) (by omega)
    have hd : decide ((p : Int) < 0) = false := decide_eq_false (by omega)
    have hd2 : ¬ ((p : Int) < 0) := by omega
    have hgd : l.getD p gD = g := by rw [List.getD_eq_getElem?_getD, hg]; rfl
    simp only [if_true, hd, hd2, Bool.false_eq_true, if_false, Bool.not_true, idx_nat, hg, Option.bind_some, w1, p_Clone n l hl, Int.toNat_natCast, hgd, takeAt, m_spec_l23Many, p_l00In]
    have hset : (l.set p (SGood.mk g.Name (g.OnHand + t.Many) g.Reserved g.Least))[p]? = some (SGood.mk g.Name (g.OnHand + t.Many) g.Reserved g.Least) := by simp [hk]
    simp only [hset, Option.bind_some]
    by_cases c1 : g.OnHand + t.Many < g.Reserved
    · simp [c1]
    · have d1 : decide (0 ≤ g.OnHand + t.Many) = true := decide_eq_true (by omega)
      simp only [c1, decide_false, Bool.false_eq_true, if_false, d1, Bool.true_and]
      by_cases c2 : g.OnHand + t.Many > 1000000
      · rw [decide_eq_false (by omega : ¬ g.OnHand + t.Many ≤ 1000000)]
        simp [c2]
      · rw [decide_eq_true (by omega : g.OnHand + t.Many ≤ 1000000)]
        have hb2 : goodB (SGood.mk g.Name (g.OnHand + t.Many) g.Reserved g.Least) = true := by
          have := (stock_of hv).good g (List.mem_of_getElem? hg)
          unfold goodB inRB at this ⊢
          simp only [Bool.and_eq_true, decide_eq_true_eq] at this ⊢
          refine ⟨this.1, ?_, ?_, ?_⟩ <;> omega
        have q1 := goodsB_set hv hg (g' := SGood.mk g.Name (g.OnHand + t.Many) g.Reserved g.Least) rfl hb2
        have q2 := names_set hs hg (g' := SGood.mk g.Name (g.OnHand + t.Many) g.Reserved g.Least) rfl
        simp only [c2, decide_false, Bool.not_true, Bool.false_eq_true, if_false, if_true]
        exact ⟨trivial, trivial, by simp, fun _ => ⟨q1, by simp, q2⟩⟩

theorem change_o1 (n : Nat) (l : List SGood) (t : STake) : m_spec_l23Change_o1 n l t = m_spec_l23Change n l t := rfl

def changeR (l : List SGood) (t : STake) : List SGood × Int :=
  if goodsB l then (if inRB (-1000000) 1000000 t.Many then (if (takeR l t).2 ≠ 0 then ([], (takeR l t).2) else takeR l t) else ([], 2)) else ([], 1)

theorem takeR_nil (l : List SGood) (t : STake) (h : (takeR l t).2 ≠ 0) : (takeR l t).1 = [] := by
  unfold takeR takeAt at h ⊢
  split
  · rfl
  · rename_i c
    rw [if_neg c] at h
    split
    · rfl
    · rename_i c2; rw [if_neg c2] at h
      split
      · rfl
      · rename_i c3; rw [if_neg c3] at h; exact absurd rfl h

theorem p_Change (n : Nat) (l : List SGood) (t : STake) (hl : l.length ≤ 1048576) (hs : ∀ g ∈ l, strok g.Name) (hn : 1048576 < n) :
    m_spec_ChangeGood n l t = some (changeR l t) ∧ m_impl_ChangeGood n l t = some (changeR l t) ∧ (changeR l t).1.length ≤ l.length := by
  unfold m_spec_ChangeGood m_impl_ChangeGood changeR m_spec_l23Take m_impl_isTake
  have e : (decide (-1000000 ≤ t.Many) && decide (t.Many ≤ 1000000)) = inRB (-1000000) 1000000 t.Many := rfl
  rw [p_l23Ok n l hl hs hn, p_implValidGoods n l hl hs hn]
  simp only [Option.bind_some, p_l00In, p_within, e]
  cases hv : goodsB l with
  | false => simp
  | true =>
    cases hm : inRB (-1000000) 1000000 t.Many with
    | false => simp
    | true =>
      obtain ⟨t1, t2, t3, _⟩ := p_take n l t hl hs hv hm hn
      rw [app_eq (by simp; omega)]
      simp only [Bool.not_true, Bool.false_eq_true, if_false, if_true, Option.bind_some, List.nil_append, change_o1, t1, t2]
      by_cases h : (takeR l t).2 = 0
      · have h1 : takeR l t = ((takeR l t).1, 0) := by rw [← h]
        simp only [h, ne_eq, not_true_eq_false, if_false, bne_self_eq_false, Bool.false_eq_true, if_true]
        exact ⟨by rw [← h1], by rw [← h1], t3⟩
      · have h1 := takeR_nil l t h
        simp [h, h1]

def roundG (l : List SGood) (i : Nat) (b : List SGood) (t : STake) : Except ((List SGood) ⊕ (List SGood × Int × Int)) (List SGood) :=
  if (takeR b t).2 = 0 then .ok (takeR b t).1 else .error (.inr (l, (i : Int), 0))

theorem runL_error {α β τ : Type} (f : Nat → β → α → Except τ β) : ∀ (xs : List α) (i : Nat) (b : β) (t : τ), runL f i xs b = .error t → ∃ j b' x, f j b' x = .error t := by
  intro xs
  induction xs with
  | nil => intro i b t h; simp [runL] at h
  | cons x xs ih =>
    intro i b t h
    cases hf : f i b x with
    | error u => simp [runL, hf] at h; subst h; exact ⟨i, b, x, hf⟩
    | ok b' => simp [runL, hf] at h; exact ih _ _ _ h

end Go.Gv
