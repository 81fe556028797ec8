/- Plain laws of styles: the statement on the problems of a text. -/
import Derived.Test.YtkjjjbfpecmieaaDoorPsF
namespace Go.Gv
open Go Go.RowKit

theorem cont_snoc (l : List (List UInt8)) (h w : List UInt8) : (l ++ [h]).contains w = (l.contains w || w == h) := by
  rw [List.contains_eq_any_beq, List.contains_eq_any_beq, List.any_append]
  simp

theorem kindZ_nil : kindZ [] = -1 := rfl

/-- A clause without a problem is set. -/
theorem p_set (n : Nat) (u c li so : List UInt8) (t h e d : Int) (db : Bool) (w : List (List UInt8)) (hw : ∀ x ∈ w, x.length ≤ 9223372036854775807) (hp : probZ w = 0) (hn : 1048576 < n) : ∃ r, m_spec_l24Set_o1 n u c li so t h e d db w = some r := by
  cases w with
  | nil => exact absurd hp (by decide)
  | cons w0 ws =>
    rw [probZ_cons] at hp
    unfold m_spec_l24Set_o1
    have i0 : idx (w0 :: ws) 0 = some w0 := rfl
    simp only [i0, Option.bind_some, p_l24Word n w0 hn]
    have num := fun x (hx : x ∈ w0 :: ws) => p_l01Number n x (hw x hx) hn
    rcases kindZ_cases w0 with ⟨h1, _⟩ | ⟨h1, _⟩ | ⟨h1, _⟩ | ⟨h1, _⟩ | ⟨h1, _⟩ | ⟨h1, _⟩ | ⟨h1, _⟩ <;> rw [h1] at hp ⊢
    · simp at hp
    all_goals
      match ws, hp, num with
      | [], hp, _ => exact absurd hp (by simp [countB])
      | [w1], hp, num =>
        have j1 : idx [w0, w1] 1 = some w1 := rfl
        first
          | (exfalso; revert hp; simp [countB]; done)
          | (simp [j1, num w1 (by simp)]; try exact ⟨_, rfl⟩)
      | [w1, w2], hp, num =>
        have j1 : idx [w0, w1, w2] 1 = some w1 := rfl
        have j2 : idx [w0, w1, w2] 2 = some w2 := rfl
        first
          | (exfalso; revert hp; simp [countB]; done)
          | (simp [j1, j2, num w1 (by simp), num w2 (by simp)]; try exact ⟨_, rfl⟩)
      | w1 :: w2 :: w3 :: r, hp, _ => exact absurd hp (by simp [countB])

def seenL (l : List (List UInt8)) : List Bool := styleW.map fun w => l.contains w

/-- What is seen behind one more clause. -/
theorem seen_step (l : List (List UInt8)) (h : List UInt8) : (kindZ h < 0 ∧ seenL (l ++ [h]) = seenL l) ∨ ∃ k : Nat, kindZ h = (k : Int) ∧ k < 6 ∧ (seenL l)[k]? = some (l.contains h) ∧ (seenL l).set k true = seenL (l ++ [h]) := by
  have e : ∀ g, seenL g = [g.contains wUpper, g.contains wLining, g.contains wSole, g.contains wHeel, g.contains wEyelets, g.contains wStitch] := fun g => rfl
  rcases kindZ_cases h with ⟨h1, h2⟩ | ⟨h1, h2⟩ | ⟨h1, h2⟩ | ⟨h1, h2⟩ | ⟨h1, h2⟩ | ⟨h1, h2⟩ | ⟨h1, h2⟩
  · left
    refine ⟨by omega, ?_⟩
    unfold seenL
    apply List.map_congr_left
    intro w hw
    rw [cont_snoc]
    have : (w == h) = false := by
      have hne : ¬ w = h := by
        rintro rfl
        have : styleW.contains w = true := by simpa using hw
        rw [this] at h2; cases h2
      simpa using hne
    rw [this, Bool.or_false]
  · right; subst h2; exact ⟨0, h1, by decide, by rw [e]; rfl, by rw [e, e]; simp only [cont_snoc]; simp [wUpper, wLining, wSole, wHeel, wEyelets, wStitch]⟩
  · right; subst h2; exact ⟨1, h1, by decide, by rw [e]; rfl, by rw [e, e]; simp only [cont_snoc]; simp [wUpper, wLining, wSole, wHeel, wEyelets, wStitch]⟩
  · right; subst h2; exact ⟨2, h1, by decide, by rw [e]; rfl, by rw [e, e]; simp only [cont_snoc]; simp [wUpper, wLining, wSole, wHeel, wEyelets, wStitch]⟩
  · right; subst h2; exact ⟨3, h1, by decide, by rw [e]; rfl, by rw [e, e]; simp only [cont_snoc]; simp [wUpper, wLining, wSole, wHeel, wEyelets, wStitch]⟩
  · right; subst h2; exact ⟨4, h1, by decide, by rw [e]; rfl, by rw [e, e]; simp only [cont_snoc]; simp [wUpper, wLining, wSole, wHeel, wEyelets, wStitch]⟩
  · right; subst h2; exact ⟨5, h1, by decide, by rw [e]; rfl, by rw [e, e]; simp only [cont_snoc]; simp [wUpper, wLining, wSole, wHeel, wEyelets, wStitch]⟩

theorem prob_kind {w : List (List UInt8)} (h : probZ w = 0) : 0 ≤ kindZ (headW w) := by
  cases w with
  | nil => exact absurd h (by decide)
  | cons w0 ws =>
    rw [probZ_cons] at h
    show 0 ≤ kindZ w0
    by_cases hk : kindZ w0 < 0
    · rw [if_pos hk] at h; exact absurd h (by decide)
    · omega

abbrev Fields := List UInt8 × List UInt8 × List UInt8 × List UInt8 × Int × Int × Int × Int × Bool

theorem p_specLoop (n : Nat) (l : List (List UInt8)) (hl : l.length ≤ 400) (hs : ∀ s ∈ l, s.length ≤ 1500000) (hn : 1500001 < n) :
    ∃ t, loopN (m_spec_l24Check_l1 n l) n (([] : List STrouble), 0, seenL [], [], [], [], [], 0, 0, 0, 0, false) = some t ∧ (t.1 = (atT l l.length).1 ∧ t.2.1 = seenL (atT l l.length).2) := by
  have ap : ∀ (i : Nat) (x : List STrouble) (y : STrouble), i < 400 → x.length ≤ i → app x [y] = some (x ++ [y]) := fun i x y hi h => app_eq (by simp; omega)
  refine loopN_keep (body := m_spec_l24Check_l1 n l) (fun i st => st.1 = (atT l i).1 ∧ st.2.1 = (i : Int) ∧ st.2.2.1 = seenL (atT l i).2) l.length _ ?_ ?_ n (by omega) _ ⟨rfl, rfl, rfl⟩
  · rintro i ⟨o, i', sn, f1, f2, f3, f4, f5, f6, f7, f8, f9⟩ hi ⟨h1, h2, h3⟩
    simp only at h1 h2 h3
    subst h1 h2 h3
    have hx : l[i]? = some (l.getD i []) := getD_of hi []
    have hsx := hs _ (List.mem_of_getElem? hx)
    obtain ⟨a1, a2⟩ := atT_len l i
    have hwm : ∀ w ∈ wordsL (l.getD i []), w.length ≤ 9223372036854775807 := fun w hw => by have := wordsL_mem hw; omega
    have hT : atT l (i + 1) = stepT i (atT l i) (l.getD i []) := rfl
    rw [hT]
    unfold m_spec_l24Check_l1
    simp only [ltB hi, if_true, idx_nat, hx, Option.bind_some, p_SplitWords n _ hsx hn, succ64 hi (by omega)]
    rw [p_l24Problem n _ hwm (by omega)]
    unfold stepT
    generalize hW : wordsL (l.getD i []) = W at hwm
    have hkind : (if (decide ((W.length : Int) > 0)) = true then Option.bind (idx W 0) fun x455 => Option.bind (m_spec_l24Word n x455) fun x457 => some x457 else some (-1)) = some (kindZ (headW W)) := by
      cases W with
      | nil => rfl
      | cons w ws =>
        rw [decide_eq_true (by simp), if_pos rfl]
        have i0 : idx (w :: ws) 0 = some w := rfl
        rw [i0]
        simp only [Option.bind_some, p_l24Word n w (by omega : 1048576 < n)]; rfl
    simp only [Option.bind_some, hkind]
    have ap2 := fun y => ap i (atT l i).1 y (by omega) a1
    rcases seen_step (atT l i).2 (headW W) with ⟨k1, k2⟩ | ⟨k, k1, k2, k3, k4⟩
    · have hp : ¬ probZ W = 0 := fun h => by have := prob_kind h; omega
      have hp2 : (probZ W == 0) = false := by simpa using hp
      have hk : decide (kindZ (headW W) ≥ 0) = false := decide_eq_false (by omega)
      simp only [hp2, Bool.false_eq_true, if_false, Option.bind_some, hk, Bool.false_and, ap2]
      exact ⟨_, rfl, rfl, rfl, by simp only [k2]⟩
    · have hk : decide (kindZ (headW W) ≥ 0) = true := decide_eq_true (by omega)
      rw [k1]
      have hk' : decide (((k : Nat) : Int) ≥ 0) = true := decide_eq_true (by omega)
      simp only [idx_nat, k3, Option.bind_some, hk', if_true, Int.toNat_natCast, k4]
      by_cases hp : probZ W = 0
      · obtain ⟨r, hr⟩ := p_set n f1 f2 f3 f4 f5 f6 f7 f8 f9 W hwm hp (by omega)
        cases hc : (atT l i).2.contains (headW W) with
        | true =>
          simp only [hp, hc, beq_self_eq_true, if_true, Option.bind_some, Bool.and_self, ap2]
          exact ⟨_, rfl, rfl, rfl, rfl⟩
        | false =>
          simp only [hp, hc, beq_self_eq_true, if_true, Option.bind_some, Bool.and_false, Bool.false_eq_true, if_false, hr]
          exact ⟨_, rfl, rfl, rfl, rfl⟩
      · have hp2 : (probZ W == 0) = false := by simpa using hp
        simp only [hp2, Bool.false_eq_true, if_false, Option.bind_some, Bool.false_and, ap2]
        exact ⟨_, rfl, rfl, rfl, rfl⟩
  · rintro ⟨o, i', sn, f1, f2, f3, f4, f5, f6, f7, f8, f9⟩ ⟨h1, h2, h3⟩
    simp only at h1 h2 h3
    subst h1 h2 h3
    unfold m_spec_l24Check_l1
    simp only [ltB_self, Bool.false_eq_true, if_false]
    exact ⟨_, rfl, rfl, rfl⟩

def troublesR (l : List (List UInt8)) : List STrouble :=
  if !((atT l l.length).2.contains wUpper && (atT l l.length).2.contains wSole) then (atT l l.length).1 ++ [⟨(l.length : Int), 6⟩] else (atT l l.length).1

theorem troublesR_len (l : List (List UInt8)) : (troublesR l).length ≤ l.length + 1 := by
  have := atT_len l l.length
  unfold troublesR
  split <;> simp <;> omega

theorem p_implTroubles (n : Nat) (l : List (List UInt8)) (hl : l.length ≤ 400) (hs : ∀ s ∈ l, s.length ≤ 1500000) (hn : 1500001 < n) : m_impl_troubles n l = some (troublesR l) := by
  unfold m_impl_troubles troublesR
  obtain ⟨a1, a2⟩ := atT_len l l.length
  rw [p_implLoop n l hl hs (by omega)]
  simp only [Option.bind_some]
  have c1 : m_slices_Contains_string_string n (atT l l.length).2 [117, 112, 112, 101, 114] = some ((atT l l.length).2.contains wUpper) := p_Contains n _ _ (by omega) (by omega)
  have c2 : m_slices_Contains_string_string n (atT l l.length).2 [115, 111, 108, 101] = some ((atT l l.length).2.contains wSole) := p_Contains n _ _ (by omega) (by omega)
  rw [c1, c2, app_eq (by simp; omega)]
  simp only [Option.bind_some]
  cases (atT l l.length).2.contains wUpper <;> cases (atT l l.length).2.contains wSole <;> rfl

theorem p_specCheck (n : Nat) (l : List (List UInt8)) (hl : l.length ≤ 400) (hs : ∀ s ∈ l, s.length ≤ 1500000) (hn : 1500001 < n) : ∃ x, m_spec_l24Check n l = some (troublesR l, x) := by
  unfold m_spec_l24Check troublesR
  obtain ⟨a1, a2⟩ := atT_len l l.length
  obtain ⟨t, ht, h1, h2⟩ := p_specLoop n l hl hs hn
  have e : m_spec_StyleWords n = some styleW := rfl
  have em : mk (false : Bool) ((styleW.length : Nat) : Int) = some (seenL []) := by rw [mk_nat _ _ (by decide)]; rfl
  rw [e]
  simp only [Option.bind_some]
  rw [em]
  simp only [Option.bind_some]
  rw [ht]
  simp only [Option.bind_some]
  have s0 : idx t.2.1 0 = some ((atT l l.length).2.contains wUpper) := by rw [h2]; rfl
  have s2 : idx t.2.1 2 = some ((atT l l.length).2.contains wSole) := by rw [h2]; rfl
  rw [s0, s2, h1, app_eq (by simp; omega)]
  simp only [Option.bind_some]
  cases (atT l l.length).2.contains wUpper <;> cases (atT l l.length).2.contains wSole <;> exact ⟨_, rfl⟩

theorem law_CheckStyle (s : List UInt8) (hs : strok s) : m_laws_FnExactCheckStyle 2000000 s = some true := by
  unfold m_laws_FnExactCheckStyle m_spec_CheckStyle m_impl_CheckStyle
  by_cases hb : (s.length : Int) > 1048576
  · simp [hb]
  rw [decide_eq_false hb, p_specRead 2000000 s (by omega), p_implRead]
  have hl := clausesR_len s
  have hm : ∀ w ∈ (clausesR s).1, w.length ≤ 1500000 := by
    intro w hw
    unfold clausesR at hw
    split at hw
    · simp at hw
    · have := splitL_mem 59 s w hw; omega
  obtain ⟨x, hx⟩ := p_specCheck 2000000 (clausesR s).1 hl hm (by omega)
  have hi := p_implTroubles 2000000 (clausesR s).1 hl hm (by omega)
  have hlen := troublesR_len (clausesR s).1
  simp only [Bool.false_eq_true, if_false, Option.bind_some, hx, hi]
  obtain ⟨t, e, hr, ht⟩ : ∃ t e, (if (!(clausesR s).2) = true then some (([] : List STrouble), (5 : Int)) else some (troublesR (clausesR s).1, 0)) = some (t, e) ∧ t.length ≤ 401 := by
    by_cases h : (clausesR s).2 = true
    · exact ⟨troublesR (clausesR s).1, 0, by simp [h], by omega⟩
    · exact ⟨[], 5, by simp [h], by simp⟩
  have hne : ¬ (1 + 2 * (t.length : Int) < 0) := by omega
  rw [hr]
  simp [p_eqTroubleS 2000000 t (by omega), p_markTroubleS 2000000 t (by omega), p_heldTroubleS 2000000 t.length (by omega), hne]

end Go.Gv
