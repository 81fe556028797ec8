/- Plain laws of styles: the statement on the style of a text. -/
import Derived.Test.YtkjjjbfpecmieaaDoorPsG
namespace Go.Gv
open Go Go.RowKit

def flS (x : SStyle) : Fields := (x.Upper, x.Color, x.Lining, x.Sole, x.Thick, x.Heel, x.Eyelets, x.Density, x.Double)
def noS : SStyle := ⟨[], [], [], [], 0, 0, 0, 0, false⟩

/-- A clause without a problem is set in one way. -/
theorem p_setwith (n : Nat) (x : SStyle) (s : List UInt8) (hs : s.length ≤ 1500000) (hp : probZ (wordsL s) = 0) (hn : 1048576 < n) :
    ∃ y, m_impl_Style_with n x s = some y ∧ m_spec_l24Set_o1 n x.Upper x.Color x.Lining x.Sole x.Thick x.Heel x.Eyelets x.Density x.Double (wordsL s) = some (flS y) := by
  have hw : ∀ w ∈ wordsL s, w.length ≤ 9223372036854775807 := fun w hw => by have := wordsL_mem hw; omega
  unfold m_impl_Style_with
  rw [p_implSplitWords n s hs]
  simp only [Option.bind_some]
  generalize wordsL s = w at hp hw ⊢
  cases w with
  | nil => exact absurd hp (by decide)
  | cons w0 ws =>
    rw [probZ_cons] at hp
    unfold m_spec_l24Set_o1
    have i0 : idx (w0 :: ws) 0 = some w0 := rfl
    simp only [i0, Option.bind_some, p_l24Word n w0 hn]
    have num := fun x (hx : x ∈ w0 :: ws) => p_l01Number n x (hw x hx) hn
    rcases kindZ_cases w0 with ⟨h1, _⟩ | ⟨h1, h2⟩ | ⟨h1, h2⟩ | ⟨h1, h2⟩ | ⟨h1, h2⟩ | ⟨h1, h2⟩ | ⟨h1, h2⟩ <;> rw [h1] at hp ⊢
    · simp at hp
    all_goals
      subst h2
      match ws, hp, num with
      | [], hp, _ => exact absurd hp (by simp [countB])
      | [w1], hp, num =>
        have j1 : ∀ w0 : List UInt8, idx [w0, w1] 1 = some w1 := fun _ => rfl
        first
          | (exfalso; revert hp; simp [countB]; done)
          | (simp [j1, num w1 (by simp), m_impl_Style_with_1, p_implReadDecimal, flS, wUpper, wLining, wSole, wHeel, wEyelets, wStitch]; done)
          | (simp [j1, num w1 (by simp), m_impl_Style_with_1, p_implReadDecimal, flS, wUpper, wLining, wSole, wHeel, wEyelets, wStitch]; exact ⟨_, rfl, rfl⟩)
      | [w1, w2], hp, num =>
        have j1 : ∀ w0 : List UInt8, idx [w0, w1, w2] 1 = some w1 := fun _ => rfl
        have j2 : ∀ w0 : List UInt8, idx [w0, w1, w2] 2 = some w2 := fun _ => rfl
        first
          | (exfalso; revert hp; simp [countB]; done)
          | (simp [j1, j2, num w1 (by simp), num w2 (by simp), m_impl_Style_with_1, p_implReadDecimal, flS, wUpper, wLining, wSole, wHeel, wEyelets, wStitch]; done)
          | (simp [j1, j2, num w1 (by simp), num w2 (by simp), m_impl_Style_with_1, p_implReadDecimal, flS, wUpper, wLining, wSole, wHeel, wEyelets, wStitch]; exact ⟨_, rfl, rfl⟩)
      | w1 :: w2 :: w3 :: r, hp, _ => exact absurd hp (by simp [countB])

def setsS (n : Nat) (l : List (List UInt8)) : Nat → SStyle
  | 0 => noS
  | i + 1 => (m_impl_Style_with n (setsS n l i) (l.getD i [])).getD noS

/-- Where nothing is wrong behind i + 1 clauses, nothing was wrong before, and the clause is set. -/
theorem at_nil {n : Nat} {l : List (List UInt8)} {i : Nat} (hs : (l.getD i []).length ≤ 1500000) (hn : 1048576 < n) (h : (atT l (i + 1)).1 = []) :
    (atT l i).1 = [] ∧ probZ (wordsL (l.getD i [])) = 0 ∧ m_impl_Style_with n (setsS n l i) (l.getD i []) = some (setsS n l (i + 1)) ∧
    m_spec_l24Set_o1 n (setsS n l i).Upper (setsS n l i).Color (setsS n l i).Lining (setsS n l i).Sole (setsS n l i).Thick (setsS n l i).Heel (setsS n l i).Eyelets (setsS n l i).Density (setsS n l i).Double (wordsL (l.getD i [])) = some (flS (setsS n l (i + 1))) := by
  have h' : (stepT i (atT l i) (l.getD i [])).1 = [] := h
  unfold stepT at h'
  simp only at h'
  have hp : probZ (wordsL (l.getD i [])) = 0 ∧ (atT l i).1 = [] := by
    by_cases hp : probZ (wordsL (l.getD i [])) = 0
    · refine ⟨hp, ?_⟩
      rw [hp] at h'
      cases hc : (atT l i).2.contains (headW (wordsL (l.getD i []))) with
      | true => rw [hc] at h'; simp at h'
      | false => rw [hc] at h'; simpa using h'
    · have hp2 : (probZ (wordsL (l.getD i [])) == 0) = false := by simpa using hp
      simp only [hp2, Bool.false_and, Bool.false_eq_true, if_false] at h'
      exact absurd h' (by simp)
  obtain ⟨y, h1, h2⟩ := p_setwith n (setsS n l i) (l.getD i []) hs hp.1 hn
  have e : setsS n l (i + 1) = y := by show (m_impl_Style_with n (setsS n l i) (l.getD i [])).getD noS = y; rw [h1]; rfl
  rw [e]
  exact ⟨hp.2, hp.1, h1, h2⟩

theorem p_specLoopS (n : Nat) (l : List (List UInt8)) (hl : l.length ≤ 400) (hs : ∀ s ∈ l, s.length ≤ 1500000) (hn : 1500001 < n) :
    ∃ t, loopN (m_spec_l24Check_l1 n l) n (([] : List STrouble), 0, seenL [], [], [], [], [], 0, 0, 0, 0, false) = some t ∧ (t.1 = (atT l l.length).1 ∧ t.2.1 = seenL (atT l l.length).2 ∧ ((atT l l.length).1 = [] → t.2.2 = flS (setsS n l l.length))) := by
  have ap : ∀ (i : Nat) (x : List STrouble) (y : STrouble), i < 400 → x.length ≤ i → app x [y] = some (x ++ [y]) := fun i x y hi h => app_eq (by simp; omega)
  refine loopN_keep (body := m_spec_l24Check_l1 n l) (fun i st => st.1 = (atT l i).1 ∧ st.2.1 = (i : Int) ∧ st.2.2.1 = seenL (atT l i).2 ∧ ((atT l i).1 = [] → st.2.2.2 = flS (setsS n l i))) l.length _ ?_ ?_ n (by omega) _ ⟨rfl, rfl, rfl, fun _ => rfl⟩
  · rintro i ⟨o, i', sn, f1, f2, f3, f4, f5, f6, f7, f8, f9⟩ hi ⟨h1, h2, h3, h4⟩
    simp only at h1 h2 h3 h4
    subst h1 h2 h3
    have hx : l[i]? = some (l.getD i []) := getD_of hi []
    have hsx := hs _ (List.mem_of_getElem? hx)
    have hnil := at_nil (n := n) (l := l) (i := i) hsx (by omega)
    obtain ⟨a1, a2⟩ := atT_len l i
    have hwm : ∀ w ∈ wordsL (l.getD i []), w.length ≤ 9223372036854775807 := fun w hw => by have := wordsL_mem hw; omega
    have hT : atT l (i + 1) = stepT i (atT l i) (l.getD i []) := rfl
    rw [hT] at hnil ⊢
    unfold m_spec_l24Check_l1
    simp only [ltB hi, if_true, idx_nat, hx, Option.bind_some, p_SplitWords n _ hsx hn, succ64 hi (by omega)]
    rw [p_l24Problem n _ hwm (by omega)]
    unfold stepT at hnil ⊢
    generalize hW : wordsL (l.getD i []) = W at hwm hnil
    have hkind : (if (decide ((W.length : Int) > 0)) = true then Option.bind (idx W 0) fun x455 => Option.bind (m_spec_l24Word n x455) fun x457 => some x457 else some (-1)) = some (kindZ (headW W)) := by
      cases W with
      | nil => rfl
      | cons w ws =>
        rw [decide_eq_true (by simp), if_pos rfl]
        have i0 : idx (w :: ws) 0 = some w := rfl
        rw [i0]
        simp only [Option.bind_some, p_l24Word n w (by omega : 1048576 < n)]; rfl
    simp only [Option.bind_some, hkind]
    have ap2 := fun y => ap i (atT l i).1 y (by omega) a1
    have ne : ∀ (x : List STrouble) (y : STrouble), ¬ x ++ [y] = [] := fun x y h => by simp at h
    rcases seen_step (atT l i).2 (headW W) with ⟨k1, k2⟩ | ⟨k, k1, k2, k3, k4⟩
    · have hp : ¬ probZ W = 0 := fun h => by have := prob_kind h; omega
      have hp2 : (probZ W == 0) = false := by simpa using hp
      have hk : decide (kindZ (headW W) ≥ 0) = false := decide_eq_false (by omega)
      simp only [hp2, Bool.false_eq_true, if_false, Option.bind_some, hk, Bool.false_and, ap2]
      exact ⟨_, rfl, rfl, rfl, by simp only [k2], fun h => absurd h (ne _ _)⟩
    · have hk : decide (kindZ (headW W) ≥ 0) = true := decide_eq_true (by omega)
      rw [k1]
      have hk' : decide (((k : Nat) : Int) ≥ 0) = true := decide_eq_true (by omega)
      simp only [idx_nat, k3, Option.bind_some, hk', if_true, Int.toNat_natCast, k4]
      by_cases hp : probZ W = 0
      · obtain ⟨r, hr⟩ := p_set n f1 f2 f3 f4 f5 f6 f7 f8 f9 W hwm hp (by omega)
        cases hc : (atT l i).2.contains (headW W) with
        | true =>
          simp only [hp, hc, beq_self_eq_true, if_true, Option.bind_some, Bool.and_self, ap2]
          exact ⟨_, rfl, rfl, rfl, rfl, fun h => absurd h (ne _ _)⟩
        | false =>
          simp only [hp, hc, beq_self_eq_true, if_true, Option.bind_some, Bool.and_false, Bool.false_eq_true, if_false, hr]
          refine ⟨_, rfl, rfl, rfl, rfl, fun h => ?_⟩
          simp only [hp, hc, beq_self_eq_true, Bool.and_false, Bool.false_eq_true, if_false, if_true] at hnil
          obtain ⟨g1, -, -, g4⟩ := hnil h
          have h5 := h4 g1
          simp only [flS, Prod.mk.injEq] at h5
          obtain ⟨e1, e2, e3, e4, e5, e6, e7, e8, e9⟩ := h5
          rw [← e1, ← e2, ← e3, ← e4, ← e5, ← e6, ← e7, ← e8, ← e9, hr] at g4
          exact Option.some.inj g4
      · have hp2 : (probZ W == 0) = false := by simpa using hp
        simp only [hp2, Bool.false_eq_true, if_false, Option.bind_some, Bool.false_and, ap2]
        exact ⟨_, rfl, rfl, rfl, rfl, fun h => absurd h (ne _ _)⟩
  · rintro ⟨o, i', sn, f1, f2, f3, f4, f5, f6, f7, f8, f9⟩ ⟨h1, h2, h3, h4⟩
    simp only at h1 h2 h3
    subst h1 h2 h3
    unfold m_spec_l24Check_l1
    simp only [ltB_self, Bool.false_eq_true, if_false]
    exact ⟨_, rfl, rfl, rfl, h4⟩

theorem at_nil_all {l : List (List UInt8)} (hs : ∀ s ∈ l, s.length ≤ 1500000) (h : (atT l l.length).1 = []) : ∀ i, i ≤ l.length → (atT l i).1 = [] := by
  have : ∀ j, j ≤ l.length → (atT l (l.length - j)).1 = [] := by
    intro j
    induction j with
    | zero => intro _; exact h
    | succ j ih =>
      intro hj
      have h1 := ih (by omega)
      have hi : l.length - (j + 1) < l.length := by omega
      have hx : l[l.length - (j + 1)]? = some (l.getD (l.length - (j + 1)) []) := getD_of hi []
      rw [show l.length - j = l.length - (j + 1) + 1 by omega] at h1
      exact (at_nil (n := 2000000) (hs _ (List.mem_of_getElem? hx)) (by omega) h1).1
  intro i hi
  have := this (l.length - i) (by omega)
  rwa [show l.length - (l.length - i) = i by omega] at this

theorem p_implSets (n : Nat) (l : List (List UInt8) × Bool) (hl : l.1.length ≤ 400) (hs : ∀ s ∈ l.1, s.length ≤ 1500000) (hn : 1500001 < n) (h : (atT l.1 l.1.length).1 = []) :
    loopN (m_impl_ReadStyle_l1 n l) n (0, [], [], [], [], 0, 0, 0, 0, false) = some (flS (setsS n l.1 l.1.length)) := by
  have hall := at_nil_all hs h
  have key := loopN_run (body := m_impl_ReadStyle_l1 n l) (fun i => ((i : Int), flS (setsS n l.1 i))) (flS (setsS n l.1 l.1.length)) l.1.length
    (fun i hi => by
      have hx : l.1[i]? = some (l.1.getD i []) := getD_of hi []
      have hsx := hs _ (List.mem_of_getElem? hx)
      obtain ⟨-, -, g3, -⟩ := at_nil (n := n) (l := l.1) (i := i) hsx (by omega) (hall (i + 1) (by omega))
      unfold m_impl_ReadStyle_l1
      have e : SStyle.mk (flS (setsS n l.1 i)).1 (flS (setsS n l.1 i)).2.1 (flS (setsS n l.1 i)).2.2.1 (flS (setsS n l.1 i)).2.2.2.1 (flS (setsS n l.1 i)).2.2.2.2.1 (flS (setsS n l.1 i)).2.2.2.2.2.1 (flS (setsS n l.1 i)).2.2.2.2.2.2.1 (flS (setsS n l.1 i)).2.2.2.2.2.2.2.1 (flS (setsS n l.1 i)).2.2.2.2.2.2.2.2 = setsS n l.1 i := rfl
      simp only [ltB hi, if_true, idx_nat, hx, Option.bind_some, e, g3, succ64 hi (by omega)]
      rfl)
    (by unfold m_impl_ReadStyle_l1; simp only [ltB_self, Bool.false_eq_true, if_false]) n (by omega)
  exact key

theorem eqStyle_self (n : Nat) (x : SStyle) : m_laws_eqStyle n x x = some true := by
  unfold m_laws_eqStyle; simp

theorem law_ReadStyle (s : List UInt8) (_hs : strok s) : m_laws_FnExactReadStyle 2000000 s = some true := by
  unfold m_laws_FnExactReadStyle m_spec_ReadStyle m_impl_ReadStyle
  by_cases hb : (s.length : Int) > 1048576
  · simp [hb]
  rw [decide_eq_false hb, p_specRead 2000000 s (by omega), p_implRead]
  have hl := clausesR_len s
  have hm : ∀ w ∈ (clausesR s).1, w.length ≤ 1500000 := by
    intro w hw
    unfold clausesR at hw
    split at hw
    · simp at hw
    · have := splitL_mem 59 s w hw; omega
  simp only [Bool.false_eq_true, if_false, Option.bind_some]
  cases hc : (clausesR s).2 with
  | false =>
    simp only [Bool.not_false, if_true, Option.bind_some, eqStyle_self, Bool.not_true, Bool.false_eq_true, if_false, bne_self_eq_false]
  | true =>
    simp only [Bool.not_true, Bool.false_eq_true, if_false]
    have hi := p_implTroubles 2000000 (clausesR s).1 hl hm (by omega)
    by_cases hn : troublesR (clausesR s).1 = []
    · -- nothing is wrong
      obtain ⟨t, ht, h1, h2, h3⟩ := p_specLoopS 2000000 (clausesR s).1 hl hm (by omega)
      have ha : (atT (clausesR s).1 (clausesR s).1.length).1 = [] ∧ ((atT (clausesR s).1 (clausesR s).1.length).2.contains wUpper && (atT (clausesR s).1 (clausesR s).1.length).2.contains wSole) = true := by
        unfold troublesR at hn
        cases hq : (atT (clausesR s).1 (clausesR s).1.length).2.contains wUpper && (atT (clausesR s).1 (clausesR s).1.length).2.contains wSole with
        | true => rw [hq] at hn; exact ⟨by simpa using hn, rfl⟩
        | false => rw [hq] at hn; simp at hn
      have h4 := h3 ha.1
      have hq := p_implSets 2000000 (clausesR s) hl hm (by omega) ha.1
      have e : m_spec_StyleWords 2000000 = some styleW := rfl
      have em : mk (false : Bool) ((styleW.length : Nat) : Int) = some (seenL []) := by rw [mk_nat _ _ (by decide)]; rfl
      have hspec : m_spec_l24Check 2000000 (clausesR s).1 = some ([], setsS 2000000 (clausesR s).1 (clausesR s).1.length) := by
        unfold m_spec_l24Check
        rw [e]; simp only [Option.bind_some]; rw [em]; simp only [Option.bind_some]; rw [ht]; simp only [Option.bind_some]
        have s0 : idx t.2.1 0 = some true := by
          rw [h2]
          have : ((atT (clausesR s).1 (clausesR s).1.length).2.contains wUpper) = true := by have := ha.2; simp only [Bool.and_eq_true] at this; exact this.1
          show some ((atT (clausesR s).1 (clausesR s).1.length).2.contains wUpper) = some true
          rw [this]
        have s2 : idx t.2.1 2 = some true := by
          rw [h2]
          have : ((atT (clausesR s).1 (clausesR s).1.length).2.contains wSole) = true := by have := ha.2; simp only [Bool.and_eq_true] at this; exact this.2
          show some ((atT (clausesR s).1 (clausesR s).1.length).2.contains wSole) = some true
          rw [this]
        rw [s0, s2, h1, ha.1, h4]
        rfl
      rw [hspec, hi, hn]
      simp only [Option.bind_some, hq]
      have ez : decide ((([] : List STrouble).length : Int) > 0) = false := by decide
      simp only [ez, Bool.false_eq_true, if_false, Option.bind_some]
      have e9 : SStyle.mk (flS (setsS 2000000 (clausesR s).1 (clausesR s).1.length)).1 (flS (setsS 2000000 (clausesR s).1 (clausesR s).1.length)).2.1 (flS (setsS 2000000 (clausesR s).1 (clausesR s).1.length)).2.2.1 (flS (setsS 2000000 (clausesR s).1 (clausesR s).1.length)).2.2.2.1 (flS (setsS 2000000 (clausesR s).1 (clausesR s).1.length)).2.2.2.2.1 (flS (setsS 2000000 (clausesR s).1 (clausesR s).1.length)).2.2.2.2.2.1 (flS (setsS 2000000 (clausesR s).1 (clausesR s).1.length)).2.2.2.2.2.2.1 (flS (setsS 2000000 (clausesR s).1 (clausesR s).1.length)).2.2.2.2.2.2.2.1 (flS (setsS 2000000 (clausesR s).1 (clausesR s).1.length)).2.2.2.2.2.2.2.2 = setsS 2000000 (clausesR s).1 (clausesR s).1.length := rfl
      simp only [e9, eqStyle_self, Option.bind_some, Bool.not_true, Bool.false_eq_true, if_false, bne_self_eq_false]
    · obtain ⟨x, hx⟩ := p_specCheck 2000000 (clausesR s).1 hl hm (by omega)
      have hpos : decide (((troublesR (clausesR s).1).length : Int) > 0) = true := decide_eq_true (by have := List.length_pos_iff.2 hn; omega)
      simp only [hx, hi, Option.bind_some, hpos, if_true, eqStyle_self, Bool.not_true, Bool.false_eq_true, if_false, bne_self_eq_false]

end Go.Gv
