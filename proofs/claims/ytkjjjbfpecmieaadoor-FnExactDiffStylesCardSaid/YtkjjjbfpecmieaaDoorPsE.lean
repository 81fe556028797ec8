/- Plain laws of styles: their text. -/
import Derived.Test.YtkjjjbfpecmieaaDoorPsB
import Derived.Test.YtkjjjbfpecmieaaDoorPm
import Derived.Lib.Join
namespace Go.Gv
open Go Go.RowKit

def putT (out t : List UInt8) : List UInt8 := if t = [] then out else (if out = [] then t else (out ++ [59, 32]) ++ t)
def keepT (a : List (List UInt8)) (t : List UInt8) : List (List UInt8) := if t = [] then a else a ++ [t]

theorem joinTail_snoc (sep : List UInt8) (r : List (List UInt8)) (t : List UInt8) : Lib.joinTail sep (r ++ [t]) = Lib.joinTail sep r ++ sep ++ t := by simp [Lib.joinTail]

theorem join_snoc (sep t : List UInt8) : ∀ (r : List (List UInt8)), r ≠ [] → Lib.join (r ++ [t]) sep = Lib.join r sep ++ sep ++ t
  | [], h => absurd rfl h
  | x :: r, _ => by rw [List.cons_append, Lib.join_cons, Lib.join_cons, joinTail_snoc]; simp

theorem join_ne (sep : List UInt8) : ∀ (r : List (List UInt8)), (∀ a ∈ r, a ≠ []) → r ≠ [] → Lib.join r sep ≠ []
  | [], _, h => absurd rfl h
  | x :: r, hx, _ => by
    rw [Lib.join_cons]
    intro e
    exact hx x (by simp) (List.append_eq_nil_iff.1 e).1

theorem put_join : ∀ (ts r : List (List UInt8)), (∀ a ∈ r, a ≠ []) → ts.foldl putT (Lib.join r [59, 32]) = Lib.join (ts.foldl keepT r) [59, 32] := by
  intro ts
  induction ts with
  | nil => intro r _; rfl
  | cons t ts ih =>
    intro r hr
    rw [List.foldl_cons, List.foldl_cons]
    by_cases h : t = []
    · have e1 : putT (Lib.join r [59, 32]) t = Lib.join r [59, 32] := by unfold putT; rw [if_pos h]
      have e2 : keepT r t = r := by unfold keepT; rw [if_pos h]
      rw [e1, e2]; exact ih r hr
    · have e2 : keepT r t = r ++ [t] := by unfold keepT; rw [if_neg h]
      have e1 : putT (Lib.join r [59, 32]) t = Lib.join (r ++ [t]) [59, 32] := by
        unfold putT
        rw [if_neg h]
        cases r with
        | nil => rw [Lib.join_nil, if_pos rfl, List.nil_append, Lib.join_one]
        | cons a r =>
          rw [if_neg (join_ne _ _ hr (by simp)), join_snoc _ _ _ (by simp)]
      rw [e1, e2]
      exact ih (r ++ [t]) (fun a ha => by
        rcases List.mem_append.1 ha with ha | ha
        · exact hr a ha
        · simp at ha; subst ha; exact h)

theorem put_len : ∀ (ts : List (List UInt8)) (o : List UInt8) (M : Nat), (∀ t ∈ ts, t.length ≤ M) → (ts.foldl putT o).length ≤ o.length + ts.length * (M + 2) := by
  intro ts
  induction ts with
  | nil => intro o M _; simp
  | cons t ts ih =>
    intro o M h
    rw [List.foldl_cons]
    have h1 := ih (putT o t) M (fun x hx => h x (by simp [hx]))
    have h2 : (putT o t).length ≤ o.length + (M + 2) := by
      have := h t (by simp)
      unfold putT
      split
      · omega
      · split <;> simp <;> omega
    rw [List.length_cons, Nat.succ_mul]
    omega

theorem textsL_short (x : SStyle) (ok : StyleOk x) : ∀ t ∈ textsL x, t.length ≤ 1500000 := textsL_len x ok

theorem p_specText (n : Nat) (x : SStyle) (ok : StyleOk x) (hn : 1048576 < n) : m_spec_l24Text n x = some ((textsL x).foldl putT []) := by
  unfold m_spec_l24Text
  rw [p_l24Texts n x ok hn]
  simp only [Option.bind_some]
  have hsh := textsL_short x ok
  have hlen : (textsL x).length = 6 := rfl
  have key := loopN_fold (body := m_spec_l24Text_l1 n (textsL x)) (textsL x) putT [] (fun i b => (b, (i : Int))) id (fun i b => b.length ≤ i * 1500002) (by simp)
    (fun i t b ht hb => by
      have hlt := lt_of_get ht
      have hs := hsh t (List.mem_of_getElem? ht)
      rw [hlen] at hlt
      refine ⟨?_, ?_⟩
      · unfold m_spec_l24Text_l1 putT
        have hlt2 : decide ((i : Int) < ((textsL x).length : Int)) = true := decide_eq_true (by rw [hlen]; omega)
        simp only [hlt2, if_true, idx_nat, ht, Option.bind_some, succ64 (i := i) (N := 6) hlt (by omega)]
        by_cases h : t = []
        · subst h; simp
        · have h1 : (t == []) = false := by simpa using h
          simp only [h1, Bool.false_eq_true, if_false, h]
          by_cases hb0 : b = []
          · subst hb0
            simp only [beq_self_eq_true, Bool.not_true, Bool.false_eq_true, if_false, Option.bind_some, if_true]
            rw [app_eq (by simp; omega)]; rfl
          · have h2 : (b == []) = false := by simpa using hb0
            simp only [h2, Bool.not_false, if_true, hb0, if_false]
            rw [app_eq (by simp; omega)]
            simp only [Option.bind_some]
            rw [app_eq (by simp; omega)]; rfl
      · have e3 : ([59, 32] : List UInt8).length = 2 := rfl
        have hb2 : b.length ≤ i * 1500002 := hb
        show (putT b t).length ≤ (i + 1) * 1500002
        rw [Nat.add_mul, Nat.one_mul]
        clear hb
        generalize i * 1500002 = q at hb2 ⊢
        unfold putT
        split
        · omega
        · split
          · omega
          · rw [List.length_append, List.length_append, e3]; omega)
    (fun b _ => by
      unfold m_spec_l24Text_l1
      simp only [ltB_self, Bool.false_eq_true, if_false]; rfl) n (by rw [hlen]; omega)
  have k1 : loopN (m_spec_l24Text_l1 n (textsL x)) n ([], 0) = _ := key.1
  rw [k1]; rfl

theorem p_clause (n : Nat) (x : SStyle) (ok : StyleOk x) (hv : styleNums x = true) : ∀ (i : Nat) t, (textsL x)[i]? = some t → ∃ w, styleW[i]? = some w ∧ m_impl_Style_clause n x w = some t := by
  have b1 := ok.tot
  have l1 := decZ_len ok.t; have l2 := decZ_len ok.h; have l3 := decZ_len ok.e; have l4 := decZ_len ok.d
  unfold styleNums inRB at hv
  simp only [Bool.and_eq_true, Bool.or_eq_true, decide_eq_true_eq, Bool.not_eq_true'] at hv
  obtain ⟨⟨⟨v1, v2⟩, v3⟩, v4⟩ := hv
  intro i t ht
  match i, ht with
  | 0, ht =>
    obtain rfl : tUpper x = t := Option.some.inj ht
    refine ⟨wUpper, rfl, ?_⟩
    unfold m_impl_Style_clause
    rw [show (wUpper == [117, 112, 112, 101, 114]) = true from rfl]
    simp only [if_true]
    rw [app_eq (by simp; omega)]
    simp only [Option.bind_some]
    rw [app_eq (by simp; omega)]
    simp only [Option.bind_some]
    rw [app_eq (by simp; omega)]
    simp [tUpper, wUpper]
  | 1, ht =>
    obtain rfl : tLining x = t := Option.some.inj ht
    refine ⟨wLining, rfl, ?_⟩
    unfold m_impl_Style_clause tLining
    rw [show (wLining == [117, 112, 112, 101, 114]) = false from rfl, show (wLining == [108, 105, 110, 105, 110, 103]) = true from rfl]
    simp only [Bool.false_eq_true, if_false, if_true]
    by_cases h : x.Lining = []
    · simp [h]
    · have h1 : (x.Lining == []) = false := by simpa using h
      simp only [h1, Bool.not_false, if_true, h, if_false]
      rw [app_eq (by simp; omega)]
      simp [wLining]
  | 2, ht =>
    obtain rfl : tSole x = t := Option.some.inj ht
    refine ⟨wSole, rfl, ?_⟩
    unfold m_impl_Style_clause
    rw [show (wSole == [117, 112, 112, 101, 114]) = false from rfl, show (wSole == [108, 105, 110, 105, 110, 103]) = false from rfl, show (wSole == [115, 111, 108, 101]) = true from rfl]
    simp only [Bool.false_eq_true, if_false, if_true]
    rw [app_eq (by simp; omega)]
    simp only [Option.bind_some]
    rw [app_eq (by simp; omega)]
    simp only [Option.bind_some, p_Decimal n _ ok.t]
    rw [app_eq (by simp; omega)]
    simp [tSole, wSole]
  | 3, ht =>
    obtain rfl : tHeel x = t := Option.some.inj ht
    refine ⟨wHeel, rfl, ?_⟩
    unfold m_impl_Style_clause tHeel
    rw [show (wHeel == [117, 112, 112, 101, 114]) = false from rfl, show (wHeel == [108, 105, 110, 105, 110, 103]) = false from rfl, show (wHeel == [115, 111, 108, 101]) = false from rfl, show (wHeel == [104, 101, 101, 108]) = true from rfl]
    simp only [Bool.false_eq_true, if_false, if_true]
    by_cases h : x.Heel = 0
    · simp [h]
    · rw [decide_eq_true (by omega : x.Heel > 0)]
      simp only [if_true, p_Decimal n _ ok.h, Option.bind_some, h, if_false]
      rw [app_eq (by simp; omega)]
      simp [wHeel]
  | 4, ht =>
    obtain rfl : tEyelets x = t := Option.some.inj ht
    refine ⟨wEyelets, rfl, ?_⟩
    unfold m_impl_Style_clause tEyelets
    rw [show (wEyelets == [117, 112, 112, 101, 114]) = false from rfl, show (wEyelets == [108, 105, 110, 105, 110, 103]) = false from rfl, show (wEyelets == [115, 111, 108, 101]) = false from rfl, show (wEyelets == [104, 101, 101, 108]) = false from rfl, show (wEyelets == [101, 121, 101, 108, 101, 116, 115]) = true from rfl]
    simp only [Bool.false_eq_true, if_false, if_true]
    by_cases h : x.Eyelets = 0
    · simp [h]
    · rw [decide_eq_true (by omega : x.Eyelets > 0)]
      simp only [if_true, p_Decimal n _ ok.e, Option.bind_some, h, if_false]
      rw [app_eq (by simp; omega)]
      simp [wEyelets]
  | 5, ht =>
    obtain rfl : tStitch x = t := Option.some.inj ht
    refine ⟨wStitch, rfl, ?_⟩
    unfold m_impl_Style_clause tStitch
    rw [show (wStitch == [117, 112, 112, 101, 114]) = false from rfl, show (wStitch == [108, 105, 110, 105, 110, 103]) = false from rfl, show (wStitch == [115, 111, 108, 101]) = false from rfl, show (wStitch == [104, 101, 101, 108]) = false from rfl, show (wStitch == [101, 121, 101, 108, 101, 116, 115]) = false from rfl, show (wStitch == [115, 116, 105, 116, 99, 104]) = true from rfl]
    simp only [Bool.false_eq_true, if_false, if_true]
    rcases v4 with ⟨h, hd⟩ | h
    · simp [h, hd]
    · rw [decide_eq_true (by omega : x.Density > 0)]
      have hn : ¬ (x.Density = 0 ∧ x.Double = false) := by omega
      simp only [if_true, p_Decimal n _ ok.d, Option.bind_some, hn, if_false]
      rw [app_eq (by simp; omega)]
      simp only [Option.bind_some]
      cases x.Double with
      | false => simp [wStitch]
      | true =>
        simp only [if_true]
        rw [app_eq (by simp; omega)]
        simp [wStitch, wDouble]
  | i + 6, ht => simp [textsL] at ht

theorem p_implText (n : Nat) (x : SStyle) (ok : StyleOk x) (hv : styleNums x = true) (hn : 1048576 < n) : loopN (m_impl_StyleText_l1 n x styleW) n (([] : List (List UInt8)), 0) = some ((textsL x).foldl keepT []) ∧ ((textsL x).foldl keepT []).length ≤ 6 := by
  have hlen : (textsL x).length = 6 := rfl
  have hw : styleW.length = 6 := rfl
  have key := loopN_fold (body := m_impl_StyleText_l1 n x styleW) (textsL x) keepT [] (fun i b => (b, (i : Int))) id (fun i b => b.length ≤ i) (by simp)
    (fun i t b ht hb => by
      have hlt := lt_of_get ht
      rw [hlen] at hlt
      obtain ⟨w, hw1, hw2⟩ := p_clause n x ok hv i t ht
      refine ⟨?_, ?_⟩
      · unfold m_impl_StyleText_l1 keepT
        have hlt2 : decide ((i : Int) < (styleW.length : Int)) = true := decide_eq_true (by rw [hw]; omega)
        simp only [hlt2, if_true, idx_nat, hw1, Option.bind_some, hw2, succ64 (i := i) (N := 6) hlt (by omega)]
        by_cases h : t = []
        · subst h; simp
        · have h1 : (t == []) = false := by simpa using h
          simp only [h1, Bool.not_false, if_true, h, if_false]
          rw [app_eq (by simp; omega)]; rfl
      · unfold keepT; split <;> (try simp) <;> omega)
    (fun b _ => by
      unfold m_impl_StyleText_l1
      have : decide ((((textsL x).length : Nat) : Int) < (styleW.length : Int)) = false := decide_eq_false (by rw [hlen, hw]; omega)
      simp only [this, Bool.false_eq_true, if_false]; rfl) n (by rw [hlen]; omega)
  exact ⟨key.1, by have := key.2; rw [hlen] at this; exact this⟩

theorem p_StyleText (n : Nat) (x : SStyle) (ok : StyleOk x) (hn : 1500001 < n) : ∃ t, m_spec_StyleText n x = some t ∧ m_impl_StyleText n x = some t := by
  unfold m_spec_StyleText m_impl_StyleText
  rw [p_l24Ok n x ok hn, style_eq, p_implValidStyle n x ok (by omega)]
  simp only [Option.bind_some]
  cases hv : (styleNames x && styleNums x) with
  | false => exact ⟨[], rfl, rfl⟩
  | true =>
    have hnums : styleNums x = true := by rw [Bool.and_eq_true] at hv; exact hv.2
    obtain ⟨q1, q2⟩ := p_implText n x ok hnums (by omega)
    have hj := put_join (textsL x) [] (by simp)
    have hl := put_len (textsL x) [] 1500000 (textsL_short x ok)
    have hlen : (textsL x).length = 6 := rfl
    rw [hlen] at hl
    rw [Lib.join_nil] at hj
    have e : m_impl_StyleWords n = some styleW := rfl
    simp only [Bool.not_true, Bool.false_eq_true, if_false, p_specText n x ok (by omega), Option.bind_some, e, q1]
    refine ⟨_, rfl, ?_⟩
    unfold m_strings_Join
    rw [hj] at hl ⊢
    rw [if_pos ⟨by omega, by simp at hl; omega⟩]
    rfl

theorem law_StyleText (x : SStyle) (h : okStyle x) : m_laws_FnExactStyleText 2000000 x = some true := by
  unfold m_laws_FnExactStyleText
  obtain ⟨v, hv, hc⟩ := p_szStyle 2000000 x h
  rw [hv]
  simp only [Option.bind_some]
  rcases hc with hc | ⟨h0, hc⟩
  · simp [hc]
  · have hd : decide (v < 0) = false := decide_eq_false (by omega)
    obtain ⟨h1, h2, h3, h4, h5, h6, h7, h8, _⟩ := h
    have ok : StyleOk x := ⟨by omega, h5, h6, h7, h8⟩
    obtain ⟨t, e1, e2⟩ := p_StyleText 2000000 x ok (by omega)
    simp [hd, m_laws_toStyle, e1, e2]

end Go.Gv
