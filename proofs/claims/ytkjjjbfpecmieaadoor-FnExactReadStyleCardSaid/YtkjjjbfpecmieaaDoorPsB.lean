/- Plain laws of styles: the valid ones. -/
import Derived.Test.YtkjjjbfpecmieaaDoorPsA
namespace Go.Gv
open Go Go.RowKit

def tUpper (x : SStyle) : List UInt8 := wUpper ++ 32 :: (x.Upper ++ 32 :: x.Color)
def tLining (x : SStyle) : List UInt8 := if x.Lining = [] then [] else wLining ++ 32 :: x.Lining
def tSole (x : SStyle) : List UInt8 := wSole ++ 32 :: (x.Sole ++ 32 :: decZ x.Thick)
def tHeel (x : SStyle) : List UInt8 := if x.Heel = 0 then [] else wHeel ++ 32 :: decZ x.Heel
def tEyelets (x : SStyle) : List UInt8 := if x.Eyelets = 0 then [] else wEyelets ++ 32 :: decZ x.Eyelets
def tStitch (x : SStyle) : List UInt8 := (if x.Density = 0 ∧ x.Double = false then [] else wStitch ++ 32 :: decZ x.Density) ++ (if x.Double then 32 :: wDouble else [])
def textsL (x : SStyle) : List (List UInt8) := [tUpper x, tLining x, tSole x, tHeel x, tEyelets x, tStitch x]

structure StyleOk (x : SStyle) : Prop where
  tot : x.Upper.length + x.Color.length + x.Lining.length + x.Sole.length ≤ 1048576
  t : i64ok x.Thick
  h : i64ok x.Heel
  e : i64ok x.Eyelets
  d : i64ok x.Density

theorem p_l24Texts (n : Nat) (x : SStyle) (ok : StyleOk x) (hn : 1048576 < n) : m_spec_l24Texts n x = some (textsL x) := by
  have l1 := decZ_len ok.t; have l2 := decZ_len ok.h; have l3 := decZ_len ok.e; have l4 := decZ_len ok.d
  have b1 := ok.tot
  unfold m_spec_l24Texts
  rw [app_eq (by simp; omega)]; simp only [Option.bind_some]
  rw [app_eq (by simp; omega)]; simp only [Option.bind_some]
  rw [app_eq (by simp; omega)]; simp only [Option.bind_some]
  rw [app_eq (by simp; omega)]; simp only [Option.bind_some]
  rw [app_eq (by simp; omega)]; simp only [Option.bind_some]
  rw [p_l01Dec n _ ok.t hn, p_l01Dec n _ ok.h hn, p_l01Dec n _ ok.e hn, p_l01Dec n _ ok.d hn]; simp only [Option.bind_some]
  rw [app_eq (by simp; omega)]; simp only [Option.bind_some]
  have eU : [117, 112, 112, 101, 114, 32] ++ x.Upper ++ [32] ++ x.Color = tUpper x := by simp [tUpper, wUpper]
  have eS : [115, 111, 108, 101, 32] ++ x.Sole ++ [32] ++ decZ x.Thick = tSole x := by simp [tSole, wSole]
  rw [eU, eS]
  have s1 : (if (!(x.Lining == [])) then Option.bind (app [108, 105, 110, 105, 110, 103, 32] x.Lining) fun x72 => Option.bind (idx ([tUpper x, [], tSole x, [], [], []] : List (List UInt8)) 1) fun x74 => some (([tUpper x, [], tSole x, [], [], []] : List (List UInt8)).set (Int.toNat 1) x72) else some ([tUpper x, [], tSole x, [], [], []] : List (List UInt8))) = some [tUpper x, tLining x, tSole x, [], [], []] := by
    unfold tLining
    by_cases h : x.Lining = []
    · simp [h]
    · have hb : (x.Lining == []) = false := by simp [h]
      rw [hb, if_neg h, app_eq (by simp; omega)]
      rfl
  rw [s1]; simp only [Option.bind_some]
  have s2 : (if (x.Heel != 0) then Option.bind (app [104, 101, 101, 108, 32] (decZ x.Heel)) fun x151 => Option.bind (idx [tUpper x, tLining x, tSole x, [], [], []] 3) fun x153 => some ([tUpper x, tLining x, tSole x, [], [], []].set (Int.toNat 3) x151) else some [tUpper x, tLining x, tSole x, [], [], []]) = some [tUpper x, tLining x, tSole x, tHeel x, [], []] := by
    unfold tHeel
    by_cases h : x.Heel = 0
    · simp [h]
    · have hb : (x.Heel != 0) = true := by simp [h]
      rw [hb, if_neg h, app_eq (by simp; omega)]
      rfl
  rw [s2]; simp only [Option.bind_some]
  have s3 : (if (x.Eyelets != 0) then Option.bind (app [101, 121, 101, 108, 101, 116, 115, 32] (decZ x.Eyelets)) fun x230 => Option.bind (idx [tUpper x, tLining x, tSole x, tHeel x, [], []] 4) fun x232 => some ([tUpper x, tLining x, tSole x, tHeel x, [], []].set (Int.toNat 4) x230) else some [tUpper x, tLining x, tSole x, tHeel x, [], []]) = some [tUpper x, tLining x, tSole x, tHeel x, tEyelets x, []] := by
    unfold tEyelets
    by_cases h : x.Eyelets = 0
    · simp [h]
    · have hb : (x.Eyelets != 0) = true := by simp [h]
      rw [hb, if_neg h, app_eq (by simp; omega)]
      rfl
  rw [s3]; simp only [Option.bind_some]
  unfold textsL tStitch
  have hd7 : (32 :: wDouble).length = 7 := rfl
  have eD : ([32, 100, 111, 117, 98, 108, 101] : List UInt8) = 32 :: wDouble := rfl
  have i5 : ∀ t : List UInt8, idx [tUpper x, tLining x, tSole x, tHeel x, tEyelets x, t] 5 = some t := fun _ => rfl
  have st5 : ∀ t u : List UInt8, [tUpper x, tLining x, tSole x, tHeel x, tEyelets x, t].set (Int.toNat 5) u = [tUpper x, tLining x, tSole x, tHeel x, tEyelets x, u] := fun _ _ => rfl
  have eT : [115, 116, 105, 116, 99, 104, 32] ++ decZ x.Density = wStitch ++ 32 :: decZ x.Density := by simp [wStitch]
  have aD : app [115, 116, 105, 116, 99, 104, 32] (decZ x.Density) = some (wStitch ++ 32 :: decZ x.Density) := by rw [app_eq (by simp; omega), eT]
  have aE : app (wStitch ++ 32 :: decZ x.Density) (32 :: wDouble) = some (wStitch ++ 32 :: decZ x.Density ++ 32 :: wDouble) := app_eq (by simp [wStitch, wDouble]; omega)
  by_cases h : x.Density = 0
  · cases hdb : x.Double with
    | false => simp [h]
    | true =>
      have hb : (x.Density != 0) = false := by simp [h]
      simp only [hb, Bool.false_eq_true, if_false, if_true, Option.bind_some, aD, i5, st5, eD, aE]
      simp
  · have hb : (x.Density != 0) = true := by simp [h]
    cases hdb : x.Double with
    | false =>
      simp only [hb, if_true, Option.bind_some, aD, i5, st5, Bool.false_eq_true, if_false, h, false_and, List.append_nil]
    | true =>
      simp only [hb, if_true, Option.bind_some, aD, i5, st5, eD, aE, h, false_and, if_false]

def styleNames (x : SStyle) : Bool := nameB x.Upper && nameB x.Color && nameB x.Sole && (x.Lining == [] || nameB x.Lining)

theorem textsL_len (x : SStyle) (ok : StyleOk x) : ∀ t ∈ textsL x, t.length ≤ 1500000 := by
  have l1 := decZ_len ok.t; have l2 := decZ_len ok.h; have l3 := decZ_len ok.e; have l4 := decZ_len ok.d
  have b1 := ok.tot
  intro t ht
  simp only [textsL, List.mem_cons, List.not_mem_nil, or_false] at ht
  rcases ht with rfl | rfl | rfl | rfl | rfl | rfl
  · simp [tUpper, wUpper]; omega
  · unfold tLining; split <;> simp [wLining] <;> omega
  · simp [tSole, wSole]; omega
  · unfold tHeel; split <;> simp [wHeel] <;> omega
  · unfold tEyelets; split <;> simp [wEyelets] <;> omega
  · unfold tStitch; split <;> split <;> simp [wStitch, wDouble] <;> omega

theorem p_l24Ok (n : Nat) (x : SStyle) (ok : StyleOk x) (hn : 1500001 < n) : m_spec_l24Ok n x = some ((textsL x).all (fun t => t == [] || probZ (wordsL t) == 0) && styleNames x) := by
  have b1 := ok.tot
  unfold m_spec_l24Ok
  rw [p_l24Texts n x ok (by omega)]
  simp only [Option.bind_some]
  have htl := textsL_len x ok
  have key := loopN_listAll (body := m_spec_l24Ok_l1 n (textsL x)) (textsL x) (fun t => t == [] || probZ (wordsL t) == 0) (fun i => (i : Int)) (.inl ()) (.inr false)
    (fun i t ht => by
      have hlt := lt_of_get ht
      have hl := htl t (List.mem_of_getElem? ht)
      unfold m_spec_l24Ok_l1
      simp only [ltB hlt, if_true, idx_nat, ht, Option.bind_some, succ64 hlt (by simp [textsL])]
      cases hte : (t == []) with
      | true => simp
      | false =>
        rw [p_SplitWords n t hl hn]
        simp only [Bool.not_false, if_true, Option.bind_some]
        rw [p_l24Problem n _ (fun w hw => by have := wordsL_mem hw; omega) (by omega)]
        simp only [Option.bind_some, Bool.false_or]
        cases hp : (probZ (wordsL t) == 0) <;> simp [bne, hp])
    (by unfold m_spec_l24Ok_l1; simp) n (by simp [textsL]; omega)
  have k1 : loopN (m_spec_l24Ok_l1 n (textsL x)) n 0 = _ := key
  rw [k1]
  cases (textsL x).all (fun t => t == [] || probZ (wordsL t) == 0) with
  | false => rfl
  | true =>
    simp only [if_true, Option.bind_some, Bool.true_and]
    rw [p_specIsName n _ (by omega) (by omega), p_specIsName n _ (by omega) (by omega), p_specIsName n _ (by omega) (by omega), p_specIsName n _ (by omega) (by omega)]
    unfold styleNames
    simp only [Option.bind_some]
    cases nameB x.Upper <;> cases nameB x.Color <;> cases nameB x.Sole <;> cases x.Lining == [] <;> rfl

theorem w_ne32 : (∀ c ∈ wUpper, c ≠ 32) ∧ (∀ c ∈ wLining, c ≠ 32) ∧ (∀ c ∈ wSole, c ≠ 32) ∧ (∀ c ∈ wHeel, c ≠ 32) ∧ (∀ c ∈ wEyelets, c ≠ 32) ∧ (∀ c ∈ wStitch, c ≠ 32) ∧ (∀ c ∈ wDouble, c ≠ 32) := by
  refine ⟨?_, ?_, ?_, ?_, ?_, ?_, ?_⟩ <;> decide

/-- The clauses' words, where names are names. -/
theorem words_upper {x : SStyle} (h1 : nameB x.Upper = true) (h2 : nameB x.Color = true) : wordsL (tUpper x) = [wUpper, x.Upper, x.Color] := by
  unfold tUpper
  rw [wordsL_pre _ w_ne32.1 (by decide), wordsL_pre _ (name_ne32 h1) (name_chars h1).1, wordsL_one (name_ne32 h2) (name_chars h2).1]

theorem words_sole {x : SStyle} (h1 : nameB x.Sole = true) : wordsL (tSole x) = [wSole, x.Sole, decZ x.Thick] := by
  unfold tSole
  rw [wordsL_pre _ w_ne32.2.2.1 (by decide), wordsL_pre _ (name_ne32 h1) (name_chars h1).1, wordsL_one (decZ_ne32 _) (decZ_ne _)]

theorem words_lining {x : SStyle} (h1 : nameB x.Lining = true) : wordsL (tLining x) = [wLining, x.Lining] := by
  unfold tLining
  rw [if_neg (name_chars h1).1, wordsL_pre _ w_ne32.2.1 (by decide), wordsL_one (name_ne32 h1) (name_chars h1).1]

theorem words_heel {x : SStyle} (h : ¬ x.Heel = 0) : wordsL (tHeel x) = [wHeel, decZ x.Heel] := by
  unfold tHeel
  rw [if_neg h, wordsL_pre _ w_ne32.2.2.2.1 (by decide), wordsL_one (decZ_ne32 _) (decZ_ne _)]

theorem words_eyelets {x : SStyle} (h : ¬ x.Eyelets = 0) : wordsL (tEyelets x) = [wEyelets, decZ x.Eyelets] := by
  unfold tEyelets
  rw [if_neg h, wordsL_pre _ w_ne32.2.2.2.2.1 (by decide), wordsL_one (decZ_ne32 _) (decZ_ne _)]

theorem words_stitch {x : SStyle} (h : ¬ (x.Density = 0 ∧ x.Double = false)) : wordsL (tStitch x) = [wStitch, decZ x.Density] ++ (if x.Double then [wDouble] else []) := by
  unfold tStitch
  rw [if_neg h]
  cases x.Double with
  | false =>
    simp only [Bool.false_eq_true, if_false, List.append_nil]
    rw [wordsL_pre _ w_ne32.2.2.2.2.2.1 (by decide), wordsL_one (decZ_ne32 _) (decZ_ne _)]
  | true =>
    simp only [if_true]
    rw [List.append_assoc, List.cons_append, wordsL_pre _ w_ne32.2.2.2.2.2.1 (by decide), wordsL_pre _ (decZ_ne32 _) (decZ_ne _), wordsL_one w_ne32.2.2.2.2.2.2 (by decide)]
    rfl

def inRB (lo hi v : Int) : Bool := decide (lo ≤ v) && decide (v ≤ hi)
def styleNums (x : SStyle) : Bool := inRB 10 300 x.Thick && inRB 0 1200 x.Heel && inRB 0 12 x.Eyelets && ((decide (x.Density = 0) && !x.Double) || inRB 10 80 x.Density)

theorem style_eq (x : SStyle) : ((textsL x).all (fun t => t == [] || probZ (wordsL t) == 0) && styleNames x) = (styleNames x && styleNums x) := by
  rw [Bool.and_comm]
  cases hn : styleNames x with
  | false => rfl
  | true =>
    have hn' := hn
    unfold styleNames at hn'
    simp only [Bool.and_eq_true, Bool.or_eq_true, beq_iff_eq] at hn'
    obtain ⟨⟨⟨hu, hc⟩, hs⟩, hl⟩ := hn'
    simp only [Bool.true_and, textsL, List.all_cons, List.all_nil, Bool.and_true]
    have k0 : kindZ wUpper = 0 := by decide
    have k1 : kindZ wLining = 1 := by decide
    have k2 : kindZ wSole = 2 := by decide
    have k3 : kindZ wHeel = 3 := by decide
    have k4 : kindZ wEyelets = 4 := by decide
    have k5 : kindZ wStitch = 5 := by decide
    have e0 : (tUpper x == [] || probZ (wordsL (tUpper x)) == 0) = true := by
      rw [words_upper hu hc]
      have : probZ [wUpper, x.Upper, x.Color] = 0 := by
        unfold probZ
        simp [k0, countB, fineB, hu, hc]
      rw [this]; simp
    have e1 : (tLining x == [] || probZ (wordsL (tLining x)) == 0) = true := by
      rcases hl with hl | hl
      · have : tLining x = [] := by unfold tLining; rw [if_pos hl]
        rw [this]; rfl
      · rw [words_lining hl]
        have : probZ [wLining, x.Lining] = 0 := by
          unfold probZ
          simp [k1, countB, fineB, hl]
        rw [this]; simp
    have e2 : (tSole x == [] || probZ (wordsL (tSole x)) == 0) = inRB 10 300 x.Thick := by
      have hne : (tSole x == []) = false := by simp [tSole]
      rw [words_sole hs, hne, Bool.false_or]
      have hnum := numB_dec (z := x.Thick) (lo := 10) (hi := 300) (by omega) (by omega)
      unfold probZ inRB
      simp only [k2, countB, fineB, List.getD_eq_getElem?_getD, List.getElem?_cons_succ, List.getElem?_cons_zero, Option.getD_some, hs, hnum]
      cases (decide (10 ≤ x.Thick) && decide (x.Thick ≤ 300)) <;> simp
    have e3 : (tHeel x == [] || probZ (wordsL (tHeel x)) == 0) = inRB 0 1200 x.Heel := by
      by_cases h : x.Heel = 0
      · have : tHeel x = [] := by unfold tHeel; rw [if_pos h]
        rw [this, h]; rfl
      · have hne : (tHeel x == []) = false := by unfold tHeel; rw [if_neg h]; simp
        rw [words_heel h, hne, Bool.false_or]
        have hnum := numB_dec (z := x.Heel) (lo := 0) (hi := 1200) (by omega) (by omega)
        unfold probZ inRB
        simp only [k3, countB, fineB, List.getD_eq_getElem?_getD, List.getElem?_cons_succ, List.getElem?_cons_zero, Option.getD_some, hnum]
        cases (decide (0 ≤ x.Heel) && decide (x.Heel ≤ 1200)) <;> simp
    have e4 : (tEyelets x == [] || probZ (wordsL (tEyelets x)) == 0) = inRB 0 12 x.Eyelets := by
      by_cases h : x.Eyelets = 0
      · have : tEyelets x = [] := by unfold tEyelets; rw [if_pos h]
        rw [this, h]; rfl
      · have hne : (tEyelets x == []) = false := by unfold tEyelets; rw [if_neg h]; simp
        rw [words_eyelets h, hne, Bool.false_or]
        have hnum := numB_dec (z := x.Eyelets) (lo := 1) (hi := 12) (by omega) (by omega)
        have h0 : decide (0 ≤ x.Eyelets) = decide (1 ≤ x.Eyelets) := decide_eq_decide.2 (by omega)
        unfold probZ inRB
        simp only [k4, countB, fineB, List.getD_eq_getElem?_getD, List.getElem?_cons_succ, List.getElem?_cons_zero, Option.getD_some, hnum, h0]
        cases (decide (1 ≤ x.Eyelets) && decide (x.Eyelets ≤ 12)) <;> simp
    have e5 : (tStitch x == [] || probZ (wordsL (tStitch x)) == 0) = ((decide (x.Density = 0) && !x.Double) || inRB 10 80 x.Density) := by
      by_cases h : x.Density = 0 ∧ x.Double = false
      · have : tStitch x = [] := by unfold tStitch; rw [if_pos h, h.2]; rfl
        rw [this, h.1, h.2]; rfl
      · have hne : (tStitch x == []) = false := by unfold tStitch; rw [if_neg h]; simp
        have hz : (decide (x.Density = 0) && !x.Double) = false := by
          rw [Bool.eq_false_iff]; intro hh
          simp only [Bool.and_eq_true, decide_eq_true_eq, Bool.not_eq_true'] at hh
          exact h hh
        rw [words_stitch h, hne, Bool.false_or, hz, Bool.false_or]
        have hnum := numB_dec (z := x.Density) (lo := 10) (hi := 80) (by omega) (by omega)
        unfold probZ inRB
        cases x.Double with
        | false =>
          simp only [Bool.false_eq_true, if_false, List.append_nil, k5, countB, fineB, List.getD_eq_getElem?_getD, List.getElem?_cons_succ, List.getElem?_cons_zero, Option.getD_some, hnum]
          cases (decide (10 ≤ x.Density) && decide (x.Density ≤ 80)) <;> simp
        | true =>
          simp only [if_true, List.cons_append, List.nil_append, k5, countB, fineB, List.getD_eq_getElem?_getD, List.getElem?_cons_succ, List.getElem?_cons_zero, Option.getD_some, hnum]
          cases (decide (10 ≤ x.Density) && decide (x.Density ≤ 80)) <;> simp
    rw [e0, e1, e2, e3, e4, e5]
    unfold styleNums
    simp only [Bool.true_and, Bool.and_assoc]

theorem p_implValidStyle (n : Nat) (x : SStyle) (ok : StyleOk x) (hn : 1048576 < n) : m_impl_ValidStyle n x = some (styleNames x && styleNums x) := by
  have b1 := ok.tot
  unfold m_impl_ValidStyle
  rw [p_implIsName n _ (by omega : x.Upper.length ≤ 9223372036854775807) hn, p_implIsName n _ (by omega : x.Color.length ≤ 9223372036854775807) hn, p_implIsName n _ (by omega : x.Sole.length ≤ 9223372036854775807) hn, p_implIsName n _ (by omega : x.Lining.length ≤ 9223372036854775807) hn]
  simp only [p_within, Option.bind_some]
  unfold styleNames styleNums inRB
  have hd0 : (x.Density == 0) = decide (x.Density = 0) := rfl
  rw [hd0]
  cases nameB x.Upper <;> cases nameB x.Color <;> cases nameB x.Sole <;> cases x.Lining == [] <;> cases nameB x.Lining <;> cases (decide (10 ≤ x.Thick) && decide (x.Thick ≤ 300)) <;> cases (decide (0 ≤ x.Heel) && decide (x.Heel ≤ 1200)) <;> cases (decide (0 ≤ x.Eyelets) && decide (x.Eyelets ≤ 12)) <;> cases decide (x.Density = 0) <;> cases x.Double <;> first | rfl | (cases (decide (10 ≤ x.Density) && decide (x.Density ≤ 80)) <;> rfl)

theorem p_szStyle (n : Nat) (x : SStyle) (h : okStyle x) : ∃ v, m_laws_szStyle n x 1048576 = some v ∧ (v < 0 ∨ (0 ≤ v ∧ v = 1048576 - x.Upper.length - x.Color.length - x.Lining.length - x.Sole.length)) := by
  obtain ⟨h1, h2, h3, h4, _⟩ := h
  unfold strok at h1 h2 h3 h4
  unfold m_laws_szStyle
  rw [wI64_eq (x := 1048576 - (x.Upper.length : Int)) (by omega) (by omega)]
  by_cases c1 : 1048576 - (x.Upper.length : Int) < 0
  · exact ⟨-1, by simp only [c1, decide_true, if_true], .inl (by omega)⟩
  rw [wI64_eq (x := 1048576 - (x.Upper.length : Int) - (x.Color.length : Int)) (by omega) (by omega)]
  by_cases c2 : 1048576 - (x.Upper.length : Int) - (x.Color.length : Int) < 0
  · exact ⟨-1, by simp only [c1, c2, decide_true, decide_false, Bool.false_eq_true, if_true, if_false], .inl (by omega)⟩
  rw [wI64_eq (x := 1048576 - (x.Upper.length : Int) - (x.Color.length : Int) - (x.Lining.length : Int)) (by omega) (by omega)]
  by_cases c3 : 1048576 - (x.Upper.length : Int) - (x.Color.length : Int) - (x.Lining.length : Int) < 0
  · exact ⟨-1, by simp only [c1, c2, c3, decide_true, decide_false, Bool.false_eq_true, if_true, if_false], .inl (by omega)⟩
  rw [wI64_eq (x := 1048576 - (x.Upper.length : Int) - (x.Color.length : Int) - (x.Lining.length : Int) - (x.Sole.length : Int)) (by omega) (by omega)]
  by_cases c4 : 1048576 - (x.Upper.length : Int) - (x.Color.length : Int) - (x.Lining.length : Int) - (x.Sole.length : Int) < 0
  · exact ⟨-1, by simp only [c1, c2, c3, c4, decide_true, decide_false, Bool.false_eq_true, if_true, if_false], .inl (by omega)⟩
  · exact ⟨_, by simp only [c1, c2, c3, c4, decide_false, Bool.false_eq_true, if_false], .inr ⟨by omega, rfl⟩⟩

end Go.Gv
