/- Plain laws of styles: in which clauses two differ. -/
import Derived.Test.YtkjjjbfpecmieaaDoorPsE
import Derived.Test.YtkjjjbfpecmieaaDoorPq
namespace Go.Gv
open Go Go.RowKit

def clauseT (n : Nat) (x : SStyle) (w : List UInt8) : List UInt8 := (m_impl_Style_clause n x w).getD []
def sameW (n : Nat) (a b : SStyle) (w : List UInt8) : Bool := clauseT n a w == clauseT n b w

theorem p_diff1 (n : Nat) (a b : SStyle) (oa : StyleOk a) (ob : StyleOk b) (va : styleNums a = true) (vb : styleNums b = true) (i : Nat) (w : List UInt8) (hw : styleW[i]? = some w) :
    m_impl_DiffStyles_1 n w a b = some (sameW n a b w) ∧ sameW n a b w = ((textsL a).getD i [] == (textsL b).getD i []) := by
  have hlt : i < 6 := lt_of_get hw
  have ha : (textsL a)[i]? = some ((textsL a).getD i []) := getD_of (show i < (textsL a).length from hlt) []
  have hb : (textsL b)[i]? = some ((textsL b).getD i []) := getD_of (show i < (textsL b).length from hlt) []
  obtain ⟨w1, h1, h2⟩ := p_clause n a oa va i _ ha
  obtain ⟨w2, h3, h4⟩ := p_clause n b ob vb i _ hb
  rw [hw] at h1 h3
  obtain rfl := Option.some.inj h1
  obtain rfl := Option.some.inj h3
  unfold m_impl_DiffStyles_1 sameW clauseT
  rw [h2, h4]
  exact ⟨rfl, rfl⟩

theorem p_indexW (n : Nat) (a b : SStyle) (hd : ∀ (i : Nat) w, styleW[i]? = some w → m_impl_DiffStyles_1 n w a b = some (sameW n a b w)) (hn : 1048576 < n) :
    m_slices_IndexFunc_string_string_f36 n styleW a b = some (match styleW.findIdx? (sameW n a b) with | some i => (i : Int) | none => -1) := by
  have hw : styleW.length = 6 := rfl
  unfold m_slices_IndexFunc_string_string_f36
  have key := loopN_index (body := m_slices_IndexFunc_string_string_f36_l1 n styleW a b) styleW (sameW n a b)
    (fun i x hx => by
      have hlt := lt_of_get hx
      unfold m_slices_IndexFunc_string_string_f36_l1
      simp only [ltB hlt, if_true, idx_nat, hx, Option.bind_some, hd i x hx, succ64 hlt (by omega)]
      cases sameW n a b x <;> rfl)
    (by unfold m_slices_IndexFunc_string_string_f36_l1; simp) n (by omega)
  rw [key]
  cases styleW.findIdx? (sameW n a b) <;> rfl

theorem p_deleteW (n : Nat) (a b : SStyle) (hd : ∀ (i : Nat) w, styleW[i]? = some w → m_impl_DiffStyles_1 n w a b = some (sameW n a b w)) (hn : 1048577 < n) :
    m_slices_DeleteFunc_string_string_f36_o1 n styleW a b = some (styleW.filter fun w => !sameW n a b w) := by
  have hw : styleW.length = 6 := rfl
  unfold m_slices_DeleteFunc_string_string_f36_o1
  rw [p_indexW n a b hd (by omega)]
  cases h : styleW.findIdx? (sameW n a b) with
  | none =>
    rw [List.findIdx?_eq_none_iff] at h
    have : styleW.filter (fun w => !sameW n a b w) = styleW := by rw [List.filter_eq_self]; intro x hx; simp [h x hx]
    rw [this]; rfl
  | some i =>
    rw [List.findIdx?_eq_some_iff_getElem] at h
    obtain ⟨hi, hp, hlt⟩ := h
    have hne : ((i : Int) == -1) = false := beq_eq_false_iff_ne.2 (by omega)
    have hft : (styleW.take (i + 1)).filter (fun x => !sameW n a b x) = styleW.take i := by
      rw [List.take_add_one, List.getElem?_eq_getElem hi, List.filter_append]
      have h1 : (styleW.take i).filter (fun x => !sameW n a b x) = styleW.take i := by
        rw [List.filter_eq_self]
        intro x hx
        obtain ⟨j, hj, rfl⟩ := List.getElem_of_mem hx
        rw [List.getElem_take]
        have := hlt j (by simp at hj; omega)
        simpa using this
      rw [h1]; simp [hp]
    obtain ⟨i', l', h1, h2, h3, h4⟩ := delete_loop (body := m_slices_DeleteFunc_string_string_f36_o1_l1 n a b) (sameW n a b) styleW
      (fun i j q x y hij hj hq hx hqx hqy => by
        have hb : decide ((j : Int) < (q.length : Int)) = true := decide_eq_true (by omega)
        unfold m_slices_DeleteFunc_string_string_f36_o1_l1
        simp only [hb, if_true, idx_nat, hqx, hqy, Option.bind_some, hd j x hx, succ64 (show j < 1048577 by omega) (by omega), succ64 (show i < 1048577 by omega) (by omega), Int.toNat_natCast]
        cases sameW n a b x <;> rfl)
      (fun i q hq => by unfold m_slices_DeleteFunc_string_string_f36_o1_l1; simp [hq])
      (styleW.length - (i + 1)) i (i + 1) styleW n (by omega) (by omega) rfl hft.symm (by rw [hft]; simp; omega) rfl (by omega)
    simp only [Option.bind_some, hne, Bool.false_eq_true, if_false, succ64 hi (by omega), h1]
    obtain ⟨x, g1, g2⟩ := sub_cut l' i' ([] : List UInt8) (by omega)
    rw [g1]
    simp only [Option.bind_some]
    rw [g2, h4]; rfl

theorem p_diffLoop (n : Nat) (xs ys : List (List UInt8)) (hx : xs.length = 6) (hy : ys.length = 6) (p : List UInt8 → Bool) (hp : ∀ (i : Nat) w, styleW[i]? = some w → p w = (xs.getD i [] == ys.getD i [])) (hn : 1048577 < n) :
    loopN (m_spec_DiffStyles_l1 n xs ys styleW) n (([] : List (List UInt8)), 0) = some (styleW.filter fun w => !p w) := by
  have hw : styleW.length = 6 := rfl
  have key := loopN_fold (body := m_spec_DiffStyles_l1 n xs ys styleW) styleW (fun b w => if !p w then b ++ [w] else b) ([] : List (List UInt8)) (fun i b => (b, (i : Int))) id (fun i b => b.length ≤ i) (by simp)
    (fun i w b hxw hb => by
      have hlt := lt_of_get hxw
      have g1 : xs[i]? = some (xs.getD i []) := getD_of (by omega) []
      have g2 : ys[i]? = some (ys.getD i []) := getD_of (by omega) []
      refine ⟨?_, ?_⟩
      · unfold m_spec_DiffStyles_l1
        simp only [ltB hlt, if_true, idx_nat, hxw, g1, g2, Option.bind_some, succ64 hlt (by omega), ← hp i w hxw]
        rw [app_eq (by simp; omega)]
        cases p w <;> rfl
      · cases p w <;> simp <;> omega)
    (fun b _ => by unfold m_spec_DiffStyles_l1; simp) n (by omega)
  have k1 : loopN (m_spec_DiffStyles_l1 n xs ys styleW) n (([] : List (List UInt8)), 0) = _ := key.1
  have hfold : ∀ (ws b : List (List UInt8)), ws.foldl (fun b w => if !p w then b ++ [w] else b) b = b ++ ws.filter (fun w => !p w) := by
    intro ws
    induction ws with
    | nil => intro b; simp
    | cons w ws ih =>
      intro b
      rw [List.foldl_cons, ih]
      cases hq : p w <;> simp [hq]
  rw [k1, hfold]; rfl

theorem p_DiffStyles (n : Nat) (a b : SStyle) (oa : StyleOk a) (ob : StyleOk b) (hn : 1500001 < n) : ∃ r c, m_spec_DiffStyles n a b = some (r, c) ∧ m_impl_DiffStyles n a b = some (r, c) ∧ r.length ≤ 6 := by
  unfold m_spec_DiffStyles m_impl_DiffStyles
  simp only [p_l24Ok n a oa hn, p_l24Ok n b ob hn, style_eq, p_implValidStyle n a oa (show 1048576 < n by omega), p_implValidStyle n b ob (show 1048576 < n by omega), Option.bind_some]
  cases va : (styleNames a && styleNums a) with
  | false => exact ⟨[], 1, rfl, rfl, by simp⟩
  | true =>
    cases vb : (styleNames b && styleNums b) with
    | false => exact ⟨[], 1, rfl, rfl, by simp⟩
    | true =>
      have na : styleNums a = true := by rw [Bool.and_eq_true] at va; exact va.2
      have nb : styleNums b = true := by rw [Bool.and_eq_true] at vb; exact vb.2
      have e1 : m_spec_StyleWords n = some styleW := rfl
      have e2 : m_impl_StyleWords n = some styleW := rfl
      have hd := fun i w hw => (p_diff1 n a b oa ob na nb i w hw).1
      have hq := fun i w hw => (p_diff1 n a b oa ob na nb i w hw).2
      refine ⟨styleW.filter fun w => !sameW n a b w, 0, ?_, ?_, Nat.le_trans (List.length_filter_le _ _) (Nat.le_refl 6)⟩
      · simp only [Bool.not_true, Bool.false_eq_true, if_false, Option.bind_some, p_l24Texts n a oa (show 1048576 < n by omega), p_l24Texts n b ob (show 1048576 < n by omega), e1, p_diffLoop n (textsL a) (textsL b) rfl rfl (sameW n a b) hq (by omega)]
      · simp only [Bool.not_true, Bool.false_eq_true, if_false, Option.bind_some, e2, p_deleteW n a b hd (by omega)]

theorem p_szStyleL (n : Nat) (x : SStyle) (L : Int) (hL0 : 0 ≤ L) (hL1 : L ≤ 1048576) (h : okStyle x) : ∃ v, m_laws_szStyle n x L = some v ∧ (v < 0 ∨ (0 ≤ v ∧ v = L - x.Upper.length - x.Color.length - x.Lining.length - x.Sole.length)) := by
  obtain ⟨h1, h2, h3, h4, _⟩ := h
  unfold strok at h1 h2 h3 h4
  unfold m_laws_szStyle
  rw [wI64_eq (x := L - (x.Upper.length : Int)) (by omega) (by omega)]
  by_cases c1 : L - (x.Upper.length : Int) < 0
  · exact ⟨-1, by simp only [c1, decide_true, if_true], .inl (by omega)⟩
  rw [wI64_eq (x := L - (x.Upper.length : Int) - (x.Color.length : Int)) (by omega) (by omega)]
  by_cases c2 : L - (x.Upper.length : Int) - (x.Color.length : Int) < 0
  · exact ⟨-1, by simp only [c1, c2, decide_true, decide_false, Bool.false_eq_true, if_true, if_false], .inl (by omega)⟩
  rw [wI64_eq (x := L - (x.Upper.length : Int) - (x.Color.length : Int) - (x.Lining.length : Int)) (by omega) (by omega)]
  by_cases c3 : L - (x.Upper.length : Int) - (x.Color.length : Int) - (x.Lining.length : Int) < 0
  · exact ⟨-1, by simp only [c1, c2, c3, decide_true, decide_false, Bool.false_eq_true, if_true, if_false], .inl (by omega)⟩
  rw [wI64_eq (x := L - (x.Upper.length : Int) - (x.Color.length : Int) - (x.Lining.length : Int) - (x.Sole.length : Int)) (by omega) (by omega)]
  by_cases c4 : L - (x.Upper.length : Int) - (x.Color.length : Int) - (x.Lining.length : Int) - (x.Sole.length : Int) < 0
  · exact ⟨-1, by simp only [c1, c2, c3, c4, decide_true, decide_false, Bool.false_eq_true, if_true, if_false], .inl (by omega)⟩
  · exact ⟨_, by simp only [c1, c2, c3, c4, decide_false, Bool.false_eq_true, if_false], .inr ⟨by omega, rfl⟩⟩

theorem law_DiffStyles (a b : SStyle) (ha : okStyle a) (hb : okStyle b) : m_laws_FnExactDiffStyles 2000000 a b = some true := by
  unfold m_laws_FnExactDiffStyles
  obtain ⟨v, hv, hc⟩ := p_szStyle 2000000 a ha
  rw [hv]
  simp only [Option.bind_some]
  rcases hc with hc | ⟨h0, hc⟩
  · simp [hc]
  · have hd : ¬ v < 0 := by omega
    simp only [hd, decide_false, Bool.false_eq_true, if_false]
    obtain ⟨u, hu, hg⟩ := p_szStyleL 2000000 b v h0 (by omega) hb
    rw [hu]
    simp only [Option.bind_some]
    rcases hg with hg | ⟨g0, hg⟩
    · simp [hg]
    · have hd2 : ¬ u < 0 := by omega
      have oa : StyleOk a := by obtain ⟨h1, h2, h3, h4, h5, h6, h7, h8, _⟩ := ha; exact ⟨by omega, h5, h6, h7, h8⟩
      have ob : StyleOk b := by obtain ⟨h1, h2, h3, h4, h5, h6, h7, h8, _⟩ := hb; exact ⟨by omega, h5, h6, h7, h8⟩
      obtain ⟨r, c, e1, e2, hr⟩ := p_DiffStyles 2000000 a b oa ob (by omega)
      have hne : ¬ (1 + (r.length : Int) < 0) := by omega
      simp only [hd2, decide_false, Bool.false_eq_true, if_false, m_laws_toStyle, Option.bind_some, e1, e2, p_eqStringS 2000000 r (by omega) (by omega), Bool.not_true, bne_self_eq_false, p_markStringS 2000000 r (by omega) (by omega), p_heldStringS 2000000 r.length (by omega) (by omega), hne]

end Go.Gv
