/- Plain law of stock: changes of goods, their texts, and the road back. -/
import Derived.Test.YtkpdicajinionaaGreatDoorPgL
namespace Go.Gv
open Go Go.RowKit

/-- The end of the statement: what all takes leave. -/
def tailG (n : Nat) (body : Int → Option (Step Int (Unit ⊕ Bool))) (r : List SGood × Int × Int) (l : List SGood) : Option Bool :=
  if (r.2.2 != 0) then some true else
  if (decide (r.2.1 ≥ 0)) then Option.bind (m_spec_SameGoods n r.1 l) fun x => some x else
  Option.bind (loopN body n 0) fun t =>
  match t with
  | .inl _ => some true
  | .inr r => some r

theorem tail_true (n : Nat) (body : Int → Option (Step Int (Unit ⊕ Bool))) (r : List SGood × Int × Int) (l : List SGood) (hl : l.length ≤ 1048576) (hn : 1048577 < n)
    (hr : r.2.2 ≠ 0 ∨ (∃ j : Nat, r = (l, (j : Int), 0)) ∨ (∃ b, r = (b, -1, 0) ∧ loopN body n 0 = some (.inl ()))) : tailG n body r l = some true := by
  unfold tailG
  rcases hr with h | ⟨j, h⟩ | ⟨b, h, h2⟩
  · have : (r.2.2 != 0) = true := by simpa using h
    rw [this]; rfl
  · subst h
    have d : decide ((j : Int) ≥ 0) = true := decide_eq_true (by omega)
    simp only [bne_self_eq_false, Bool.false_eq_true, if_false, d, if_true, p_specSameGoods n l l hl (by omega), Option.bind_some, decide_true]
  · subst h
    have d : decide ((-1 : Int) ≥ 0) = false := rfl
    simp only [bne_self_eq_false, Bool.false_eq_true, if_false, d, h2, Option.bind_some]

theorem loop_true (n : Nat) (l b : List SGood) (ts : List STake) (hv : goodsB l = true) (h60 : ts.length ≤ 60) (hm : ∀ t ∈ ts, inRB (-1000000) 1000000 t.Many = true) (hr : runL (roundG l) 0 ts l = .ok b) (hn : 1000 < n) :
    loopN (m_laws_FnGoods_l1 n (l, ts) (b, -1, 0)) n 0 = some (.inl ()) := by
  have hS := stock_of hv
  have hlen := hS.len
  refine outer_sum n l b ts _ hv h60 hm hr hn (fun i g h hg hh he => ?_) ?_
  · have hlt := lt_of_get hg
    obtain ⟨r1, r2, _⟩ := goodB_range (hS.good g (List.mem_of_getElem? hg))
    have hin := inner_sum n ts g (m_laws_FnGoods_l2 n (l, ts) (i : Int)) h60 hm r1 r2 hn
      (fun k t s ht => by
        have hk := lt_of_get ht
        unfold m_laws_FnGoods_l2
        simp only [ltB hk, if_true, idx_nat, ht, hg, Option.bind_some, succ64 hk (by omega)]
        cases t.Name == g.Name <;> rfl)
      (fun s => by unfold m_laws_FnGoods_l2; simp only [ltB_self, Bool.false_eq_true, if_false])
    have hne : (h.OnHand != g.OnHand + sumN g.Name ts) = false := by rw [he]; simp
    unfold m_laws_FnGoods_l1
    simp only [ltB hlt, if_true, idx_nat, hg, hh, Option.bind_some, hin, hne, Bool.false_eq_true, if_false, succ64 hlt (by omega)]
  · unfold m_laws_FnGoods_l1
    simp only [ltB_self, Bool.false_eq_true, if_false]

theorem names_of {l l' : List SGood} (h : namesG l = namesG l') (hs : ∀ g ∈ l', strok g.Name) : ∀ g ∈ l, strok g.Name := by
  intro g hg
  have : g.Name ∈ namesG l := List.mem_map.2 ⟨g, hg, rfl⟩
  rw [h] at this
  obtain ⟨g', h1, h2⟩ := List.mem_map.1 this
  rw [← h2]; exact hs g' h1

theorem goods_names {l : List SGood} (h : goodsB l = true) : ∀ g ∈ l, strok g.Name := by
  intro g hg
  have := (stock_of h).good g hg
  unfold goodB nameB at this
  simp only [Bool.and_eq_true, decide_eq_true_eq] at this
  unfold strok; omega

theorem law_Goods (code : List Int) (_hl : code.length ≤ 9223372036854775807) (hc : ∀ x ∈ code, u8ok x) : m_laws_FnGoods 2000000 code = some true := by
  unfold m_laws_FnGoods m_laws_f6big
  simp only [Option.bind_some]
  cases decide ((code.length : Int) > 4096) with
  | true => rfl
  | false =>
    simp only [Bool.false_eq_true, if_false]
    have hb : bytesok code := hc
    obtain ⟨l, ts, e1, hl, hts⟩ := p_DrawChangeGoods 2000000 hb (by omega)
    obtain ⟨la, ga, e2, hla, hga⟩ := p_DrawAddGood 2000000 hb (by omega)
    obtain ⟨lc, t, e3, hlc⟩ := p_DrawChangeGood 2000000 hb (by omega)
    obtain ⟨g, e4, hg⟩ := p_DrawGoodText 2000000 hb
    obtain ⟨s, e5, hs⟩ := p_DrawReadGood 2000000 hb (by omega)
    obtain ⟨sa, sb, e6, hsa⟩ := p_DrawSameGoods 2000000 hb (by omega)
    obtain ⟨l1, l2⟩ := hl.ok
    obtain ⟨a1, a2⟩ := hla.ok
    obtain ⟨c1, c2⟩ := hlc.ok
    obtain ⟨r, r1, r2, r3, r4⟩ := p_ChangeGoodsR 2000000 l ts l1 l2 (by omega) (by omega)
    obtain ⟨R, q1, q2, q3⟩ := p_AddGood 2000000 la ga a1 a2 (by unfold strok; omega) (by omega)
    obtain ⟨u1, u2, u3⟩ := p_Change 2000000 lc t c1 c2 (by omega)
    have hRl : R.1.length ≤ 1048576 := by
      rcases q3 with ⟨_, h⟩ | ⟨_, _, h, _⟩
      · rw [h]; simp
      · omega
    have sr := p_specSameGoods 2000000 r.1 r.1 r3 (by omega)
    have sR := p_specSameGoods 2000000 R.1 R.1 hRl (by omega)
    have sC := p_specSameGoods 2000000 (changeR lc t).1 (changeR lc t).1 (by omega) (by omega)
    have sS := p_specSameGoods 2000000 sa sb (by omega) (by omega)
    have iS := p_implSameGoods 2000000 sa sb (by omega) (by omega)
    have vS := p_l23Ok 2000000 l l1 l2 (by omega)
    have vI := p_implValidGoods 2000000 l l1 l2 (by omega)
    have vS' : m_spec_ValidGoods 2000000 l = some (goodsB l) := by unfold m_spec_ValidGoods; rw [vS]; rfl
    obtain ⟨T, hT⟩ : ∃ T, T = if goodB g then textG g else [] := ⟨_, rfl⟩
    have tS := specText_any 2000000 g (by omega) (by omega)
    have tI := implText_any 2000000 g (by omega) (by omega)
    rw [← hT] at tS tI
    obtain ⟨w1, w2, w3⟩ : T.length ≤ 1048576 ∧ ((readG T).2 == (!(T == []))) = true ∧ ((readG T).2 = true → (readG T).1 = g) := by
      cases hgb : goodB g with
      | false =>
        rw [hgb] at hT
        simp only [Bool.false_eq_true, if_false] at hT
        subst hT
        have : readG [] = badG := by decide
        rw [this]
        exact ⟨by simp, rfl, fun h => by cases h⟩
      | true =>
        rw [hgb, if_pos rfl] at hT
        obtain ⟨b1, b2, b3, b4, b5, b6⟩ := goodB_range hgb
        have hx : readG T = (g, true) := by rw [hT]; exact readG_text hgb
        have hne : (T == []) = false := by rw [hT, beq_eq_false_iff_ne]; exact textG_ne g
        rw [hx, hne]
        refine ⟨?_, rfl, fun _ => rfl⟩
        have d1 := decZ_len (z := g.OnHand) ⟨by omega, by omega⟩
        have d2 := decZ_len (z := g.Reserved) ⟨by omega, by omega⟩
        have d3 := decZ_len (z := g.Least) ⟨by omega, by omega⟩
        rw [hT]; unfold textG; simp; omega
    have rT := p_implReadGood 2000000 T w1 (by omega)
    have rI := p_implReadGood 2000000 s (by omega) (by omega)
    have rS := p_specReadGood 2000000 s (by omega) (by omega)
    -- the end
    have hend : r.2.2 ≠ 0 ∨ (∃ j : Nat, r = (l, (j : Int), 0)) ∨ (∃ b, r = (b, -1, 0) ∧ loopN (m_laws_FnGoods_l1 2000000 (l, ts) r) 2000000 0 = some (.inl ())) := by
      by_cases h : goodsB l = true ∧ ts.length ≤ 60 ∧ ∀ t ∈ ts, inRB (-1000000) 1000000 t.Many = true
      · obtain ⟨h1, h2, h3⟩ := h
        rcases r4 h1 h2 h3 with ⟨b, hb1, hb2⟩ | ⟨j, _, hj⟩
        · exact .inr (.inr ⟨b, hb2, by rw [hb2]; exact loop_true 2000000 l b ts h1 h2 h3 hb1 (by omega)⟩)
        · exact .inr (.inl ⟨j, hj⟩)
      · obtain ⟨e, he, hE⟩ := changes_bad 2000000 l ts l1 l2 (by omega) (by omega) h
        rw [r1] at hE
        cases hE
        exact .inl he
    have htail := tail_true 2000000 (m_laws_FnGoods_l1 2000000 (l, ts) r) r l l1 (by omega) hend
    have htail3 : tailG 2000000 (m_laws_FnGoods_l3 2000000 (l, ts) r) r l = some true := htail
    -- what was added
    have hadd : (if (R.2 == 0) then (if ((R.1.length : Int) != (wI64 ((la.length : Int) + 1))) then some true else Option.bind (m_impl_ValidGoods 2000000 R.1) fun x => some (!x)) else some false) = some false := by
      rcases q3 with ⟨h, _⟩ | ⟨h0, h1, h2, h3⟩
      · have : (R.2 == 0) = false := by simpa using h
        rw [this]; rfl
      · have hw : wI64 ((la.length : Int) + 1) = (R.1.length : Int) := by rw [wI64_eq (by omega) (by omega), h1]; omega
        rw [h0, hw, p_implValidGoods 2000000 R.1 hRl (goods_names h3) (by omega), h3]
        simp
    simp only [e1, e2, e3, e4, e5, e6, Option.bind_some, r1, r2, q1, q2, u1, u2, tS, tI, rT, rI, rS, bne_self_eq_false, Bool.false_eq_true, if_false, sr, sR, sC, decide_true, Bool.not_true, beq_self_eq_true, w2, sS, iS, vI, vS', hadd]
    have hcat : ∀ X : Option Bool, X = some false → ∀ F : Bool → Option Bool, Option.bind X F = F false := by
      intro X hX F; rw [hX]; rfl
    rw [hcat _ (by
      cases hr2 : (readG T).2 with
      | false => rfl
      | true =>
        have : decide ((readG T).1 = g) = true := decide_eq_true (w3 hr2)
        simp only [if_true, this, Bool.not_true, Bool.false_eq_true, if_false])]
    simp only [Bool.false_eq_true, if_false]
    cases hC : ((changeR lc t).2 == 0) with
    | false =>
      simp only [Bool.false_eq_true, if_false]
      exact htail3
    | true =>
      have hC' : (changeR lc t).2 = 0 := by simpa using hC
      obtain ⟨k1, k2, k3, k4⟩ := change_back hC'
      have hw : wI64 (0 - t.Many) = -t.Many := by rw [wI64_eq (by omega) (by omega)]; omega
      obtain ⟨x1, x2, x3⟩ := p_Change 2000000 (changeR lc t).1 ⟨t.Name, -t.Many⟩ (by omega) (names_of k4 c2) (by omega)
      rw [k1] at x2
      have sL := p_specSameGoods 2000000 lc lc c1 (by omega)
      simp only [if_true, hw, x2, Option.bind_some, bne_self_eq_false, Bool.false_eq_true, if_false, sL, decide_true, Bool.not_true]
      exact htail

end Go.Gv
