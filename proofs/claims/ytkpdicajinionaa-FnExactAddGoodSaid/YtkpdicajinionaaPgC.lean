/- Plain laws of stock: reserved, used, changed. -/
import Derived.Test.YtkpdicajinionaaPgB
namespace Go.Gv
open Go Go.RowKit

def codeG (l : List SGood) (name : List UInt8) (many : Int) : Int × Int :=
  if goodsB l then (if inRB 1 1000000 many then (if findZ l name < 0 then (0, 3) else (findZ l name, 0)) else (0, 2)) else (0, 1)

theorem p_l23Named (n : Nat) (l : List SGood) (name : List UInt8) (many : Int) (hl : l.length ≤ 1048576) (hs : ∀ g ∈ l, strok g.Name) (hn : 1048576 < n) : m_spec_l23Named n l name many = some (codeG l name many) := by
  unfold m_spec_l23Named codeG
  have e : (decide (1 ≤ many) && decide (many ≤ 1000000)) = inRB 1 1000000 many := rfl
  rw [p_l23Ok n l hl hs hn]
  simp only [Option.bind_some]
  cases goodsB l with
  | false => rfl
  | true =>
    simp only [Bool.not_true, Bool.false_eq_true, if_false, if_true, p_l00In, e, Option.bind_some]
    cases inRB 1 1000000 many with
    | false => rfl
    | true =>
      simp only [Bool.not_true, Bool.false_eq_true, if_false, if_true, p_l23Find n l name hl hn, Option.bind_some]
      by_cases h : findZ l name < 0
      · simp [h]
      · simp [h]

theorem p_goodCode (n : Nat) (l : List SGood) (name : List UInt8) (many : Int) (hl : l.length ≤ 1048576) (hs : ∀ g ∈ l, strok g.Name) (hn : 1048576 < n) : m_impl_goodCode n l name many = some (codeG l name many) := by
  unfold m_impl_goodCode codeG
  have e : (decide (1 ≤ many) && decide (many ≤ 1000000)) = inRB 1 1000000 many := rfl
  rw [p_implValidGoods n l hl hs hn]
  simp only [Option.bind_some]
  cases hv : goodsB l with
  | false => rfl
  | true =>
    simp only [Bool.not_true, Bool.false_eq_true, if_false, if_true, p_within, e, Option.bind_some]
    cases inRB 1 1000000 many with
    | false => rfl
    | true =>
      obtain ⟨p, hP, hp⟩ := p_goodPlace n l name (stock_of hv) hn
      simp only [Bool.not_true, Bool.false_eq_true, if_false, if_true, hp, place_find (stock_of hv) hP, Option.bind_some]
      cases foundB l name p with
      | false => rfl
      | true =>
        have : ¬ ((p : Int) < 0) := by omega
        simp [this]

theorem code_cases (l : List SGood) (name : List UInt8) (many : Int) : (codeG l name many).2 ≠ 0 ∨
    ∃ (k : Nat) (g : SGood), codeG l name many = ((k : Int), 0) ∧ l[k]? = some g ∧ g.Name = name ∧ goodsB l = true ∧ 1 ≤ many ∧ many ≤ 1000000 ∧ findZ l name = (k : Int) := by
  unfold codeG
  cases hv : goodsB l with
  | false => left; simp
  | true =>
    cases hm : inRB 1 1000000 many with
    | false => left; simp
    | true =>
      unfold inRB at hm
      simp only [Bool.and_eq_true, decide_eq_true_eq] at hm
      rcases find_cases l name with h | ⟨k, hk, _⟩
      · left; simp [h]
      · right
        obtain ⟨g, hg, hgn⟩ := find_get hk
        have : ¬ ((k : Int) < 0) := by omega
        exact ⟨k, g, by simp [hk, this], hg, hgn, rfl, hm.1, hm.2, hk⟩

def resAt (l : List SGood) (many : Int) (k : Nat) (g : SGood) : List SGood × Int :=
  if g.OnHand - g.Reserved < many then ([], 10) else (l.set k ⟨g.Name, g.OnHand, g.Reserved + many, g.Least⟩, 0)

def useAt (l : List SGood) (many : Int) (k : Nat) (g : SGood) : List SGood × Int :=
  if g.Reserved < many then ([], 6) else (l.set k ⟨g.Name, g.OnHand - many, g.Reserved - many, g.Least⟩, 0)

theorem p_Clone (n : Nat) (l : List SGood) (hl : l.length ≤ 1048576) : m_slices_Clone_impl_Good_impl_Good n l = some l := by
  unfold m_slices_Clone_impl_Good_impl_Good
  rw [app_eq (by simp; omega)]; rfl

theorem p_Reserve (n : Nat) (l : List SGood) (name : List UInt8) (many : Int) (hl : l.length ≤ 1048576) (hs : ∀ g ∈ l, strok g.Name) (hn : 1048576 < n) :
    ∃ r, m_spec_ReserveGood n l name many = some r ∧ m_impl_ReserveGood n l name many = some r ∧
      ((codeG l name many).2 ≠ 0 ∧ r = ([], (codeG l name many).2) ∨
       ∃ (k : Nat) (g : SGood), codeG l name many = ((k : Int), 0) ∧ l[k]? = some g ∧ g.Name = name ∧ goodsB l = true ∧ 1 ≤ many ∧ many ≤ 1000000 ∧ findZ l name = (k : Int) ∧ r = resAt l many k g) := by
  unfold m_spec_ReserveGood m_impl_ReserveGood
  rw [p_l23Named n l name many hl hs hn, p_goodCode n l name many hl hs hn]
  simp only [Option.bind_some]
  rcases code_cases l name many with h | ⟨k, g, hc, hg, hgn, hv, h1, h2, hk⟩
  · refine ⟨([], (codeG l name many).2), ?_, ?_, Or.inl ⟨h, rfl⟩⟩
    · simp [h]
    · simp [h]
  · obtain ⟨r1, r2, r3, r4, r5, r6⟩ := goodB_range ((stock_of hv).good g (List.mem_of_getElem? hg))
    have w1 : wI64 (g.Reserved + many) = g.Reserved + many := wI64_eq (by omega) (by omega)
    have w2 : wI64 (g.OnHand - g.Reserved) = g.OnHand - g.Reserved := wI64_eq (by omega) (by omega)
    refine ⟨resAt l many k g, ?_, ?_, Or.inr ⟨k, g, hc, hg, hgn, hv, h1, h2, hk, rfl⟩⟩
    · rw [hc, app_eq (by simp; omega)]
      simp only [beq_self_eq_true, if_true, idx_nat, hg, Option.bind_some, w1, List.nil_append, Int.toNat_natCast, resAt]
      by_cases hf : g.OnHand - g.Reserved < many
      · rw [decide_eq_true (by omega : g.Reserved + many > g.OnHand)]; simp [hf]
      · rw [decide_eq_false (by omega : ¬ g.Reserved + many > g.OnHand)]; simp [hf, hg]
    · rw [hc, p_Clone n l hl]
      simp only [bne_self_eq_false, Bool.false_eq_true, if_false, idx_nat, hg, Option.bind_some, w1, w2, Int.toNat_natCast, resAt]
      by_cases hf : g.OnHand - g.Reserved < many
      · simp [hf]
      · simp [hf, hg]

theorem p_Use (n : Nat) (l : List SGood) (name : List UInt8) (many : Int) (hl : l.length ≤ 1048576) (hs : ∀ g ∈ l, strok g.Name) (hn : 1048576 < n) :
    ∃ r, m_spec_UseReserved n l name many = some r ∧ m_impl_UseReserved n l name many = some r ∧
      ((codeG l name many).2 ≠ 0 ∧ r = ([], (codeG l name many).2) ∨
       ∃ (k : Nat) (g : SGood), codeG l name many = ((k : Int), 0) ∧ l[k]? = some g ∧ g.Name = name ∧ goodsB l = true ∧ 1 ≤ many ∧ many ≤ 1000000 ∧ findZ l name = (k : Int) ∧ r = useAt l many k g) := by
  unfold m_spec_UseReserved m_impl_UseReserved
  rw [p_l23Named n l name many hl hs hn, p_goodCode n l name many hl hs hn]
  simp only [Option.bind_some]
  rcases code_cases l name many with h | ⟨k, g, hc, hg, hgn, hv, h1, h2, hk⟩
  · refine ⟨([], (codeG l name many).2), ?_, ?_, Or.inl ⟨h, rfl⟩⟩
    · simp [h]
    · simp [h]
  · obtain ⟨r1, r2, r3, r4, r5, r6⟩ := goodB_range ((stock_of hv).good g (List.mem_of_getElem? hg))
    have w1 : wI64 (g.Reserved - many) = g.Reserved - many := wI64_eq (by omega) (by omega)
    have w2 : wI64 (g.OnHand - many) = g.OnHand - many := wI64_eq (by omega) (by omega)
    have hk2 := lt_of_get hg
    refine ⟨useAt l many k g, ?_, ?_, Or.inr ⟨k, g, hc, hg, hgn, hv, h1, h2, hk, rfl⟩⟩
    · rw [hc, app_eq (by simp; omega)]
      simp only [beq_self_eq_true, if_true, idx_nat, hg, Option.bind_some, w1, w2, List.nil_append, Int.toNat_natCast, useAt]
      by_cases hf : g.Reserved < many
      · rw [decide_eq_true (by omega : many > g.Reserved)]; simp [hf]
      · rw [decide_eq_false (by omega : ¬ many > g.Reserved)]; simp [hf, hg]
    · rw [hc, p_Clone n l hl]
      simp only [bne_self_eq_false, Bool.false_eq_true, if_false, idx_nat, hg, Option.bind_some, w1, Int.toNat_natCast, useAt]
      by_cases hf : g.Reserved < many
      · simp [hf]
      · simp [hf, hk2, w2]

theorem resAt_len (l : List SGood) (many : Int) (k : Nat) (g : SGood) : (resAt l many k g).1.length ≤ l.length := by
  unfold resAt; split <;> simp
theorem useAt_len (l : List SGood) (many : Int) (k : Nat) (g : SGood) : (useAt l many k g).1.length ≤ l.length := by
  unfold useAt; split <;> simp

theorem law_ReserveGood (a : List SGood) (name : List UInt8) (many : Int) (ha : a.length ≤ 9223372036854775807) (hao : ∀ x ∈ a, okGood x) (hname : strok name) (hmany : i64ok many) : m_laws_FnExactReserveGood 2000000 a name many = some true := by
  unfold m_laws_FnExactReserveGood
  by_cases hb : (name.length : Int) > 1048576
  · simp [hb]
  rw [decide_eq_false hb]
  obtain ⟨v, hv, hc⟩ := p_szGoodS 2000000 a 1048576 (by omega) (by omega) ha (fun g hg => (hao g hg).1) (by omega)
  rw [hv]
  simp only [Option.bind_some, Bool.false_eq_true, if_false]
  rcases hc with h | ⟨h0, h⟩
  · simp [h]
  · have hd : decide (v < 0) = false := decide_eq_false (by omega)
    have la : a.length ≤ 1048576 := by omega
    obtain ⟨⟨t, e⟩, e1, e2, hr⟩ := p_Reserve 2000000 a name many la (fun g hg => (hao g hg).1) (by omega)
    have lt : t.length ≤ 1048576 := by
      rcases hr with ⟨_, hr⟩ | ⟨k, g, _, _, _, _, _, _, _, hr⟩
      · rw [Prod.mk.injEq] at hr; rw [hr.1]; simp
      · have := resAt_len a many k g; rw [← hr] at this; exact Nat.le_trans this la
    have hne : ¬ (1 + 4 * (a.length : Int) < 0) := by omega
    have hne2 : ¬ (1 + 4 * (t.length : Int) < 0) := by omega
    simp [hd, p_toGoodS 2000000 _ la, e1, e2, p_eqGoodS 2000000 _ la, p_eqGoodS 2000000 t lt, p_markGoodS 2000000 a la, p_markGoodS 2000000 t lt, p_heldGoodS 2000000 t.length lt, hne, hne2]

theorem law_UseReserved (a : List SGood) (name : List UInt8) (many : Int) (ha : a.length ≤ 9223372036854775807) (hao : ∀ x ∈ a, okGood x) (hname : strok name) (hmany : i64ok many) : m_laws_FnExactUseReserved 2000000 a name many = some true := by
  unfold m_laws_FnExactUseReserved
  by_cases hb : (name.length : Int) > 1048576
  · simp [hb]
  rw [decide_eq_false hb]
  obtain ⟨v, hv, hc⟩ := p_szGoodS 2000000 a 1048576 (by omega) (by omega) ha (fun g hg => (hao g hg).1) (by omega)
  rw [hv]
  simp only [Option.bind_some, Bool.false_eq_true, if_false]
  rcases hc with h | ⟨h0, h⟩
  · simp [h]
  · have hd : decide (v < 0) = false := decide_eq_false (by omega)
    have la : a.length ≤ 1048576 := by omega
    obtain ⟨⟨t, e⟩, e1, e2, hr⟩ := p_Use 2000000 a name many la (fun g hg => (hao g hg).1) (by omega)
    have lt : t.length ≤ 1048576 := by
      rcases hr with ⟨_, hr⟩ | ⟨k, g, _, _, _, _, _, _, _, hr⟩
      · rw [Prod.mk.injEq] at hr; rw [hr.1]; simp
      · have := useAt_len a many k g; rw [← hr] at this; exact Nat.le_trans this la
    have hne : ¬ (1 + 4 * (a.length : Int) < 0) := by omega
    have hne2 : ¬ (1 + 4 * (t.length : Int) < 0) := by omega
    simp [hd, p_toGoodS 2000000 _ la, e1, e2, p_eqGoodS 2000000 _ la, p_eqGoodS 2000000 t lt, p_markGoodS 2000000 a la, p_markGoodS 2000000 t lt, p_heldGoodS 2000000 t.length lt, hne, hne2]

end Go.Gv
