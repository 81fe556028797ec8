/- Plain laws of stock: a good added. -/
import Derived.Test.YtkpdicajinionaaPgD
namespace Go.Gv
open Go Go.RowKit

def insG (l : List SGood) (p : Nat) (g : SGood) : List SGood := l.take p ++ [g] ++ l.drop p

theorem insG_len {l : List SGood} {p : Nat} {g : SGood} (h : p ≤ l.length) : (insG l p g).length = l.length + 1 := by
  unfold insG; simp; omega

theorem insG_at {l : List SGood} {p : Nat} {g : SGood} (h : p ≤ l.length) (i : Nat) : (insG l p g)[i]? = if i < p then l[i]? else if i = p then some g else l[i - 1]? := by
  unfold insG
  have hl : (l.take p).length = p := by simp; omega
  by_cases h1 : i < p
  · rw [if_pos h1, List.append_assoc, List.getElem?_append_left (by omega), List.getElem?_take, if_pos h1]
  · rw [if_neg h1, List.append_assoc, List.getElem?_append_right (by omega), hl]
    by_cases h2 : i = p
    · subst h2; simp
    · rw [if_neg h2, List.getElem?_append_right (by simp; omega), List.getElem?_drop]
      congr 1; simp; omega

theorem goods_of {l : List SGood} (hl : l.length ≤ 40) (hg : ∀ g ∈ l, goodB g = true) (hs : ∀ (i : Nat) g h, l[i]? = some g → l[i + 1]? = some h → strLt g.Name h.Name = true) : goodsB l = true := by
  unfold goodsB
  simp only [Bool.and_eq_true, decide_eq_true_eq, List.all_eq_true, List.mem_range]
  refine ⟨fun i hi => ?_, hl⟩
  obtain ⟨g, h1⟩ : ∃ g, l[i]? = some g := ⟨_, List.getElem?_eq_getElem hi⟩
  unfold atB
  rw [List.getD_eq_getElem?_getD, h1, Option.getD_some]
  simp only [Bool.and_eq_true, Bool.or_eq_true, decide_eq_true_eq]
  refine ⟨hg g (List.mem_of_getElem? h1), ?_⟩
  cases i with
  | zero => exact .inl rfl
  | succ i =>
    obtain ⟨h, h2⟩ : ∃ h, l[i]? = some h := ⟨_, List.getElem?_eq_getElem (by omega)⟩
    right
    rw [Nat.add_sub_cancel, List.getD_eq_getElem?_getD, h2, Option.getD_some]
    exact hs i h g h2 h1

theorem goods_ins {l : List SGood} {p : Nat} {g : SGood} (hS : Stock l) (hP : Place l g.Name p) (hl : l.length < 40) (hg : goodB g = true) (hf : ∀ h ∈ l, h.Name ≠ g.Name) : goodsB (insG l p g) = true := by
  have hle := hP.le
  refine goods_of (by rw [insG_len hle]; omega) ?_ ?_
  · intro h hh
    unfold insG at hh
    simp only [List.mem_append, List.mem_singleton] at hh
    rcases hh with (hh | rfl) | hh
    · exact hS.good h (List.mem_of_mem_take hh)
    · exact hg
    · exact hS.good h (List.mem_of_mem_drop hh)
  · intro i a b ha hb
    rw [insG_at hle] at ha hb
    by_cases h1 : i + 1 < p
    · rw [if_pos (by omega)] at ha; rw [if_pos h1] at hb
      exact hS.less i (i + 1) a b (by omega) ha hb
    · rw [if_neg h1] at hb
      by_cases h2 : i + 1 = p
      · rw [if_pos h2] at hb; cases hb
        rw [if_pos (by omega)] at ha
        exact hP.lo i a (by omega) ha
      · rw [if_neg h2, Nat.add_sub_cancel] at hb
        rw [if_neg (by omega)] at ha
        by_cases h3 : i = p
        · rw [if_pos h3] at ha; cases ha
          have hlo := hP.hi i b (by omega) hb
          rcases sl_tri g.Name b.Name with h | h | h
          · exact h
          · exact absurd h.symm (hf b (List.mem_of_getElem? hb))
          · rw [h] at hlo; cases hlo
        · rw [if_neg h3] at ha
          exact hS.less (i - 1) i a b (by omega) ha hb

theorem find_none {l : List SGood} {name : List UInt8} (h : findZ l name = -1) : ∀ g ∈ l, g.Name ≠ name := by
  unfold findZ at h
  cases hf : l.findIdx? (fun g => g.Name == name) with
  | some i => rw [hf] at h; simp only at h; omega
  | none =>
    rw [List.findIdx?_eq_none_iff] at hf
    intro g hg
    simpa using hf g hg

theorem p_addLoop (n : Nat) (l : List SGood) (g : SGood) (p : Nat) (hl : l.length ≤ 40) (hP : Place l g.Name p) (hf : ∀ h ∈ l, h.Name ≠ g.Name) (hn : 1048576 < n) : loopN (m_spec_AddGood_l1 n l g) n (l.length : Int) = some (p : Int) := by
  have hle := hP.le
  have h := loopN_run (body := m_spec_AddGood_l1 n l g) (fun i => (l.length : Int) - (i : Int)) (p : Int) (l.length - p) (fun i hi => ?_) ?_ n (by omega)
  · simpa using h
  · obtain ⟨x, hx⟩ : ∃ x, l[l.length - i - 1]? = some x := ⟨_, List.getElem?_eq_getElem (by omega)⟩
    have hw : wI64 ((l.length : Int) - (i : Int) - 1) = (l.length : Int) - ((i + 1 : Nat) : Int) := by rw [wI64_eq (by omega) (by omega)]; omega
    have hi2 : idx l ((l.length : Int) - ((i + 1 : Nat) : Int)) = some x := by rw [idx_of (k := l.length - i - 1) (by omega)]; exact hx
    have hd : decide ((l.length : Int) - (i : Int) > 0) = true := decide_eq_true (by omega)
    have hlt := hP.hi (l.length - i - 1) x (by omega) hx
    have hne : (x.Name == g.Name) = false := by simpa using hf x (List.mem_of_getElem? hx)
    unfold m_spec_AddGood_l1
    simp only [hd, if_true, hw, hi2, Option.bind_some, hlt, hne, Bool.or_false, Bool.not_false]
  · have e : (l.length : Int) - ((l.length - p : Nat) : Int) = (p : Int) := by omega
    unfold m_spec_AddGood_l1
    rw [e]
    by_cases h0 : p = 0
    · subst h0; simp
    · obtain ⟨x, hx⟩ : ∃ x, l[p - 1]? = some x := ⟨_, List.getElem?_eq_getElem (by omega)⟩
      have hw : wI64 ((p : Int) - 1) = ((p - 1 : Nat) : Int) := by rw [wI64_eq (by omega) (by omega)]; omega
      have hd : decide ((p : Int) > 0) = true := decide_eq_true (by omega)
      have hlt := hP.lo (p - 1) x (by omega) hx
      simp only [hd, if_true, hw, idx_nat, hx, Option.bind_some, hlt, Bool.true_or, Bool.not_true, Bool.false_eq_true, if_false]

theorem p_AddGood (n : Nat) (l : List SGood) (g : SGood) (hl : l.length ≤ 1048576) (hs : ∀ g ∈ l, strok g.Name) (hg : strok g.Name) (hn : 1048576 < n) :
    ∃ R : List SGood × Int, m_spec_AddGood n l g = some R ∧ m_impl_AddGood n l g = some R ∧ ((R.2 ≠ 0 ∧ R.1 = []) ∨ (R.2 = 0 ∧ R.1.length = l.length + 1 ∧ R.1.length ≤ 40 ∧ goodsB R.1 = true)) := by
  unfold m_spec_AddGood m_impl_AddGood
  rw [p_l23Ok n l hl hs hn, p_implValidGoods n l hl hs hn, p_l23One n g hg hn, p_validGood n g hg hn]
  simp only [Option.bind_some]
  cases hv : goodsB l with
  | false => exact ⟨([], 1), rfl, rfl, .inl ⟨by decide, rfl⟩⟩
  | true =>
    cases hb : goodB g with
    | false => exact ⟨([], 2), rfl, rfl, .inl ⟨by decide, rfl⟩⟩
    | true =>
      have hS := stock_of hv
      obtain ⟨p, hP, e1⟩ := p_goodPlace n l g.Name hS hn
      have hfz := place_find hS hP
      rw [e1, p_l23Find n l g.Name hl hn]
      simp only [Bool.not_true, Bool.false_eq_true, if_false, Option.bind_some]
      cases hf : foundB l g.Name p with
      | true =>
        rw [hf] at hfz; simp only [if_true] at hfz
        have hd : decide (findZ l g.Name ≥ 0) = true := decide_eq_true (by omega)
        simp only [hd, if_true]
        exact ⟨([], 4), rfl, rfl, .inl ⟨by decide, rfl⟩⟩
      | false =>
        rw [hf] at hfz; simp only [Bool.false_eq_true, if_false] at hfz
        have hd : decide (findZ l g.Name ≥ 0) = false := decide_eq_false (by omega)
        simp only [hd, Bool.false_eq_true, if_false]
        have h40 := hS.len
        by_cases h : l.length = 40
        · have d1 : decide ((l.length : Int) ≥ 40) = true := decide_eq_true (by omega)
          have d2 : ((l.length : Int) == 40) = true := by rw [beq_iff_eq]; omega
          simp only [d1, d2, if_true]
          exact ⟨([], 5), rfl, rfl, .inl ⟨by decide, rfl⟩⟩
        · have d1 : decide ((l.length : Int) ≥ 40) = false := decide_eq_false (by omega)
          have d2 : ((l.length : Int) == 40) = false := by rw [beq_eq_false_iff_ne]; omega
          have hle := hP.le
          have hne := find_none hfz
          have e2 : m_slices_Insert_impl_Good_impl_Good n l (p : Int) [g] = some (insG l p g) := by
            unfold m_slices_Insert_impl_Good_impl_Good insG big
            rw [if_pos ⟨by omega, by omega, rfl, by simp; omega⟩]
            simp
          have e3 : sub l 0 (p : Int) = some (l.take p) := by
            unfold sub; rw [if_pos ⟨by omega, by omega, by omega⟩]; simp
          have e4 : sub l (p : Int) (l.length : Int) = some (l.drop p) := by
            unfold sub; rw [if_pos ⟨by omega, by omega, by omega⟩]; simp
          have a1 : app ([] : List SGood) (l.take p) = some (l.take p) := by rw [app_eq (by simp; omega)]; rfl
          have a2 : app (l.take p) [g] = some (l.take p ++ [g]) := app_eq (by simp; omega)
          have a3 : app (l.take p ++ [g]) (l.drop p) = some (insG l p g) := by rw [app_eq (by simp; omega)]; rfl
          simp only [d1, d2, Bool.false_eq_true, if_false, p_Clone n l hl, Option.bind_some, e2, p_addLoop n l g p h40 hP hne hn, e3, e4, a1, a2, a3]
          exact ⟨(insG l p g, 0), rfl, rfl, .inr ⟨rfl, insG_len hle, by show (insG l p g).length ≤ 40; rw [insG_len hle]; omega, goods_ins hS hP (by omega) hb hne⟩⟩

/-- The statement on AddGood. -/
theorem law_AddGood (a : List SGood) (g : SGood) (ha : a.length ≤ 9223372036854775807) (hao : ∀ x ∈ a, okGood x) (hgo : okGood g) : m_laws_FnExactAddGood 2000000 a g = some true := by
  unfold m_laws_FnExactAddGood
  obtain ⟨v, hv, hc⟩ := p_szGoodS 2000000 a 1048576 (by omega) (by omega) ha (fun g hg => (hao g hg).1) (by omega)
  rw [hv]
  simp only [Option.bind_some]
  rcases hc with h | ⟨h0, h⟩
  · simp [h]
  · have hd : decide (v < 0) = false := decide_eq_false (by omega)
    have la : a.length ≤ 1048576 := by omega
    obtain ⟨u, hu, hc2⟩ := p_szGood 2000000 g v (by omega) (by omega) hgo.1
    simp only [hd, Bool.false_eq_true, if_false, hu, Option.bind_some]
    rcases hc2 with k | ⟨k0, k⟩
    · simp [k]
    · have hd2 : decide (u < 0) = false := decide_eq_false (by omega)
      obtain ⟨⟨t, e⟩, e1, e2, hR⟩ := p_AddGood 2000000 a g la (fun g hg => (hao g hg).1) hgo.1 (by omega)
      have lt : t.length ≤ 1048576 := by
        rcases hR with ⟨_, h⟩ | ⟨_, _, h, _⟩
        · rw [show t = [] from h]; simp
        · have h' : t.length ≤ 40 := h; omega
      have hne : ¬ (1 + 4 * (a.length : Int) < 0) := by omega
      have hne2 : ¬ (1 + 4 * (t.length : Int) < 0) := by omega
      simp [hd2, p_toGood, p_toGoodS 2000000 _ la, e1, e2, p_eqGoodS 2000000 _ la, p_eqGoodS 2000000 t lt, p_markGoodS 2000000 a la, p_markGoodS 2000000 t lt, p_heldGoodS 2000000 t.length lt, hne, hne2]

end Go.Gv
