/- Plain laws of wear: two shoes' wear put together. -/
import Derived.Test.YtoljnpoiclklpaaPw
namespace Go.Gv
open Go Go.RowKit

def sameDim (a b : List (List UInt8)) : Bool := decide (a.length = b.length) && decide ((a.headD []).length = (b.headD []).length)

theorem p_two (n : Nat) (a b : List (List UInt8)) (ha : a.length ≤ 1048576) (hsa : ∀ r ∈ a, r.length ≤ 1048576) (hb : b.length ≤ 1048576) (hsb : ∀ r ∈ b, r.length ≤ 1048576) (hn : 1048576 < n) :
    m_spec_l20Two n a b = some (if wearB a && wearB b then (if sameDim a b then 0 else 9) else 1) ∧ m_impl_sameWear n a b = some (if wearB a && wearB b then (if sameDim a b then 0 else 9) else 1) := by
  unfold m_spec_l20Two m_impl_sameWear
  rw [p_l20Ok n a ha hsa hn, p_l20Ok n b hb hsb hn, p_implValidWear n a ha hsa hn, p_implValidWear n b hb hsb hn]
  simp only [Option.bind_some]
  cases ea : wearB a
  · simp
  · cases eb : wearB b
    · simp
    · have la : 2 ≤ a.length := by unfold wearB at ea; simp at ea; omega
      have lb : 2 ≤ b.length := by unfold wearB at eb; simp at eb; omega
      obtain ⟨r, a', rfl⟩ : ∃ r a', a = r :: a' := by cases a with
        | nil => simp at la
        | cons r a' => exact ⟨r, a', rfl⟩
      obtain ⟨q, b', rfl⟩ : ∃ q b', b = q :: b' := by cases b with
        | nil => simp at lb
        | cons q b' => exact ⟨q, b', rfl⟩
      simp only [Bool.not_true, Bool.false_eq_true, if_false, Bool.and_self, if_true, idx_zero, List.getElem?_cons_zero, Option.bind_some, sameDim, List.headD_cons, List.length_cons]
      by_cases h1 : a'.length = b'.length
      · by_cases h2 : r.length = q.length
        · simp [h1, h2]
        · have : ¬ ((r.length : Int) = (q.length : Int)) := by omega
          simp [h1, h2, this]
      · have : ¬ ((a'.length : Int) + 1 = (b'.length : Int) + 1) := by omega
        simp [h1, this]

/-- Two digits put together. -/
def addC (x y : UInt8) : Int := IntKind.u8.wrap (wI64 (48 + min 9 (wI64 (dv x + dv y))))

theorem addC_impl {x y : UInt8} (hx : dig x = true) (hy : dig y = true) : imin (IntKind.u8.wrap ((x.toNat : Int) + (IntKind.u8.wrap ((y.toNat : Int) - 48)))) 57 = addC x y := by
  obtain ⟨e1, e2, e3⟩ := dv_dig hx
  obtain ⟨f1, f2, f3⟩ := dv_dig hy
  unfold addC imin
  rw [wI64_eq (x := dv x + dv y) (by omega) (by omega), wI64_eq (by omega) (by omega), wU8_eq (x := 48 + min 9 (dv x + dv y)) (by omega) (by omega), wU8_eq (x := (y.toNat : Int) - 48) (by omega) (by omega), wU8_eq (by omega) (by omega)]
  split <;> omega

theorem p_AddWear (n : Nat) (a b : List (List UInt8)) (ha : a.length ≤ 1048576) (hsa : ∀ r ∈ a, r.length ≤ 1048576) (hb : b.length ≤ 1048576) (hsb : ∀ r ∈ b, r.length ≤ 1048576) (hn : 1048576 < n) :
    ∃ l e, l.length ≤ 12 ∧ m_spec_AddWear n a b = some (l, e) ∧ m_impl_AddWear n a b = some (l, e) := by
  unfold m_spec_AddWear m_impl_AddWear
  obtain ⟨t1, t2⟩ := p_two n a b ha hsa hb hsb hn
  rw [t1, t2]
  simp only [Option.bind_some]
  cases ew : (wearB a && wearB b)
  · exact ⟨[], 1, by simp, by simp, by simp⟩
  · cases ed : sameDim a b
    · exact ⟨[], 9, by simp, by simp, by simp⟩
    · simp only [if_true, bne_self_eq_false, Bool.false_eq_true, if_false]
      simp only [Bool.and_eq_true] at ew
      obtain ⟨wa1, wa2⟩ := wear_total ew.1
      obtain ⟨wb1, wb2⟩ := wear_total ew.2
      unfold sameDim at ed
      simp only [Bool.and_eq_true, decide_eq_true_eq] at ed
      -- what stands at a place
      have at2 : ∀ {y x : Nat} {r : List UInt8} {c : UInt8}, a[y]? = some r → r[x]? = some c → ∃ q d, b[y]? = some q ∧ q[x]? = some d ∧ dig c = true ∧ dig d = true := by
        intro y x r c hr hc
        have hy := lt_of_get hr
        have hx := lt_of_get hc
        obtain ⟨r1, _, _, r4⟩ := wa2 r (List.mem_of_getElem? hr)
        have hq : b[y]? = some (b[y]'(by omega)) := List.getElem?_eq_getElem _
        obtain ⟨q1, _, _, q4⟩ := wb2 _ (List.mem_of_getElem? hq)
        have hd : (b[y]'(by omega))[x]? = some ((b[y]'(by omega))[x]'(by omega)) := List.getElem?_eq_getElem _
        exact ⟨_, _, hq, hd, r4 c (List.mem_of_getElem? hc), q4 _ (List.mem_of_getElem? hd)⟩
      let cell (y x : Nat) : Int := match a[y]? with
        | some r => match r[x]?, (b[y]?).bind (·[x]?) with
          | some c, some d => addC c d
          | _, _ => 0
        | none => 0
      let row (y : Nat) : List UInt8 := ofBytes ((List.range ((a[y]?).getD []).length).map (cell y))
      refine ⟨(List.range a.length).map row, 0, by simp; omega, ?_, ?_⟩
      · have := loopN_collect (body := m_spec_AddWear_l1 n a b) a.length row id
          (fun y l hy hl => by
            obtain ⟨r, hr⟩ : ∃ r, a[y]? = some r := ⟨_, List.getElem?_eq_getElem hy⟩
            obtain ⟨_, _, r3, _⟩ := wa2 r (List.mem_of_getElem? hr)
            have inner := loopN_collect (body := m_spec_AddWear_l2 n a b (l, (y : Int))) r.length (cell y) id
              (fun x l2 hx hl2 => by
                obtain ⟨c, hc⟩ : ∃ c, r[x]? = some c := ⟨_, List.getElem?_eq_getElem hx⟩
                obtain ⟨q, d, hq, hd, _, _⟩ := at2 hr hc
                have ec : cell y x = addC c d := by simp only [cell, hr, hc, hq, Option.bind_some, hd]
                unfold m_spec_AddWear_l2
                simp only [idx_nat, hr, Option.bind_some, ltB hx, if_true, p_l20At n a hr hc, p_l20At n b hq hd, p_l00Min, succ64 hx (by omega)]
                rw [app_eq (by simp; omega), ec]; rfl)
              (fun l2 _ => by unfold m_spec_AddWear_l2; simp [idx_nat, hr]) n (by omega)
            have inner' : loopN (m_spec_AddWear_l2 n a b (l, (y : Int))) n ([], 0) = _ := inner
            unfold m_spec_AddWear_l1
            simp only [ltB hy, if_true, inner', Option.bind_some, succ64 hy (by omega)]
            rw [app_eq (by simp; omega)]
            simp only [Option.bind_some, row, hr, Option.getD_some, id])
          (fun l _ => by unfold m_spec_AddWear_l1; simp) n (by omega)
        have h2 : loopN (m_spec_AddWear_l1 n a b) n ([], 0) = _ := this
        rw [h2]; rfl
      · have := loopN_collect (body := m_impl_AddWear_l1 n a b) a.length row id
          (fun y l hy hl => by
            obtain ⟨r, hr⟩ : ∃ r, a[y]? = some r := ⟨_, List.getElem?_eq_getElem hy⟩
            obtain ⟨_, _, r3, _⟩ := wa2 r (List.mem_of_getElem? hr)
            have inner := loopN_collect (body := m_impl_AddWear_l2 n a b (l, (y : Int)) r) r.length (cell y) id
              (fun x l2 hx hl2 => by
                obtain ⟨c, hc⟩ : ∃ c, r[x]? = some c := ⟨_, List.getElem?_eq_getElem hx⟩
                obtain ⟨q, d, hq, hd, gc, gd⟩ := at2 hr hc
                have ec : cell y x = addC c d := by simp only [cell, hr, hc, hq, Option.bind_some, hd]
                unfold m_impl_AddWear_l2
                simp only [ltB hx, if_true, idx_nat, hr, hq, hc, hd, Option.bind_some, succ64 hx (by omega), addC_impl gc gd]
                rw [app_eq (by simp; omega), ec]; rfl)
              (fun l2 _ => by unfold m_impl_AddWear_l2; simp) n (by omega)
            have inner' : loopN (m_impl_AddWear_l2 n a b (l, (y : Int)) r) n ([], 0) = _ := inner
            unfold m_impl_AddWear_l1
            simp only [ltB hy, if_true, idx_nat, hr, Option.bind_some, inner', succ64 hy (by omega)]
            rw [app_eq (by simp; omega)]
            simp only [Option.bind_some, row, hr, Option.getD_some, id])
          (fun l _ => by unfold m_impl_AddWear_l1; simp) n (by omega)
        have h2 : loopN (m_impl_AddWear_l1 n a b) n ([], 0) = _ := this
        rw [h2]; rfl

/-- The statement on AddWear. -/
theorem law_AddWear (a b : List (List UInt8)) (hla : a.length ≤ 9223372036854775807) (hsa : ∀ r ∈ a, strok r) (hlb : b.length ≤ 9223372036854775807) (hsb : ∀ r ∈ b, strok r) : m_laws_FnExactAddWear 2000000 a b = some true := by
  unfold m_laws_FnExactAddWear
  obtain ⟨v, hv, hc⟩ := sz_cases a hla hsa 1048576 (by omega) (by omega)
  rw [hv]
  simp only [Option.bind_some]
  rcases hc with h | ⟨h, v0, v1, h1, h2, h3⟩
  · simp [h]
  · obtain ⟨u, hu, hc2⟩ := sz_cases b hlb hsb v v0 v1
    simp only [h, Bool.false_eq_true, if_false, hu, Option.bind_some]
    rcases hc2 with k | ⟨k, u0, u1, k1, k2, k3⟩
    · simp [k]
    · obtain ⟨l, e, hl, e1, e2⟩ := p_AddWear 2000000 a b h1 h3 k1 k3 (by omega)
      have hab : (a.length : Int) + b.length ≤ 1048576 := by
        obtain ⟨v', hv', hcase⟩ := p_szStringS 2000000 a 1048576 (by omega) (by omega) hla hsa (by omega)
        obtain ⟨u', hu', hcase2⟩ := p_szStringS 2000000 b v v0 v1 hlb hsb (by omega)
        rw [hv] at hv'; cases hv'
        rw [hu] at hu'; cases hu'
        omega
      have hne : ¬ (1 + (a.length : Int) + (b.length : Int) < 0) := by omega
      have hne2 : ¬ (1 + (l.length : Int) < 0) := by omega
      simp [k, p_toStringS 2000000 a h1, p_toStringS 2000000 b k1, e1, e2, p_eqStringS 2000000 a h1, p_eqStringS 2000000 b k1, p_eqStringS 2000000 l (by omega), p_markStringS 2000000 a h1, p_markStringK 2000000 (1 + (a.length : Int)) b (by omega) (by omega),
        p_markStringS 2000000 l (by omega), p_heldStringS 2000000 l.length (by omega), hne, hne2]

end Go.Gv
