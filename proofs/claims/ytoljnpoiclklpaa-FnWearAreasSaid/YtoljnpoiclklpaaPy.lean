/- Plain laws of wear: a shoe's mirror. -/
import Derived.Test.YtoljnpoiclklpaaPx
namespace Go.Gv
open Go Go.RowKit

/-- A row that has been turned round at both its ends. -/
def turnedR (xs : List Int) (i : Nat) : List Int := (List.range xs.length).map fun k => if k < i ∨ xs.length ≤ k + i then xs.getD (xs.length - 1 - k) 0 else xs.getD k 0

theorem turned_len (xs : List Int) (i : Nat) : (turnedR xs i).length = xs.length := by simp [turnedR]
theorem turned_get (xs : List Int) (i k : Nat) (h : k < xs.length) : (turnedR xs i)[k]? = some (if k < i ∨ xs.length ≤ k + i then xs.getD (xs.length - 1 - k) 0 else xs.getD k 0) := by
  unfold turnedR; rw [range_map_get _ h]

theorem p_reverse (n : Nat) (xs : List Int) (hx : xs.length ≤ 1048576) (hn : 1048576 < n) : m_slices_Reverse_byte_byte n xs = some xs.reverse := by
  unfold m_slices_Reverse_byte_byte
  have h0 : turnedR xs 0 = xs := by
    apply List.ext_getElem?
    intro k
    by_cases h : k < xs.length
    · rw [turned_get xs 0 k h, if_neg (by omega), getD_of h 0]
    · rw [List.getElem?_eq_none (by rw [turned_len]; omega), List.getElem?_eq_none (by omega)]
  have hend : turnedR xs (xs.length / 2) = xs.reverse := by
    apply List.ext_getElem?
    intro k
    by_cases h : k < xs.length
    · rw [turned_get xs _ k h, List.getElem?_reverse h, getD_of (by omega : xs.length - 1 - k < xs.length) 0]
      split
      · rfl
      · have : xs.length - 1 - k = k := by omega
        rw [this]
    · rw [List.getElem?_eq_none (by rw [turned_len]; omega), List.getElem?_eq_none (by simp; omega)]
  have := loopN_run (body := m_slices_Reverse_byte_byte_l1 n) (fun i => ((i : Int), (xs.length : Int) - 1 - i, turnedR xs i)) (turnedR xs (xs.length / 2)) (xs.length / 2)
    (fun i hi => by
      have hj : (xs.length : Int) - 1 - (i : Int) = ((xs.length - 1 - i : Nat) : Int) := by omega
      have hlt : decide ((i : Int) < (xs.length : Int) - 1 - (i : Int)) = true := by simp; omega
      have hi1 : i < xs.length := by omega
      have hj1 : xs.length - 1 - i < xs.length := by omega
      unfold m_slices_Reverse_byte_byte_l1
      simp only [hlt, if_true]
      rw [hj]
      simp only [idx_nat, turned_get xs i i hi1, turned_get xs i _ hj1, Option.bind_some, Int.toNat_natCast]
      rw [if_neg (by omega), if_neg (by omega)]
      have hg : ((turnedR xs i).set i (xs.getD (xs.length - 1 - i) 0))[xs.length - 1 - i]? = some (xs.getD (xs.length - 1 - i) 0) := by
        rw [List.getElem?_set_ne (by omega), turned_get xs i _ hj1, if_neg (by omega)]
      rw [hg]
      simp only [Option.bind_some]
      have w1 : wI64 ((i : Int) + 1) = ((i + 1 : Nat) : Int) := by rw [wI64_eq (by omega) (by omega)]; omega
      have w2 : wI64 (((xs.length - 1 - i : Nat) : Int) - 1) = (xs.length : Int) - 1 - ((i + 1 : Nat) : Int) := by rw [wI64_eq (by omega) (by omega)]; omega
      rw [w1, w2]
      congr 4
      apply List.ext_getElem?
      intro k
      by_cases hk : k < xs.length
      · rw [turned_get xs (i + 1) k hk]
        by_cases h1 : k = xs.length - 1 - i
        · subst h1
          rw [List.getElem?_set_self (by simp [turned_len]; omega), if_pos (by omega)]
          congr 2; omega
        · rw [List.getElem?_set_ne (by omega)]
          by_cases h2 : k = i
          · subst h2
            rw [List.getElem?_set_self (by simp [turned_len]; omega), if_pos (by omega)]
          · rw [List.getElem?_set_ne (by omega), turned_get xs i k hk]
            by_cases h3 : k < i ∨ xs.length ≤ k + i
            · rw [if_pos h3, if_pos (by omega)]
            · rw [if_neg h3, if_neg (by omega)]
      · rw [List.getElem?_eq_none (by simp [turned_len]; omega), List.getElem?_eq_none (by rw [turned_len]; omega)])
    (by
      have : decide (((xs.length / 2 : Nat) : Int) < (xs.length : Int) - 1 - ((xs.length / 2 : Nat) : Int)) = false := by simp; omega
      unfold m_slices_Reverse_byte_byte_l1
      simp only [this, Bool.false_eq_true, if_false]) n (by omega)
  simp only [h0] at this
  have w0 : wI64 ((xs.length : Int) - 1) = (xs.length : Int) - 1 - ((0 : Nat) : Int) := by rw [wI64_eq (by omega) (by omega)]; simp
  rw [w0]
  have h2 : loopN (m_slices_Reverse_byte_byte_l1 n) n (0, (xs.length : Int) - 1 - ((0 : Nat) : Int), xs) = _ := this
  rw [h2, hend]; rfl

/-- A row seen in a mirror. -/
def mirR (r : List UInt8) : List UInt8 := ofBytes (toBytes r).reverse

theorem p_implMirror (n : Nat) (rows : List (List UInt8)) (hr : rows.length ≤ 1048576) (hs : ∀ r ∈ rows, r.length ≤ 1048576) (hn : 1048576 < n) : m_impl_mirrorWear n rows = some (rows.map mirR) := by
  unfold m_impl_mirrorWear
  have := loopN_collect (body := m_impl_mirrorWear_l1 n rows) rows.length (fun i => mirR (rows.getD i [])) id
    (fun i l hi hl => by
      have hx := getD_of hi ([] : List UInt8)
      have hrl := hs _ (List.mem_of_getElem? hx)
      unfold m_impl_mirrorWear_l1
      simp only [ltB hi, if_true, idx_nat, hx, Option.bind_some, succ64 hi (by omega), p_reverse n (toBytes (rows.getD i [])) (by simpa [toBytes] using hrl) hn]
      rw [app_eq (by simp; omega)]; rfl)
    (fun l _ => by unfold m_impl_mirrorWear_l1; simp) n (by omega)
  have h2 : loopN (m_impl_mirrorWear_l1 n rows) n ([], 0) = _ := this
  rw [h2]
  have e : (List.range rows.length).map (fun i => mirR (rows.getD i [])) = rows.map mirR := by
    have h3 := congrArg (List.map mirR) (range_map_getD rows [])
    rw [List.map_map] at h3
    exact h3
  rw [e]; rfl

theorem p_specMirror (n : Nat) (rows : List (List UInt8)) (hr : rows.length ≤ 1048576) (hs : ∀ r ∈ rows, r.length ≤ 1048576) (hn : 1048576 < n) : m_spec_l20Mirror n rows = some (rows.map mirR) := by
  unfold m_spec_l20Mirror
  have := loopN_collect (body := m_spec_l20Mirror_l1 n rows) rows.length (fun i => mirR (rows.getD i [])) id
    (fun i l hi hl => by
      have hx := getD_of hi ([] : List UInt8)
      have hrl := hs _ (List.mem_of_getElem? hx)
      obtain ⟨r, hrr⟩ : ∃ r, r = rows.getD i [] := ⟨_, rfl⟩
      rw [← hrr] at hx hrl ⊢
      have inner := loopN_run (body := m_spec_l20Mirror_l2 n rows (l, (i : Int))) (fun j => ((toBytes r).reverse.take j, (r.length : Int) - 1 - j)) ((toBytes r).reverse) r.length
        (fun j hj => by
          have hge : decide ((r.length : Int) - 1 - (j : Int) ≥ 0) = true := by simp; omega
          have hj2 : (r.length : Int) - 1 - (j : Int) = ((r.length - 1 - j : Nat) : Int) := by omega
          obtain ⟨c, hc⟩ : ∃ c, r[r.length - 1 - j]? = some c := ⟨_, List.getElem?_eq_getElem (by omega)⟩
          unfold m_spec_l20Mirror_l2
          simp only [hge, if_true]
          rw [hj2]
          simp only [idx_nat, hx, Option.bind_some, hc]
          rw [app_eq (by simp [toBytes]; omega)]
          simp only [Option.bind_some]
          have w2 : wI64 (((r.length - 1 - j : Nat) : Int) - 1) = (r.length : Int) - 1 - ((j + 1 : Nat) : Int) := by rw [wI64_eq (by omega) (by omega)]; omega
          rw [w2]
          have e : (toBytes r).reverse.take (j + 1) = (toBytes r).reverse.take j ++ [(c.toNat : Int)] := by
            rw [List.take_add_one, List.getElem?_reverse (by simp [toBytes]; omega)]
            have : (toBytes r)[(toBytes r).length - 1 - j]? = some (c.toNat : Int) := by simp [toBytes, hc]
            rw [this]; rfl
          rw [e])
        (by
          have hge : decide ((r.length : Int) - 1 - ((r.length : Nat) : Int) ≥ 0) = false := by simp; omega
          unfold m_spec_l20Mirror_l2
          simp only [hge, Bool.false_eq_true, if_false]
          rw [List.take_of_length_le (by simp [toBytes])]) n (by omega)
      have w0 : wI64 ((r.length : Int) - 1) = (r.length : Int) - 1 - ((0 : Nat) : Int) := by rw [wI64_eq (by omega) (by omega)]; simp
      unfold m_spec_l20Mirror_l1
      simp only [ltB hi, if_true, idx_nat, hx, Option.bind_some, succ64 hi (by omega), w0]
      have inner2 : loopN (m_spec_l20Mirror_l2 n rows (l, (i : Int))) n ([], (r.length : Int) - 1 - ((0 : Nat) : Int)) = some (toBytes r).reverse := inner
      rw [inner2]
      simp only [Option.bind_some]
      rw [app_eq (by simp; omega)]; rfl)
    (fun l _ => by unfold m_spec_l20Mirror_l1; simp) n (by omega)
  have h2 : loopN (m_spec_l20Mirror_l1 n rows) n ([], 0) = _ := this
  rw [h2]
  have e : (List.range rows.length).map (fun i => mirR (rows.getD i [])) = rows.map mirR := by
    have h3 := congrArg (List.map mirR) (range_map_getD rows [])
    rw [List.map_map] at h3
    exact h3
  rw [e]; rfl

/-- The statement on MirrorWear. -/
theorem law_MirrorWear (rows : List (List UInt8)) (hl : rows.length ≤ 9223372036854775807) (hs : ∀ r ∈ rows, strok r) : m_laws_FnExactMirrorWear 2000000 rows = some true := by
  unfold m_laws_FnExactMirrorWear
  obtain ⟨v, hv, hc⟩ := sz_cases rows hl hs 1048576 (by omega) (by omega)
  rw [hv]
  simp only [Option.bind_some]
  rcases hc with h | ⟨h, _, _, h1, h2, h3⟩
  · simp [h]
  · have key : ∃ l e, l.length ≤ 1048576 ∧ m_spec_MirrorWear 2000000 rows = some (l, e) ∧ m_impl_MirrorWear 2000000 rows = some (l, e) := by
      unfold m_spec_MirrorWear m_impl_MirrorWear
      rw [p_l20Ok 2000000 rows h1 h3 (by omega), p_implValidWear 2000000 rows h1 h3 (by omega), p_specMirror 2000000 rows h1 h3 (by omega), p_implMirror 2000000 rows h1 h3 (by omega)]
      cases wearB rows
      · exact ⟨[], 1, by simp, rfl, rfl⟩
      · exact ⟨rows.map mirR, 0, by simpa using h1, rfl, rfl⟩
    obtain ⟨l, e, hll, e1, e2⟩ := key
    have hne : ¬ (1 + (rows.length : Int) < 0) := by omega
    have hne2 : ¬ (1 + (l.length : Int) < 0) := by omega
    simp [h, p_toStringS 2000000 rows h1, e1, e2, p_eqStringS 2000000 rows h1, p_eqStringS 2000000 l hll, p_markStringS 2000000 rows h1, p_markStringS 2000000 l hll, p_heldStringS 2000000 l.length hll, hne, hne2]

end Go.Gv
