/- Plain laws of wear: the two sides. -/
import Derived.Test.YtoljnpoiclklpaaP6
namespace Go.Gv
open Go Go.RowKit

theorem mirR_rev (r : List UInt8) : mirR r = r.reverse := by
  unfold mirR ofBytes toBytes
  rw [← List.map_reverse, List.map_map]
  have : ((fun n : Int => UInt8.ofNat n.toNat) ∘ fun b : UInt8 => (b.toNat : Int)) = id := by
    funext b; simp
  rw [this, List.map_id]

/-- In which quarter a field lies; 4 stands for none. -/
def placeQ (H W : Nat) (t : Int × Nat × Nat) : Nat := if halfZ t.2.1 H ≥ 0 ∧ halfZ t.2.2 W ≥ 0 then (wI64 (wI64 (2 * halfZ t.2.1 H) + halfZ t.2.2 W)).toNat else 4

def qsum (H W k : Nat) (l : List (Int × Nat × Nat)) : Int := (l.map fun t => if placeQ H W t = k then t.1 else 0).sum

theorem quaF_place (H W : Nat) (out : List Int) (t : Int × Nat × Nat) (h : out.length = 4) : quaF H W out t = if placeQ H W t < 4 then out.set (placeQ H W t) (wI64 (out.getD (placeQ H W t) 0 + t.1)) else out := by
  unfold quaF placeQ
  by_cases hc : halfZ t.2.1 H ≥ 0 ∧ halfZ t.2.2 W ≥ 0
  · obtain ⟨k, hk, e⟩ := half_place (halfZ_cases t.2.1 H) (halfZ_cases t.2.2 W) hc
    simp only [hc, and_self, if_true, e, Int.toNat_natCast, hk]
  · simp only [hc, if_false]
    rfl

theorem qua_sum (H W : Nat) : ∀ (l : List (Int × Nat × Nat)) (out : List Int) (B : Nat), out.length = 4 → (∀ t ∈ l, 0 ≤ t.1 ∧ t.1 ≤ 9) → (∀ k, 0 ≤ out.getD k 0 ∧ out.getD k 0 ≤ (B : Int)) → B + 9 * l.length ≤ 1000000 →
    ∀ k, k < 4 → (l.foldl (quaF H W) out).getD k 0 = out.getD k 0 + qsum H W k l
  | [], out, B, _, _, _, _, k, _ => by simp [qsum]
  | t :: l, out, B, hl, hd, hb, hB, k, hk => by
    have ht := hd t (by simp)
    simp only [List.length_cons] at hB
    have hstep : ∀ j, j < 4 → (quaF H W out t).getD j 0 = out.getD j 0 + (if placeQ H W t = j then t.1 else 0) := by
      intro j hj
      rw [quaF_place H W out t hl]
      by_cases hp : placeQ H W t < 4
      · simp only [hp, if_true]
        have hbp := hb (placeQ H W t)
        rw [wI64_eq (by omega) (by omega)]
        by_cases e : placeQ H W t = j
        · simp only [e, if_true]
          rw [List.getD_eq_getElem?_getD, List.getElem?_set_self (by omega)]; rfl
        · simp only [e, if_false]
          rw [List.getD_eq_getElem?_getD, List.getElem?_set_ne e, ← List.getD_eq_getElem?_getD]; omega
      · simp only [hp, if_false]
        have : ¬ placeQ H W t = j := by omega
        simp [this]
    have hlen := quaF_len H W out t hl
    have hbnd : ∀ j, 0 ≤ (quaF H W out t).getD j 0 ∧ (quaF H W out t).getD j 0 ≤ ((B + 9 : Nat) : Int) := by
      intro j
      rcases Nat.lt_or_ge j 4 with hj | hj
      · rw [hstep j hj]
        have := hb j
        split <;> omega
      · rw [List.getD_eq_getElem?_getD, List.getElem?_eq_none (by omega)]; simp; omega
    have ih := qua_sum H W l (quaF H W out t) (B + 9) hlen (fun q hq => hd q (by simp [hq])) hbnd (by omega) k hk
    simp only [List.foldl_cons, ih, hstep k hk, qsum, List.map_cons, List.sum_cons]
    omega

/-- The quarter on the other side. -/
def flipQ (k : Nat) : Nat := match k with | 0 => 1 | 1 => 0 | 2 => 3 | 3 => 2 | n => n

theorem half_flip {x W : Nat} (hx : x < W) : halfZ (W - 1 - x) W = if halfZ x W = 0 then 1 else if halfZ x W = 1 then 0 else -1 := by
  have := Nat.div_mul_le_self W 2
  have hm : W / 2 * 2 ≤ W := this
  unfold halfZ
  by_cases h1 : x < W / 2
  · have g1 : ¬ W - 1 - x < W / 2 := by omega
    have g2 : W - W / 2 ≤ W - 1 - x := by omega
    simp only [h1, g1, g2, if_true, if_false]
  · by_cases h2 : W - W / 2 ≤ x
    · have g1 : W - 1 - x < W / 2 := by omega
      simp only [h1, h2, g1, if_true, if_false, Int.one_ne_zero]
    · have g1 : ¬ W - 1 - x < W / 2 := by omega
      have g2 : ¬ W - W / 2 ≤ W - 1 - x := by omega
      simp only [h1, h2, g1, g2, if_false]
      decide

theorem place_flip {H W y x : Nat} (hx : x < W) (d : Int) (k : Nat) (hk : k < 4) : placeQ H W (d, y, W - 1 - x) = k ↔ placeQ H W (d, y, x) = flipQ k := by
  unfold placeQ
  simp only [half_flip hx]
  rcases halfZ_cases y H with hy | hy | hy <;> rcases halfZ_cases x W with hz | hz | hz <;> rw [hy, hz] <;> clear hy hz <;>
    (have : k = 0 ∨ k = 1 ∨ k = 2 ∨ k = 3 := by omega) <;> rcases this with rfl | rfl | rfl | rfl <;> decide

theorem rev_zip (r : List UInt8) : r.reverse.zipIdx = (r.zipIdx.map fun q => (q.1, r.length - 1 - q.2)).reverse := by
  apply List.ext_getElem?
  intro i
  rcases Nat.lt_or_ge i r.length with h | h
  · have e1 : r.reverse.zipIdx[i]? = some (r[r.length - 1 - i], i) := by
      rw [List.getElem?_zipIdx, List.getElem?_reverse h, List.getElem?_eq_getElem (by omega)]; simp
    rw [e1, List.getElem?_reverse (by simpa using h)]
    simp only [List.length_map, List.length_zipIdx, List.getElem?_map, List.getElem?_zipIdx]
    rw [List.getElem?_eq_getElem (by omega)]
    simp; omega
  · rw [List.getElem?_eq_none (by simpa using h), List.getElem?_eq_none (by simpa using h)]

theorem sum_rev (l : List Int) : l.reverse.sum = l.sum := by
  induction l with
  | nil => rfl
  | cons a l ih => simp [List.sum_append, ih]; omega

theorem qsum_row {H W : Nat} (y : Nat) (r : List UInt8) (hr : r.length = W) (k : Nat) (hk : k < 4) : qsum H W k (rowT y (mirR r)) = qsum H W (flipQ k) (rowT y r) := by
  unfold qsum rowT
  rw [mirR_rev, rev_zip, List.map_reverse, List.map_reverse, sum_rev, List.map_map, List.map_map, List.map_map]
  congr 1
  apply List.map_congr_left
  rintro ⟨c, x⟩ hq
  have hx : x < r.length := by
    obtain ⟨i, hi⟩ := List.getElem?_of_mem hq
    obtain ⟨g1, g2⟩ := zip_get' hi
    simp at g2
    have := lt_of_get g1
    omega
  have := place_flip (H := H) (W := W) (y := y) (x := x) (by omega) (dv c) k hk
  simp only [Function.comp, hr]
  by_cases h : placeQ H W (dv c, y, x) = flipQ k
  · rw [if_pos h, if_pos (this.2 h)]
  · rw [if_neg h, if_neg fun g => h (this.1 g)]

theorem qsum_append (H W k : Nat) (a b : List (Int × Nat × Nat)) : qsum H W k (a ++ b) = qsum H W k a + qsum H W k b := by simp [qsum, List.sum_append]

theorem qsum_tri {H W : Nat} (k : Nat) (hk : k < 4) : ∀ (rows : List (List UInt8)) (y : Nat), (∀ r ∈ rows, r.length = W) → qsum H W k (tri y (rows.map mirR)) = qsum H W (flipQ k) (tri y rows)
  | [], y, _ => rfl
  | r :: rows, y, hu => by
    have ih := qsum_tri (H := H) k hk rows (y + 1) (fun q hq => hu q (by simp [hq]))
    have e : ∀ (a : List UInt8) (b : List (List UInt8)), tri y (a :: b) = rowT y a ++ tri (y + 1) b := fun a b => by simp [tri, rowT, List.zipIdx_cons]
    rw [List.map_cons, e, e, qsum_append, qsum_append, ih, qsum_row y r (hu r (by simp)) k hk]

theorem qsum_nonneg (H W k : Nat) : ∀ (l : List (Int × Nat × Nat)), (∀ t ∈ l, 0 ≤ t.1 ∧ t.1 ≤ 9) → 0 ≤ qsum H W k l ∧ qsum H W k l ≤ 9 * l.length
  | [], _ => by simp [qsum]
  | t :: l, h => by
    have ih := qsum_nonneg H W k l (fun q hq => h q (by simp [hq]))
    have := h t (by simp)
    unfold qsum at ih ⊢
    simp only [List.map_cons, List.sum_cons, List.length_cons]
    split <;> omega

theorem qsum_all (H W : Nat) : ∀ (l : List (Int × Nat × Nat)), (∀ t ∈ l, 0 ≤ t.1 ∧ t.1 ≤ 9) → qsum H W 0 l + qsum H W 1 l + qsum H W 2 l + qsum H W 3 l ≤ (l.map (·.1)).sum
  | [], _ => by simp [qsum]
  | t :: l, h => by
    have ih := qsum_all H W l (fun q hq => h q (by simp [hq]))
    have := h t (by simp)
    unfold qsum at ih ⊢
    simp only [List.map_cons, List.sum_cons]
    split <;> split <;> split <;> split <;> omega

theorem Wear.digits {rows : List (List UInt8)} {W : Nat} {r0 : List UInt8} (h : Wear rows W r0) : ∀ t ∈ Gv.tri 0 rows, 0 ≤ t.1 ∧ t.1 ≤ 9 := by
  intro t ht
  obtain ⟨i, hi⟩ := List.getElem?_of_mem ht
  have := h.tri hi
  exact ⟨this.1, this.2.1⟩

/-- The quarters, told. -/
theorem qua_four {rows : List (List UInt8)} {W : Nat} {r0 : List UInt8} (h : Wear rows W r0) : (Gv.tri 0 rows).foldl (quaF rows.length W) [0, 0, 0, 0] = [qsum rows.length W 0 (Gv.tri 0 rows), qsum rows.length W 1 (Gv.tri 0 rows), qsum rows.length W 2 (Gv.tri 0 rows), qsum rows.length W 3 (Gv.tri 0 rows)] := by
  have hl := qua_len rows.length W (Gv.tri 0 rows)
  have ht := h.trilen; have hc := h.cells
  have key := qua_sum rows.length W (Gv.tri 0 rows) [0, 0, 0, 0] 0 rfl h.digits (fun k => by
    have : ([0, 0, 0, 0] : List Int).getD k 0 = 0 := by
      match k with
      | 0 => rfl
      | 1 => rfl
      | 2 => rfl
      | 3 => rfl
      | k + 4 => simp
    rw [this]; omega) (by omega)
  have k0 := key 0 (by omega); have k1 := key 1 (by omega); have k2 := key 2 (by omega); have k3 := key 3 (by omega)
  revert hl k0 k1 k2 k3
  generalize (Gv.tri 0 rows).foldl (quaF rows.length W) [0, 0, 0, 0] = L
  intro hl k0 k1 k2 k3
  match L, hl with
  | [a, b, c, d], _ =>
    simp at k0 k1 k2 k3
    rw [k0, k1, k2, k3]

theorem apartZ_self (a : Int) : apartZ a a = 0 := by unfold apartZ; split <;> omega

theorem str_self {rows : List (List UInt8)} {W : Nat} {r0 : List UInt8} (h : Wear rows W r0) : (Gv.tri 0 rows).foldl (strF (rows.flatMap (·.map dv)) W 0) [] = [] := by
  have hW := h.hW
  have key := foldl_inv (Gv.tri 0 rows) (strF (rows.flatMap (·.map dv)) W 0) (fun _ b => b = []) ([] : List Int) rfl (by
    intro i t b ht hb
    obtain ⟨g1, g2, g3, g4⟩ := tri_get (by omega) h.hu ht
    have e : t.2.1 * W + t.2.2 = i := by rw [g1, g2, Nat.mul_comm]; exact Nat.div_add_mod i W
    show strF (rows.flatMap (·.map dv)) W 0 b t = []
    unfold strF
    rw [e, List.getD_eq_getElem?_getD, g4, Option.getD_some, apartZ_self, hb]
    rfl)
  exact key

theorem mirR_mirR (r : List UInt8) : mirR (mirR r) = r := by rw [mirR_rev, mirR_rev, List.reverse_reverse]

theorem sum_four (n : Nat) (hn : 1048576 < n) {a b c d : Int} (h : 0 ≤ a ∧ a ≤ 100000 ∧ 0 ≤ b ∧ b ≤ 100000 ∧ 0 ≤ c ∧ c ≤ 100000 ∧ 0 ≤ d ∧ d ≤ 100000) : m_impl_sumOf n [a, b, c, d] = some (a + b + c + d) ∧ m_laws_a2Sum n [a, b, c, d] = some (a + b + c + d) := by
  have key : m_impl_sumOf n [a, b, c, d] = some (a + b + c + d) := by
    unfold m_impl_sumOf
    have := (loopN_fold (body := m_impl_sumOf_l1 n [a, b, c, d]) [a, b, c, d] (fun b x => wI64 (b + x)) (0 : Int) (fun i b => (b, (i : Int))) id (fun _ _ => True) trivial (fun i x b hx _ => by
      have hlt := lt_of_get hx
      refine ⟨?_, trivial⟩
      unfold m_impl_sumOf_l1
      simp only [ltB hlt, if_true, idx_nat, hx, Option.bind_some, succ64 hlt (by simp)]) (fun b _ => by unfold m_impl_sumOf_l1; simp) n (by simp; omega)).1
    have h2 : loopN (m_impl_sumOf_l1 n [a, b, c, d]) n (0, 0) = _ := this
    rw [h2]
    simp only [List.foldl_cons, List.foldl_nil, Option.bind_some, id]
    rw [wI64_eq (x := 0 + a) (by omega) (by omega), wI64_eq (x := 0 + a + b) (by omega) (by omega), wI64_eq (x := 0 + a + b + c) (by omega) (by omega), wI64_eq (by omega) (by omega)]
    congr 1; omega
  exact ⟨key, key⟩

def toldZ (a b c d : Int) : List UInt8 :=
  if 2 * a > a + b + c + d then [105, 110, 110, 101, 114, 45, 116, 111, 101] else if 2 * b > a + b + c + d then [111, 117, 116, 101, 114, 45, 116, 111, 101] else
  if 2 * c > a + b + c + d then [105, 110, 110, 101, 114, 45, 104, 101, 101, 108] else if 2 * d > a + b + c + d then [111, 117, 116, 101, 114, 45, 104, 101, 101, 108] else [101, 118, 101, 110]

theorem p_diagnose (n : Nat) (hn : 1048576 < n) {rows : List (List UInt8)} {a b c d : Int} (h : 0 ≤ a ∧ a ≤ 100000 ∧ 0 ≤ b ∧ b ≤ 100000 ∧ 0 ≤ c ∧ c ≤ 100000 ∧ 0 ≤ d ∧ d ≤ 100000) (hv : m_impl_ValidWear n rows = some true) (hq : m_impl_quarterSums n rows = some [a, b, c, d]) : m_impl_DiagnoseWear n rows = some (toldZ a b c d, 0) := by
  obtain ⟨m, rfl⟩ : ∃ m, n = m + 1 + 1 + 1 + 1 + 1 := ⟨n - 5, by omega⟩
  unfold m_impl_DiagnoseWear
  simp only [hv, hq, Option.bind_some, Bool.not_true, Bool.false_eq_true, if_false]
  have w : ∀ x : Int, 0 ≤ x → x ≤ 100000 → wI64 (2 * x) = 2 * x := fun x h0 h1 => wI64_eq (by omega) (by omega)
  have v1 : wI64 (0 + 1) = 1 := by decide
  have v2 : wI64 (1 + 1) = 2 := by decide
  have v3 : wI64 (2 + 1) = 3 := by decide
  have v4 : wI64 (3 + 1) = 4 := by decide
  have s := (sum_four (m + 1 + 1 + 1 + 1 + 1) hn h).1
  have wa := w a h.1 h.2.1; have wb := w b h.2.2.1 h.2.2.2.1; have wc := w c h.2.2.2.2.1 h.2.2.2.2.2.1; have wd := w d h.2.2.2.2.2.2.1 h.2.2.2.2.2.2.2
  have i0 : idx [a, b, c, d] 0 = some a := rfl
  have i1 : idx [a, b, c, d] 1 = some b := rfl
  have i2 : idx [a, b, c, d] 2 = some c := rfl
  have i3 : idx [a, b, c, d] 3 = some d := rfl
  unfold toldZ
  have L : ∀ {k : Int} {x : Int} {nm : List UInt8}, decide (k < 4) = true → idx ([[105, 110, 110, 101, 114, 45, 116, 111, 101], [111, 117, 116, 101, 114, 45, 116, 111, 101], [105, 110, 110, 101, 114, 45, 104, 101, 101, 108], [111, 117, 116, 101, 114, 45, 104, 101, 101, 108]] : List (List UInt8)) k = some nm → idx [a, b, c, d] k = some x → wI64 (2 * x) = 2 * x →
      m_impl_DiagnoseWear_l1 (m + 1 + 1 + 1 + 1 + 1) [a, b, c, d] k = if 2 * x > a + b + c + d then some (.done (.inr (nm, 0))) else some (.next (wI64 (k + 1))) := by
    intro k x nm h1 h2 h3 h4
    unfold m_impl_DiagnoseWear_l1
    simp only [h1, if_true, h2, h3, s, Option.bind_some, h4, decide_eq_true_eq]
  have l0 := L (k := 0) rfl rfl i0 wa
  have l1 := L (k := 1) rfl rfl i1 wb
  have l2 := L (k := 2) rfl rfl i2 wc
  have l3 := L (k := 3) rfl rfl i3 wd
  rw [v1] at l0; rw [v2] at l1; rw [v3] at l2; rw [v4] at l3
  have l4 : m_impl_DiagnoseWear_l1 (m + 1 + 1 + 1 + 1 + 1) [a, b, c, d] 4 = some (.done (.inl ())) := rfl
  by_cases c0 : 2 * a > a + b + c + d
  · rw [if_pos c0] at l0
    rw [if_pos c0]
    simp only [loopN, l0, Option.bind_some]
  · rw [if_neg c0] at l0
    rw [if_neg c0]
    by_cases c1 : 2 * b > a + b + c + d
    · rw [if_pos c1] at l1
      rw [if_pos c1]
      simp only [loopN, l0, l1, Option.bind_some]
    · rw [if_neg c1] at l1
      rw [if_neg c1]
      by_cases c2 : 2 * c > a + b + c + d
      · rw [if_pos c2] at l2
        rw [if_pos c2]
        simp only [loopN, l0, l1, l2, Option.bind_some]
      · rw [if_neg c2] at l2
        rw [if_neg c2]
        by_cases c3 : 2 * d > a + b + c + d
        · rw [if_pos c3] at l3
          rw [if_pos c3]
          simp only [loopN, l0, l1, l2, l3, Option.bind_some]
        · rw [if_neg c3] at l3
          rw [if_neg c3]
          simp only [loopN, l0, l1, l2, l3, l4, Option.bind_some]

theorem p_told (n : Nat) (hn : 1048576 < n) {a b c d : Int} {e : Int} (h : 0 ≤ a ∧ a ≤ 100000 ∧ 0 ≤ b ∧ b ≤ 100000 ∧ 0 ≤ c ∧ c ≤ 100000 ∧ 0 ≤ d ∧ d ≤ 100000) : loopN (m_laws_FnWearSides_l1 n ([a, b, c, d], e)) n ([101, 118, 101, 110], 0) = some (.inl (toldZ a b c d)) := by
  obtain ⟨m, rfl⟩ : ∃ m, n = m + 1 + 1 + 1 + 1 + 1 := ⟨n - 5, by omega⟩
  have w : ∀ x : Int, 0 ≤ x → x ≤ 100000 → wI64 (2 * x) = 2 * x := fun x h0 h1 => wI64_eq (by omega) (by omega)
  have v1 : wI64 (0 + 1) = 1 := by decide
  have v2 : wI64 (1 + 1) = 2 := by decide
  have v3 : wI64 (2 + 1) = 3 := by decide
  have v4 : wI64 (3 + 1) = 4 := by decide
  have s := (sum_four (m + 1 + 1 + 1 + 1 + 1) hn h).2
  have i0 : idx [a, b, c, d] 0 = some a := rfl
  have i1 : idx [a, b, c, d] 1 = some b := rfl
  have i2 : idx [a, b, c, d] 2 = some c := rfl
  have i3 : idx [a, b, c, d] 3 = some d := rfl
  have L : ∀ {k : Int} {x : Int} {nm t : List UInt8}, decide (k < 4) = true → idx ([[105, 110, 110, 101, 114, 45, 116, 111, 101], [111, 117, 116, 101, 114, 45, 116, 111, 101], [105, 110, 110, 101, 114, 45, 104, 101, 101, 108], [111, 117, 116, 101, 114, 45, 104, 101, 101, 108]] : List (List UInt8)) k = some nm → idx [a, b, c, d] k = some x → 0 ≤ x → x ≤ 100000 →
      m_laws_FnWearSides_l1 (m + 1 + 1 + 1 + 1 + 1) ([a, b, c, d], e) (t, k) = some (.next (if 2 * x > a + b + c + d then nm else t, wI64 (k + 1))) := by
    intro k x nm t h1 h2 h3 h4 h5
    have : decide (x < 0) = false := by simp; omega
    unfold m_laws_FnWearSides_l1
    simp only [h1, if_true, h2, h3, s, Option.bind_some, w x h4 h5, this, Bool.false_eq_true, if_false]
    by_cases hc : 2 * x > a + b + c + d
    · simp only [hc, decide_true, if_true, Option.bind_some]
    · simp only [hc, decide_false, Bool.false_eq_true, if_false, Option.bind_some]
  have l0 := fun t => L (k := 0) (t := t) rfl rfl i0 h.1 h.2.1
  have l1 := fun t => L (k := 1) (t := t) rfl rfl i1 h.2.2.1 h.2.2.2.1
  have l2 := fun t => L (k := 2) (t := t) rfl rfl i2 h.2.2.2.2.1 h.2.2.2.2.2.1
  have l3 := fun t => L (k := 3) (t := t) rfl rfl i3 h.2.2.2.2.2.2.1 h.2.2.2.2.2.2.2
  have l4 : ∀ t, m_laws_FnWearSides_l1 (m + 1 + 1 + 1 + 1 + 1) ([a, b, c, d], e) (t, 4) = some (.done (.inl t)) := fun _ => rfl
  simp only [v1, v2, v3, v4] at l0 l1 l2 l3
  simp only [loopN, l0, l1, l2, l3, l4, Option.bind_some]
  congr 2
  unfold toldZ
  by_cases c0 : 2 * a > a + b + c + d <;> by_cases c1 : 2 * b > a + b + c + d <;> by_cases c2 : 2 * c > a + b + c + d <;> by_cases c3 : 2 * d > a + b + c + d <;> simp only [c0, c1, c2, c3, if_true, if_false] <;> omega

theorem frac_bound {num den k : Nat} (h0 : 0 < den) (h1 : num ≤ k * den) : 1 ≤ den / Nat.gcd num den ∧ num / Nat.gcd num den ≤ k * (den / Nat.gcd num den) ∧ den / Nat.gcd num den ≤ den := by
  have hpos : 0 < Nat.gcd num den := Nat.gcd_pos_of_pos_right _ h0
  have hle : Nat.gcd num den ≤ den := Nat.gcd_le_right _ h0
  have hd : Nat.gcd num den ∣ den := Nat.gcd_dvd_right _ _
  refine ⟨Nat.div_pos hle hpos, ?_, Nat.div_le_self _ _⟩
  have e : k * den / Nat.gcd num den = k * (den / Nat.gcd num den) := Nat.mul_div_assoc _ hd
  rw [← e]
  exact Nat.div_le_div_right h1

/-- The statement on the two sides. -/
theorem law_WearSides (code : List Int) (_ : code.length ≤ 9223372036854775807) (hc : ∀ c ∈ code, u8ok c) : m_laws_FnWearSides 2000000 code = some true := by
  unfold m_laws_FnWearSides m_laws_a2Long
  by_cases hlong : (code.length : Int) > 3000
  · simp [hlong]
  · have hl1 : decide ((code.length : Int) > 3000) = false := by simpa using hlong
    have hl2 : decide ((([] : List Int).length : Int) > 3000) = false := by decide
    simp only [hl1, hl2, Bool.false_eq_true, if_false, Option.bind_some]
    obtain ⟨rows, W, r0, e0, hw, h, hH, hC⟩ := p_A2Wear 2000000 (by omega) hc
    have hW := h.hW; have hH2 := h.hH; have hcells := h.cells
    have hM := mirror_wear h
    have hml : (rows.map mirR).length = rows.length := by simp
    have ht : total rows ≤ 1048576 := by
      have : total rows = rows.length * W := by
        have h1 := flat_uniform h.hu
        have h2 : ∀ (l : List (List UInt8)), (l.flatMap (·.map dv)).length = total l := by
          intro l
          induction l with
          | nil => rfl
          | cons a l ih => simp [total, ih] at *
        rw [← h2, h1]
      omega
    have hmt : total (rows.map mirR) ≤ 1048576 := by
      have : total (rows.map mirR) = total rows := by
        unfold total; congr 1; rw [List.map_map]; apply List.map_congr_left; intro r _; simp [mirR_len]
      omega
    have hs : ∀ r ∈ rows, r.length ≤ 1048576 := fun r hr => by have := h.hu r hr; omega
    have hsm : ∀ r ∈ rows.map mirR, r.length ≤ 1048576 := fun r hr => by have := hM.hu r hr; omega
    have hwm : wearB (rows.map mirR) = true := (wear_mk (R := rows.length) (C := W) hml (fun r hr => ⟨hM.hu r hr, hM.hd r hr⟩) (by omega) (by omega) (by omega) (by omega)).1
    have v1 := p_implValidWear 2000000 rows (by omega) hs (by omega)
    have v2 := p_implValidWear 2000000 (rows.map mirR) (by omega) hsm (by omega)
    rw [hw] at v1; rw [hwm] at v2
    have q1 := (p_quarters 2000000 rows h (by omega) ht (by omega)).2
    have q2 := (p_quarters 2000000 (rows.map mirR) hM (by omega) hmt (by omega)).2
    rw [qua_four h] at q1
    rw [qua_four hM, hml] at q2
    have f0 := qsum_tri (H := rows.length) (W := W) 0 (by omega) rows 0 h.hu
    have f1 := qsum_tri (H := rows.length) (W := W) 1 (by omega) rows 0 h.hu
    have f2 := qsum_tri (H := rows.length) (W := W) 2 (by omega) rows 0 h.hu
    have f3 := qsum_tri (H := rows.length) (W := W) 3 (by omega) rows 0 h.hu
    simp only [flipQ] at f0 f1 f2 f3
    rw [f0, f1, f2, f3] at q2
    have b0 := qsum_nonneg rows.length W 0 _ h.digits
    have b1 := qsum_nonneg rows.length W 1 _ h.digits
    have b2 := qsum_nonneg rows.length W 2 _ h.digits
    have b3 := qsum_nonneg rows.length W 3 _ h.digits
    have ball := qsum_all rows.length W _ h.digits
    have htl := h.trilen
    rw [htl] at b0 b1 b2 b3
    obtain ⟨s, r, c, c0, c1, c2, c3, _, c4⟩ := p_centre 2000000 rows h hw (by omega) ht (by omega)
    rw [← c0] at ball
    revert q1 q2 b0 b1 b2 b3 ball
    generalize qsum rows.length W 0 (Gv.tri 0 rows) = A
    generalize qsum rows.length W 1 (Gv.tri 0 rows) = B
    generalize qsum rows.length W 2 (Gv.tri 0 rows) = C
    generalize qsum rows.length W 3 (Gv.tri 0 rows) = D
    intro q1 q2 b0 b1 b2 b3 ball
    have hb : 0 ≤ A ∧ A ≤ 100000 ∧ 0 ≤ B ∧ B ≤ 100000 ∧ 0 ≤ C ∧ C ≤ 100000 ∧ 0 ≤ D ∧ D ≤ 100000 := by omega
    have m1 : m_impl_MirrorWear 2000000 rows = some (rows.map mirR, 0) := by
      unfold m_impl_MirrorWear; rw [v1, p_implMirror 2000000 rows (by omega) hs (by omega)]; rfl
    have m2 : m_impl_QuarterSums 2000000 rows = some ([A, B, C, D], 0) := by
      unfold m_impl_QuarterSums; rw [v1, q1]; rfl
    have m3 : m_impl_QuarterSums 2000000 (rows.map mirR) = some ([B, A, D, C], 0) := by
      unfold m_impl_QuarterSums; rw [v2, q2]; rfl
    have m4 := p_diagnose 2000000 (by omega) hb v1 q1
    have hsd : sameDim rows (rows.map mirR) = true := by
      have e1 : rows.headD [] = r0 := by
        have := h.h0; cases rows with
        | nil => simp at this
        | cons x y => simpa using this
      have e2 : (rows.map mirR).headD [] = mirR r0 := by
        have := hM.h0
        generalize hR : rows.map mirR = R at this ⊢
        cases R with
        | nil => simp at this
        | cons x y => simpa using this
      unfold sameDim; rw [e1, e2, mirR_len]; simp
    obtain ⟨l, e, _, _, m5, m6⟩ := p_StrangeFields 2000000 rows (rows.map mirR) 0 (by omega) ht (by omega) hmt (by omega)
    obtain ⟨rfl, hl⟩ := m6 W r0 h hw hwm hsd (by omega)
    have hmm : (rows.map mirR).map mirR = rows := by rw [List.map_map]; exact (List.map_congr_left fun r _ => mirR_mirR r).trans (List.map_id _)
    rw [hmm, str_self h] at hl
    subst hl
    have told := p_told 2000000 (by omega) (e := 0) hb
    have sum := (sum_four 2000000 (by omega) hb).2
    simp only [e0, m1, m2, m3, m4, m5, c4, Option.bind_some]
    have i0 : idx [A, B, C, D] 0 = some A := rfl
    have i1 : idx [A, B, C, D] 1 = some B := rfl
    have i2 : idx [A, B, C, D] 2 = some C := rfl
    have i3 : idx [A, B, C, D] 3 = some D := rfl
    have j0 : idx [B, A, D, C] 0 = some B := rfl
    have j1 : idx [B, A, D, C] 1 = some A := rfl
    have j2 : idx [B, A, D, C] 2 = some D := rfl
    have j3 : idx [B, A, D, C] 3 = some C := rfl
    simp only [i0, i1, i2, i3, j0, j1, j2, j3, Option.bind_some, bne_self_eq_false, Bool.false_eq_true, if_false, List.length_cons, List.length_nil]
    have h4 : (((4 : Nat) : Int) != 4) = false := rfl
    have h00 : (((0 : Nat) : Int) != 0) = false := rfl
    simp only [Nat.zero_add, Nat.reduceAdd, h4, h00, bne_self_eq_false, Bool.false_eq_true, if_false, Option.bind_some, told, BEq.rfl, Bool.not_true]
    unfold cenV
    by_cases hs0 : s = 0
    · subst hs0
      have : A + B + C + D = 0 := by omega
      simp [sum, this]
    · have hs1 : 0 < s := by omega
      obtain ⟨x1, x2, x3⟩ := frac_bound hs1 c2
      obtain ⟨y1, y2, y3⟩ := frac_bound hs1 c3
      have hs2 : s ≤ 378 := by
        have : rows.length * W ≤ 7 * 6 := Nat.mul_le_mul hH hC
        omega
      have g1 : (rows.length - 1) * (s / Nat.gcd r s) ≤ 6 * 378 := Nat.mul_le_mul (by omega) (by omega)
      have g2 : (W - 1) * (s / Nat.gcd c s) ≤ 5 * 378 := Nat.mul_le_mul (by omega) (by omega)
      have u1 : wI64 (wI64 ((rows.length : Int) - 1) * ((s / Nat.gcd r s : Nat) : Int)) = (((rows.length - 1) * (s / Nat.gcd r s) : Nat) : Int) := by
        rw [wI64_eq (x := (rows.length : Int) - 1) (by omega) (by omega), show (rows.length : Int) - 1 = ((rows.length - 1 : Nat) : Int) by omega, ← Int.natCast_mul, wI64_eq (by omega) (by omega)]
      have u2 : wI64 (wI64 ((W : Int) - 1) * ((s / Nat.gcd c s : Nat) : Int)) = (((W - 1) * (s / Nat.gcd c s) : Nat) : Int) := by
        rw [wI64_eq (x := (W : Int) - 1) (by omega) (by omega), show (W : Int) - 1 = ((W - 1 : Nat) : Int) by omega, ← Int.natCast_mul, wI64_eq (by omega) (by omega)]
      simp only [hs0, if_false, mkF, bne_self_eq_false, Bool.false_eq_true, idx_zero, h.h0, Option.bind_some, h.hr0, u1, u2]
      have d1 : decide (((s / Nat.gcd r s : Nat) : Int) ≥ 1) = true := by simpa using (by omega : (1 : Int) ≤ ((s / Nat.gcd r s : Nat) : Int))
      have d2 : decide (((s / Nat.gcd r s : Nat) : Int) ≤ 1000) = true := by simpa using (by omega : ((s / Nat.gcd r s : Nat) : Int) ≤ 1000)
      have d3 : decide (((r / Nat.gcd r s : Nat) : Int) ≥ 0) = true := decide_eq_true (Int.natCast_nonneg _)
      have d4 : decide (((r / Nat.gcd r s : Nat) : Int) ≤ (((rows.length - 1) * (s / Nat.gcd r s) : Nat) : Int)) = true := decide_eq_true (Int.ofNat_le.2 x2)
      have d5 : decide (((s / Nat.gcd c s : Nat) : Int) ≥ 1) = true := by simpa using (by omega : (1 : Int) ≤ ((s / Nat.gcd c s : Nat) : Int))
      have d6 : decide (((s / Nat.gcd c s : Nat) : Int) ≤ 1000) = true := by simpa using (by omega : ((s / Nat.gcd c s : Nat) : Int) ≤ 1000)
      have d7 : decide (((c / Nat.gcd c s : Nat) : Int) ≥ 0) = true := decide_eq_true (Int.natCast_nonneg _)
      have d8 : decide (((c / Nat.gcd c s : Nat) : Int) ≤ (((W - 1) * (s / Nat.gcd c s) : Nat) : Int)) = true := decide_eq_true (Int.ofNat_le.2 y2)
      simp only [d1, d2, d3, d4, d5, d6, d7, d8, if_true, Option.bind_some]

end Go.Gv
