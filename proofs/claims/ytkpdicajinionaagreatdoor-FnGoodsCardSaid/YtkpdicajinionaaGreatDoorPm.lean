/- Plain laws: numbers as the library writes and reads them. -/
import Derived.Test.YtkpdicajinionaaGreatDoorPl
import Derived.Lib.ItoaNum
import Derived.Lib.ParseIntBCases
import Derived.Lib.ParseIntBTie
import Derived.Lib.Strings
namespace Go.Gv
open Go Go.RowKit

theorem decDigits_natD : ∀ (j k : Nat), k ≤ j → Lib.decDigits k = natD k := by
  intro j
  induction j with
  | zero =>
    intro k hk
    obtain rfl : k = 0 := by omega
    rw [Lib.decDigits]; rfl
  | succ j ih =>
    intro k hk
    rw [Lib.decDigits]
    by_cases h : k < 10
    · rw [dif_pos h]
      unfold natD
      by_cases h0 : k = 0
      · subst h0; rfl
      · rw [if_neg h0, digZ_pos h0, show k / 10 = 0 by omega, digZ_zero, show k % 10 = k by omega]
        show [UInt8.ofNat (48 + k)] = [UInt8.ofNat (48 + (k : Int)).toNat]
        rw [show (48 + (k : Int)).toNat = 48 + k by omega]
    · rw [dif_neg h, ih (k / 10) (by omega)]
      unfold natD
      rw [if_neg (by omega : ¬ k / 10 = 0), if_neg (by omega : ¬ k = 0), digZ_pos (by omega : k ≠ 0)]
      unfold ofBytes
      rw [List.map_append]
      show _ = _ ++ [UInt8.ofNat (48 + ((k % 10 : Nat) : Int)).toNat]
      rw [show (48 + ((k % 10 : Nat) : Int)).toNat = 48 + k % 10 by omega]

theorem itoa_decZ (z : Int) : Lib.itoa z = decZ z := by
  unfold Lib.itoa decZ
  by_cases h : z < 0
  · rw [if_pos h, if_pos h, decDigits_natD _ _ (Nat.le_refl _)]
  · rw [if_neg h, if_neg h, decDigits_natD _ _ (Nat.le_refl _), show z.toNat = z.natAbs by omega]

theorem fold_ge : ∀ (l : List UInt8) (a : Nat), a ≤ l.foldl (fun b c => 10 * b + (c.toNat - 48)) a := by
  intro l
  induction l with
  | nil => intro a; exact Nat.le_refl _
  | cons c l ih => intro a; have := ih (10 * a + (c.toNat - 48)); rw [List.foldl_cons]; omega

theorem parse_dg : ∀ (l : List UInt8) (a : Nat), (∀ c ∈ l, dgC c = true) → l.foldl (fun b c => 10 * b + (c.toNat - 48)) a < 10 ^ 18 → Lib.parseUintM (2 ^ 64 - 1) a l = .ok (l.foldl (fun b c => 10 * b + (c.toNat - 48)) a) := by
  intro l
  induction l with
  | nil => intro a _ _; rfl
  | cons c l ih =>
    intro a hd hv
    have hc := hd c (by simp)
    unfold dgC at hc
    simp only [Bool.and_eq_true, decide_eq_true_eq] at hc
    rw [List.foldl_cons] at hv ⊢
    have hge := fold_ge l (10 * a + (c.toNat - 48))
    unfold Lib.parseUintM
    rw [if_pos hc, if_neg (by omega), if_neg (by omega), show a * 10 + (c.toNat - 48) = 10 * a + (c.toNat - 48) by omega]
    exact ih _ (fun x hx => hd x (by simp [hx])) hv

theorem parseU_natD (k : Nat) (h : k < 10 ^ 18) : Lib.parseUintB 64 (natD k) = .ok k := by
  unfold Lib.parseUintB
  have hl := natD_len k
  have hv := natD_val k
  rw [if_neg (by intro e; rw [e] at hl; simp at hl)]
  unfold valD at hv
  rw [parse_dg (natD k) 0 (natD_dg k) (by rw [hv]; exact h), hv]

theorem parse_dec (z : Int) (h : z.natAbs < 10 ^ 18) : Lib.parseIntB 64 (decZ z) = .ok z := by
  unfold decZ
  by_cases hz : z < 0
  · rw [if_pos hz, Lib.parseIntB_minus, parseU_natD _ h]
    show (if 2 ^ (64 - 1) < z.natAbs then Lib.NumEnd.range else Lib.NumEnd.ok (-(z.natAbs : Int))) = _
    rw [if_neg (by omega)]
    congr 1; omega
  · rw [if_neg hz]
    have hl := natD_len z.natAbs
    have hd := natD_dg z.natAbs
    cases hn : natD z.natAbs with
    | nil => rw [hn] at hl; simp at hl
    | cons c t =>
      have hc := hd c (by rw [hn]; simp)
      unfold dgC at hc
      simp only [Bool.and_eq_true, decide_eq_true_eq] at hc
      rw [Lib.parseIntB_plain 64 c t (by omega) (by omega), ← hn, parseU_natD _ h]
      show (if 2 ^ (64 - 1) ≤ z.natAbs then Lib.NumEnd.range else Lib.NumEnd.ok (z.natAbs : Int)) = _
      rw [if_neg (by omega)]
      congr 1; omega

theorem trim_minus (s : List UInt8) : Lib.trimPrefix s [45] = if s.head? = some 45 then s.tail else s := by
  unfold Lib.trimPrefix Lib.hasPrefix
  cases s with
  | nil => rfl
  | cons c r =>
    by_cases h : c = 45
    · subst h; simp
    · have h2 : ¬ (45 = c) := fun e => h e.symm
      simp [h, h2]

theorem p_Decimal (n : Nat) (z : Int) (hz : i64ok z) : m_impl_Decimal n z = some (decZ z) := by
  unfold m_impl_Decimal m_strconv_FormatInt
  unfold i64ok at hz
  rw [if_pos ⟨by omega, by omega, rfl⟩, itoa_decZ]; rfl

end Go.Gv
