/- Plain laws of prescriptions: changes as texts. -/
import Derived.Test.YtlplbjeegkkilaaDoorQcA
import Derived.Test.YtlplbjeegkkilaaDoorPr
namespace Go.Gv
open Go Go.RowKit

def name5 (k : Nat) : List UInt8 := v_changeNames.getD k []

theorem name5_at {k : Nat} (h : k ≤ 5) : idx v_changeNames (k : Int) = some (name5 k) := by
  have : k = 0 ∨ k = 1 ∨ k = 2 ∨ k = 3 ∨ k = 4 ∨ k = 5 := by omega
  rcases this with rfl | rfl | rfl | rfl | rfl | rfl <;> rfl

theorem name5_facts {k : Nat} (h0 : 1 ≤ k) (h : k ≤ 5) : (name5 k).length ≤ 6 ∧ name5 k ≠ [] ∧ (∀ c ∈ name5 k, c ≠ 32) ∧ idx ([[108, 101, 110, 103, 116, 104], [98, 97, 108, 108], [105, 110, 115, 116, 101, 112], [104, 101, 101, 108], [112, 105, 116, 99, 104]] : List (List UInt8)) ((k - 1 : Nat) : Int) = some (name5 k) := by
  have : k = 1 ∨ k = 2 ∨ k = 3 ∨ k = 4 ∨ k = 5 := by omega
  rcases this with rfl | rfl | rfl | rfl | rfl <;> exact ⟨by decide, by decide, by decide, rfl⟩

theorem vch_facts {c : SChange} (h : vch c = true) : ∃ k : Nat, 1 ≤ k ∧ k ≤ 5 ∧ c.Kind = (k : Int) ∧ c.Amount ≠ 0 ∧ -300 ≤ c.Amount ∧ c.Amount ≤ 300 := by
  obtain ⟨h1, h2⟩ := vch_kind h
  obtain ⟨b1, b2, b3⟩ := mostC_bd c.Kind
  unfold vch at h
  simp only [Bool.and_eq_true, decide_eq_true_eq] at h
  exact ⟨c.Kind.toNat, by omega, by omega, by omega, h.1, by omega, by omega⟩

/-- The text of a change. -/
def txtC (c : SChange) : List UInt8 := name5 c.Kind.toNat ++ 32 :: ((if c.Amount < 0 then 45 else 43) :: natD c.Amount.natAbs)

theorem decZ_neg {z : Int} (h : z < 0) : decZ z = 45 :: natD z.natAbs := by unfold decZ; rw [if_pos h]
theorem decZ_nn {z : Int} (h : 0 ≤ z) : decZ z = natD z.natAbs := by unfold decZ; rw [if_neg (by omega)]

theorem natD_small {k : Nat} (h : k ≤ 300) : (natD k).length ≤ 20 := by
  have := decZ_len (z := (k : Int)) ⟨by omega, by omega⟩
  rw [decZ_nn (by omega)] at this
  simpa using this

theorem p_implText (n : Nat) (c : SChange) : m_impl_ChangeText n c = some (if vch c then txtC c else []) := by
  unfold m_impl_ChangeText
  rw [p_validChange]
  simp only [Option.bind_some]
  cases hv : vch c with
  | false => rfl
  | true =>
    obtain ⟨k, k1, k5, hk, a0, al, ah⟩ := vch_facts hv
    obtain ⟨f1, f2, f3, f4⟩ := name5_facts k1 k5
    have hd := natD_small (k := c.Amount.natAbs) (by omega)
    have hi : idx v_changeNames c.Kind = some (name5 k) := by rw [hk]; exact name5_at k5
    have hT : txtC c = name5 k ++ 32 :: ((if c.Amount < 0 then 45 else 43) :: natD c.Amount.natAbs) := by unfold txtC; rw [hk, Int.toNat_natCast]
    simp only [Bool.not_true, Bool.false_eq_true, if_false, if_true, hi, Option.bind_some, p_Decimal n c.Amount ⟨by omega, by omega⟩, hT]
    by_cases hp : c.Amount > 0
    · have d : decide (c.Amount > 0) = true := decide_eq_true hp
      have hn : ¬ c.Amount < 0 := by omega
      simp only [d, if_true, hn, if_false, decZ_nn (by omega : 0 ≤ c.Amount)]
      rw [app_eq (by simp; omega)]
      simp only [Option.bind_some]
      rw [app_eq (by simp; omega)]
      simp
    · have d : decide (c.Amount > 0) = false := decide_eq_false hp
      have hn : c.Amount < 0 := by omega
      simp only [d, Bool.false_eq_true, if_false, hn, if_true, decZ_neg hn]
      rw [app_eq (by simp; omega)]
      simp only [Option.bind_some]
      rw [app_eq (by simp; omega)]
      simp

theorem p_size22 (n : Nat) (z : Int) (h1 : -300 ≤ z) (h2 : z ≤ 300) : m_spec_l02Size n z = some (z.natAbs : Int) := by
  unfold m_spec_l02Size
  by_cases h : z < 0
  · rw [decide_eq_true h, wI64_eq (by omega) (by omega)]; simp; omega
  · rw [decide_eq_false h]; simp; omega

theorem p_l22Text (n : Nat) (c : SChange) (hv : vch c = true) (hn : 1048576 < n) : m_spec_l22Text n c = some (txtC c) := by
  obtain ⟨k, k1, k5, hk, a0, al, ah⟩ := vch_facts hv
  obtain ⟨f1, f2, f3, f4⟩ := name5_facts k1 k5
  have hd := natD_small (k := c.Amount.natAbs) (by omega)
  have hw : wI64 (c.Kind - 1) = ((k - 1 : Nat) : Int) := by rw [wI64_eq (by omega) (by omega)]; omega
  have hT : txtC c = name5 k ++ 32 :: ((if c.Amount < 0 then 45 else 43) :: natD c.Amount.natAbs) := by unfold txtC; rw [hk, Int.toNat_natCast]
  unfold m_spec_l22Text m_spec_l22Names
  rw [p_size22 n c.Amount al ah]
  have hs : (if decide (c.Amount < 0) then some [45] else some [43] : Option (List UInt8)) = some [if c.Amount < 0 then 45 else 43] := by
    by_cases h : c.Amount < 0
    · rw [decide_eq_true h, if_pos h]; rfl
    · rw [decide_eq_false h, if_neg h]; rfl
  rw [hs]
  simp only [Option.bind_some, hw, f4, p_l01Dec n (c.Amount.natAbs : Int) ⟨by omega, by omega⟩ hn, decZ_nn (by omega : (0 : Int) ≤ (c.Amount.natAbs : Int)), Int.natAbs_natCast]
  rw [app_eq (by simp; omega)]
  simp only [Option.bind_some]
  rw [app_eq (by simp; omega)]
  simp only [Option.bind_some]
  rw [app_eq (by simp; omega), hT]
  simp

theorem p_specText (n : Nat) (c : SChange) (hn : 1048576 < n) : m_spec_ChangeText n c = some (if vch c then txtC c else []) := by
  unfold m_spec_ChangeText
  rw [p_l22One]
  simp only [Option.bind_some]
  cases hv : vch c with
  | false => rfl
  | true => rw [p_l22Text n c hv hn]; rfl

/-- The statement on ChangeText. -/
theorem law_ChangeText (c : SChange) (_hc : okChange c) : m_laws_FnExactChangeText 2000000 c = some true := by
  unfold m_laws_FnExactChangeText
  simp [p_toChange, p_specText 2000000 c, p_implText]

/-! ### Changes read -/

theorem txt_tail_ne32 (c : SChange) : ∀ b ∈ ((if c.Amount < 0 then 45 else 43) :: natD c.Amount.natAbs : List UInt8), b ≠ 32 := by
  intro b hb
  rcases List.mem_cons.1 hb with rfl | hb
  · split <;> decide
  · rintro rfl
    have := natD_dg _ _ hb
    revert this; decide

theorem txt_split (c : SChange) (hv : vch c = true) : splitL 32 (txtC c) = [name5 c.Kind.toNat, (if c.Amount < 0 then 45 else 43) :: natD c.Amount.natAbs] := by
  obtain ⟨k, k1, k5, hk, _⟩ := vch_facts hv
  obtain ⟨f1, f2, f3, f4⟩ := name5_facts k1 k5
  unfold txtC
  have h3 : ∀ b ∈ name5 c.Kind.toNat, b ≠ 32 := by rw [hk, Int.toNat_natCast]; exact f3
  rw [splitL_pre _ h3, splitL_one (txt_tail_ne32 c)]

theorem split_1 {b : UInt8} : ∀ {s y : List UInt8}, splitL b s = [y] → s = y
  | [], y, h => by simpa [splitL] using h
  | d :: s, y, h => by
    unfold splitL at h
    by_cases hd : d = b
    · rw [if_pos hd] at h
      have := (splitL_len b s).1
      rw [(List.cons.inj h).2] at this; simp at this
    · rw [if_neg hd] at h
      cases hs : splitL b s with
      | nil => have := (splitL_len b s).1; rw [hs] at this; simp at this
      | cons w ws =>
        rw [hs] at h
        simp only [List.cons.injEq] at h
        obtain ⟨rfl, rfl⟩ := h
        rw [split_1 hs]

theorem split_two {b : UInt8} : ∀ {s x y : List UInt8}, splitL b s = [x, y] → s = x ++ b :: y
  | [], x, y, h => by simp [splitL] at h
  | c :: s, x, y, h => by
    unfold splitL at h
    by_cases hc : c = b
    · rw [if_pos hc] at h
      obtain ⟨rfl, h2⟩ := List.cons.inj h
      rw [split_1 h2, hc]; rfl
    · rw [if_neg hc] at h
      cases hs : splitL b s with
      | nil => rw [hs] at h; simp at h
      | cons w ws =>
        rw [hs] at h
        simp only [List.cons.injEq] at h
        obtain ⟨rfl, rfl⟩ := h
        rw [split_two hs]; rfl

end Go.Gv
