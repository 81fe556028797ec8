/- Plain laws: the order of texts. -/
import Derived.Test.YtkpdicajinionaaPu
namespace Go.Gv
open Go Go.RowKit

theorem sl_nil (x : List UInt8) : strLt x [] = false := by cases x <;> rfl
theorem sl_nil2 (b : UInt8) (y : List UInt8) : strLt [] (b :: y) = true := rfl
theorem sl_cons (a b : UInt8) (x y : List UInt8) : strLt (a :: x) (b :: y) = (decide (a < b) || (a == b && strLt x y)) := rfl

theorem sl_irr : ∀ x : List UInt8, strLt x x = false
  | [] => rfl
  | a :: x => by
    rw [sl_cons, sl_irr x]
    have : ¬ a < a := UInt8.lt_irrefl a
    simp [this]

theorem sl_trans : ∀ {x y z : List UInt8}, strLt x y = true → strLt y z = true → strLt x z = true
  | x, [], z, h, _ => by rw [sl_nil] at h; cases h
  | x, b :: y, [], _, h => by rw [sl_nil] at h; cases h
  | [], b :: y, c :: z, _, _ => rfl
  | a :: x, b :: y, c :: z, h1, h2 => by
    rw [sl_cons] at h1 h2 ⊢
    simp only [Bool.or_eq_true, decide_eq_true_eq, Bool.and_eq_true, beq_iff_eq] at h1 h2 ⊢
    rcases h1 with h1 | ⟨rfl, h1⟩
    · rcases h2 with h2 | ⟨rfl, h2⟩
      · exact .inl (UInt8.lt_trans h1 h2)
      · exact .inl h1
    · rcases h2 with h2 | ⟨rfl, h2⟩
      · exact .inl h2
      · exact .inr ⟨rfl, sl_trans h1 h2⟩

theorem sl_asym {x y : List UInt8} (h : strLt x y = true) : strLt y x = false := by
  cases h2 : strLt y x with
  | false => rfl
  | true => have := sl_trans h h2; rw [sl_irr] at this; cases this

theorem sl_tri : ∀ x y : List UInt8, strLt x y = true ∨ x = y ∨ strLt y x = true
  | [], [] => .inr (.inl rfl)
  | [], b :: y => .inl rfl
  | a :: x, [] => .inr (.inr rfl)
  | a :: x, b :: y => by
    rw [sl_cons, sl_cons]
    simp only [Bool.or_eq_true, decide_eq_true_eq, Bool.and_eq_true, beq_iff_eq]
    rcases Nat.lt_trichotomy a.toNat b.toNat with h | h | h
    · exact .inl (.inl h)
    · have e : a = b := UInt8.toNat_inj.1 h
      subst e
      rcases sl_tri x y with h | rfl | h
      · exact .inl (.inr ⟨rfl, h⟩)
      · exact .inr (.inl rfl)
      · exact .inr (.inr (.inr ⟨rfl, h⟩))
    · exact .inr (.inr (.inl h))

/-- A loop that is left at the first element that fails. -/
theorem runL_if {α β τ : Type} (p : α → Bool) (g : β → α → β) (e : τ) : ∀ (xs : List α) (i : Nat) (b : β), runL (fun _ b x => if p x then .ok (g b x) else .error e) i xs b = if xs.all p then .ok (xs.foldl g b) else .error e
  | [], i, b => rfl
  | x :: xs, i, b => by
    unfold runL
    cases hp : p x with
    | true => simp only [if_true, List.all_cons, hp, Bool.true_and, List.foldl_cons]; exact runL_if p g e xs _ _
    | false => simp only [Bool.false_eq_true, if_false, List.all_cons, hp, Bool.false_and]

/-- The least so far; below nothing stands for none. -/
def minF (b x : Int) : Int := if b < 0 ∨ x < b then x else b

theorem minF_fold : ∀ (l : List Int) (b : Int), 0 ≤ b → (∀ x ∈ l, 0 ≤ x) → (l.foldl minF b = b ∨ l.foldl minF b ∈ l) ∧ l.foldl minF b ≤ b ∧ (∀ x ∈ l, l.foldl minF b ≤ x) ∧ 0 ≤ l.foldl minF b
  | [], b, hb, _ => ⟨.inl rfl, Int.le_refl _, by simp, hb⟩
  | x :: l, b, hb, h => by
    have hx := h x (by simp)
    have hm : 0 ≤ minF b x ∧ minF b x ≤ b ∧ minF b x ≤ x ∧ (minF b x = b ∨ minF b x = x) := by unfold minF; split <;> omega
    obtain ⟨h1, h2, h3, h4⟩ := minF_fold l (minF b x) hm.1 (fun y hy => h y (by simp [hy]))
    simp only [List.foldl_cons]
    refine ⟨?_, by omega, ?_, h4⟩
    · rcases h1 with h1 | h1
      · rcases hm.2.2.2 with e | e
        · left; omega
        · right; rw [h1, e]; simp
      · right; simp [h1]
    · intro y hy
      simp only [List.mem_cons] at hy
      rcases hy with rfl | hy
      · omega
      · exact h3 y hy

theorem minF_first {l : List Int} (hne : l ≠ []) (h : ∀ x ∈ l, 0 ≤ x) : l.foldl minF (-1) ∈ l ∧ ∀ x ∈ l, l.foldl minF (-1) ≤ x := by
  cases l with
  | nil => exact absurd rfl hne
  | cons x l =>
    have e : minF (-1) x = x := by unfold minF; rw [if_pos (by omega)]
    obtain ⟨h1, h2, h3, h4⟩ := minF_fold l x (h x (by simp)) (fun y hy => h y (by simp [hy]))
    simp only [List.foldl_cons, e]
    refine ⟨?_, ?_⟩
    · rcases h1 with h1 | h1
      · rw [h1]; simp
      · simp [h1]
    · intro y hy
      simp only [List.mem_cons] at hy
      rcases hy with rfl | hy
      · exact h2
      · exact h3 y hy

/-- Two rows of the same numbers have the same least one. -/
theorem minF_same {l m : List Int} (hl : ∀ x ∈ l, 0 ≤ x) (h1 : ∀ x ∈ l, x ∈ m) (h2 : ∀ x ∈ m, x ∈ l) : l.foldl minF (-1) = m.foldl minF (-1) := by
  by_cases hne : l = []
  · have : m = [] := by
      cases m with
      | nil => rfl
      | cons a m => have := h2 a (by simp); rw [hne] at this; simp at this
    rw [hne, this]
  · have hm : m ≠ [] := by
      intro e
      cases l with
      | nil => exact hne rfl
      | cons a l => have := h1 a (by simp); rw [e] at this; simp at this
    obtain ⟨a1, a2⟩ := minF_first hne hl
    obtain ⟨b1, b2⟩ := minF_first hm (fun x hx => hl x (h2 x hx))
    have := a2 _ (h2 _ b1)
    have := b2 _ (h1 _ a1)
    omega

end Go.Gv
