/- Plain laws: what is deleted from a row in place. No program is named here. -/
import Derived.Test.YtkjjjbfpecmieaaDoorPu
namespace Go.Gv
open Go Go.RowKit

/-- What is deleted from a row in place. -/
theorem delete_loop {α : Type} {body : Int × Int × List α → Option (Step (Int × Int × List α) (Int × List α))} (p : α → Bool) (s : List α)
    (hb : ∀ (i j : Nat) (l : List α) x y, i < j → j < s.length → l.length = s.length → s[j]? = some x → l[j]? = some x → l[i]? = some y →
      body ((i : Int), (j : Int), l) = some (.next (if p x then ((i : Int), ((j + 1 : Nat) : Int), l) else (((i + 1 : Nat) : Int), ((j + 1 : Nat) : Int), l.set i x))))
    (hend : ∀ (i : Nat) (l : List α), l.length = s.length → body ((i : Int), (s.length : Int), l) = some (.done ((i : Int), l))) :
    ∀ (d i j : Nat) (l : List α) (f : Nat), j + d = s.length → i < j → l.length = s.length → l.take i = (s.take j).filter (fun x => !p x) → i = ((s.take j).filter (fun x => !p x)).length → l.drop j = s.drop j → d < f →
      ∃ (i' : Nat) (l' : List α), loopN body f ((i : Int), (j : Int), l) = some ((i' : Int), l') ∧ i' ≤ s.length ∧ l'.length = s.length ∧ l'.take i' = s.filter (fun x => !p x) := by
  intro d
  induction d with
  | zero =>
    intro i j l f hj hij hl ht hi _ hf
    obtain ⟨f, rfl⟩ : ∃ g, f = g + 1 := ⟨f - 1, by omega⟩
    have e : j = s.length := by omega
    subst e
    refine ⟨i, l, ?_, by omega, hl, by rw [ht, List.take_length]⟩
    unfold loopN; rw [hend i l hl]; rfl
  | succ d ih =>
    intro i j l f hj hij hl ht hi hd hf
    obtain ⟨f, rfl⟩ : ∃ g, f = g + 1 := ⟨f - 1, by omega⟩
    have hjs : j < s.length := by omega
    have hx : s[j]? = some s[j] := List.getElem?_eq_getElem hjs
    have hlx : l[j]? = some s[j] := by
      have := congrArg (fun t => t[0]?) hd
      simp only [List.getElem?_drop, Nat.add_zero] at this
      rw [this, hx]
    have hly : l[i]? = some (l[i]'(by omega)) := List.getElem?_eq_getElem (by omega)
    have hstep := hb i j l _ _ hij hjs hl hx hlx hly
    have hd2 : l.drop (j + 1) = s.drop (j + 1) := by rw [← List.drop_drop, ← List.drop_drop, hd]
    have hft : (s.take (j + 1)).filter (fun x => !p x) = (s.take j).filter (fun x => !p x) ++ (if p s[j] then [] else [s[j]]) := by
      rw [List.take_add_one, hx, List.filter_append]
      cases hp : p s[j] <;> simp [hp]
    unfold loopN
    rw [hstep]
    cases hp : p s[j] with
    | true =>
      rw [hp] at hft
      simp only [if_true, List.append_nil] at hft
      exact ih i (j + 1) l f (by omega) (by omega) hl (by rw [hft]; exact ht) (by rw [hft]; exact hi) hd2 (by omega)
    | false =>
      rw [hp] at hft
      simp only [Bool.false_eq_true, if_false] at hft
      refine ih (i + 1) (j + 1) (l.set i s[j]) f (by omega) (by omega) (by simpa using hl) ?_ (by rw [hft, List.length_append, ← hi]; rfl) (by rw [List.drop_set_of_lt (by omega)]; exact hd2) (by omega)
      rw [hft, ← ht]
      have : (l.set i s[j]).take (i + 1) = l.take i ++ [s[j]] := by
        rw [List.take_add_one, List.getElem?_set_self (by omega), List.take_set_of_le (Nat.le_refl _)]; rfl
      exact this

theorem sub_cut {α : Type} (l : List α) (i : Nat) (z : α) (hi : i ≤ l.length) : ∃ x, sub l (i : Int) (l.length : Int) = some x ∧ sub (l.take (i : Int).toNat ++ List.replicate (l.length - (i : Int).toNat) z) 0 (i : Int) = some (l.take i) := by
  unfold sub
  rw [if_pos ⟨by omega, by omega, by omega⟩, if_pos ⟨by omega, by omega, by simp; omega⟩]
  refine ⟨_, rfl, ?_⟩
  simp only [Int.toNat_natCast, Int.toNat_zero, List.drop_zero]
  congr 1
  have e : (l.take i).length = i := by simp; omega
  conv => lhs; rw [← e]
  rw [e]
  conv => lhs; lhs; rw [← e]
  exact List.take_left

end Go.Gv
