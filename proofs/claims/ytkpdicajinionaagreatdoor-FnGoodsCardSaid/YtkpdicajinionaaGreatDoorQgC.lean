/- Plain laws (those of another seat, turned to this one by tools/renum.py). -/
import Derived.Test.YtkpdicajinionaaGreatDoorQgB
namespace Go.Gv
open Go Go.RowKit

def textG (g : SGood) : List UInt8 := ((((((g.Name ++ [32]) ++ decZ g.OnHand) ++ [45]) ++ decZ g.Reserved) ++ [32, 108, 101, 97, 115, 116, 32]) ++ decZ g.Least)

theorem p_specGoodText (n : Nat) (g : SGood) (hs : g.Name.length ≤ 1048576) (h1 : i64ok g.OnHand) (h2 : i64ok g.Reserved) (h3 : i64ok g.Least) (hn : 1048576 < n) : m_spec_GoodText n g = some (if goodB g then textG g else []) := by
  have l1 := decZ_len h1; have l2 := decZ_len h2; have l3 := decZ_len h3
  unfold m_spec_GoodText
  rw [p_l23One n g (by unfold strok; omega) hn]
  simp only [Option.bind_some]
  cases goodB g with
  | false => rfl
  | true =>
    simp only [Bool.not_true, Bool.false_eq_true, if_false, if_true]
    unfold m_spec_l23Text textG
    rw [app_eq (by simp; omega)]; simp only [Option.bind_some, p_l01Dec n _ h1 hn]
    rw [app_eq (by simp; omega)]; simp only [Option.bind_some]
    rw [app_eq (by simp; omega)]; simp only [Option.bind_some, p_l01Dec n _ h2 hn]
    rw [app_eq (by simp; omega)]; simp only [Option.bind_some]
    rw [app_eq (by simp; omega)]; simp only [Option.bind_some, p_l01Dec n _ h3 hn]
    rw [app_eq (by simp; omega)]; rfl

theorem p_implGoodText (n : Nat) (g : SGood) (hs : g.Name.length ≤ 1048576) (h1 : i64ok g.OnHand) (h2 : i64ok g.Reserved) (h3 : i64ok g.Least) (hn : 1048576 < n) : m_impl_GoodText n g = some (if goodB g then textG g else []) := by
  have l1 := decZ_len h1; have l2 := decZ_len h2; have l3 := decZ_len h3
  unfold m_impl_GoodText
  rw [p_validGood n g (by unfold strok; omega) hn]
  simp only [Option.bind_some]
  cases goodB g with
  | false => rfl
  | true =>
    simp only [Bool.not_true, Bool.false_eq_true, if_false, if_true]
    unfold textG
    rw [app_eq (by simp; omega)]; simp only [Option.bind_some, p_Decimal n _ h1]
    rw [app_eq (by simp; omega)]; simp only [Option.bind_some]
    rw [app_eq (by simp; omega)]; simp only [Option.bind_some, p_Decimal n _ h2]
    rw [app_eq (by simp; omega)]; simp only [Option.bind_some]
    rw [app_eq (by simp; omega)]; simp only [Option.bind_some, p_Decimal n _ h3]
    rw [app_eq (by simp; omega)]; rfl

/-! ### Read -/

theorem splitK_step (b : UInt8) (k : Nat) (s : List UInt8) : ((∀ c ∈ s, c ≠ b) ∧ Lib.splitK [b] 0 (k + 1) s = [s]) ∨ ∃ t r, s = t ++ b :: r ∧ (∀ c ∈ t, c ≠ b) ∧ Lib.splitK [b] 0 (k + 1) s = t :: Lib.splitK [b] 0 k r := by
  have hge := Lib.index_ge s [b]
  have e1 := Lib.index_one s b
  by_cases h : Lib.index s [b] = -1
  · left
    have hi := h
    rw [e1] at hi
    have hn := Lib.indexByte_none hi
    refine ⟨fun c hc hcb => ?_, ?_⟩
    · obtain ⟨j, hj⟩ := List.getElem?_of_mem hc
      exact hn j (by rw [hj, hcb])
    · unfold Lib.splitK
      rw [if_pos (by rw [h]; rfl)]
  · right
    obtain ⟨i, hi⟩ : ∃ i : Nat, Lib.index s [b] = i := ⟨(Lib.index s [b]).toNat, by omega⟩
    have hi2 := hi
    rw [e1] at hi2
    obtain ⟨hb, hlo⟩ := Lib.indexByte_some hi2
    have hlt := lt_of_get hb
    have hne : (Lib.index s [b] == -1) = false := by rw [hi]; simp
    refine ⟨s.take i, s.drop (i + 1), ?_, ?_, ?_⟩
    · conv => lhs; rw [← List.take_append_drop i s, List.drop_eq_getElem_cons hlt]
      congr 2
      rw [List.getElem?_eq_getElem hlt] at hb; exact Option.some.inj hb
    · intro c hc hcb
      obtain ⟨j, hj⟩ := List.getElem?_of_mem hc
      have hj2 := lt_of_get hj
      simp at hj2
      rw [List.getElem?_take] at hj
      split at hj
      · exact hlo j (by omega) (by rw [hj, hcb])
      · cases hj
    · conv => lhs; unfold Lib.splitK
      rw [if_neg (by rw [hne]; simp), hi]
      simp

theorem splitK_few (b : UInt8) : ∀ (k : Nat) (s : List UInt8), ((splitL b s).length ≤ k + 1 → Lib.splitK [b] 0 k s = splitL b s) ∧ (k + 1 < (splitL b s).length → (Lib.splitK [b] 0 k s).length = k + 1) := by
  intro k
  induction k with
  | zero =>
    intro s
    refine ⟨fun h => ?_, fun _ => rfl⟩
    rcases splitK_step b 0 s with ⟨hn, _⟩ | ⟨t, r, rfl, ht, _⟩
    · rw [splitL_one hn]; rfl
    · rw [splitL_pre r ht] at h
      have := (splitL_len b r).1
      rw [List.length_cons] at h; omega
  | succ k ih =>
    intro s
    rcases splitK_step b k s with ⟨hn, hk⟩ | ⟨t, r, rfl, ht, hk⟩
    · rw [hk, splitL_one hn]
      exact ⟨fun _ => rfl, fun h => by simp at h⟩
    · rw [hk, splitL_pre r ht]
      obtain ⟨i1, i2⟩ := ih r
      refine ⟨fun h => ?_, fun h => ?_⟩
      · rw [i1 (by rw [List.length_cons] at h; omega)]
      · rw [List.length_cons, i2 (by rw [List.length_cons] at h; omega)]

/-- Two parts, and no more. -/
theorem splitN_two (b : UInt8) (s : List UInt8) : (splitL b s).length = 2 ∧ Lib.splitN s [b] 3 = splitL b s ∨ (splitL b s).length ≠ 2 ∧ (Lib.splitN s [b] 3).length ≠ 2 := by
  have hl := splitL_len b s
  unfold Lib.splitN
  obtain ⟨f1, f2⟩ := splitK_few b (min 3 (s.length + 1) - 1) s
  by_cases h : (splitL b s).length ≤ min 3 (s.length + 1) - 1 + 1
  · rw [f1 h]
    by_cases h2 : (splitL b s).length = 2
    · exact .inl ⟨h2, rfl⟩
    · exact .inr ⟨h2, h2⟩
  · have := f2 (by omega)
    right
    omega

theorem splitL_join (b : UInt8) : ∀ (s : List UInt8), Lib.join (splitL b s) [b] = s := by
  intro s
  induction s with
  | nil => rfl
  | cons c s ih =>
    have hl := (splitL_len b s).1
    unfold splitL
    cases hs : splitL b s with
    | nil => rw [hs] at hl; simp at hl
    | cons x xs =>
      rw [hs, Lib.join_cons] at ih
      split
      · rename_i e
        subst e
        rw [Lib.join_cons]
        show [] ++ (([c] ++ x) ++ Lib.joinTail [c] xs) = _
        rw [← ih]; simp
      · rw [Lib.join_cons]
        show c :: (x ++ Lib.joinTail [b] xs) = _
        rw [ih]

theorem join4 (b : UInt8) (a0 a1 a2 a3 : List UInt8) : Lib.join [a0, a1, a2, a3] [b] = a0 ++ b :: (a1 ++ b :: (a2 ++ b :: a3)) := by
  rw [Lib.join_cons]; simp [Lib.joinTail]

theorem join2 (b : UInt8) (a0 a1 : List UInt8) : Lib.join [a0, a1] [b] = a0 ++ b :: a1 := by
  rw [Lib.join_cons]; simp [Lib.joinTail]

theorem list4 {α : Type} {l : List α} (h : l.length = 4) : ∃ a b c d, l = [a, b, c, d] := by
  match l, h with
  | [a, b, c, d], _ => exact ⟨a, b, c, d, rfl⟩

theorem list2 {α : Type} {l : List α} (h : l.length = 2) : ∃ a b, l = [a, b] := by
  match l, h with
  | [a, b], _ => exact ⟨a, b, rfl⟩

/-- The numbers of a text with two parts. -/
theorem p_readTwo (n : Nat) (s : List UInt8) (hs : s.length ≤ 1500000) (hn : 3 < n) : m_impl_readNumbers n s [45] 2 = some (
    match splitL 45 s with
    | [a, b] => if (readD a).2 && (readD b).2 then ([(readD a).1, (readD b).1], true) else ([], false)
    | _ => ([], false)) := by
  unfold m_impl_readNumbers m_strings_SplitN
  have e3 : wI64 (2 + 1) = 3 := rfl
  rw [e3, if_pos ⟨by omega, by simp, by omega, by omega⟩]
  simp only [Option.bind_some]
  have e4 : (3 : Int).toNat = 3 := rfl
  rw [e4]
  rcases splitN_two 45 s with ⟨h2, he⟩ | ⟨h2, he⟩
  · rw [he]
    obtain ⟨a, b, hab⟩ := list2 h2
    rw [hab]
    obtain ⟨m, rfl⟩ : ∃ m, n = m + 3 := ⟨n - 3, by omega⟩
    have hlen : (([a, b] : List (List UInt8)).length : Int) = 2 := rfl
    have s0 : wI64 (0 + 1) = 1 := rfl
    have s1 : wI64 (1 + 1) = 2 := rfl
    have i0 : idx [a, b] 0 = some a := rfl
    have i1 : idx [a, b] 1 = some b := rfl
    have ap0 : ∀ x : Int, app ([] : List Int) [x] = some [x] := fun x => app_eq (by simp)
    have ap1 : ∀ x y : Int, app [x] [y] = some [x, y] := fun x y => app_eq (by simp)
    have s2 : wI64 1 = 1 := rfl
    have s3 : wI64 2 = 2 := rfl
    cases ha : (readD a).2 with
    | false =>
      simp [loopN, m_impl_readNumbers_l1, i0, p_implReadDecimal, ha, hlen]
    | true =>
      cases hb : (readD b).2 with
      | false => simp [loopN, m_impl_readNumbers_l1, i0, i1, p_implReadDecimal, ha, hb, ap0, ap1, s2, s3]
      | true => simp [loopN, m_impl_readNumbers_l1, i0, i1, p_implReadDecimal, ha, hb, ap0, ap1, s2, s3]
  · have hne : ¬ ((Lib.splitN s [45] 3).length : Int) = 2 := by omega
    have hb : (((Lib.splitN s [45] 3).length : Int) != 2) = true := by simpa using hne
    rw [if_pos hb]
    split
    · rename_i a b hab
      rw [hab] at h2; exact absurd rfl h2
    · rfl

def badG : SGood × Bool := (⟨[], 0, 0, 0⟩, false)

def readG (s : List UInt8) : SGood × Bool :=
  match splitL 32 s with
  | [w0, w1, w2, w3] =>
    match splitL 45 w1 with
    | [a, b] => if w2 = wLeast ∧ (readD a).2 = true ∧ (readD b).2 = true ∧ (readD w3).2 = true ∧ goodB ⟨w0, (readD a).1, (readD b).1, (readD w3).1⟩ = true then (⟨w0, (readD a).1, (readD b).1, (readD w3).1⟩, true) else badG
    | _ => badG
  | _ => badG

theorem p_specReadGood (n : Nat) (s : List UInt8) (hs : s.length ≤ 1048576) (hn : 1500001 < n) : m_spec_ReadGood n s = some (readG s) := by
  unfold m_spec_ReadGood
  have e32 : m_spec_l01Split n s 32 = some (splitL 32 s) := p_l01Split n s 32 (by omega) (by omega)
  rw [e32]
  simp only [Option.bind_some]
  by_cases h4 : (splitL 32 s).length = 4
  · obtain ⟨w0, w1, w2, w3, hw⟩ := list4 h4
    have hm := fun w hw' => splitL_mem 32 s w hw'
    have m0 := hm w0 (by rw [hw]; simp); have m1 := hm w1 (by rw [hw]; simp); have m3 := hm w3 (by rw [hw]; simp)
    unfold readG
    rw [hw]
    have i0 : idx [w0, w1, w2, w3] 0 = some w0 := rfl
    have i1 : idx [w0, w1, w2, w3] 1 = some w1 := rfl
    have i2 : idx [w0, w1, w2, w3] 2 = some w2 := rfl
    have i3 : idx [w0, w1, w2, w3] 3 = some w3 := rfl
    have hl : (([w0, w1, w2, w3] : List (List UInt8)).length : Int) = 4 := rfl
    have e45 : m_spec_l01Split n w1 45 = some (splitL 45 w1) := p_l01Split n w1 45 (by omega) (by omega)
    rw [hl]
    simp only [bne_self_eq_false, Bool.false_eq_true, if_false, i2, Option.bind_some, i1, e45, i3, i0]
    by_cases hle : w2 = wLeast
    · have hle2 : (w2 == [108, 101, 97, 115, 116]) = true := by rw [hle]; rfl
      simp only [hle2, Bool.not_true, Bool.false_eq_true, if_false]
      by_cases hv : (splitL 45 w1).length = 2
      · obtain ⟨a, b, hab⟩ := list2 hv
        have ma := splitL_mem 45 w1 a (by rw [hab]; simp); have mb := splitL_mem 45 w1 b (by rw [hab]; simp)
        rw [hab]
        have j0 : idx [a, b] 0 = some a := rfl
        have j1 : idx [a, b] 1 = some b := rfl
        have hl2 : (([a, b] : List (List UInt8)).length : Int) = 2 := rfl
        rw [hl2]
        simp only [bne_self_eq_false, Bool.false_eq_true, if_false, j0, j1, Option.bind_some, p_l01Number n a (by omega) (by omega), p_l01Number n b (by omega) (by omega), p_l01Number n w3 (by omega) (by omega)]
        rw [p_l23One n _ (by unfold strok; show w0.length ≤ _; omega) (by omega)]
        cases (readD a).2 <;> cases (readD b).2 <;> cases (readD w3).2 <;> cases goodB ⟨w0, (readD a).1, (readD b).1, (readD w3).1⟩ <;> simp [hle, badG]
      · have hvb : (((splitL 45 w1).length : Int) != 2) = true := by simpa using (by omega : ¬ ((splitL 45 w1).length : Int) = 2)
        simp only [hvb, if_true]
        split
        · rename_i a b hab
          rw [hab] at hv; exact absurd rfl hv
        · rfl
    · have hle2 : (w2 == [108, 101, 97, 115, 116]) = false := by
        have : ¬ w2 = [108, 101, 97, 115, 116] := hle
        simpa using this
      simp only [hle2, Bool.not_false, if_true]
      split
      · rw [if_neg (fun h => hle h.1)]; rfl
      · rfl
  · have hb : (((splitL 32 s).length : Int) != 4) = true := by simpa using (by omega : ¬ ((splitL 32 s).length : Int) = 4)
    simp only [hb, if_true, Option.bind_some]
    unfold readG
    split
    · rename_i w0 w1 w2 w3 hw
      rw [hw] at h4; exact absurd rfl h4
    · rfl

theorem p_implReadGood (n : Nat) (s : List UInt8) (hs : s.length ≤ 1048576) (hn : 1500001 < n) : m_impl_ReadGood n s = some (readG s) := by
  unfold m_impl_ReadGood m_strings_Split
  rw [if_pos ⟨by omega, by simp⟩, split_byte]
  simp only [Option.bind_some]
  by_cases h4 : (splitL 32 s).length = 4
  · obtain ⟨w0, w1, w2, w3, hw⟩ := list4 h4
    have hm := fun w hw' => splitL_mem 32 s w hw'
    have m0 := hm w0 (by rw [hw]; simp); have m1 := hm w1 (by rw [hw]; simp); have m3 := hm w3 (by rw [hw]; simp)
    have hj := splitL_join 32 s
    rw [hw, join4] at hj
    unfold readG
    rw [hw]
    have i0 : idx [w0, w1, w2, w3] 0 = some w0 := rfl
    have i1 : idx [w0, w1, w2, w3] 1 = some w1 := rfl
    have i3 : idx [w0, w1, w2, w3] 3 = some w3 := rfl
    have hl : (([w0, w1, w2, w3] : List (List UInt8)).length : Int) = 4 := rfl
    rw [hl]
    simp only [bne_self_eq_false, Bool.false_eq_true, if_false, Option.bind_some, i1, i3, i0, p_readTwo n w1 (by omega) (by omega), p_implReadDecimal]
    by_cases hv : (splitL 45 w1).length = 2
    · obtain ⟨a, b, hab⟩ := list2 hv
      have hj2 := splitL_join 45 w1
      rw [hab, join2] at hj2
      rw [hab]
      cases ha : (readD a).2 with
      | false => simp [badG, ha]
      | true =>
        cases hb : (readD b).2 with
        | false => simp [badG, ha, hb]
        | true =>
          cases h3 : (readD w3).2 with
          | false => simp [badG, ha, hb, h3]
          | true =>
            obtain ⟨x, hx⟩ : ∃ x, readD a = (x, true) := ⟨(readD a).1, by rw [← ha]⟩
            obtain ⟨y, hy⟩ : ∃ y, readD b = (y, true) := ⟨(readD b).1, by rw [← hb]⟩
            obtain ⟨z, hz⟩ : ∃ z, readD w3 = (z, true) := ⟨(readD w3).1, by rw [← h3]⟩
            obtain ⟨ax, bx⟩ := readD_true hx
            obtain ⟨ay, by'⟩ := readD_true hy
            obtain ⟨az, bz⟩ := readD_true hz
            have k0 : idx [x, y] 0 = some x := rfl
            have k1 : idx [x, y] 1 = some y := rfl
            have gt := p_implGoodText n ⟨w0, x, y, z⟩ (by show w0.length ≤ _; omega) (by unfold i64ok; show _ ≤ x ∧ x ≤ _; omega) (by unfold i64ok; show _ ≤ y ∧ y ≤ _; omega) (by unfold i64ok; show _ ≤ z ∧ z ≤ _; omega) (by omega)
            simp only [hx, hy, hz, Bool.and_self, if_true, Bool.not_true, Bool.false_eq_true, if_false, Option.bind_some, k0, k1, gt, true_and]
            cases hg : goodB ⟨w0, x, y, z⟩ with
            | false =>
              have hne : ¬ (([] : List UInt8) = s) := by rw [← hj]; simp
              have : (([] : List UInt8) == s) = false := by simpa using hne
              simp [this, badG]
            | true =>
              have key : textG ⟨w0, x, y, z⟩ = s ↔ w2 = wLeast := by
                rw [← hj, ← hj2]
                unfold textG wLeast
                show (((((w0 ++ [32]) ++ decZ x) ++ [45]) ++ decZ y) ++ [32, 108, 101, 97, 115, 116, 32]) ++ decZ z = _ ↔ _
                rw [← ax, ← ay, ← az]
                simp only [List.append_assoc, List.append_cancel_left_eq, List.cons_append, List.nil_append, List.cons.injEq, true_and]
                constructor
                · intro h
                  have h' : [108, 101, 97, 115, 116] ++ 32 :: w3 = w2 ++ 32 :: w3 := h
                  exact (List.append_cancel_right h').symm
                · intro h; rw [h]; rfl
              by_cases hle : w2 = wLeast
              · have := key.2 hle
                simp [this, hle]
              · have hne : ¬ textG ⟨w0, x, y, z⟩ = s := fun e => hle (key.1 e)
                have : (textG ⟨w0, x, y, z⟩ == s) = false := by simpa using hne
                simp [this, hle, badG]
    · have e : ∀ (u : List Int × Bool), (match splitL 45 w1 with
        | [a, b] => if ((readD a).2 && (readD b).2) = true then ([(readD a).1, (readD b).1], true) else ([], false)
        | _ => ([], false)) = (([], false) : List Int × Bool) := by
        intro _
        split
        · rename_i a b hab
          rw [hab] at hv; exact absurd rfl hv
        · rfl
      rw [e ([], false)]
      simp only [Bool.not_false, if_true, Option.bind_some]
      split
      · rename_i a b hab
        rw [hab] at hv; exact absurd rfl hv
      · rfl
  · have hb : (((splitL 32 s).length : Int) != 4) = true := by simpa using (by omega : ¬ ((splitL 32 s).length : Int) = 4)
    simp only [hb, if_true]
    unfold readG
    split
    · rename_i w0 w1 w2 w3 hw
      rw [hw] at h4; exact absurd rfl h4
    · rfl

end Go.Gv
