/- Plain laws: texts cut at a byte, words. -/
import Derived.Test.YtkpdicajinionaaGreatDoorPd
namespace Go.Gv
open Go Go.RowKit

/-- The parts of a text between bytes. -/
def splitL (b : UInt8) : List UInt8 → List (List UInt8)
  | [] => [[]]
  | c :: s => if c = b then [] :: splitL b s else match splitL b s with
    | [] => [[c]]
    | w :: ws => (c :: w) :: ws

theorem splitL_one {b : UInt8} : ∀ {w : List UInt8}, (∀ c ∈ w, c ≠ b) → splitL b w = [w]
  | [], _ => rfl
  | c :: w, h => by
    have := splitL_one (w := w) (fun x hx => h x (by simp [hx]))
    unfold splitL
    rw [if_neg (h c (by simp)), this]

theorem splitL_pre {b : UInt8} (r : List UInt8) : ∀ {w : List UInt8}, (∀ c ∈ w, c ≠ b) → splitL b (w ++ b :: r) = w :: splitL b r
  | [], _ => by simp [splitL]
  | c :: w, h => by
    have := splitL_pre r (w := w) (fun x hx => h x (by simp [hx]))
    rw [List.cons_append]
    conv => lhs; unfold splitL
    rw [if_neg (h c (by simp)), this]

theorem splitL_len (b : UInt8) : ∀ (s : List UInt8), 1 ≤ (splitL b s).length ∧ (splitL b s).length ≤ s.length + 1
  | [] => by simp [splitL]
  | c :: s => by
    have := splitL_len b s
    unfold splitL
    split
    · simp; omega
    · split
      · simp
      · rename_i w ws he
        rw [he] at this; simp at this ⊢; omega

theorem splitL_mem (b : UInt8) : ∀ (s : List UInt8) (w : List UInt8), w ∈ splitL b s → w.length ≤ s.length
  | [], w, h => by simp [splitL] at h; subst h; simp
  | c :: s, w, h => by
    have ih := splitL_mem b s
    unfold splitL at h
    split at h
    · simp only [List.mem_cons] at h
      rcases h with rfl | h
      · simp
      · have := ih w h; simp; omega
    · split at h
      · simp at h; subst h; simp
      · rename_i w0 ws he
        simp only [List.mem_cons] at h
        rcases h with rfl | h
        · have := ih w0 (by rw [he]; simp); simp; omega
        · have := ih w (by rw [he]; simp [h]); simp; omega

theorem p_l01Split (n : Nat) (s : List UInt8) (b : UInt8) (hs : s.length ≤ 1500000) (hn : 1500000 < n) : m_spec_l01Split n s (b.toNat : Int) = some (splitL b s) := by
  unfold m_spec_l01Split
  have key := loopN_fold (body := m_spec_l01Split_l1 n s (b.toNat : Int)) s.zipIdx (fun (a : List (List UInt8) × Nat) c => if c.1 = b then (a.1 ++ [(s.take c.2).drop a.2], c.2 + 1) else a) (([], 0) : List (List UInt8) × Nat) (fun i a => (a.1, (a.2 : Int), (i : Int))) (fun a => (a.1, (a.2 : Int)))
    (fun i a => a.2 ≤ i ∧ a.1.length ≤ i ∧ a.1 ++ splitL b (s.drop a.2) = splitL b s ∧ ∀ c ∈ (s.take i).drop a.2, c ≠ b) ⟨by simp, by simp, by simp, by simp⟩
    (fun i c a hc hI => by
      rw [List.getElem?_zipIdx] at hc
      cases hx : s[i]? with
      | none => simp [hx] at hc
      | some x =>
        simp [hx] at hc
        subst hc
        obtain ⟨h1, h2, h3, h4⟩ := hI
        have hlt := lt_of_get hx
        have htk : s.take (i + 1) = s.take i ++ [x] := by rw [List.take_add_one, hx]; rfl
        have hcut : s.drop a.2 = (s.take i).drop a.2 ++ x :: s.drop (i + 1) := by
          have e1 : s.drop i = x :: s.drop (i + 1) := by
            rw [List.drop_eq_getElem_cons hlt]
            congr 1
            rw [List.getElem?_eq_getElem hlt] at hx; exact Option.some.inj hx
          conv => lhs; rw [← List.take_append_drop i s, List.drop_append_of_le_length (by simp; omega), e1]
        by_cases he : x = b
        · have hb : ((x.toNat : Int) == (b.toNat : Int)) = true := by rw [he]; simp
          refine ⟨?_, ?_⟩
          · unfold m_spec_l01Split_l1
            have hsub : Gv.sub s (a.2 : Int) (i : Int) = some ((s.take i).drop a.2) := by
              unfold Gv.sub; rw [if_pos ⟨by omega, by omega, by omega⟩]; simp
            simp only [ltB hlt, if_true, idx_nat, hx, Option.bind_some, hb, hsub]
            simp only [he, if_true]
            rw [app_eq (by simp; omega)]
            simp only [Option.bind_some, succ64 hlt (by omega)]
          · simp only [he, if_true]
            refine ⟨by omega, by simp; omega, ?_, by simp⟩
            rw [hcut, he, splitL_pre _ h4] at h3
            rw [← h3]; simp
        · have hb : ((x.toNat : Int) == (b.toNat : Int)) = false := by
            rw [beq_eq_false_iff_ne]
            intro e; exact he (UInt8.toNat_inj.1 (by omega))
          refine ⟨?_, ?_⟩
          · unfold m_spec_l01Split_l1
            simp only [ltB hlt, if_true, idx_nat, hx, Option.bind_some, hb, Bool.false_eq_true, if_false, he, succ64 hlt (by omega)]
          · simp only [he, if_false]
            refine ⟨by omega, by omega, h3, ?_⟩
            rw [htk, List.drop_append_of_le_length (by simp; omega)]
            intro c hc
            rw [List.mem_append, List.mem_singleton] at hc
            rcases hc with hc | rfl
            · exact h4 c hc
            · exact he)
    (fun a _ => by unfold m_spec_l01Split_l1; simp) n (by simp; omega)
  obtain ⟨k1, k2⟩ := key
  have k1' : loopN (m_spec_l01Split_l1 n s (b.toNat : Int)) n (([] : List (List UInt8)), 0, 0) = _ := k1
  rw [k1']
  revert k2
  generalize s.zipIdx.foldl (fun (a : List (List UInt8) × Nat) c => if c.1 = b then (a.1 ++ [(s.take c.2).drop a.2], c.2 + 1) else a) (([], 0) : List (List UInt8) × Nat) = a
  rintro ⟨h1, h2, h3, h4⟩
  simp only [List.length_zipIdx] at h1 h2 h4
  rw [List.take_length] at h4
  have hsub : Gv.sub s (a.2 : Int) (s.length : Int) = some (s.drop a.2) := by
    unfold Gv.sub; rw [if_pos ⟨by omega, by omega, by omega⟩]; simp
  simp only [Option.bind_some, hsub]
  rw [app_eq (by simp; omega)]
  rw [splitL_one h4] at h3
  rw [← h3]; rfl

theorem decZ_len {z : Int} (h : i64ok z) : (decZ z).length ≤ 20 := by
  unfold i64ok at h
  have hk : z.natAbs ≤ 9223372036854775808 := by omega
  have : (natD z.natAbs).length ≤ 19 := by
    unfold natD
    split
    · simp
    · have := digZ_len 19 z.natAbs (ten19 hk)
      simpa [ofBytes] using this
  unfold decZ
  split
  · simp; omega
  · omega

end Go.Gv
