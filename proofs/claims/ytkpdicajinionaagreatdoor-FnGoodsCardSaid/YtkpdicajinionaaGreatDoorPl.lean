/- Plain laws: the library's words and mine: texts cut at a byte. -/
import Derived.Test.YtkpdicajinionaaGreatDoorPt
import Derived.Lib.Split
import Derived.Lib.IndexBytes
import Derived.Lib.IndexLaws
import Derived.Lib.CountLaws
namespace Go.Gv
open Go Go.RowKit

theorem splitK_one (b : UInt8) : ∀ (k : Nat) (s : List UInt8), s.length ≤ k → Lib.splitK [b] 0 (Lib.count s [b]) s = splitL b s := by
  intro k
  induction k with
  | zero =>
    intro s hk
    obtain rfl : s = [] := List.eq_nil_of_length_eq_zero (by omega)
    rfl
  | succ k ih =>
    intro s hk
    have hge := Lib.index_ge s [b]
    have e1 := Lib.index_one s b
    by_cases h : Lib.index s [b] = -1
    · rw [Lib.count_miss h]
      rw [e1] at h
      have hn := Lib.indexByte_none h
      rw [splitL_one (fun c hc hcb => by
        obtain ⟨j, hj⟩ := List.getElem?_of_mem hc
        exact hn j (by rw [hj, hcb]))]
      rfl
    · obtain ⟨i, hi⟩ : ∃ i : Nat, Lib.index s [b] = i := ⟨(Lib.index s [b]).toNat, by omega⟩
      rw [Lib.count_hit (by simp) hi, Nat.add_comm 1]
      have hi2 := hi
      rw [e1] at hi2
      obtain ⟨hb, hlo⟩ := Lib.indexByte_some hi2
      have hlt := lt_of_get hb
      have hne : (Lib.index s [b] == -1) = false := by rw [hi]; simp
      unfold Lib.splitK
      rw [if_neg (by rw [hne]; simp), hi]
      simp only [Int.toNat_natCast, Nat.add_zero, List.length_cons, List.length_nil, Nat.zero_add]
      rw [ih (s.drop (i + 1)) (by simp; omega)]
      have hcut : s = s.take i ++ b :: s.drop (i + 1) := by
        conv => lhs; rw [← List.take_append_drop i s, List.drop_eq_getElem_cons hlt]
        congr 2
        rw [List.getElem?_eq_getElem hlt] at hb; exact Option.some.inj hb
      conv => rhs; rw [hcut]
      rw [splitL_pre _ (fun c hc hcb => by
        obtain ⟨j, hj⟩ := List.getElem?_of_mem hc
        have hj2 := lt_of_get hj
        simp at hj2
        rw [List.getElem?_take] at hj
        split at hj
        · exact hlo j (by omega) (by rw [hj, hcb])
        · cases hj)]

theorem split_byte (b : UInt8) (s : List UInt8) : Lib.split s [b] = splitL b s := splitK_one b s.length s (Nat.le_refl _)

end Go.Gv
