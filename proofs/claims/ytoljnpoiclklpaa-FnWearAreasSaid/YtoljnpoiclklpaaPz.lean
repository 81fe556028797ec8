/- Plain laws of wear: fields with their places, row by row or in one row. -/
import Derived.Test.YtoljnpoiclklpaaPw
namespace Go.Gv
open Go Go.RowKit

/-- The fields with their rows and columns. -/
def tri (k : Nat) (rows : List (List UInt8)) : List (Int × Nat × Nat) := (rows.zipIdx k).flatMap fun p => p.1.zipIdx.map fun q => (dv q.1, p.2, q.2)

theorem tri_flat (W : Nat) (hW : 0 < W) : ∀ (rows : List (List UInt8)) (k : Nat), (∀ r ∈ rows, r.length = W) →
    tri k rows = ((rows.flatMap (·.map dv)).zipIdx (k * W)).map fun p => (p.1, p.2 / W, p.2 % W)
  | [], k, _ => by simp [tri]
  | r :: rows, k, h => by
    have hr := h r (by simp)
    have ih := tri_flat W hW rows (k + 1) (fun q hq => h q (by simp [hq]))
    have e1 : tri k (r :: rows) = (r.zipIdx.map fun q => (dv q.1, k, q.2)) ++ tri (k + 1) rows := by simp [tri, List.zipIdx_cons]
    rw [e1, ih]
    simp only [List.flatMap_cons, List.zipIdx_append, List.map_append, List.length_map, hr]
    have e2 : k * W + W = (k + 1) * W := by rw [Nat.add_mul, Nat.one_mul]
    rw [e2]
    congr 1
    apply List.ext_getElem?
    intro j
    simp only [List.getElem?_map, List.getElem?_zipIdx]
    cases hj : r[j]? with
    | none => simp
    | some c =>
      have hlt := lt_of_get hj
      have h1 : (k * W + j) / W = k := by
        rw [Nat.mul_comm, Nat.mul_add_div hW, Nat.div_eq_of_lt (by omega), Nat.add_zero]
      have h2 : (k * W + j) % W = j := by
        rw [Nat.mul_comm, Nat.mul_add_mod, Nat.mod_eq_of_lt (by omega)]
      simp [h1, h2]

theorem tri_get {W : Nat} {rows : List (List UInt8)} {i : Nat} {t : Int × Nat × Nat} (hW : 0 < W) (h : ∀ r ∈ rows, r.length = W) (ht : (tri 0 rows)[i]? = some t) : t.2.1 = i / W ∧ t.2.2 = i % W ∧ t.2.2 < W ∧ (rows.flatMap (·.map dv))[i]? = some t.1 := by
  rw [tri_flat W hW rows 0 h] at ht
  simp only [List.getElem?_map, List.getElem?_zipIdx, Nat.zero_mul, Nat.zero_add] at ht
  cases hd : (rows.flatMap (·.map dv))[i]? with
  | none => simp [hd] at ht
  | some d =>
    simp [hd] at ht
    subst ht
    exact ⟨rfl, rfl, Nat.mod_lt _ hW, rfl⟩

theorem flat_uniform {W : Nat} : ∀ {rows : List (List UInt8)}, (∀ r ∈ rows, r.length = W) → (rows.flatMap (·.map dv)).length = rows.length * W
  | [], _ => by simp
  | r :: rows, h => by
    have := flat_uniform (rows := rows) (fun q hq => h q (by simp [hq]))
    simp only [List.flatMap_cons, List.length_append, List.length_map, this, h r (by simp), List.length_cons, Nat.add_mul, Nat.one_mul]
    omega

end Go.Gv
