/- What slices.DeleteFunc leaves of a block of strings. -/
import Derived.Test.YtkjjjbfpecmieaaDoorGl
import Derived.Shelf.SlicesE.DeleteFunc
namespace Go.Gv
open Go Go.RowKit

theorem putRow_heap (w : World) (cs : Array Value) (e : TypeId) (q : Nat) (d : Array (List UInt8)) (hN : d.size = cs.size) :
    (Sort.putRow (fun l => Value.string (bs l)) (Sort.ahead (w.alloc (.cells cs e)) q) w.heap.size 0 d).heap = w.heap.push (.cells (d.map fun l => Value.string (bs l)) e) := by
  have hf : Sort.putCells (fun l => Value.string (bs l)) 0 d cs = d.map fun l => Value.string (bs l) := by
    unfold Sort.putCells
    apply Array.ext
    · simp [hN]
    · intro k h1 h2
      have hk : k < d.size := by simpa using h2
      simp [hk]
  show (w.heap.push (.cells cs e)).modify w.heap.size (Sort.onCells (Sort.putCells (fun l => Value.string (bs l)) 0 d)) = _
  apply Array.ext_getElem?
  intro k
  rw [Array.getElem?_modify, Array.getElem?_push, Array.getElem?_push]
  by_cases hk : w.heap.size = k
  · subst hk
    simp [Sort.onCells, hf]
  · have : ¬ k = w.heap.size := fun h => hk h.symm
    simp [hk, this]

theorem SH.putRow (w w' : World) (e : TypeId) (d : Array (List UInt8)) (ys zs : List (List UInt8)) (hd : d.toList = ys ++ zs) (hN : d.size ≤ maxLen) (hh : w'.heap = w.heap.push (.cells (d.map fun l => Value.string (bs l)) e)) :
    SH w' w.heap.size [aOwn fStr e (some ⟨w.heap.size, 0, none⟩) d.size ys] := by
  have h1 : fStr.sz = 1 := rfl
  have hl : d.size = ys.length + zs.length := by rw [← List.length_append, ← hd]; simp
  have hfl : ∀ l : List (List UInt8), l.map (fun l => Value.string (bs l)) = l.flatMap fStr.leaf := by
    intro l
    induction l with
    | nil => rfl
    | cons x l ih => rw [List.map_cons, List.flatMap_cons, ih]; rfl
  refine ⟨fun k => k = w.heap.size, fun _ => False, ?_, by simp, by simp, ?_, trivial⟩
  · rintro k rfl; exact ⟨Nat.le_refl _, by rw [hh]; simp⟩
  · refine ⟨⟨flat_len fStr _, .inr ⟨w.heap.size, d.size, (d.map fun l => Value.string (bs l)), rfl, Nat.zero_le _, by rw [hh]; simp, by omega, hN, ?_, ?_⟩⟩, ?_⟩
    · rw [h1]; simp
    · rw [h1, ← hfl, Array.toList_map, hd, List.map_append]
      simp
    · intro k hk
      simp [Value.ownBlock] at hk
      exact hk.symm

theorem Ext.putRow (w : World) (cs : Array Value) (e : TypeId) (q : Nat) (d : Array (List UInt8)) (hN : d.size = cs.size) : Ext w (Sort.putRow (fun l => Value.string (bs l)) (Sort.ahead (w.alloc (.cells cs e)) q) w.heap.size 0 d) := by
  have hh := putRow_heap w cs e q d hN
  refine ⟨rfl, rfl, rfl, by rw [hh]; simp, fun k hk => ?_⟩
  rw [hh, Array.getElem?_push]
  have : ¬ k = w.heap.size := by omega
  simp [this]

end Go.Gv
