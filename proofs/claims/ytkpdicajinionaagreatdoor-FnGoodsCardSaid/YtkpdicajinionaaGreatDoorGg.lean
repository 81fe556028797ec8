/- What the calls read of variables of packages. -/
import Derived.Test.YtkpdicajinionaaGreatDoorProg
import Derived.Test.YtkpdicajinionaaGreatDoorGl
namespace Go.Proofs.YtkpdicajinionaaGreatDoor
open Go Go.Gv Go.RowKit

def GL (k : Nat) (w : World) : Prop :=
  (1 ≤ k → ∃ m, w.cell? ⟨1, 0, none⟩ = some (.int .i64 m)) ∧
  (2 ≤ k → Lib.TabIs Tryz.prog w "internal/strconv.uint64pow10" .u64 Lib.pow10Tab) ∧
  (4 ≤ k → ∃ t p, w.cell? ⟨2, 0, none⟩ = some (.iface t p)) ∧
  (4 ≤ k → ∃ t p, w.cell? ⟨3, 0, none⟩ = some (.iface t p))

theorem GL.low {j k : Nat} {w : World} (h : GL k w) (hj : Nat.ble j k = true) : GL j w := by
  have hj := Nat.le_of_ble_eq_true hj
  unfold GL at *
  obtain ⟨h0, h1, h2, h3⟩ := h
  exact ⟨fun q => h0 (by omega), fun q => h1 (by omega), fun q => h2 (by omega), fun q => h3 (by omega)⟩

theorem GL.below {k : Nat} {w w' : World} (h : GL k w) (hE : Ext w w') : GL k w' := by
  unfold GL at *
  obtain ⟨h0, h1, h2, h3⟩ := h
  refine ⟨?_, ?_, ?_, ?_⟩
  · intro q; obtain ⟨m, h⟩ := h0 q; exact ⟨m, cell_ext h w' hE⟩
  · intro q; exact tabIs_ext (h1 q) hE
  · intro q; obtain ⟨t, p, h⟩ := h2 q; exact ⟨t, p, cell_ext h w' hE⟩
  · intro q; obtain ⟨t, p, h⟩ := h3 q; exact ⟨t, p, cell_ext h w' hE⟩

end Go.Proofs.YtkpdicajinionaaGreatDoor
