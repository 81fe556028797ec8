/- Calls of Go's library: what they read of variables of packages; what they give back. -/
import Derived.Test.YtkpdicajinionaaGreatDoorGh
import Derived.Lib.AppendIntMem
import Derived.Lib.AtoiErrMem
import Derived.Lib.SplitLaws
import Derived.WideLaws
namespace Go.Gv
open Go Go.RowKit

variable {P : Program} {env : Env} {w : World}

/-- An error, or none. -/
def IsErr (b : Bool) (ev : Value) : Prop := (b = false ∧ ev = .nilIface) ∨ (b = true ∧ ∃ t p, ev = .iface t p)

theorem ST.errne {b : Bool} {ev : Value} {t t' : TypeId} {X : Operand} {o : Oper} (hev : IsErr b ev) (hu : P.underlying t = some (.interface (P.methodsAt t))) (ho : o.op = .binOp .neq t X (.const .nilIface) t') (hX : rho env X = ev) : ST P w env o (.bool b) := by
  intro w' _
  unfold execOp; rw [ho]
  have hY : rho env (.const .nilIface) = .nilIface := rfl
  rcases hev with ⟨rfl, rfl⟩ | ⟨rfl, tt, p, rfl⟩
  · simp [hX, hY, eqGuard, run_neq_nil_nil w' t hu]
  · simp [hX, hY, eqGuard, run_neq_held_nil w' t tt p hu]

theorem bs_dl (l : List UInt8) : (bs l).data.toList = l := rfl

theorem strs_cells : ∀ L : List ByteArray, L.map Value.string = (L.map (·.data.toList)).flatMap fStr.leaf
  | [] => rfl
  | x :: L => by
    rw [List.map_cons, List.map_cons, List.flatMap_cons, ← strs_cells L]
    show Value.string x :: _ = [Value.string (bs x.data.toList)] ++ _
    rw [show bs x.data.toList = x from (bs_eq x).symm]; rfl

/-- A block of strings that the library has laid. -/
theorem SH.strs (w : World) (e : TypeId) (L : List ByteArray) (hL : L.length ≤ maxLen) : SH (w.alloc (.cells (L.map Value.string).toArray e)) w.heap.size [aOwn fStr e (some ⟨w.heap.size, 0, none⟩) L.length (L.map (·.data.toList))] := by
  have h := SH.newRow (F := fStr) (e := e) (xs := L.map (·.data.toList)) (w := w) (cs := (L.map Value.string).toArray) (n := L.length) (by simp) hL (by simpa using strs_cells L)
  simpa using h

/-- .. with room behind them. -/
theorem SH.strsN (w : World) (e : TypeId) (L : List ByteArray) (N : Nat) (hL : L.length ≤ N) (hN : N ≤ maxLen) : SH (w.alloc (.cells (Lib.cellsOf L N) e)) w.heap.size [aOwn fStr e (some ⟨w.heap.size, 0, none⟩) N (L.map (·.data.toList))] := by
  have h1 : fStr.sz = 1 := rfl
  have hs := Lib.cellsOf_size hL
  refine ⟨fun k => k = w.heap.size, fun _ => False, ?_, by simp, by simp, ?_, trivial⟩
  · rintro k rfl; exact ⟨Nat.le_refl _, by simp⟩
  · refine ⟨⟨flat_len fStr _, .inr ⟨w.heap.size, N, Lib.cellsOf L N, rfl, Nat.zero_le _, heap_alloc_new w _, by simpa using hL, hN, ?_, ?_⟩⟩, ?_⟩
    · rw [hs, h1]; omega
    · rw [h1, ← strs_cells L]
      unfold Lib.cellsOf
      rw [List.length_map]
      simp
    · intro k hk
      simp [Value.ownBlock] at hk
      exact hk.symm

theorem tabIs_ext {name : String} {k : IntKind} {zs : List Int} {w w' : World} (h : Lib.TabIs P w name k zs) (hE : Ext w w') : Lib.TabIs P w' name k zs := Lib.tabBelow_of_tabIs h w' hE

end Go.Gv
