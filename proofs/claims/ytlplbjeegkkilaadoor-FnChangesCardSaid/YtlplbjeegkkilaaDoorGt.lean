/- A variable of a package that is an array of texts: what it holds, how it is read. No program is named here. -/
import Derived.Test.YtlplbjeegkkilaaDoorGz
import Derived.Lib.LaidTab
namespace Go.Gv
open Go Go.RowKit

section
variable {P : Program} {w : World} {env : Env} {o : Oper}

/-- An element's address in an array that is a variable of a package. -/
theorem ST.indexG {xs : List (List UInt8)} {g n : Nat} {k : IntKind} {i : Int} {x : List UInt8} {t e : TypeId} {X I : Operand} {inf : TypeInfo} (hx : idx xs i = some x) (ho : o.op = .indexAddr t X I) (hX : rho env X = .pointer (some ⟨g, 0, none⟩)) (hI : rho env I = .int k i)
    (ht : P.underlying t = some (.array n e)) (hn : n = xs.length) (hi : P.info? e = some inf) (hsz : inf.size = 1) : ST P w env o (.pointer (some (at_ (some ⟨g, 0, none⟩) (i.toNat * 1)))) := by
  intro w' _
  obtain ⟨h0, h1, h2⟩ := idx_some hx
  have hlt : i < (n : Int) := by omega
  have hadd := add_at (⟨g, 0, none⟩ : Addr) (i.toNat * 1) rfl
  unfold execOp; rw [ho]
  simp only [hX, hI, Instr.indexAt, Instr.sureAddr, asIntOf, Sem.run_bind, Sem.run_pure, Result.andThen_ok, run_underlying ht, h0, hlt, and_self, if_true, run_sizeOf' hi, hsz, hadd]
  simp [at_, ba]

/-- All of such an array, as a slice. -/
theorem ST.sliceG {g n : Nat} {t e : TypeId} {X : Operand} {inf : TypeInfo} (ho : o.op = .slice t X none none none) (hX : rho env X = .pointer (some ⟨g, 0, none⟩)) (ht : P.underlying t = some (.array n e)) (hi : P.info? e = some inf) : ST P w env o (.slice (some ⟨g, 0, none⟩) n n) := by
  intro w' _
  have hb := run_bounds (P := P) (isSlice := false) (len := n) (cap := n) (lo := none) (hi := none) (env := env) (i := 0) (j := (n : Int)) (Nat.le_refl _) rfl rfl (by omega) (by omega) (by omega) w'
  have hadd := add_at (⟨g, 0, none⟩ : Addr) (0 * inf.size) rfl
  unfold execOp; rw [ho]
  simp only [Option.map_none] at hb
  simp only [hX, Instr.sliceAt, Instr.sureAddr, Sem.run_bind, Sem.run_pure, Result.andThen_ok, run_underlying ht, Option.map_none, hb, Int.toNat_natCast, Int.toNat_zero, run_sizeOf' hi, hadd]
  simp

/-- An array that reads as these texts holds them, cell for cell. -/
theorem cells_of_strs {H : Type} {enc : TypeId × Value → H} {base : Nat} {sp : Nat → Bool} {held : Bool} {fuel : Nat} {t e : TypeId} {n : Nat} {cs : List Value} {ss : List (List UInt8)} {p : List MemPlace}
    (ht : P.underlying t = some (.array n e)) (he : P.underlying e = some .string) (hce : P.cellsOf e = 1) (hct : P.cellsOf t = n)
    (h : DataW.trod enc P w base sp held fuel t cs = some (.agg (ss.map fun s => .lit (.string s)), p)) : cs = ss.map fun s => Value.string (bs s) := by
  cases fuel with
  | zero => simp [DataW.trod] at h
  | succ fuel =>
    simp only [DataW.trod, ht, hce, hct, Nat.mul_one] at h
    split at h
    · rename_i hl
      obtain ⟨xs, hm, hx⟩ := Option.map_eq_some_iff.1 h
      have hxs : xs.map (·.1) = ss.map fun s => (DataW.lit (.string s) : DataW H) := by
        have := congrArg Prod.fst hx
        simpa using this
      have hxl : xs.length = n := by simpa using Lib.mapM_length hm
      have hzl : ss.length = n := by
        have := congrArg List.length hxs
        simp at this
        omega
      apply List.ext_getElem?
      intro i
      by_cases hi : i < n
      · obtain ⟨b, hb, hf⟩ := Lib.mapM_at hm i i (by simp [hi])
        obtain ⟨s, hc, rfl, _⟩ := DataW.trod_string he hf
        have h1 : cs[i]? = some (.string s) := by
          have := congrArg (·[0]?) hc
          simpa [List.getElem?_take, List.getElem?_drop] using this
        have h2 : (xs.map (·.1))[i]? = some (DataW.lit (.string s.data.toList) : DataW H) := by simp [hb]
        rw [hxs] at h2
        simp only [List.getElem?_map, Option.map_eq_some_iff, DataW.lit.injEq, Lit.string.injEq] at h2
        obtain ⟨z', hz', e'⟩ := h2
        rw [h1, List.getElem?_map, hz', Option.map_some, e', ← bs_eq]
      · rw [List.getElem?_eq_none (by omega), List.getElem?_eq_none (by simp; omega)]
    · cases h

/-- From a row's condition: what the variable holds. -/
theorem strs_of_head {name : String} {ss : List (List UInt8)} {rest : List (String × DataW Unit)} {g : Nat} {t e : TypeId} {n : Nat} {d : DataW Unit}
    (hg : P.globalNamed name = some g) (hty : (P.globals[g]?).map (·.type) = some t) (ht : P.underlying t = some (.array n e)) (he : P.underlying e = some .string) (hce : P.cellsOf e = 1) (hct : P.cellsOf t = n)
    (hd : d = .agg (ss.map fun s => .lit (.string s))) (h : laidMet P ((name, d) :: rest) w) : w.var? P name = some (ss.map fun s => Value.string (bs s)).toArray := by
  subst hd
  obtain ⟨ps, ⟨g', t', cs, fuel, p, q, hg', ht', hvar, hd, _, _⟩, _⟩ := h
  obtain rfl := Option.some.inj (hg.symm.trans hg')
  obtain rfl := Option.some.inj (hty.symm.trans ht')
  rw [hvar, ← cells_of_strs ht he hce hct hd]

/-- Such a variable may be read as a row. -/
theorem rd_of_var {name : String} {ss : List (List UInt8)} {g : Nat} (hg : P.globalNamed name = some g) (h : w.var? P name = some (ss.map fun s => Value.string (bs s)).toArray) : Rd fStr.ty w (some ⟨g, 0, none⟩) ss := by
  intro i x hx
  have hc : w.cell? ⟨g, i, none⟩ = some (.string (bs x)) := by
    rw [World.var?_cell hg h i]
    simp [hx]
  have hl : g < w.heap.size := World.block_lt_of_cell? w ⟨g, i, none⟩ hc
  refine ⟨rfl, hl, [.string (bs x)], rfl, fun j v hj => ?_⟩
  cases j with
  | zero =>
    simp only [List.getElem?_cons_zero, Option.some.injEq] at hj
    subst hj
    have e : at_ (some ⟨g, 0, none⟩) (i * fStr.ty.sz + 0) = ⟨g, i, none⟩ := by simp [at_, ba, Fl.ty, fStr]
    rw [e]; exact hc
  | succ j => simp at hj

theorem var_ext {name : String} {g : Nat} {cs : Array Value} {w' : World} (hg : P.globalNamed name = some g) (h : w.var? P name = some cs) (hE : Ext w w') : w'.var? P name = some cs := by
  simp only [World.var?, hg, Option.bind_some] at h ⊢
  have hl : g < w.heap.size := by
    rcases Nat.lt_or_ge g w.heap.size with hl | hl
    · exact hl
    · simp [Array.getElem?_eq_none hl] at h
  rw [hE.block g hl]; exact h

end
end Go.Gv
