/- Single operations for the small program logic: what an operation that only reads gives, in every world in which nothing has turned; and the operations that make or write memory. No program is named here. -/
import Derived.Test.YtkpdicajinionaaGreatDoorGm
namespace Go.Gv
open Go Go.RowKit

/-! ### Models: small words -/

abbrev wI64 (n : Int) : Int := IntKind.i64.wrap n

inductive Step (σ τ : Type) where
  | next (s : σ)
  | done (t : τ)

def loopN {σ τ : Type} (body : σ → Option (Step σ τ)) : Nat → σ → Option τ
  | 0, _ => none
  | n + 1, s => (body s).bind fun
    | .next s' => loopN body n s'
    | .done t => some t

def afterN {σ τ : Type} (body : σ → Option (Step σ τ)) (n : Nat) (t : τ) : Step σ τ → Prop
  | .next s' => loopN body n s' = some t
  | .done t' => t' = t

theorem loopN_some {σ τ : Type} {body : σ → Option (Step σ τ)} {n : Nat} {s : σ} {t : τ} (h : loopN body n s = some t) :
    ∃ m r, n = m + 1 ∧ body s = some r ∧ afterN body m t r := by
  cases n with
  | zero => simp [loopN] at h
  | succ m =>
    simp only [loopN, Option.bind_eq_some_iff] at h
    obtain ⟨r, h1, h2⟩ := h
    exact ⟨m, r, rfl, h1, by cases r <;> simpa [afterN] using h2⟩

theorem afterN_done {σ τ : Type} {body : σ → Option (Step σ τ)} {n : Nat} {t t' : τ} (h : afterN body n t (.done t')) : t' = t := h

def imin (x y : Int) : Int := if y < x then y else x
def imax (x y : Int) : Int := if y > x then y else x
def iand (k : IntKind) (x y : Int) : Int := k.wrap ((BitVec.ofInt k.bits x &&& BitVec.ofInt k.bits y).toNat : Int)
def ior (k : IntKind) (x y : Int) : Int := k.wrap ((BitVec.ofInt k.bits x ||| BitVec.ofInt k.bits y).toNat : Int)
def ixor (k : IntKind) (x y : Int) : Int := k.wrap ((BitVec.ofInt k.bits x ^^^ BitVec.ofInt k.bits y).toNat : Int)

theorem bindE {α β : Type} {o : Option α} {f : α → Option β} {r : β} (h : o.bind f = some r) : ∃ x, o = some x ∧ f x = some r := by
  cases o with
  | none => simp at h
  | some x => exact ⟨x, rfl, h⟩

theorem iteT {α : Type} {b : Bool} {x y : Option α} {r : α} (h : (if b then x else y) = some r) (hb : b = true) : x = some r := by subst hb; simpa using h
theorem iteF {α : Type} {b : Bool} {x y : Option α} {r : α} (h : (if b then x else y) = some r) (hb : b = false) : y = some r := by subst hb; simpa using h

/-- s[lo:hi] of a string or of a slice within its length. -/
def sub {α : Type} (l : List α) (lo hi : Int) : Option (List α) :=
  if 0 ≤ lo ∧ lo ≤ hi ∧ hi ≤ (l.length : Int) then some ((l.take hi.toNat).drop lo.toNat) else none

def big : Nat := 4294967296
def app {α : Type} (xs ys : List α) : Option (List α) := if xs.length + ys.length ≤ big then some (xs ++ ys) else none
def mk {α : Type} (z : α) (n : Int) : Option (List α) := if 0 ≤ n ∧ n ≤ (big : Int) then some (List.replicate n.toNat z) else none
def quo (k : IntKind) (x y : Int) : Option Int := if y = 0 then none else some (k.wrap (x.tdiv y))
def rem (x y : Int) : Option Int := if y = 0 then none else some (x.tmod y)
def shl (k : IntKind) (x y : Int) : Option Int := if y < 0 then none else some (k.wrap (x * 2 ^ (min y.toNat k.bits)))
def shr (k : IntKind) (x y : Int) : Option Int := if y < 0 then none else some (x.fdiv (2 ^ (min y.toNat k.bits)))
def strLt (x y : List UInt8) : Bool := Op.bytesLess x y
def ofBytes (xs : List Int) : List UInt8 := xs.map fun n => UInt8.ofNat n.toNat
def toBytes (l : List UInt8) : List Int := l.map fun b => (b.toNat : Int)

/-! ### Operations that only read -/

/-- In every world in which nothing has turned the operation gives 'v'. -/
def ST (P : Program) (w : World) (env : Env) (o : Oper) (v : Value) : Prop := ∀ w', Ext w w' → (execOp (rho env) o).run P w' = .ok (.value v) w'

section
variable {P : Program} {ops : Array Oper} {Q : Exit → Act → World → Prop} {N : Nat} {env env' : Env} {w w' : World} {l rest : List Oper} {o : Oper}

theorem WL.st (v : Value) (hst : ST P w env o v) (hw : want ops env o = some true) (hk : known env o = true) (hp : putO N env o v = some env') (h : WL P ops Q N rest env' w) :
    WL P ops Q N (o :: rest) env w := WL.val v w hw hk (hst w (Ext.refl w)) hp h

theorem run_sizeOf' {e : TypeId} {inf : TypeInfo} (hi : P.info? e = some inf) (w : World) : (sizeOf e).run P w = .ok inf.size w := by
  simp [sizeOf, typeInfo, hi]

theorem add_at (a : Addr) (n : Nat) (h : a.spot = none) : a.add n = ⟨a.block, a.off + n, none⟩ := by
  obtain ⟨b, o, s⟩ := a
  simp only at h; subst h
  unfold Addr.add; split
  · rename_i h; simp [h]
  · rfl

/-- An operation at an address in a slice's array. -/
theorem ST.index {α : Type} {T : Ty α} {xs : List α} {a : Option Addr} {c : Nat} {k : IntKind} {i : Int} {x : α} {t e : TypeId} {X I : Operand} {inf : TypeInfo}
    (hR : Rd T w a xs) (hx : idx xs i = some x) (ho : o.op = .indexAddr t X I) (hX : rho env X = .slice a xs.length c) (hI : rho env I = .int k i)
    (ht : P.underlying t = some (.slice e)) (hi : P.info? e = some inf) (hsz : inf.size = T.sz) : ST P w env o (.pointer (some (at_ a (i.toNat * T.sz)))) := by
  intro w' hE
  obtain ⟨h0, h1, h2⟩ := idx_some hx
  obtain ⟨ha, _, _⟩ := hR _ _ h2
  unfold execOp
  rw [ho]
  simp only [hX, hI]
  have hlt : i < (xs.length : Int) := by omega
  have hadd := add_at (at_ a 0) (i.toNat * T.sz) rfl
  rw [ha]
  simp only [Instr.indexAt, asIntOf, Sem.run_bind, Sem.run_pure, Result.andThen_ok, run_underlying ht, h0, hlt, and_self, if_true, run_sizeOf' hi, hsz, hadd]
  simp [at_, ba]

theorem run_loadVar_one {t : TypeId} {u : TypeDesc} {p : Addr} {v : Value} (ht : P.underlying t = some u) (hu : (match u with | .struct _ | .array _ _ => false | _ => true) = true) (hc : w.cell? p = some v) :
    (loadVar t p).run P w = .ok v w := by
  unfold loadVar isAgg
  cases u <;> simp_all [run_underlying ht, load, Sem.run]

theorem ST.load {t : TypeId} {u : TypeDesc} {X : Operand} {p : Addr} {v : Value} (hc : ∀ w', Ext w w' → w'.cell? p = some v) (ho : o.op = .load t X) (hX : rho env X = .pointer (some p))
    (ht : P.underlying t = some u) (hu : (match u with | .struct _ | .array _ _ => false | _ => true) = true) : ST P w env o v := by
  intro w' hE
  unfold execOp
  rw [ho]
  simp only [hX, Instr.loadAt, Instr.sureAddr, Sem.run_bind, Sem.run_pure, Result.andThen_ok, run_loadVar_one ht hu (hc w' hE)]

theorem cell_ext {p : Addr} {v : Value} (hc : w.cell? p = some v) : ∀ w', Ext w w' → w'.cell? p = some v := fun w' hE => by
  rw [cell_same (hE.block p.block (World.block_lt_of_cell? w p hc))]; exact hc

/-- A struct or an array, whole. -/
theorem ST.loadAgg {t : TypeId} {u : TypeDesc} {inf : TypeInfo} {X : Operand} {p : Addr} {vs : List Value} (hc : ∀ j v, vs[j]? = some v → w.cell? ⟨p.block, p.off + j, none⟩ = some v) (ho : o.op = .load t X)
    (hX : rho env X = .pointer (some p)) (hp : p.spot = none) (ht : P.underlying t = some u) (hu : (match u with | .struct _ | .array _ _ => false | _ => true) = false) (hi : P.info? t = some inf) (hsz : inf.size = vs.length) :
    ST P w env o (.agg vs.toArray) := by
  intro w' hE
  have hl := run_loadCells_list (P := P) w' p vs fun j v hv => by
    have h2 := hc j v hv
    have h3 := cell_ext h2 w' hE
    have : p.add j = ⟨p.block, p.off + j, none⟩ := by
      obtain ⟨b, of, sp⟩ := p
      simp only at hp; subst hp
      unfold Addr.add; split
      · rename_i h; simp [h]
      · rfl
    rw [this]; exact h3
  unfold execOp
  rw [ho]
  simp only [hX, Instr.loadAt, Instr.sureAddr, Sem.run_bind, Sem.run_pure, Result.andThen_ok, loadVar, isAgg, run_underlying ht]
  cases u <;> simp_all [sizeOf, typeInfo]

/-- A byte of a string. -/
theorem ST.sindex {l : List UInt8} {k : IntKind} {i : Int} {b : UInt8} {t : TypeId} {X I : Operand} (hx : idx l i = some b) (ho : o.op = .index t X I) (hX : rho env X = .string (bs l)) (hI : rho env I = .int k i)
    (ht : P.underlying t = some .string) : ST P w env o (.int .u8 (b.toNat : Int)) := by
  intro w' hE
  obtain ⟨h0, h1, h2⟩ := idx_some hx
  have hg : (bs l)[i.toNat]? = some b := by
    rw [List.getElem?_eq_getElem h1] at h2
    have hs : i.toNat < (bs l).size := by simpa [bs, ByteArray.size] using h1
    rw [getElem?_pos (bs l) i.toNat hs]
    simpa [bs, ByteArray.getElem_eq_getElem_data] using h2
  unfold execOp
  rw [ho]
  simp only [hX, hI, Instr.index, asIntOf, Sem.run_bind, Sem.run_pure, Result.andThen_ok, run_underlying ht, h0, if_true, hg]

/-- An element of an array that is a value. -/
theorem ST.aindex {α : Type} {F : Fl α} {xs : List α} {k : IntKind} {i : Int} {x : α} {t e n : TypeId} {u : TypeDesc} {inf : TypeInfo} {X I : Operand} (h1 : F.sz = 1) (hx : idx xs i = some x) (ho : o.op = .index t X I)
    (hX : rho env X = .agg (xs.flatMap F.leaf).toArray) (hI : rho env I = .int k i) (ht : P.underlying t = some (.array n e)) (hn : n = xs.length) (he : P.underlying e = some u)
    (hu : (match u with | .struct _ | .array _ _ => false | _ => true) = true) (hi : P.info? e = some inf) (hsz : inf.size = F.sz) (v : Value) (hv : F.leaf x = [v]) : ST P w env o v := by
  intro w' hE
  obtain ⟨g0, g1, g2⟩ := idx_some hx
  have hcell : (xs.flatMap F.leaf)[i.toNat]? = some v := by
    have key : ∀ (xs : List α) (j : Nat), xs[j]? = some x → (xs.flatMap F.leaf)[j]? = some v := by
      intro xs
      induction xs with
      | nil => intro j h; simp at h
      | cons y ys ih =>
        intro j h
        have hl : (F.leaf y).length = 1 := by rw [F.len, h1]
        match hy : F.leaf y, hl with
        | [u], _ =>
          cases j with
          | zero => simp at h; subst h; rw [hv] at hy; cases hy; simp [hv]
          | succ j => simp only [List.getElem?_cons_succ] at h; simp [hy, ih j h]
    exact key xs _ g2
  have hlt : i < (n : Int) := by rw [hn]; omega
  unfold execOp
  rw [ho]
  simp only [hX, hI, Instr.index, asIntOf, Sem.run_bind, Sem.run_pure, Result.andThen_ok, run_underlying ht, g0, hlt, and_self, if_true, run_sizeOf' hi, hsz, h1, Nat.mul_one, part, isAgg, run_underlying he]
  cases u <;> simp_all

theorem bs_extract (l : List UInt8) (i j : Nat) : (bs l).extract i j = bs ((l.take j).drop i) := by
  apply ByteArray.ext
  simp [bs, ByteArray.data_extract, List.extract_eq_take_drop, List.drop_take]

theorem bs_toList (l : List UInt8) : (bs l).toList = l := by
  rw [ByteArray.toList_eq]

/-! strings -/

theorem ST.streq {x y : List UInt8} {t t' : TypeId} {X Y : Operand} (ho : o.op = .binOp .eql t X Y t') (hX : rho env X = .string (bs x)) (hY : rho env Y = .string (bs y)) :
    ST P w env o (.bool (x == y)) := by
  intro w' _
  unfold execOp; rw [ho]
  simp only [hX, hY, eqGuard, binOp, Op.stringOp, bs_toList, Sem.run_bind, Sem.run_pure, Result.andThen_ok]
  simp

theorem ST.strne {x y : List UInt8} {t t' : TypeId} {X Y : Operand} (ho : o.op = .binOp .neq t X Y t') (hX : rho env X = .string (bs x)) (hY : rho env Y = .string (bs y)) :
    ST P w env o (.bool (!(x == y))) := by
  intro w' _
  unfold execOp; rw [ho]
  simp only [hX, hY, eqGuard, binOp, Op.stringOp, bs_toList, Sem.run_bind, Sem.run_pure, Result.andThen_ok]
  simp

theorem ST.strge {x y : List UInt8} {t t' : TypeId} {X Y : Operand} (ho : o.op = .binOp .geq t X Y t') (hX : rho env X = .string (bs x)) (hY : rho env Y = .string (bs y)) :
    ST P w env o (.bool (!strLt x y)) := by
  intro w' _
  unfold execOp; rw [ho]
  simp [hX, hY, eqGuard, binOp, Op.stringOp, bs_toList, strLt]

theorem ST.strlt {x y : List UInt8} {t t' : TypeId} {X Y : Operand} (ho : o.op = .binOp .lss t X Y t') (hX : rho env X = .string (bs x)) (hY : rho env Y = .string (bs y)) :
    ST P w env o (.bool (strLt x y)) := by
  intro w' _
  unfold execOp; rw [ho]
  simp [hX, hY, eqGuard, binOp, Op.stringOp, bs_toList, strLt]

theorem ST.strgt {x y : List UInt8} {t t' : TypeId} {X Y : Operand} (ho : o.op = .binOp .gtr t X Y t') (hX : rho env X = .string (bs x)) (hY : rho env Y = .string (bs y)) :
    ST P w env o (.bool (!(strLt x y || x == y))) := by
  intro w' _
  unfold execOp; rw [ho]
  simp [hX, hY, eqGuard, binOp, Op.stringOp, bs_toList, strLt]

theorem ST.cat {x y z : List UInt8} {t t' : TypeId} {X Y : Operand} (hz : app x y = some z) (ho : o.op = .binOp .add t X Y t') (hX : rho env X = .string (bs x)) (hY : rho env Y = .string (bs y)) :
    ST P w env o (.string (bs z)) := by
  intro w' _
  unfold app at hz
  split at hz
  · rename_i hlen
    cases hz
    have h1 : ¬ (((bs x).size + (bs y).size : Nat) : Int) > IntKind.i64.max := by
      have e1 : (bs x).size = x.length := by simp [bs, ByteArray.size]
      have e2 : (bs y).size = y.length := by simp [bs, ByteArray.size]
      rw [e1, e2]
      have : IntKind.i64.max = 9223372036854775807 := by decide
      rw [this]; simp only [big] at hlen; omega
    have h2 : bs x ++ bs y = bs (x ++ y) := by apply ByteArray.ext; simp [bs, ByteArray.data_append]
    unfold execOp; rw [ho]
    simp only [hX, hY, eqGuard, binOp, Op.stringOp, Sem.run_bind, Sem.run_pure, Result.andThen_ok]
    rw [if_neg h1, h2]
    simp
  · cases hz

theorem ST.quo {k : IntKind} {x y z : Int} {t t' : TypeId} {X Y : Operand} (hz : Gv.quo k x y = some z) (ho : o.op = .binOp .quo t X Y t') (hX : rho env X = .int k x) (hY : rho env Y = .int k y) :
    ST P w env o (.int k z) := by
  intro w' _
  unfold Gv.quo at hz
  split at hz
  · cases hz
  · rename_i h; cases hz
    unfold execOp; rw [ho]
    simp [hX, hY, eqGuard, binOp, Op.intDiv, h]

theorem ST.rem {k : IntKind} {x y z : Int} {t t' : TypeId} {X Y : Operand} (hz : Gv.rem x y = some z) (ho : o.op = .binOp .rem t X Y t') (hX : rho env X = .int k x) (hY : rho env Y = .int k y) :
    ST P w env o (.int k z) := by
  intro w' _
  unfold Gv.rem at hz
  split at hz
  · cases hz
  · rename_i h; cases hz
    unfold execOp; rw [ho]
    simp [hX, hY, eqGuard, binOp, Op.intDiv, h]

theorem ST.shl {k k' : IntKind} {x y z : Int} {t t' : TypeId} {X Y : Operand} (hz : Gv.shl k x y = some z) (ho : o.op = .binOp .shl t X Y t') (hX : rho env X = .int k x) (hY : rho env Y = .int k' y) :
    ST P w env o (.int k z) := by
  intro w' _
  unfold Gv.shl at hz
  split at hz
  · cases hz
  · rename_i h; cases hz
    unfold execOp; rw [ho]
    simp [hX, hY, eqGuard, binOp, Op.shift, h]

theorem ST.shr {k k' : IntKind} {x y z : Int} {t t' : TypeId} {X Y : Operand} (hz : Gv.shr k x y = some z) (ho : o.op = .binOp .shr t X Y t') (hX : rho env X = .int k x) (hY : rho env Y = .int k' y) :
    ST P w env o (.int k z) := by
  intro w' _
  unfold Gv.shr at hz
  split at hz
  · cases hz
  · rename_i h; cases hz
    unfold execOp; rw [ho]
    simp [hX, hY, eqGuard, binOp, Op.shift, h]

/-- A slice's bounds, as they are written: what is left out is the beginning or the end. -/
def boundV (env : Env) (d : Int) (x : Option Operand) (i : Int) : Prop := match x with
  | none => i = d
  | some X => ∃ k, rho env X = .int k i

theorem run_bounds {isSlice : Bool} {len cap : Nat} {lo hi : Option Operand} {i j : Int} (hle : len ≤ cap) (hlo : boundV env 0 lo i) (hhi : boundV env (len : Int) hi j) (h1 : 0 ≤ i) (h2 : i ≤ j) (h3 : j ≤ (len : Int)) (w : World) :
    (Instr.sliceBounds isSlice len cap (lo.map (rho env)) (hi.map (rho env)) none).run P w = .ok (i.toNat, j.toNat, cap) w := by
  have g0 : (0 : Int) ≤ j := by omega
  have g1 : j ≤ (cap : Int) := by omega
  have g2 : i ≤ ((j.toNat : Nat) : Int) := by omega
  cases lo <;> cases hi <;> simp only [boundV] at hlo hhi <;> (try obtain ⟨k1, hlo⟩ := hlo) <;> (try obtain ⟨k2, hhi⟩ := hhi) <;>
    simp_all [Instr.sliceBounds, Instr.sliceBound, asIntOf]

theorem ST.ssub {l l' : List UInt8} {i j : Int} {t : TypeId} {X : Operand} {lo hi : Option Operand} (hs : Gv.sub l i j = some l') (ho : o.op = .slice t X lo hi none) (hX : rho env X = .string (bs l))
    (ht : P.underlying t = some .string) (hlo : boundV env 0 lo i) (hhi : boundV env (l.length : Int) hi j) : ST P w env o (.string (bs l')) := by
  intro w' _
  unfold Gv.sub at hs
  split at hs
  · rename_i h
    cases hs
    have e1 : (bs l).size = l.length := by simp [bs, ByteArray.size]
    have hb := run_bounds (P := P) (isSlice := false) (len := (bs l).size) (cap := (bs l).size) (Nat.le_refl _) hlo (by rw [e1]; exact hhi) h.1 h.2.1 (by rw [e1]; exact h.2.2) w'
    unfold execOp; rw [ho]
    simp only [hX, Instr.sliceAt, Sem.run_bind, run_underlying ht, Result.andThen_ok, Instr.slice, Option.map_none, Option.isSome_none, Bool.false_eq_true, if_false, Sem.run_pure, hb, bs_extract]
  · cases hs

/-- A part of a slice that is read: its own address and capacity. -/
theorem ST.rsub {α : Type} {T : Ty α} {w0 : World} {xs ys : List α} {a : Option Addr} {c : Nat} {i j : Int} {t e : TypeId} {inf : TypeInfo} {X : Operand} {lo hi : Option Operand} (hR : Rd T w0 a xs) (_hE : Ext w0 w) (hc : xs.length ≤ c) (hs : Gv.sub xs i j = some ys)
    (ho : o.op = .slice t X lo hi none) (hX : rho env X = .slice a xs.length c)
    (ht : P.underlying t = some (.slice e)) (hi' : P.info? e = some inf) (hsz : inf.size = T.sz) (hlo : boundV env 0 lo i) (hhi : boundV env (xs.length : Int) hi j) :
    ∃ a' c', ST P w env o (.slice a' ys.length c') ∧ Rd T w0 a' ys ∧ ys.length ≤ c' := by
  unfold Gv.sub at hs
  split at hs
  · rename_i h
    cases hs
    have hlen : ((xs.take j.toNat).drop i.toNat).length = j.toNat - i.toNat := by simp; omega
    refine ⟨if c = i.toNat then a else a.map (·.add (i.toNat * T.sz)), c - i.toNat, ?_, ?_, by rw [hlen]; omega⟩
    · intro w' _
      have hb := run_bounds (P := P) (isSlice := true) (len := xs.length) (cap := c) hc hlo hhi h.1 h.2.1 h.2.2 w'
      unfold execOp; rw [ho]
      simp only [hX, Instr.sliceAt, Sem.run_bind, run_underlying ht, Result.andThen_ok, Instr.slice, Option.map_none, hb, run_sizeOf' hi', hsz, Sem.run_pure, hlen]
    · intro m x hm
      have hm2 : xs[i.toNat + m]? = some x := by
        rw [List.getElem?_drop, List.getElem?_take] at hm
        split at hm
        · exact hm
        · cases hm
      obtain ⟨h1, h2, vs, h3, h4⟩ := hR _ x hm2
      have hlt : i.toNat + m < xs.length := by
        rcases Nat.lt_or_ge (i.toNat + m) xs.length with hl | hl
        · exact hl
        · simp [List.getElem?_eq_none hl] at hm2
      have hne : ¬ c = i.toNat := by omega
      rw [if_neg hne]
      have hadd := add_at (at_ a 0) (i.toNat * T.sz) rfl
      have ha : a.map (·.add (i.toNat * T.sz)) = some ⟨(ba a).block, (ba a).off + i.toNat * T.sz, none⟩ := by
        rw [h1]; simp only [Option.map_some, hadd]; simp [at_, ba]
      refine ⟨by rw [ha]; simp [at_, ba], by rw [ha]; simpa [ba] using h2, vs, h3, fun j' v hv => ?_⟩
      have h5 := h4 j' v hv
      rw [ha]
      have : (at_ (some ⟨(ba a).block, (ba a).off + i.toNat * T.sz, none⟩) (m * T.sz + j')) = at_ a ((i.toNat + m) * T.sz + j') := by
        simp [at_, ba, Nat.add_mul]; omega
      rw [this]; exact h5
  · cases hs

/-- A string out of bytes. -/
theorem ST.b2s {xs : List Int} {a : Option Addr} {c : Nat} {t t' e : TypeId} {X : Operand} (hR : Rd fU8.ty w a xs) (h0 : a = none → xs = []) (ho : o.op = .convert t t' X) (hX : rho env X = .slice a xs.length c)
    (ht : P.underlying t = some (.slice e)) (ht' : P.underlying t' = some .string) (he : P.underlying e = some (.int .u8)) : ST P w env o (.string (bs (ofBytes xs))) := by
  intro w' hE
  unfold execOp; rw [ho]
  simp only [hX, Sem.run_bind, convert, run_underlying ht, run_underlying ht', run_underlying he, Result.andThen_ok]
  have hfold : ∀ (ns : List Int) (r : ByteArray), ns.foldl (fun r n => r.push (UInt8.ofNat n.toNat)) r = ⟨r.data ++ (ofBytes ns).toArray⟩ := by
    intro ns
    induction ns with
    | nil => intro r; simp [ofBytes]
    | cons n ns ih => intro r; rw [List.foldl_cons, ih]; simp [ofBytes, ByteArray.push]
  cases a with
  | none => have := h0 rfl; subst this; simp [Conv.bytesToString, ofBytes]; rfl
  | some p =>
    have hl : (loadCells p xs.length).run P w' = .ok (xs.map (Value.int .u8)).toArray w' := by
      have := run_loadCells_list (P := P) w' p (xs.map (Value.int .u8)) fun j v hv => by
        simp only [List.getElem?_map, Option.map_eq_some_iff] at hv
        obtain ⟨n, hn, rfl⟩ := hv
        obtain ⟨h1, h2, vs, h3, h4⟩ := hR j n hn
        have h5 := h4 0 (.int .u8 n) (by rw [show vs = [.int .u8 n] from h3]; rfl)
        have h6 := cell_ext h5 w' hE
        have hadd := add_at (at_ (some p) 0) j rfl
        have e1 : p = at_ (some p) 0 := by simpa using h1
        rw [e1, hadd]
        simpa [at_, ba, Fl.ty, fU8] using h6
      simpa using this
    have := run_bytesToString (P := P) w' p xs.length c xs hl
    simp only [this, Result.andThen_ok, hfold, Sem.run_pure]
    simp [bs]

end
end Go.Gv
