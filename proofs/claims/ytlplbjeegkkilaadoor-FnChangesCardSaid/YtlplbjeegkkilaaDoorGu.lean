/- A range over a function of two loop variables: its rounds in one's own logic; what a round keeps; the way out with a mark. No program is named here. -/
import Derived.Test.YtlplbjeegkkilaaDoorGz
import Derived.RangeFuncNested
import Derived.RangeFuncLeaves
import Derived.TacticsIn
namespace Go.Gv
open Go Go.RowKit

/-! ### Lists of operations where all may be called -/

def OpenF (F : Fence) : Prop := F = Fence.wide ∨ ∃ l, F = Fence.wide.inRound l

def nodef : List Oper → Bool
  | [] => true
  | o :: r => (match o.op with | .defer _ => false | _ => true) && nodef r

section
variable {P : Program} {ops : Array Oper} {Q : Exit → Act → World → Prop} {N : Nat} {env env' : Env} {w w' : World} {l rest : List Oper} {o : Oper} {F : Fence} {n : Nat}

theorem OpenF.calls (hF : OpenF F) {f : FuncId} {args : Array Value} {R : Ending → World → Prop} (h : Calls P f args w R) : CallsIn F n P f args w R := by
  rcases hF with rfl | ⟨l, rfl⟩
  · exact callsIn_wide.2 h
  · exact CallsIn.inRound l (callsIn_wide.2 h)

theorem OpenF.rows (hF : OpenF F) {row : String} {args : Array Value} {R : Value → World → Prop} (h : Rows P row args w R) : RowsIn F n P row args w R := by
  have : RowsIn Fence.wide n P row args w R := fun c cs _ => let ⟨v, w', r, s⟩ := h c cs; ⟨v, w', r, stepsIn_wide.2 s⟩
  rcases hF with rfl | ⟨l, rfl⟩
  · exact this
  · exact this

theorem OpenF.fn (hF : OpenF F) (f : FuncId) : F.fn f := by
  rcases hF with rfl | ⟨l, rfl⟩ <;> exact trivial

theorem OpenF.depth (hF : OpenF F) : F.depth.isSome = true → 1 ≤ n := by
  rcases hF with rfl | ⟨l, rfl⟩ <;> exact fun h => by simp [Fence.wide] at h

theorem OpenF.sem (hF : OpenF F) (ρ : Operand → Value) (hd : ∀ c, o.op ≠ .defer c) : Oper.semAt F.round ρ o = execOp ρ o := by
  rcases hF with rfl | ⟨l, rfl⟩
  · exact Oper.semAt_none _ _
  · exact Oper.semAt_some l ρ o hd

theorem upon_in (hF : OpenF F) {K : Act → World → Prop} (hQ : ∀ a w, ¬ Q .outgrown a w) {a : Act} {next next' : Act → World → Prop} (hn : ∀ a w, next a w → next' a w) {r : Result Next}
    (h : o.upon P a next (Exit.then K Q) r) : o.uponIn F n P a next' Q r := by
  cases r with
  | ok v w1 =>
    cases v with
    | value v => exact hn _ _ h
    | skip => exact hn _ _ h
    | defer d => exact hn _ _ h
    | enter f args =>
      refine ⟨hF.depth, (hF.calls h).mono fun e w2 h2 => ?_⟩
      cases e with
      | returned v => exact hn _ _ h2
      | panicked chain => exact h2
      | outgrown => obtain ⟨a0, w0, hq⟩ := h2; exact (hQ a0 w0 hq).elim
    | row row args => exact ⟨hF.depth, (hF.rows h).mono fun v w2 h2 => hn _ _ h2⟩
    | _ => exact (show False from h).elim
  | halt x w1 =>
    cases x with
    | panic v => exact h
    | _ => exact (show False from h).elim

theorem nodef_cons (h : nodef (o :: l) = true) : (∀ c, o.op ≠ .defer c) ∧ nodef l = true := by
  simp only [nodef, Bool.and_eq_true] at h
  refine ⟨fun c e => ?_, h.2⟩
  rw [e] at h; exact absurd h.1 (by simp)

theorem wpListIn_of (hF : OpenF F) (hQ : ∀ a w, ¬ Q .outgrown a w) (rest : List Oper) : ∀ (l : List Oper), nodef l = true → ∀ (a : Act) (w : World),
    wpList P ops (Exit.then (wpListIn F n P ops Q rest) Q) l a w → wpListIn F n P ops Q (l ++ rest) a w
  | [], _, _, _, h => h
  | o :: l, hl, a, w, h => by
    obtain ⟨hd, hl'⟩ := nodef_cons hl
    have ih := wpListIn_of hF hQ rest l hl'
    simp only [wpList] at h
    show wpListIn F n P ops Q (o :: (l ++ rest)) a w
    simp only [wpListIn]
    split at h
    · rename_i hw
      rw [if_pos hw]
      refine ⟨fun f _ => hF.fn f, ?_⟩
      rw [hF.sem _ hd]
      rcases h with h | ⟨_, a0, w0, hq⟩
      · exact upon_in hF hQ ih h
      · exact (hQ a0 w0 hq).elim
    · rename_i hw
      rw [if_neg hw]
      exact ⟨fun f _ => hF.fn f, ih _ _ h⟩

def WLI (F : Fence) (n : Nat) (P : Program) (ops : Array Oper) (Q : Exit → Act → World → Prop) (N : Nat) (l : List Oper) (env : Env) (w : World) : Prop :=
  ∀ fr, Sat N fr env → wpListIn F n P ops Q l ⟨fr, []⟩ w

def WI (F : Fence) (n : Nat) (P : Program) (c : Code) (Q : Exit → Act → World → Prop) (N : Nat) (env : Env) (w : World) : Prop :=
  ∀ fr, Sat N fr env → c.wpIn F n P Q ⟨fr, []⟩ w

/-- The first k operations, as in the plain logic. -/
theorem WLI.of (k : Nat) (hF : OpenF F) (hQ : ∀ a w, ¬ Q .outgrown a w) (hnd : nodef (l.take k) = true)
    (h : WL P ops (Exit.then (wpListIn F n P ops Q (l.drop k)) Q) N (l.take k) env w) : WLI F n P ops Q N l env w := fun fr hs => by
  have := wpListIn_of hF hQ (l.drop k) (l.take k) hnd _ _ (h fr hs)
  rwa [List.take_append_drop] at this

theorem WLI.back (h : WLI F n P ops Q N rest env w) : WQ (Exit.then (wpListIn F n P ops Q rest) Q) .normal N env w := h
theorem WLI.nil (h : WQ Q .normal N env w) : WLI F n P ops Q N [] env w := h

theorem WLI.round {k : Nat} {f : FuncId} {tmps : Array Value} {assign body : Code} {R : Ending → World → Prop} (hF : OpenF F) (hd : nodef [o] = true) (hw : want ops env o = some true) (hk : known env o = true)
    (hr : (execOp (rho env) o).run P w = .ok (.round k f tmps assign body) w) (hR : RoundIn F (n - 1) P k f tmps assign body w R)
    (h : ∀ e w', R e w' → ∃ v env', e = .returned v ∧ putO N env o v = some env' ∧ WLI F n P ops Q N rest env' w') : WLI F n P ops Q N (o :: rest) env w := by
  intro fr hs
  simp only [wpListIn, hs.want hw, if_true]
  refine ⟨fun f _ => hF.fn f, ?_⟩
  rw [hF.sem _ (nodef_cons hd).1]
  have hr' := hr
  rw [← hs.exec (ds := []) hk] at hr'
  rw [hr']
  refine ⟨hF.depth, hR.mono fun e w1 h1 => ?_⟩
  obtain ⟨v, env', rfl, hp, h'⟩ := h e w1 h1
  obtain ⟨fr', he, hs'⟩ := hs.putO hp
  show wpListIn F n P ops Q rest (Act.put ⟨fr, []⟩ o.dst v) w1
  rw [he]
  exact h' fr' hs'

theorem WI.region {id : Nat} {ops : Array Oper} (h : WLI F n P ops Q N ops.toList env w) : WI F n P (.region id ops false) Q N env w := fun fr hs => wpIn_region_list (h fr hs)
theorem WI.block {id : Nat} {c : Code} (h : WI F n P c (Exit.inBlock id Q) N env w) : WI F n P (.block id c) Q N env w := fun fr hs => wpIn_block (h fr hs)
theorem WP.regionIn {id : Nat} {ops : Array Oper} (n : Nat) (h : WLI Fence.wide n P ops Q N ops.toList env w) : WP P (.region id ops false) Q N env w := fun fr hs => wpIn_wide.1 (wpIn_region_list (h fr hs))

/-! ### Deferred calls that lie by -/

def Qd (ds : List Deferred) (Q : Exit → Act → World → Prop) : Exit → Act → World → Prop := fun e a w => Q e { a with defers := a.defers ++ ds } w

theorem upon_more {ds : List Deferred} {a : Act} {next next' : Act → World → Prop} (hn : ∀ a w, next a w → next' { a with defers := a.defers ++ ds } w) {r : Result Next}
    (h : o.upon P a next (Qd ds Q) r) : o.upon P { a with defers := a.defers ++ ds } next' Q r := by
  have hput : ∀ (b : Act) (v : Value), Act.put { b with defers := b.defers ++ ds } o.dst v = { Act.put b o.dst v with defers := (Act.put b o.dst v).defers ++ ds } := fun b v => by
    cases o.dst <;> rfl
  cases r with
  | ok v w1 =>
    cases v with
    | value v => show next' _ _; rw [hput]; exact hn _ _ h
    | skip => show next' _ _; rw [hput]; exact hn _ _ h
    | defer d =>
      show next' (Act.put { tmps := a.tmps, defers := (d :: a.defers) ++ ds } o.dst undef) _
      have := hn _ _ h
      rw [← hput { a with defers := d :: a.defers } undef] at this
      exact this
    | enter f args =>
      refine Calls.mono h fun e w2 h2 => ?_
      cases e with
      | returned v => show next' _ _; rw [hput]; exact hn _ _ h2
      | panicked chain => exact h2
      | outgrown => obtain ⟨a0, w0, hq⟩ := h2; exact ⟨_, w0, hq⟩
    | row row args => exact Rows.mono h fun v w2 h2 => by show next' _ _; rw [hput]; exact hn _ _ h2
    | _ => exact (show False from h).elim
  | halt x w1 =>
    cases x with
    | panic v => exact h
    | _ => exact (show False from h).elim

theorem eval_more (a : Act) (ds : List Deferred) : Act.eval { a with defers := ds } = Act.eval a := by
  funext x; cases x <;> rfl

theorem wpList_more {ds : List Deferred} : ∀ (l : List Oper) (a : Act) (w : World), wpList P ops (Qd ds Q) l a w → wpList P ops Q l { a with defers := a.defers ++ ds } w
  | [], _, _, h => h
  | o :: l, a, w, h => by
    have ih := wpList_more (ds := ds) l
    simp only [wpList] at h ⊢
    split at h
    · rename_i hw
      rw [if_pos hw]
      rcases h with h | ⟨h1, a0, w0, hq⟩
      · left
        have h' : o.upon P a (wpList P ops (Qd ds Q) l) (Qd ds Q) ((execOp a.eval o).run P w) := h
        show o.upon P _ _ Q ((execOp (Act.eval { a with defers := a.defers ++ ds }) o).run P w)
        rw [eval_more]
        exact upon_more ih h'
      · right
        refine ⟨?_, _, w0, hq⟩
        unfold Oper.asks at h1 ⊢
        rw [eval_more]; exact h1
    · rename_i hw
      rw [if_neg hw]
      have := ih _ _ h
      cases hd : o.dst <;> simpa [Act.put, hd] using this

def WPd (P : Program) (c : Code) (Q : Exit → Act → World → Prop) (ds : List Deferred) (N : Nat) (env : Env) (w : World) : Prop := ∀ fr, Sat N fr env → c.wp P Q ⟨fr, ds⟩ w

theorem WPd.seqR {id : Nat} {ops : Array Oper} {y : Code} {ds : List Deferred} (h : WL P ops (Qd ds (Exit.then (y.wp P Q) Q)) N ops.toList env w) : WPd P (.seq (.region id ops false) y) Q ds N env w :=
  fun fr hs => wp_seq (wp_region_list (wpList_more _ ⟨fr, []⟩ w (h fr hs)))

theorem WPd.back {y : Code} {ds : List Deferred} (h : WPd P y Q ds N env w) : WQ (Qd ds (Exit.then (y.wp P Q) Q)) .normal N env w := fun fr hs => h fr hs
theorem WPd.ret {ds : List Deferred} (h : ∀ fr, Sat N fr env → Q .ret ⟨fr, ds⟩ w) : WPd P .ret Q ds N env w := fun fr hs => wp_ret (h fr hs)

theorem WP.seqM {x y : Code} (h : ∀ K : Act → World → Prop, (∀ fr ds w', y.wp P Q ⟨fr, ds⟩ w' → K ⟨fr, ds⟩ w') → WP P x (Exit.then K Q) N env w) : WP P (.seq x y) Q N env w :=
  fun fr hs => wp_seq (h (fun a w => y.wp P Q a w) (fun _ _ _ h' => h') fr hs)

/-! ### The way in and the way out -/

theorem sat_enter {args : Array Value} {M : Nat} (hsz : args.size ≤ M) : ∀ env, holdsArgs args env → Sat M (args ++ Array.replicate (M - args.size) undef) env := by
  intro env
  induction env with
  | nil => exact fun _ => ⟨by simp; omega, fun t v ht => by simp [look] at ht⟩
  | cons p r ih =>
    obtain ⟨t, v⟩ := p
    intro hh
    have h2 := ih hh.2
    refine ⟨h2.size, fun t' v' ht => ?_⟩
    simp only [look] at ht
    cases hb' : Nat.beq t t' <;> simp only [hb'] at ht
    · exact h2.val t' v' ht
    · have e : t = t' := by simpa using hb'
      subst e; cases ht
      have := hh.1
      have hlt : t < args.size := by
        rcases Nat.lt_or_ge t args.size with hlt | hge
        · exact hlt
        · simp [Array.getElem?_eq_none hge] at this
      rw [Array.getElem?_append_left hlt]; exact this

theorem CallV.enterM {f : FuncId} {fn : Func} {c : Code} {args : Array Value} {R : Value → World → Prop} (hf : P.funcs[f]? = some fn) (hb : fn.body = some c)
    (hn : Nat.ble args.size fn.ntmps = true) (hN : fn.ntmps = N) (ha : holdsArgs args env)
    (h : WP P c (bodyPostM Fence.wide 8 P fn fun e w' => ∃ v, e = .returned v ∧ R v w') N env w) : CallV P f args w R := by
  refine callsIn_wide.1 (callsIn_of_wp_marks (F := Fence.wide) (n := 8) hf hb trivial (wpIn_wide.2 (h _ ?_)))
  subst hN
  exact sat_enter (by simpa using hn) env ha

theorem WQ.ret2M {fn : Func} {R : Value → World → Prop} {t u : Nat} (v v2 : Value) (hres : fn.results = #[.tmp t, .tmp u]) (hv : look env t = some v) (hv2 : look env u = some v2) (hR : R (.tuple #[v, v2]) w) :
    WQ (bodyPostM Fence.wide 8 P fn fun e w' => ∃ v, e = .returned v ∧ R v w') .ret N env w := fun fr hs =>
  ⟨_, results_tmp2 hres _ _ _, _, rfl, by rw [hs.getD hv, hs.getD hv2]; exact hR⟩

theorem ret2_mark {fn : Func} {R : Value → World → Prop} {t u D : Nat} {fr : Array Value} (hs : Sat N fr env) (v v2 : Value) (hres : fn.results = #[.tmp t, .tmp u]) (hv : look env t = some v) (hv2 : look env u = some v2)
    (hD : w.heap[D]? = some (.deferred (some []))) (hR : R (.tuple #[v, v2]) (w.putObj D (.deferred none))) :
    bodyPostM Fence.wide 8 P fn (fun e w' => ∃ v, e = .returned v ∧ R v w') .ret ⟨fr, [{ target := .collected D, args := #[] }]⟩ w := by
  refine ⟨by simp, .inl ⟨_, _, rfl, run_takeDeferred hD, ?_⟩⟩
  exact ⟨_, results_tmp2 hres _ _ _, _, rfl, by rw [hs.getD hv, hs.getD hv2]; exact hR⟩

/-! ### What is owned keeps off other blocks -/

def Avoids (w : World) (p : Nat → Prop) (A : Asrt) : Prop := ∀ S, A.on w S → A.on w fun j => S j ∧ ¬ p j

theorem Avoids.box {t : TypeId} {b : Nat} {vs : List Value} {p : Nat → Prop} (h : w.heap[b]? = some (.cells vs.toArray t (0, 0)) → ¬ p b) : Avoids w p (aBox t b vs) := fun _ hA => ⟨⟨hA.1, h hA.2⟩, hA.2⟩

theorem Avoids.own {α : Type} {T : Fl α} {e : TypeId} {a : Option Addr} {c : Nat} {xs : List α} {p : Nat → Prop}
    (h : ∀ g cur, a = some ⟨g, 0, none⟩ → w.heap[g]? = some (.cells cur e (0, 0)) → ¬ p g) : Avoids w p (aOwn T e a c xs) := fun S hA => by
  refine ⟨hA.1, fun k hk => ⟨hA.2 k hk, ?_⟩⟩
  rcases own_shape hA with ⟨rfl, _, _⟩ | ⟨g, cur, rfl, _, hh, _⟩
  · simp [Value.ownBlock] at hk
  · simp [Value.ownBlock] at hk
    subst hk
    exact h _ cur rfl hh

theorem SHp.avoid {p : Nat → Prop} : ∀ {L : List Asrt} {S : Nat → Prop}, (∀ A ∈ L, Avoids w p A) → SHp w L S → SHp w L fun j => S j ∧ ¬ p j
  | [], _, _, _ => trivial
  | A :: L, S, hL, ⟨S1, S2, h1, h2, h3, h4, h5⟩ =>
    ⟨fun j => S1 j ∧ ¬ p j, fun j => S2 j ∧ ¬ p j, fun k hk => ⟨h1 k hk.1, hk.2⟩, fun k hk => ⟨h2 k hk.1, hk.2⟩, fun k hk hh => h3 k hk.1 hh.1, hL A (by simp) S1 h4,
      SHp.avoid (fun A' hA' => hL A' (by simp [hA'])) h5⟩

theorem SH.ins {B : Nat} {L : List Asrt} {A : Asrt} (p : Nat → Prop) (h : SH w B L) (hL : ∀ A ∈ L, Avoids w p A) (hA : A.on w fun j => (B ≤ j ∧ j < w.heap.size) ∧ p j) : SH w B (A :: L) :=
  ⟨fun j => (B ≤ j ∧ j < w.heap.size) ∧ p j, fun j => (B ≤ j ∧ j < w.heap.size) ∧ ¬ p j, fun _ hk => hk.1, fun _ hk => hk.1, fun _ hk hh => hh.2 hk.2, hA, SHp.avoid hL h⟩

/-- Blocks that hold no cells. -/
def noCells (w : World) (k : Nat) : Prop := ∃ o : Obj, w.heap[k]? = some o ∧ o.isCells = false

theorem Avoids.boxN {t : TypeId} {b : Nat} {vs : List Value} : Avoids w (noCells w) (aBox t b vs) := .box fun h ⟨o, ho, hc⟩ => by rw [h] at ho; cases ho; cases hc
theorem Avoids.ownN {α : Type} {T : Fl α} {e : TypeId} {a : Option Addr} {c : Nat} {xs : List α} : Avoids w (noCells w) (aOwn T e a c xs) := .own fun g cur _ h ⟨o, ho, hc⟩ => by rw [h] at ho; cases ho; cases hc

/-- A block that holds no cells has turned, and there are new ones. -/
theorem SH.grownBy {B : Nat} {L : List Asrt} {row : Option Nat} (h : SH w B L) (hL : ∀ A ∈ L, Avoids w (noCells w) A) (hg : w.grownBy w' row) (hr : ∀ r, row = some r → noCells w r) : SH w' B L := by
  refine SHp.mono (S := fun j => (B ≤ j ∧ j < w.heap.size) ∧ ¬ noCells w j) (fun k hk => ⟨hk.1.1, Nat.lt_of_lt_of_le hk.1.2 hg.size⟩) (SHp.loc (fun k hk => ?_) (SHp.avoid hL h))
  exact hg.block k hk.1.2 fun e => hk.2 (hr k e.symm)

/-- What held no cells is as it was. -/
def aKeep (w0 : World) (B : Nat) : Asrt where
  on w S := ∀ k o, B ≤ k → w0.heap[k]? = some o → o.isCells = false → S k ∧ w.heap[k]? = some o
  loc hS h := fun k o hB hk hc => ⟨(h k o hB hk hc).1, by rw [hS k (h k o hB hk hc).1]; exact (h k o hB hk hc).2⟩

theorem SH.keep {B : Nat} {L : List Asrt} (h : SH w B L) (hL : ∀ A ∈ L, Avoids w (noCells w) A) : SH w B (aKeep w B :: L) :=
  SH.ins (noCells w) h hL fun k o hB hk hc => ⟨⟨⟨hB, (Array.getElem?_eq_some_iff.1 hk).1⟩, o, hk, hc⟩, hk⟩

theorem SH.kept {B B' : Nat} {L : List Asrt} (h : SH w' B (aKeep w B :: L)) (hs : w.heap.size ≤ w'.heap.size) (hB : B ≤ B') : KeepsFrom B' w w' := by
  obtain ⟨S, hA, -, -⟩ := h.upd
  exact ⟨hs, fun k o hk hk2 hc => (hA k o (Nat.le_trans hB hk) hk2 hc).2⟩

theorem SH.boxHeap {B : Nat} {L : List Asrt} {t : TypeId} {b : Nat} {vs : List Value} (h : SH w B (aBox t b vs :: L)) : B ≤ b ∧ b < w.heap.size ∧ w.heap[b]? = some (.cells vs.toArray t (0, 0)) := by
  obtain ⟨S, hA, hS, -⟩ := h.upd
  exact ⟨(hS _ hA.1).1, (hS _ hA.1).2, hA.2⟩

/-- A box that lies off the other pieces. -/
theorem SH.insBox {B : Nat} {L : List Asrt} {t : TypeId} {b : Nat} {vs : List Value} (h : SH w B L) (hL : ∀ A ∈ L, Avoids w (fun j => j = b) A) (hB : B ≤ b) (hh : w.heap[b]? = some (.cells vs.toArray t (0, 0))) : SH w B (aBox t b vs :: L) :=
  SH.ins (fun j => j = b) h hL ⟨⟨⟨hB, (Array.getElem?_eq_some_iff.1 hh).1⟩, rfl⟩, hh⟩

theorem run_yieldCall {l : Nat} {X Y Z : Operand} {tys : Array TypeId} {v1 v2 : Value} {nx : Next} (ho : o.op = .call { callee := .value X, args := #[Y, Z], argTypes := tys }) (hX : rho env X = .func (.yield l) #[] #[]) (hY : rho env Y = v1) (hZ : rho env Z = v2)
    (hy : (Instr.yield l #[v1, v2]).run P w = .ok nx w) : (execOp (rho env) o).run P w = .ok nx w := by
  unfold execOp; rw [ho]
  simp only [resolve, invoke, Sem.run_bind, Sem.run_pure, Result.andThen_ok, List.map_toArray, List.map_cons, List.map_nil, hX, hY, hZ, Deferred.ofValue, Array.append_empty, Array.empty_append, hy]

theorem SH.boxNe {B : Nat} {L : List Asrt} {t t' : TypeId} {b b' : Nat} {vs vs' : List Value} (h : SH w B (aBox t b vs :: aBox t' b' vs' :: L)) : b ≠ b' := by
  obtain ⟨S1, S2, h1, h2, h3, hA, S3, S4, b1, b2, b3, hC, h5⟩ := h
  rintro rfl
  exact h3 b hA.1 (b1 b hC.1)

theorem SH.boxOff {B : Nat} {L : List Asrt} {α : Type} {T : Fl α} {e t : TypeId} {a : Option Addr} {c b : Nat} {vs : List Value} {xs : List α} (h : SH w B (aBox t b vs :: aOwn T e a c xs :: L)) : (Value.slice a xs.length c).ownBlock ≠ some b := by
  obtain ⟨S1, S2, h1, h2, h3, hA, S3, S4, b1, b2, b3, hC, h5⟩ := h
  intro e
  exact h3 b hA.1 (b1 b (hC.2 b e))

theorem allCons {p : Asrt → Prop} {A : Asrt} {L : List Asrt} (h : p A) (hL : ∀ A ∈ L, p A) : ∀ A' ∈ A :: L, p A' := fun A' hA => by
  rcases List.mem_cons.1 hA with rfl | hA
  · exact h
  · exact hL A' hA
theorem allNil {p : Asrt → Prop} : ∀ A ∈ ([] : List Asrt), p A := fun A h => by simp at h

theorem enter_own {f : FuncId} {fn : Func} {c : Code} (hf : P.funcs[f]? = some fn) (hname : (fn.name == "runtime.NumGoroutine") = false) (hb : fn.body = some c) (args : Array Value) (w : World) : (callFunc f args).run P w = .ok (.enter f args) w := by
  have h1 : fn.name ≠ "runtime.NumGoroutine" := by simpa using hname
  simp [callFunc, hf, h1, hb, mark]

/-! ### The statement -/

theorem WP.range2 {α : Type} {t p1 p2 gf M : Nat} {assign body : Code} {lb : Array Value} {v1 v2 : α → Value} {Kp : World → World → Prop} {S : List α → Prop}
    (hg : look env t = some (.func (.func gf) #[] lb)) (eg : ∀ args w, (callFunc gf args).run P w = .ok (.enter gf args) w)
    (hseq : SeqStopsK Fence.wide 7 P gf lb (fun x => #[v1 x, v2 x]) Kp S (fun _ => True) M w)
    (hKt : ∀ {A B C : World}, Kp A B → Kp B C → Kp A C) (hKb : ∀ (W : World) (l : Nat) (o o' : Obj), w.heap.size ≤ l → W.heap[l]? = some o → o.isCells = false → o.isWalk = false → Kp W (W.putObj l o'))
    (I : List α → World → Prop) (hI : OwnFrom w.heap.size I) (h0 : I [] w) (Ax : α → Env → World → Prop) (hAx : ∀ x e, OwnFrom w.heap.size (fun (_ : Unit) W => Ax x e W))
    (hp1 : Nat.blt p1 N = true) (hp2 : Nat.blt p2 N = true)
    (hassign : ∀ (l : Nat) (pre : List α) (x : α) (W : World) (Q : Exit → Act → World → Prop), I pre W → (∀ a w, ¬ Q .outgrown a w) → (∀ env' W', KeepsFrom w.heap.size W W' → Kp W W' → I pre W' → Ax x env' W' → WQ Q .normal N env' W') →
      WI (Fence.wide.inRound l) 6 P assign Q N (put (put env p1 (v1 x)) p2 (v2 x)) W)
    (hbody : ∀ (l : Nat) (pre : List α) (x : α) (env' : Env) (W : World), I pre W → Ax x env' W → pre.length < M → WI (Fence.wide.inRound l) 6 P body (ownPostG w.heap.size Kp I (fun _ _ _ => False) (pre ++ [x]) W) N env' W)
    (hdone : ∀ (D : Nat) (xs : List α) (W : World) (fr : Array Value), w.heap.size ≤ D → S xs → I xs W → W.heap[D]? = some (.deferred (some [])) → Sat N fr env → Q .normal ⟨fr, [{ target := .collected D, args := #[] }]⟩ W) :
    WP P (.rangeFunc (.tmp t) #[p1, p2] assign body) Q N env w := by
  intro fr hs
  refine wpIn_wide.1 (wpIn_rangeFunc_ownH (F := Fence.wide) (n := 8) (gf := gf) (lb := lb) rfl (by omega) (by rw [hs.eval (by simp [knownX, hg])]; simp [rho, hg]) trivial eg hseq hKt hKb (Below.refl _ _) (fun _ => rfl)
    I (fun _ _ _ => False) hI (fun _ _ _ _ _ h _ _ => h) h0 (fun x a' W => ∃ env' fr', a' = ⟨fr', []⟩ ∧ Sat N fr' env' ∧ Ax x env' W) ?_ ?_ ?_ ?_ ?_)
  · rintro x a' s W W' row ⟨e, fr', rfl, h1, h2⟩ hg' hr
    exact ⟨e, fr', rfl, h1, hAx x e () W W' row h2 hg' hr⟩
  · intro l pre x W K hi hK
    have hs2 : Sat N ((#[p1, p2].zip #[v1 x, v2 x]).foldl (fun t (p, v) => t.setIfInBounds p v) fr) (put (put env p1 (v1 x)) p2 (v2 x)) := by
      have := (hs.put (by simpa [Nat.blt_eq] using hp1) (v1 x)).put (by simpa [Nat.blt_eq] using hp2) (v2 x)
      simpa using this
    refine hassign l pre x W (Exit.then K (fun _ _ _ => False)) hi (fun _ _ h => h) (fun env' W' h1 h2 h3 h4 fr' hs' => hK _ _ h1 h2 h3 ⟨env', fr', rfl, hs', h4⟩) _ hs2
  · rintro l pre x a' W _ _ hi ⟨env', fr', rfl, hs', hx⟩ hlt
    exact hbody l pre x env' W hi hx hlt fr' hs'
  · intro D xs W hD hS hi hd
    exact hdone D xs W fr hD hS hi hd hs
  · intro D c pre W _ _ h _
    exact h.elim

end
end Go.Gv
