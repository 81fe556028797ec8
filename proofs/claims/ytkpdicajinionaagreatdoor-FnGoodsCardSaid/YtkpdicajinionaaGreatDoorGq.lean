/- Stores, variables in memory, regions whose order is open, cuts: for the small program logic. No program is named here. -/
import Derived.Test.YtkpdicajinionaaGreatDoorGe
namespace Go.Gv
open Go Go.RowKit

/-- What a text that came in is known to be. -/
def strok (l : List UInt8) : Prop := l.length ≤ 9223372036854775807
def i64ok (n : Int) : Prop := -9223372036854775808 ≤ n ∧ n ≤ 9223372036854775807
def u8ok (n : Int) : Prop := 0 ≤ n ∧ n ≤ 255

section
variable {P : Program} {ops : Array Oper} {Q : Exit → Act → World → Prop} {N : Nat} {env env' : Env} {w w' : World} {l rest : List Oper} {o : Oper} {B : Nat} {L : List Asrt}

theorem run_storeAt {t e : TypeId} {inf : TypeInfo} {g k : Nat} {cur : Array Value} {v : Value} {news : List Value} (hh : w.heap[g]? = some (.cells cur e (0, 0))) (hv : v.cells.toList = news) (h1 : ∀ u ∈ news, u.oneCell' = true)
    (hi : P.info? t = some inf) (hsz : inf.size = news.length) (hfit : k + news.length ≤ cur.size) :
    (Instr.storeAt t (.pointer (some ⟨g, k, none⟩)) v).run P w = .ok () (w.setRow g (cur.toList.take k ++ news ++ cur.toList.drop (k + news.length)).toArray) := by
  have hst := run_storeCells_at P g k e news 0 cur w hh (by simpa using hfit) h1
  simp only [Nat.add_zero] at hst
  have hs : v.cells.size = inf.size := by rw [hsz, ← hv]; simp
  simp only [Instr.storeAt, Instr.sureAddr, Sem.run_bind, Sem.run_pure, Result.andThen_ok, storeVar, run_sizeOf' hi, hs, ne_eq, not_true_eq_false, if_false, hv, hst]

theorem flat_set {α : Type} (F : Fl α) (x' : α) (j : Nat) (news : List Value) : ∀ (xs : List α) (i : Nat) (x : α), xs[i]? = some x → j + news.length ≤ F.sz → F.leaf x' = (F.leaf x).take j ++ news ++ (F.leaf x).drop (j + news.length) →
    (xs.set i x').flatMap F.leaf = (xs.flatMap F.leaf).take (i * F.sz + j) ++ news ++ (xs.flatMap F.leaf).drop (i * F.sz + j + news.length)
  | [], i, x, h, _, _ => by simp at h
  | y :: ys, 0, x, h, hj, hl => by
    simp at h; subst h
    have hy := F.len y
    simp only [List.set_cons_zero, List.flatMap_cons, Nat.zero_mul, Nat.zero_add, hl]
    rw [List.take_append_of_le_length (by omega), List.drop_append_of_le_length (by omega)]
    simp
  | y :: ys, i + 1, x, h, hj, hl => by
    simp only [List.getElem?_cons_succ] at h
    have ih := flat_set F x' j news ys i x h hj hl
    have hy := F.len y
    simp only [List.set_cons_succ, List.flatMap_cons, ih]
    rw [show (i + 1) * F.sz + j = (F.leaf y).length + (i * F.sz + j) by rw [hy, Nat.add_mul]; omega]
    rw [List.take_length_add_append, show (F.leaf y).length + (i * F.sz + j) + news.length = (F.leaf y).length + (i * F.sz + j + news.length) by omega, List.drop_length_add_append]
    simp

/-- A store into a row of the call's own: cells j .. of the i-th element. -/
theorem WL.store {α : Type} {F : Fl α} {t e : TypeId} {inf : TypeInfo} {a : Option Addr} {c : Nat} {xs : List α} {i : Int} {x : α} {X Y : Operand} {v : Value} (x' : α) (j : Nat) (news : List Value)
    (hS : SH w B (aOwn F e a c xs :: L)) (hB : B ≤ w.heap.size) (hx : idx xs i = some x) (hl : F.leaf x' = (F.leaf x).take j ++ news ++ (F.leaf x).drop (j + news.length)) (hj : Nat.ble (j + news.length) F.sz = true)
    (ho : o.op = .store t X Y) (hX : rho env X = .pointer (some (at_ a (i.toNat * F.sz + j)))) (hY : rho env Y = v) (hv : v.cells.toList = news) (h1 : news.all (·.oneCell') = true)
    (hi : P.info? t = some inf) (hsz : inf.size = news.length) (hw : want ops env o = some true) (hk : known env o = true) (hd : o.dst = none)
    (h : ∀ w', Below B w w' → SH w' B (aOwn F e a c (xs.set i.toNat x') :: L) → WL P ops Q N rest env w') : WL P ops Q N (o :: rest) env w := by
  obtain ⟨S, hA, hSS, hup⟩ := hS.upd
  obtain ⟨g0, g1, g2⟩ := idx_some hx
  have hj' := Nat.le_of_ble_eq_true hj
  rcases own_shape hA with ⟨rfl, rfl, rfl⟩ | ⟨g, cur, rfl, hg, hh, h2, h3, h4, h5⟩
  · simp at g2
  · have hpos := F.pos
    have hle : i.toNat * F.sz + j + news.length ≤ xs.length * F.sz := by
      have : (i.toNat + 1) * F.sz ≤ xs.length * F.sz := Nat.mul_le_mul_right _ g1
      rw [Nat.add_mul] at this; omega
    have hle2 : xs.length * F.sz ≤ c * F.sz := Nat.mul_le_mul_right _ h2
    have hrun := run_storeAt (P := P) (w := w) (t := t) (k := i.toNat * F.sz + j) hh hv (fun u hu => List.all_eq_true.1 h1 u hu) hi hsz (by omega)
    have hm : Mod S w (w.setRow g (cur.toList.take (i.toNat * F.sz + j) ++ news ++ cur.toList.drop (i.toNat * F.sz + j + news.length)).toArray) :=
      ⟨rfl, rfl, rfl, by simp, fun k hk hn => setRow_other w g k _ (fun ek => hn (ek ▸ hg))⟩
    refine WL.skip _ hw hk hd ?_ (h _ (hm.below hB fun k hk => (hSS k hk).1) (hup _ _ S hm ?_ ?_ hB))
    · unfold execOp; rw [ho]
      simp only [hX, hY, at_, ba, Option.getD_some, Nat.zero_add, Sem.run_bind, hrun, Result.andThen_ok, Sem.run_pure]
    · refine ⟨⟨by rw [flat_len], .inr ⟨g, c, _, by rw [List.length_set], Nat.zero_le _, setRow_heap w g cur _ e _ hh, by rw [List.length_set]; exact h2, h3, ?_, ?_⟩⟩, ?_⟩
      · simp only [List.size_toArray, List.length_append, List.length_take, List.length_drop, Array.length_toList]
        omega
      · rw [List.length_set, flat_set F x' j news xs _ x g2 hj' hl, ← h5]
        simp only []
        rw [List.take_append, List.take_append]
        simp only [List.length_take, List.length_append, Array.length_toList]
        have e1 : min (i.toNat * F.sz + j) cur.size = i.toNat * F.sz + j := by omega
        rw [e1, List.take_take, List.take_take, List.take_of_length_le (l := news) (by omega), ← List.drop_take]
        have e2 : min (xs.length * F.sz) (i.toNat * F.sz + j) = i.toNat * F.sz + j := by omega
        have e3 : min (i.toNat * F.sz + j) (xs.length * F.sz) = i.toNat * F.sz + j := by omega
        rw [e2, e3, List.drop_take]
      · intro k hk; simp [Value.ownBlock] at hk; subst hk; exact hg
    · intro k hk; exact ⟨.inl hk, by simpa using (hSS k hk).2⟩

/-! ### Variables in memory -/

theorem SH.newBox {t : TypeId} {vs : List Value} : SH (w.alloc (.cells vs.toArray t)) w.heap.size [aBox t w.heap.size vs] := by
  refine ⟨fun k => k = w.heap.size, fun _ => False, ?_, by simp, by simp, ⟨rfl, heap_alloc_new w _⟩, trivial⟩
  rintro k rfl; exact ⟨Nat.le_refl _, by simp⟩

/-- A new variable in memory. -/
theorem WL.box (t : TypeId) (vs : List Value) (d : Nat) (hr : (execOp (rho env) o).run P w = .ok (.value (.pointer (some ⟨w.heap.size, 0, none⟩))) (w.alloc (.cells vs.toArray t)))
    (hw : want ops env o = some true) (hk : known env o = true) (hd : o.dst = some d) (hN : Nat.blt d N = true)
    (h : ∀ b w', Ext w w' → SH w' w.heap.size [aBox t b vs] → WL P ops Q N rest (put env d (.pointer (some ⟨b, 0, none⟩))) w') : WL P ops Q N (o :: rest) env w :=
  WL.val _ _ hw hk hr (env' := put env d (.pointer (some ⟨w.heap.size, 0, none⟩))) (by simp only [putO, hd, hN]) (h _ _ (Ext.alloc w _) SH.newBox)

theorem SH.boxAt {t : TypeId} {b : Nat} {vs : List Value} (h : SH w B (aBox t b vs :: L)) (j : Nat) (v : Value) (hv : vs[j]? = some v) : w.cell? ⟨b, j, none⟩ = some v := by
  obtain ⟨S, hA, -, -⟩ := h.upd
  simp only [World.cell?, hA.2]
  simpa using hv

theorem SH.boxLt {t : TypeId} {b : Nat} {vs : List Value} (h : SH w B (aBox t b vs :: L)) : b < w.heap.size := by
  obtain ⟨S, hA, hS, -⟩ := h.upd
  exact (hS _ hA.1).2

/-- A store into a variable of the call's own. -/
theorem WL.boxStore {t t' : TypeId} {inf : TypeInfo} {b : Nat} {vs : List Value} {X Y : Operand} {v : Value} (j : Nat) (news vs' : List Value) (hS : SH w B (aBox t b vs :: L)) (hB : B ≤ w.heap.size)
    (hvs : vs.take j ++ news ++ vs.drop (j + news.length) = vs') (hj : Nat.ble (j + news.length) vs.length = true)
    (ho : o.op = .store t' X Y) (hX : rho env X = .pointer (some ⟨b, j, none⟩)) (hY : rho env Y = v) (hv : v.cells.toList = news) (h1 : news.all (·.oneCell') = true)
    (hi : P.info? t' = some inf) (hsz : inf.size = news.length) (hw : want ops env o = some true) (hk : known env o = true) (hd : o.dst = none)
    (h : ∀ w', Below B w w' → SH w' B (aBox t b vs' :: L) → WL P ops Q N rest env w') : WL P ops Q N (o :: rest) env w := by
  obtain ⟨S, hA, hSS, hup⟩ := hS.upd
  have hj' := Nat.le_of_ble_eq_true hj
  have hrun := run_storeAt (P := P) (w := w) (t := t') (k := j) hA.2 hv (fun u hu => List.all_eq_true.1 h1 u hu) hi hsz (by simpa using hj')
  have hm : Mod S w (w.setRow b (vs.toArray.toList.take j ++ news ++ vs.toArray.toList.drop (j + news.length)).toArray) :=
    ⟨rfl, rfl, rfl, by simp, fun k hk hn => setRow_other w b k _ (fun ek => hn (ek ▸ hA.1))⟩
  refine WL.skip _ hw hk hd ?_ (h _ (hm.below hB fun k hk => (hSS k hk).1) (hup _ _ S hm ⟨hA.1, ?_⟩ ?_ hB))
  · unfold execOp; rw [ho]
    simp only [hX, hY, Sem.run_bind, hrun, Result.andThen_ok, Sem.run_pure]
  · rw [setRow_heap w b vs.toArray _ t _ hA.2]; simp [hvs]
  · intro k hk; exact ⟨.inl hk, by simpa using (hSS k hk).2⟩

/-! ### Regions whose order is open -/

/-- The walk of operations that only read, one after the other: each gives one value in every world that goes on from 'w'. -/
def wpQS (P : Program) (ops : Array Oper) (w : World) (T : Act → Prop) : List Oper → Act → Prop
  | [], a => T a
  | o :: rest, a => if Region.wanted o (yielded ops a.tmps) then ∃ v, (∀ w', Ext w w' → o.quietAt P a (Ext w') w' v) ∧ wpQS P ops w T rest (a.put o.dst v) else wpQS P ops w T rest (a.put o.dst undef)

theorem quietAt_mono {a : Act} {C C' : World → Prop} {w : World} {v : Value} (h : ∀ w', C w' → C' w') (hh : o.quietAt P a C w v) : o.quietAt P a C' w v := by
  unfold Oper.quietAt Oper.quietUpon at *
  generalize (execOp a.eval o).run P w = r at hh ⊢
  cases r with
  | ok n w' =>
    cases n with
    | enter g args => exact ⟨hh.1, Calls.mono hh.2 fun e w'' ⟨h1, h2⟩ => ⟨h1, h _ h2⟩⟩
    | _ => exact hh
  | halt x w' => exact hh

theorem wpQuiet_of_QS {T : Act → Prop} : ∀ (l : List Oper) (a : Act), wpQS P ops w T l a → wpQuiet P ops (Ext w) T l a
  | [], _, h => h
  | o :: l, a, h => by
    unfold wpQS at h
    unfold wpQuiet
    split
    · rename_i hw
      simp only [hw, if_true] at h
      obtain ⟨v, h1, h2⟩ := h
      exact ⟨v, fun w' hE => quietAt_mono (fun w'' h => hE.trans h) (h1 w' hE), wpQuiet_of_QS l _ h2⟩
    · rename_i hw
      simp only [hw] at h
      exact wpQuiet_of_QS l _ h

def QL (P : Program) (ops : Array Oper) (Q : Exit → Act → World → Prop) (N : Nat) (w : World) (l : List Oper) (env : Env) : Prop :=
  ∀ fr, Sat N fr env → wpQS P ops w (fun a' => ∀ w', Ext w w' → Q .normal a' w') l ⟨fr, []⟩

theorem QL.nil (h : ∀ w', Ext w w' → WQ Q .normal N env w') : QL P ops Q N w [] env := fun fr hs w' hE => h w' hE fr hs

theorem QL.quiet (v : Value) (hq : ∀ fr, Sat N fr env → ∀ w', Ext w w' → Oper.quietAt P o ⟨fr, []⟩ (Ext w') w' v) (hw : want ops env o = some true) (hp : putO N env o v = some env') (h : QL P ops Q N w rest env') :
    QL P ops Q N w (o :: rest) env := by
  intro fr hs
  unfold wpQS
  simp only [hs.want hw, if_true]
  refine ⟨v, fun w' hE => hq fr hs w' hE, ?_⟩
  obtain ⟨fr', he, hs'⟩ := hs.putO hp
  rw [he]
  exact h fr' hs'

theorem QL.st (v : Value) (hst : ST P w env o v) (hw : want ops env o = some true) (hk : known env o = true) (hp : putO N env o v = some env') (h : QL P ops Q N w rest env') : QL P ops Q N w (o :: rest) env := by
  refine QL.quiet v (fun fr hs w' hE => ?_) hw hp h
  unfold Oper.quietAt
  rw [hs.exec hk, hst w' hE]
  exact ⟨rfl, rfl⟩

theorem QL.call (f : FuncId) (args : Array Value) (v : Value) (hr : ∀ w', (execOp (rho env) o).run P w' = .ok (.enter f args) w') (hc : ∀ w', Ext w w' → CallV P f args w' (fun u w'' => u = v ∧ Ext w' w''))
    (hw : want ops env o = some true) (hk : known env o = true) (hp : putO N env o v = some env') (h : QL P ops Q N w rest env') : QL P ops Q N w (o :: rest) env := by
  refine QL.quiet v (fun fr hs w' hE => ?_) hw hp h
  unfold Oper.quietAt
  rw [hs.exec hk, hr w']
  refine ⟨rfl, Calls.mono (hc w' hE) ?_⟩
  rintro e w'' ⟨u, rfl, rfl, hE'⟩
  exact ⟨rfl, hE'⟩

theorem QL.step1 (hd : o.dst.isSome = true) (h1 : ∀ w', run1 P N ops w' env o = some (env', w')) (h : QL P ops Q N w rest env') : QL P ops Q N w (o :: rest) env := by
  cases hw : want ops env o with
  | none => have := h1 w; simp [run1, hw] at this
  | some b =>
    cases b with
    | false =>
      intro fr hs
      have h1w := h1 w
      have hb := hs.want hw
      simp only [run1, hw, Option.map_eq_some_iff, Prod.mk.injEq] at h1w
      obtain ⟨e, hp, rfl, -⟩ := h1w
      unfold wpQS
      simp only [hb, Bool.false_eq_true, if_false]
      obtain ⟨fr', he, hs'⟩ := hs.putO hp
      rw [he]
      exact h fr' hs'
    | true =>
      have one : ∀ w', ∃ v, known env o = true ∧ (execOp (rho env) o).run P w' = .ok (.value v) w' ∧ putO N env o v = some env' := by
        intro w'
        have h1w := h1 w'
        simp only [run1, hw] at h1w
        cases hk : known env o with
        | false => simp [hk] at h1w
        | true =>
          simp only [hk] at h1w
          cases hr : (execOp (rho env) o).run P w' with
          | halt x y => simp [hr] at h1w
          | ok n y =>
            cases n with
            | value v =>
              simp only [hr, Option.map_eq_some_iff, Prod.mk.injEq] at h1w
              obtain ⟨e, hp, rfl, rfl⟩ := h1w
              exact ⟨v, rfl, rfl, hp⟩
            | _ => simp [hr] at h1w
      obtain ⟨d, hd'⟩ := Option.isSome_iff_exists.1 hd
      have uniq : ∀ u v, putO N env o u = some env' → putO N env o v = some env' → u = v := by
        intro u v hu hv
        simp only [putO, hd'] at hu hv
        cases hN : Nat.blt d N with
        | false => simp [hN] at hu
        | true =>
          simp only [hN, Option.some.injEq] at hu hv
          have e1 := look_put_same env d u
          have e2 := look_put_same env d v
          rw [hu] at e1; rw [hv] at e2; rw [e1] at e2; exact Option.some.inj e2
      obtain ⟨v, hk, -, hp⟩ := one w
      refine QL.st v (fun w' _ => ?_) hw hk hp h
      obtain ⟨u, -, hr, hp'⟩ := one w'
      rw [uniq v u hp hp']; exact hr

theorem QL.step1v (d : Nat) (v : Value) (hd : o.dst = some d) (h1 : ∀ w', run1 P N ops w' env o = some (Gv.put env d v, w')) (h : QL P ops Q N w rest (Gv.put env d v)) : QL P ops Q N w (o :: rest) env :=
  QL.step1 (by rw [hd]; rfl) h1 h

theorem QL.case (b : Bool) (ds : List Nat) (hb : holdB b env ds) (ht : b = true → QL P ops Q N w l (putAll env ds (.bool true)))
    (hf : b = false → QL P ops Q N w l (putAll env ds (.bool false))) : QL P ops Q N w l env := by
  intro fr hs
  cases b
  · exact hf rfl fr (hs.putAll ds env hb)
  · exact ht rfl fr (hs.putAll ds env hb)

theorem QL.sub (env' : Env) (hb : subE env env') (h : QL P ops Q N w l env') : QL P ops Q N w l env := fun fr hs => h fr (hs.sub env' hb)

/-- The slots 'ts', read off. -/
def pickE (env : Env) : List Nat → Option Env
  | [] => some []
  | t :: ts => match look env t with
    | none => none
    | some v => match pickE env ts with
      | none => none
      | some r => some ((t, v) :: r)

theorem pickE_sub {env : Env} : ∀ (ts : List Nat) {env' : Env}, pickE env ts = some env' → subE env env'
  | [], env', h => by simp [pickE] at h; subst h; trivial
  | t :: ts, env', h => by
    unfold pickE at h
    cases hl : look env t with
    | none => simp [hl] at h
    | some v =>
      simp only [hl] at h
      cases hp : pickE env ts with
      | none => simp [hp] at h
      | some r =>
        simp only [hp, Option.some.injEq] at h
        subst h
        exact ⟨hl, pickE_sub ts hp⟩

theorem QL.subk (ts : List Nat) (env' : Env) (hb : pickE env ts = some env') (h : QL P ops Q N w l env') : QL P ops Q N w l env := QL.sub env' (pickE_sub ts hb) h

theorem WP.quiet {id : Nat} (hm : P.follows .mixedOrders = true) (hB : Region.lexB .any ops = true) (h : QL P ops Q N w ops.toList env) : WP P (.region id ops true) Q N env w := by
  intro fr hs
  refine wp_region_quiet (C := Ext w) hm hB (Ext.drew w) (wpQuiet_of_QS _ _ (h fr hs))

/-! ### Cuts: the ways meet again -/

def PostC (N : Nat) (Φ : Env → World → Prop) : Exit → Act → World → Prop := fun e a w' => e = .normal ∧ ∃ env fr, Φ env w' ∧ a = ⟨fr, []⟩ ∧ Sat N fr env

theorem WP.cut {c : Code} (Φ : Env → World → Prop) (h1 : WP P c (PostC N Φ) N env w) (h2 : ∀ env' w', Φ env' w' → WQ Q .normal N env' w') : WP P c Q N env w := by
  intro fr hs
  refine Code.wp_mono ?_ (h1 fr hs)
  rintro e a w' ⟨rfl, env', fr', hΦ, rfl, hs'⟩
  exact h2 env' w' hΦ fr' hs'

theorem WQ.post {Φ : Env → World → Prop} (E : Env) (hE : subE env E) (h : Φ E w) : WQ (PostC N Φ) .normal N env w := fun fr hs => ⟨rfl, E, fr, h, rfl, hs.sub E hE⟩

theorem WQ.post' {Φ : Env → World → Prop} {E : Env} (h : Φ E w) (hE : subE env E) : WQ (PostC N Φ) .normal N env w := WQ.post E hE h

theorem WQ.round {K : Act → World → Prop} {J : Nat → Env → World → Prop} {n m : Nat} {E : Env} (hK : ∀ m env' w', m < n → J m env' w' → WQ (fun _ => K) .normal N env' w') (hJ : J m E w) (hlt : m < n) (hE : subE env E) :
    WQ (Exit.then K Q) .normal N env w := fun fr hs => hK m E w hlt hJ fr (hs.sub E hE)

theorem WL.runk (n : Nat) (ts : List Nat) (env' : Env) (h1 : (runN P N ops w (l.take n) env).map (fun p => (keep ts p.1, p.2)) = some (env', w)) (h : WL P ops Q N (l.drop n) env' w) : WL P ops Q N l env w := by
  simp only [Option.map_eq_some_iff, Prod.mk.injEq] at h1
  obtain ⟨⟨e, w1⟩, hr, he, hw⟩ := h1
  simp only at he hw
  subst hw
  refine WL.run n e hr ?_
  intro fr hs
  exact h fr (he ▸ hs.keep ts)

theorem SHp.take : ∀ {L : List Asrt} {S : Nat → Prop} (k : Nat), SHp w L S → SHp w (L.take k) S
  | [], _, _, _ => by simp [SHp]
  | _ :: _, _, 0, _ => by simp [SHp]
  | _ :: _, _, k + 1, ⟨S1, S2, h1, h2, h3, h4, h5⟩ => ⟨S1, S2, h1, h2, h3, h4, SHp.take k h5⟩

theorem SH.take (k : Nat) (h : SH w B L) : SH w B (L.take k) := SHp.take k h

/-- The m assertions behind the first k are given up. -/
def cutOut : Nat → Nat → List Asrt → List Asrt
  | 0, m, L => L.drop m
  | _ + 1, _, [] => []
  | k + 1, m, A :: L => A :: cutOut k m L

theorem SHp.drop : ∀ {L : List Asrt} {S : Nat → Prop} (m : Nat), SHp w L S → SHp w (L.drop m) S
  | _, _, 0, h => by simpa using h
  | [], _, _ + 1, _ => by simp [SHp]
  | _ :: _, _, m + 1, ⟨S1, S2, h1, h2, h3, h4, h5⟩ => by simpa using SHp.mono h2 (SHp.drop m h5)

theorem SHp.cutOut : ∀ {L : List Asrt} {S : Nat → Prop} (k m : Nat), SHp w L S → SHp w (Gv.cutOut k m L) S
  | _, _, 0, m, h => SHp.drop m h
  | [], _, _ + 1, _, _ => trivial
  | _ :: _, _, k + 1, m, ⟨S1, S2, h1, h2, h3, h4, h5⟩ => ⟨S1, S2, h1, h2, h3, h4, SHp.cutOut k m h5⟩

theorem SH.cutOut (k m : Nat) (h : SH w B L) : SH w B (Gv.cutOut k m L) := SHp.cutOut k m h

theorem SH.nilOwn {α : Type} {F : Fl α} {e : TypeId} (h : SH w B L) : SH w B (aOwn F e none 0 ([] : List α) :: L) :=
  ⟨fun _ => False, fun k => B ≤ k ∧ k < w.heap.size, by simp, fun _ h => h, by simp, ⟨World.ownsRow_nil _ _ _ _, by simp [Value.ownBlock]⟩, h⟩

theorem SH.boxPart {t : TypeId} {b : Nat} {vs us : List Value} (h : SH w B (aBox t b vs :: L)) (k : Nat) (he : (vs.drop k).take us.length = us) (j : Nat) (v : Value) (hv : us[j]? = some v) : w.cell? ⟨b, k + j, none⟩ = some v := by
  refine SH.boxAt h (k + j) v ?_
  rw [← he, List.getElem?_take] at hv
  split at hv
  · rwa [List.getElem?_drop] at hv
  · cases hv

end
end Go.Gv
