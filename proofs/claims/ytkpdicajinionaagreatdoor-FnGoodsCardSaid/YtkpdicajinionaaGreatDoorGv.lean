/- A small program logic over the kit's 'wp': frames are known by the slots that are still wanted, straight code is run by the kernel, memory is spoken of by blocks. No program is named here. -/
import Derived.WalkKit
import Derived.Deep.Quiet
import Derived.KernelRfl
namespace Go.Gv
open Go Go.RowKit

/-! ### A. Frames known by some of their slots -/

abbrev Env := List (Nat × Value)

def look : Env → Nat → Option Value
  | [], _ => none
  | (k, v) :: r, t => match Nat.beq k t with
    | true => some v
    | false => look r t

def put (env : Env) (d : Nat) (v : Value) : Env :=
  match env with
  | [] => [(d, v)]
  | (k, u) :: r => match Nat.beq k d with
    | true => (k, v) :: r
    | false => (k, u) :: put r d v

theorem look_put_same (env : Env) (d : Nat) (v : Value) : look (put env d v) d = some v := by
  induction env with
  | nil => simp [put, look]
  | cons p r ih =>
    obtain ⟨k, u⟩ := p
    unfold put
    cases h : Nat.beq k d <;> simp [look, h, ih]

theorem look_put_ne (env : Env) {d t : Nat} (v : Value) (hne : d ≠ t) : look (put env d v) t = look env t := by
  induction env with
  | nil =>
    have : Nat.beq d t = false := by cases h : Nat.beq d t <;> simp_all
    simp [put, look, this]
  | cons p r ih =>
    obtain ⟨k, u⟩ := p
    unfold put
    cases h : Nat.beq k d
    · simp only [look]; cases h2 : Nat.beq k t <;> simp [ih]
    · have hk : k = d := by simpa using h
      subst hk
      have : Nat.beq k t = false := by cases h : Nat.beq k t <;> simp_all
      simp [look, this]

structure Sat (N : Nat) (fr : Array Value) (env : Env) : Prop where
  size : fr.size = N
  val : ∀ t v, look env t = some v → fr[t]? = some v

def rho (env : Env) : Operand → Value
  | .tmp t => (look env t).getD undef
  | .const v => v
  | .global g => .pointer (some ⟨g, 0, none⟩)
  | .func f => .func (.func f) #[] #[]

def knownX (env : Env) : Operand → Bool
  | .tmp t => (look env t).isSome
  | _ => true

def known (env : Env) (o : Oper) : Bool :=
  (match o.op with | .select .. => false | _ => true) && o.op.operands.toList.all (knownX env)

theorem Sat.put {N : Nat} {fr : Array Value} {env : Env} (h : Sat N fr env) {d : Nat} (hd : d < N) (v : Value) : Sat N (fr.setIfInBounds d v) (Gv.put env d v) := by
  refine ⟨by simp [h.size], fun t u ht => ?_⟩
  by_cases e : d = t
  · subst e
    rw [look_put_same] at ht
    cases ht
    have : d < fr.size := by rw [h.size]; exact hd
    simp [this]
  · rw [look_put_ne _ _ e] at ht
    rw [Array.getElem?_setIfInBounds_ne e]
    exact h.val t u ht

theorem Sat.eval {N : Nat} {fr : Array Value} {env : Env} (h : Sat N fr env) {ds : List Deferred} {x : Operand} (hk : knownX env x = true) :
    Act.eval ⟨fr, ds⟩ x = rho env x := by
  cases x with
  | tmp t =>
    simp only [knownX] at hk
    obtain ⟨v, hv⟩ := Option.isSome_iff_exists.1 hk
    have := h.val t v hv
    simp [Act.eval, rho, hv, Array.getD_eq_getD_getElem?, this]
  | const v => rfl
  | global g => rfl
  | func f => rfl

theorem Sat.exec {N : Nat} {fr : Array Value} {env : Env} (h : Sat N fr env) {ds : List Deferred} {o : Oper} (hk : known env o = true) :
    execOp (Act.eval ⟨fr, ds⟩) o = execOp (rho env) o := by
  simp only [known, Bool.and_eq_true] at hk
  refine execOp_congr o (fun cs b e => ?_) fun x hx => h.eval ?_
  · rw [e] at hk; exact absurd hk.1 (by simp)
  · exact List.all_eq_true.1 hk.2 x (by simpa using hx)

/-- Is the operation carried out? 'none': the frame's known slots do not tell. -/
def want (ops : Array Oper) (env : Env) (o : Oper) : Option Bool :=
  match o.guard with
  | none => some true
  | some (j, t) =>
    match (ops[j]?).bind (·.dst) with
    | none => none
    | some d =>
      match look env d with
      | some (.bool true) => some t
      | some (.bool false) => some (!t)
      | some (.tuple _) => some false
      | _ => none

theorem Sat.want {N : Nat} {fr : Array Value} {env : Env} (h : Sat N fr env) {ops : Array Oper} {o : Oper} {b : Bool} (hw : Gv.want ops env o = some b) :
    Region.wanted o (yielded ops fr) = b := by
  unfold Gv.want at hw
  unfold Region.wanted
  cases hg : o.guard with
  | none => simp [hg] at hw; simpa using hw
  | some p =>
    obtain ⟨j, t⟩ := p
    simp only [hg] at hw
    show (yielded ops fr j == some t) = b
    unfold yielded
    cases hd : (ops[j]?).bind (·.dst) with
    | none => simp [hd] at hw
    | some d =>
      simp only [hd] at hw
      cases hl : look env d with
      | none => simp [hl] at hw
      | some v =>
        have hv := h.val d v hl
        simp only [hl] at hw
        simp only [Option.bind_some, hv]
        cases v with
        | bool c => cases c <;> simp only [Option.some.injEq] at hw <;> subst hw <;> cases t <;> rfl
        | tuple vs => simp only [Option.some.injEq] at hw; subst hw; rfl
        | _ => cases hw

/-! ### B. A list of operations, in the text's order -/

/-- What a list of operations does, of frames that are known by 'env'. -/
def WL (P : Program) (ops : Array Oper) (Q : Exit → Act → World → Prop) (N : Nat) (l : List Oper) (env : Env) (w : World) : Prop :=
  ∀ fr, Sat N fr env → wpList P ops Q l ⟨fr, []⟩ w

def WQ (Q : Exit → Act → World → Prop) (e : Exit) (N : Nat) (env : Env) (w : World) : Prop := ∀ fr, Sat N fr env → Q e ⟨fr, []⟩ w

def WP (P : Program) (c : Code) (Q : Exit → Act → World → Prop) (N : Nat) (env : Env) (w : World) : Prop :=
  ∀ fr, Sat N fr env → c.wp P Q ⟨fr, []⟩ w

theorem Sat.act_put {N : Nat} {fr : Array Value} {env : Env} (h : Sat N fr env) {dst : Option Nat} {env' : Env} {v : Value}
    (hd : (match dst with | none => env = env' | some d => Nat.blt d N = true ∧ Gv.put env d v = env')) :
    ∃ fr', (Act.put ⟨fr, []⟩ dst v) = ⟨fr', []⟩ ∧ Sat N fr' env' := by
  cases dst with
  | none => exact ⟨fr, rfl, by simpa [hd] using h⟩
  | some d =>
    obtain ⟨h1, h2⟩ := hd
    have h1' : d < N := by simpa [Nat.blt_eq] using h1
    exact ⟨_, rfl, h2 ▸ h.put h1' v⟩

/-- 'put' at an operation's own slot. -/
def putO (N : Nat) (env : Env) (o : Oper) (v : Value) : Option Env :=
  match o.dst with
  | none => some env
  | some d => match Nat.blt d N with
    | true => some (put env d v)
    | false => none

theorem Sat.putO {N : Nat} {fr : Array Value} {env env' : Env} (h : Sat N fr env) {o : Oper} {v : Value} (hp : Gv.putO N env o v = some env') :
    ∃ fr', (Act.put ⟨fr, []⟩ o.dst v) = ⟨fr', []⟩ ∧ Sat N fr' env' := by
  unfold Gv.putO at hp
  cases hd : o.dst with
  | none => simp only [hd, Option.some.injEq] at hp; subst hp; exact ⟨fr, rfl, h⟩
  | some d =>
    simp only [hd] at hp
    cases hb : Nat.blt d N with
    | false => simp [hb] at hp
    | true =>
      simp only [hb, Option.some.injEq] at hp
      subst hp
      exact ⟨_, rfl, h.put (by simpa [Nat.blt_eq] using hb) v⟩

/-- One operation that leaves the world alone, run by the model itself. -/
def run1 (P : Program) (N : Nat) (ops : Array Oper) (w : World) (env : Env) (o : Oper) : Option (Env × World) :=
  match want ops env o with
  | none => none
  | some false => (putO N env o undef).map (·, w)
  | some true =>
    match known env o with
    | false => none
    | true =>
      match (execOp (rho env) o).run P w with
      | .ok (.value v) w' => (putO N env o v).map (·, w')
      | _ => none

def runN (P : Program) (N : Nat) (ops : Array Oper) (w : World) : List Oper → Env → Option (Env × World)
  | [], env => some (env, w)
  | o :: r, env =>
    match run1 P N ops w env o with
    | some (env', w') => runN P N ops w' r env'
    | none => none

section
variable {P : Program} {ops : Array Oper} {Q : Exit → Act → World → Prop} {N : Nat} {env env' : Env} {w w' : World} {l rest : List Oper} {o : Oper}

theorem WL.nil (h : WQ Q .normal N env w) : WL P ops Q N [] env w := h

theorem wp_of_upon {a : Act} {K : Act → World → Prop} {r : Result Next} (hr : (execOp a.eval o).run P w = r) (h : o.upon P a K Q r) : o.wp P a w K Q := by
  unfold Oper.wp; rw [hr]; exact h

theorem WL.step1 (h1 : run1 P N ops w env o = some (env', w')) (h : WL P ops Q N rest env' w') : WL P ops Q N (o :: rest) env w := by
  intro fr hs
  unfold run1 at h1
  simp only [wpList]
  cases hw : want ops env o with
  | none => simp [hw] at h1
  | some b =>
    have hb := hs.want hw
    simp only [hw] at h1
    cases b with
    | false =>
      simp only [Option.map_eq_some_iff, Prod.mk.injEq] at h1
      obtain ⟨e, hp, rfl, rfl⟩ := h1
      simp only [hb, Bool.false_eq_true, if_false]
      obtain ⟨fr', he, hs'⟩ := hs.putO hp
      rw [he]
      exact h fr' hs'
    | true =>
      simp only [hb, if_true]
      left
      cases hk : known env o with
      | false => simp [hk] at h1
      | true =>
        simp only [hk] at h1
        cases hr : (execOp (rho env) o).run P w with
        | halt x y => simp [hr] at h1
        | ok n y =>
          cases n with
          | value v =>
            simp only [hr, Option.map_eq_some_iff, Prod.mk.injEq] at h1
            obtain ⟨e, hp, rfl, rfl⟩ := h1
            have hr' := hr
            rw [← hs.exec (ds := []) hk] at hr'
            refine wp_of_upon hr' ?_
            simp only [Oper.upon]
            obtain ⟨fr', he, hs'⟩ := hs.putO hp
            rw [he]
            exact h fr' hs'
          | _ => simp [hr] at h1

theorem WL.pureAll : ∀ (l : List Oper) (env : Env) (w : World), runN P N ops w l env = some (env', w') → WL P ops Q N rest env' w' → WL P ops Q N (l ++ rest) env w
  | [], env, w, h1, h => by
    simp only [runN, Option.some.injEq, Prod.mk.injEq] at h1
    obtain ⟨rfl, rfl⟩ := h1
    exact h
  | o :: r, env, w, h1, h => by
    unfold runN at h1
    cases hh : run1 P N ops w env o with
    | none => simp [hh] at h1
    | some p =>
      obtain ⟨e1, w1⟩ := p
      simp only [hh] at h1
      exact WL.step1 hh (WL.pureAll r e1 w1 h1 h)

/-- The first n operations, run by the model (and the kernel), leave the world alone. -/
theorem WL.run (n : Nat) (env' : Env) (h1 : runN P N ops w (l.take n) env = some (env', w)) (h : WL P ops Q N (l.drop n) env' w) : WL P ops Q N l env w := by
  have := WL.pureAll (Q := Q) (rest := l.drop n) (l.take n) env w h1 h
  rwa [List.take_append_drop] at this

/-- A slot that holds a Bool is parted. -/
def putAll : Env → List Nat → Value → Env
  | env, [], _ => env
  | env, d :: ds, v => putAll (put env d v) ds v

def holdB (b : Bool) (env : Env) : List Nat → Prop
  | [] => True
  | d :: ds => look env d = some (.bool b) ∧ holdB b env ds

theorem Sat.putAll {fr : Array Value} {b : Bool} : ∀ (ds : List Nat) (env : Env), Sat N fr env → holdB b env ds → Sat N fr (Gv.putAll env ds (.bool b))
  | [], _, h, _ => h
  | d :: ds, env, h, hb => by
    have hd := h.val d _ hb.1
    have h2 : Sat N fr (Gv.put env d (.bool b)) := ⟨h.size, fun t v ht => by
      by_cases e : d = t
      · subst e; rw [look_put_same] at ht; cases ht; exact hd
      · rw [look_put_ne _ _ e] at ht; exact h.val t v ht⟩
    refine Sat.putAll ds _ h2 ?_
    have : ∀ ds', holdB b env ds' → holdB b (Gv.put env d (.bool b)) ds' := by
      intro ds'
      induction ds' with
      | nil => exact fun h => h
      | cons x xs ih =>
        intro hx
        refine ⟨?_, ih hx.2⟩
        by_cases e : d = x
        · subst e; exact look_put_same _ _ _
        · rw [look_put_ne _ _ e]; exact hx.1
    exact this ds hb.2

theorem WL.case (b : Bool) (ds : List Nat) (hb : holdB b env ds) (ht : b = true → WL P ops Q N l (putAll env ds (.bool true)) w)
    (hf : b = false → WL P ops Q N l (putAll env ds (.bool false)) w) : WL P ops Q N l env w := by
  intro fr hs
  cases b
  · exact hf rfl fr (hs.putAll ds env hb)
  · exact ht rfl fr (hs.putAll ds env hb)

/-- An operation with whatever outcome 'r' that is a value: the world may turn. -/
theorem WL.val (v : Value) (w' : World) (hw : want ops env o = some true) (hk : known env o = true) (hr : (execOp (rho env) o).run P w = .ok (.value v) w')
    (hp : putO N env o v = some env') (h : WL P ops Q N rest env' w') : WL P ops Q N (o :: rest) env w := by
  intro fr hs
  simp only [wpList, hs.want hw, if_true]
  left
  have hr' := hr
  rw [← hs.exec (ds := []) hk] at hr'
  refine wp_of_upon hr' ?_
  simp only [Oper.upon]
  obtain ⟨fr', he, hs'⟩ := hs.putO hp
  rw [he]
  exact h fr' hs'

/-- An operation that gives no value (a store). -/
theorem WL.skip (w' : World) (hw : want ops env o = some true) (hk : known env o = true) (hd : o.dst = none) (hr : (execOp (rho env) o).run P w = .ok .skip w')
    (h : WL P ops Q N rest env w') : WL P ops Q N (o :: rest) env w := by
  intro fr hs
  simp only [wpList, hs.want hw, if_true]
  left
  have hr' := hr
  rw [← hs.exec (ds := []) hk] at hr'
  refine wp_of_upon hr' ?_
  simp only [Oper.upon, hd, Act.put]
  exact h fr hs

/-- 'P' calls 'f': it returns, with 'R'. -/
def CallV (P : Program) (f : FuncId) (args : Array Value) (w : World) (R : Value → World → Prop) : Prop :=
  Calls P f args w fun e w' => ∃ v, e = .returned v ∧ R v w'

theorem CallV.mono {f : FuncId} {args : Array Value} {R R' : Value → World → Prop} (h : CallV P f args w R) (hr : ∀ v w', R v w' → R' v w') : CallV P f args w R' :=
  Calls.mono h fun _ _ ⟨v, he, hv⟩ => ⟨v, he, hr _ _ hv⟩

theorem WL.call (f : FuncId) (args : Array Value) {R : Value → World → Prop} (hw : want ops env o = some true) (hk : known env o = true)
    (hr : (execOp (rho env) o).run P w = .ok (.enter f args) w) (hc : CallV P f args w R)
    (h : ∀ v w', R v w' → ∃ env', putO N env o v = some env' ∧ WL P ops Q N rest env' w') : WL P ops Q N (o :: rest) env w := by
  intro fr hs
  simp only [wpList, hs.want hw, if_true]
  left
  have hr' := hr
  rw [← hs.exec (ds := []) hk] at hr'
  refine wp_of_upon hr' ?_
  simp only [Oper.upon]
  refine Calls.mono hc ?_
  rintro e w' ⟨v, rfl, hv⟩
  obtain ⟨env', hp, h'⟩ := h v w' hv
  obtain ⟨fr', he, hs'⟩ := hs.putO hp
  show wpList P ops Q rest (Act.put ⟨fr, []⟩ o.dst v) w'
  rw [he]
  exact h' fr' hs'

/-! ### C. Code -/

theorem WP.region {id : Nat} {ops : Array Oper} (h : WL P ops Q N ops.toList env w) : WP P (.region id ops false) Q N env w :=
  fun fr hs => wp_region_list (h fr hs)

theorem WP.seq {x y : Code} (h : ∀ K : Act → World → Prop, (∀ N' env' w', WP P y Q N' env' w' → WQ (fun _ => K) .normal N' env' w') → WP P x (Exit.then K Q) N env w) :
    WP P (.seq x y) Q N env w :=
  fun fr hs => wp_seq (h (fun a w => y.wp P Q a w) (fun _ _ _ h' => h') fr hs)

theorem WP.skip (h : WQ Q .normal N env w) : WP P .skip Q N env w := fun fr hs => wp_skip (h fr hs)
theorem WP.ret (h : WQ Q .ret N env w) : WP P .ret Q N env w := fun fr hs => wp_ret (h fr hs)
theorem WP.exit {id : Nat} (h : WQ Q (.exit id) N env w) : WP P (.exit id) Q N env w := fun fr hs => wp_exit (h fr hs)
theorem WP.block {id : Nat} {c : Code} (h : WP P c (Exit.inBlock id Q) N env w) : WP P (.block id c) Q N env w := fun fr hs => wp_block (h fr hs)

theorem WP.cond {c : Operand} {x y : Code} (b : Bool) (hk : knownX env c = true) (hc : rho env c = .bool b) (ht : b = true → WP P x Q N env w) (hf : b = false → WP P y Q N env w) :
    WP P (.cond c x y) Q N env w := by
  intro fr hs
  refine wp_cond_split (t := b) (by rw [hs.eval hk]; exact hc) (fun e => ht e fr hs) (fun e => hf e fr hs)

theorem WQ.then_normal {K : Act → World → Prop} (h : WQ (fun _ => K) .normal N env w) : WQ (Exit.then K Q) .normal N env w := h
theorem WQ.then_exit {K : Act → World → Prop} {id : Nat} (h : WQ Q (.exit id) N env w) : WQ (Exit.then K Q) (.exit id) N env w := h
theorem WQ.then_ret {K : Act → World → Prop} (h : WQ Q .ret N env w) : WQ (Exit.then K Q) .ret N env w := h
theorem WQ.block_normal {id : Nat} (h : WQ Q .normal N env w) : WQ (Exit.inBlock id Q) .normal N env w := h
theorem WQ.block_ret {id : Nat} (h : WQ Q .ret N env w) : WQ (Exit.inBlock id Q) .ret N env w := h
theorem WQ.block_here {id : Nat} (h : WQ Q .normal N env w) : WQ (Exit.inBlock id Q) (.exit id) N env w := fun fr hs => by
  show (if id = id then _ else _); rw [if_pos rfl]; exact h fr hs
theorem WQ.block_past {id id' : Nat} (hne : Nat.beq id' id = false) (h : WQ Q (.exit id') N env w) : WQ (Exit.inBlock id Q) (.exit id') N env w := fun fr hs => by
  have : ¬ id' = id := by intro e; subst e; simp at hne
  show (if id' = id then _ else _); rw [if_neg this]; exact h fr hs

/-- Only these slots are still wanted. -/
def keep (ts : List Nat) : Env → Env
  | [] => []
  | (k, v) :: r => match ts.elem k with
    | true => (k, v) :: keep ts r
    | false => keep ts r

theorem look_keep (ts : List Nat) (env : Env) (t : Nat) (v : Value) (h : look (keep ts env) t = some v) : look env t = some v := by
  induction env with
  | nil => simp [keep, look] at h
  | cons p r ih =>
    obtain ⟨k, u⟩ := p
    unfold keep at h
    cases hk : ts.elem k with
    | true =>
      simp only [hk] at h
      simp only [look] at h ⊢
      cases hb : Nat.beq k t <;> simp only [hb] at h ⊢
      · exact ih h
      · exact h
    | false =>
      simp only [hk] at h
      have h2 := ih h
      simp only [look]
      cases hb : Nat.beq k t
      · exact h2
      · exfalso
        have e : k = t := by simpa using hb
        subst e
        clear ih h2
        have : ∀ r : Env, look (keep ts r) k = some v → False := by
          intro r
          induction r with
          | nil => simp [keep, look]
          | cons q s ih2 =>
            obtain ⟨k2, u2⟩ := q
            unfold keep
            cases hk2 : ts.elem k2 with
            | false => simpa using ih2
            | true =>
              simp only [look]
              cases hb2 : Nat.beq k2 k
              · simpa using ih2
              · have : k2 = k := by simpa using hb2
                subst this
                rw [hk] at hk2; cases hk2
        exact this r h

theorem Sat.keep {fr : Array Value} (ts : List Nat) (h : Sat N fr env) : Sat N fr (Gv.keep ts env) := ⟨h.size, fun t v ht => h.val t v (look_keep ts env t v ht)⟩

/-- Every slot that 'env'' tells is told so by 'env'. -/
def subE (env : Env) : Env → Prop
  | [] => True
  | (t, v) :: r => look env t = some v ∧ subE env r

theorem Sat.sub {fr : Array Value} (h : Sat N fr env) : ∀ (env' : Env), subE env env' → Sat N fr env'
  | [], _ => ⟨h.size, fun t v ht => by simp [look] at ht⟩
  | (t, v) :: r, hb => by
    have h2 := h.sub r hb.2
    refine ⟨h.size, fun t' v' ht => ?_⟩
    simp only [look] at ht
    cases hb' : Nat.beq t t' <;> simp only [hb'] at ht
    · exact h2.val t' v' ht
    · have : t = t' := by simpa using hb'
      subst this; cases ht
      exact h.val t v hb.1

theorem WP.sub {c : Code} (env' : Env) (hb : subE env env') (h : WP P c Q N env' w) : WP P c Q N env w := fun fr hs => h fr (hs.sub env' hb)
theorem WL.sub (env' : Env) (hb : subE env env') (h : WL P ops Q N l env' w) : WL P ops Q N l env w := fun fr hs => h fr (hs.sub env' hb)
theorem WQ.sub {e : Exit} (env' : Env) (hb : subE env env') (h : WQ Q e N env' w) : WQ Q e N env w := fun fr hs => h fr (hs.sub env' hb)

theorem WP.mono {c : Code} {Q' : Exit → Act → World → Prop} (hq : ∀ e a w, Q e a w → Q' e a w) (h : WP P c Q N env w) : WP P c Q' N env w :=
  fun fr hs => Code.wp_mono hq (h fr hs)

/-- A loop, by a count that its rounds lower. -/
theorem least (p : Nat → Prop) (h : ∃ n, p n) : ∃ n, p n ∧ ∀ m, p m → n ≤ m := by
  obtain ⟨n, hn⟩ := h
  induction n using Nat.strongRecOn with
  | _ n ih =>
    by_cases hm : ∃ m, m < n ∧ p m
    · obtain ⟨m, hlt, hp⟩ := hm; exact ih m hlt hp
    · exact ⟨n, hn, fun m hp => Nat.le_of_not_lt fun hlt => hm ⟨m, hlt, hp⟩⟩

theorem WP.loop {c : Code} (J : Nat → Env → World → Prop) (n : Nat) (h0 : J n env w)
    (round : ∀ n env w, J n env w → ∀ K : Act → World → Prop, (∀ m env' w', m < n → J m env' w' → WQ (fun _ => K) .normal N env' w') → WP P c (Exit.then K Q) N env w) :
    WP P (.loop c) Q N env w := by
  intro fr hs
  classical
  let I : Act → World → Nat → Prop := fun a w n => ∃ env fr, a = ⟨fr, []⟩ ∧ Sat N fr env ∧ J n env w
  let μ : Act → World → Nat := fun a w => if h : ∃ n, I a w n then Classical.choose (least _ h) else 0
  have hμ : ∀ a w (h : ∃ n, I a w n), I a w (μ a w) ∧ ∀ m, I a w m → μ a w ≤ m := fun a w h => by
    have : μ a w = Classical.choose (least _ h) := dif_pos h
    rw [this]; exact Classical.choose_spec (least _ h)
  refine wp_loop (fun a w => ∃ n, I a w n) μ ⟨n, env, fr, rfl, hs, h0⟩ ?_
  intro a w hI
  obtain ⟨⟨env, fr, ha, hs, hJ⟩, -⟩ := hμ a w hI
  have := round _ env w hJ (fun a' w' => (∃ n, I a' w' n) ∧ μ a' w' < μ a w)
    (fun m env' w' hm hJ' fr' hs' => by
      have hI' : ∃ n, I ⟨fr', []⟩ w' n := ⟨m, env', fr', rfl, hs', hJ'⟩
      exact ⟨hI', Nat.lt_of_le_of_lt ((hμ _ _ hI').2 m ⟨env', fr', rfl, hs', hJ'⟩) hm⟩) fr hs
  rw [ha] at this ⊢
  exact this

/-! ### Functions: the way in and the way out -/

def holdsArgs (args : Array Value) : Env → Prop
  | [] => True
  | (t, v) :: r => args[t]? = some v ∧ holdsArgs args r

theorem CallV.enter {f : FuncId} {fn : Func} {c : Code} {args : Array Value} {R : Value → World → Prop} (hf : P.funcs[f]? = some fn) (hb : fn.body = some c)
    (hn : Nat.ble args.size fn.ntmps = true) (hN : fn.ntmps = N) (ha : holdsArgs args env)
    (h : WP P c (bodyPost P fn fun e w' => ∃ v, e = .returned v ∧ R v w') N env w) : CallV P f args w R := by
  refine calls_of_wp hf hb (h _ ?_)
  have hsz : args.size ≤ fn.ntmps := by simpa using hn
  have hS : (args ++ Array.replicate (fn.ntmps - args.size) undef).size = N := by simp; omega
  have key : ∀ env, holdsArgs args env → Sat N (args ++ Array.replicate (fn.ntmps - args.size) undef) env := by
    intro env
    induction env with
    | nil => exact fun _ => ⟨hS, fun t v ht => by simp [look] at ht⟩
    | cons p r ih =>
      obtain ⟨t, v⟩ := p
      intro hh
      have h2 := ih hh.2
      refine ⟨hS, fun t' v' ht => ?_⟩
      simp only [look] at ht
      cases hb' : Nat.beq t t' <;> simp only [hb'] at ht
      · exact h2.val t' v' ht
      · have e : t = t' := by simpa using hb'
        subst e; cases ht
        have := hh.1
        have hlt : t < args.size := by
          rcases Nat.lt_or_ge t args.size with hlt | hge
          · exact hlt
          · simp [Array.getElem?_eq_none hge] at this
        rw [Array.getElem?_append_left hlt]; exact this
  exact key env ha

theorem WQ.ret0 {fn : Func} {R : Value → World → Prop} (hres : fn.results = #[]) (hR : R (.tuple #[]) w) :
    WQ (bodyPost P fn fun e w' => ∃ v, e = .returned v ∧ R v w') .ret N env w :=
  fun _ _ => bodyPost_ret (results_none hres _ _ _) rfl ⟨_, rfl, hR⟩

theorem WQ.end0 {fn : Func} {R : Value → World → Prop} (hres : fn.results = #[]) (hR : R (.tuple #[]) w) :
    WQ (bodyPost P fn fun e w' => ∃ v, e = .returned v ∧ R v w') .normal N env w :=
  fun _ _ => bodyPost_end (results_none hres _ _ _) rfl ⟨_, rfl, hR⟩

theorem Sat.getD {fr : Array Value} (hs : Sat N fr env) {t : Nat} {v : Value} (h : look env t = some v) : fr.getD t undef = v := by
  simp [Array.getD_eq_getD_getElem?, hs.val t v h]

theorem WQ.ret1 {fn : Func} {R : Value → World → Prop} {t : Nat} (v : Value) (hres : fn.results = #[.tmp t]) (hv : look env t = some v) (hR : R v w) :
    WQ (bodyPost P fn fun e w' => ∃ v, e = .returned v ∧ R v w') .ret N env w :=
  fun fr hs => bodyPost_ret (results_tmp hres _ _ _) rfl ⟨_, rfl, by rw [hs.getD hv]; exact hR⟩

theorem WQ.ret2 {fn : Func} {R : Value → World → Prop} {t u : Nat} (v v2 : Value) (hres : fn.results = #[.tmp t, .tmp u]) (hv : look env t = some v) (hv2 : look env u = some v2) (hR : R (.tuple #[v, v2]) w) :
    WQ (bodyPost P fn fun e w' => ∃ v, e = .returned v ∧ R v w') .ret N env w :=
  fun fr hs => bodyPost_ret (results_tmp2 hres _ _ _) rfl ⟨_, rfl, by rw [hs.getD hv, hs.getD hv2]; exact hR⟩

theorem WQ.ret3 {fn : Func} {R : Value → World → Prop} {t u x : Nat} (v v2 v3 : Value) (hres : fn.results = #[.tmp t, .tmp u, .tmp x]) (hv : look env t = some v) (hv2 : look env u = some v2) (hv3 : look env x = some v3)
    (hR : R (.tuple #[v, v2, v3]) w) : WQ (bodyPost P fn fun e w' => ∃ v, e = .returned v ∧ R v w') .ret N env w :=
  fun fr hs => bodyPost_ret (v := .tuple #[v, v2, v3]) (by simp [results, hres, hs.val t _ hv, hs.val u _ hv2, hs.val x _ hv3]) rfl ⟨_, rfl, hR⟩

end
end Go.Gv
