/- Regions whose order is open and that write: the operations that only read may come up in any order; what writes waits for them. No program is named here. -/
import Derived.Test.YtkpdicajinionaaGreatDoorGq
import Derived.Laws.StructEq
import Derived.Lib.ConvBytes
namespace Go.Gv
open Go Go.RowKit

section
variable {P : Program} {ops : Array Oper} {Q : Exit → Act → World → Prop} {N : Nat} {E env env' : Env} {w : World} {C : World → Prop} {l : List Oper}

def edgesOf (o : Oper) : List Nat := (o.after.toList.filter (Region.binds .any)).map (·.on)

/-- Of each operation, those that must have come up before it. -/
def ancs : List Oper → List (List Nat) → List (List Nat)
  | [], acc => acc
  | o :: r, acc => ancs r (acc ++ [((edgesOf o).flatMap fun i => i :: acc.getD i []).eraseDups])

/-- All that an operation waits for has come up. -/
def DC (ops : Array Oper) (listed : Array Bool) : Prop := ∀ k, listed.getD k false = true → ∀ o, ops[k]? = some o → ∀ i ∈ edgesOf o, listed.getD i false = true

theorem ancs_sound : ∀ (l : List Oper) (acc : List (List Nat)) (done : List Oper) (listed : Array Bool), acc.length = done.length →
    (∀ j o, done[j]? = some o → (∀ i ∈ edgesOf o, listed.getD i false = true) → ∀ i ∈ acc.getD j [], listed.getD i false = true) → DC (done ++ l).toArray listed →
    ∀ j o, (done ++ l)[j]? = some o → (∀ i ∈ edgesOf o, listed.getD i false = true) → ∀ i ∈ (ancs l acc).getD j [], listed.getD i false = true
  | [], acc, done, listed, hl, hacc, _, j, o, ho, he => by simpa [ancs] using hacc j o (by simpa using ho) he
  | o' :: r, acc, done, listed, hl, hacc, hdc, j, o, ho, he => by
    unfold ancs
    have h2 : (done ++ [o']) ++ r = done ++ o' :: r := by simp
    refine ancs_sound r _ (done ++ [o']) listed (by simp [hl]) ?_ (by rw [h2]; exact hdc) j o (by rw [h2]; exact ho) he
    intro k p hp hep i hi
    rcases Nat.lt_trichotomy k done.length with hlt | rfl | hgt
    · rw [List.getElem?_append_left hlt] at hp
      rw [List.getD_eq_getElem?_getD, List.getElem?_append_left (by omega), ← List.getD_eq_getElem?_getD] at hi
      exact hacc k p hp hep i hi
    · rw [List.getElem?_append_right (Nat.le_refl _)] at hp
      simp at hp; subst hp
      rw [List.getD_eq_getElem?_getD, List.getElem?_append_right (by omega)] at hi
      simp [hl] at hi
      obtain ⟨e, he1, he2⟩ := hi
      have hle := hep e he1
      rcases he2 with rfl | he2
      · exact hle
      · -- an ancestor of what has come up
        by_cases hed : e < done.length
        · have hd : done[e]? = some done[e] := List.getElem?_eq_getElem hed
          refine hacc e _ hd (fun i' hi' => ?_) i (by simpa using he2)
          exact hdc e hle done[e] (by simp [List.getElem?_append_left hed]) i' hi'
        · have : acc[e]?.getD [] = [] := by rw [List.getElem?_eq_none (by omega)]; rfl
          rw [this] at he2; cases he2
    · rw [List.getElem?_eq_none (by simp; omega)] at hp; cases hp

theorem ready_edges {j : Nat} {listed : Array Bool} (h : j ∈ Region.ready .any ops listed) : listed.getD j true = false ∧ ∃ o, ops[j]? = some o ∧ ∀ i ∈ edgesOf o, listed.getD i false = true := by
  obtain ⟨h0, o, ho, hall⟩ := mem_ready.1 h
  refine ⟨h0, o, ho, fun i hi => ?_⟩
  simp only [edgesOf, List.mem_map, List.mem_filter] at hi
  obtain ⟨e, ⟨he1, he2⟩, rfl⟩ := hi
  exact hall e (by simpa using he1) he2

theorem DC.init (n : Nat) : DC ops (Array.replicate n false) := by
  intro k hk
  exfalso
  rw [Array.getD_eq_getD_getElem?, Array.getElem?_replicate] at hk
  split at hk <;> simp at hk

theorem DC.set {i : Nat} {listed : Array Bool} (h : DC ops listed) (hr : i ∈ Region.ready .any ops listed) : DC ops (listed.setIfInBounds i true) := by
  intro k hk o ho e he
  by_cases hki : i = k
  · subst hki
    obtain ⟨_, o', ho', hall⟩ := ready_edges hr
    rw [ho] at ho'; cases ho'
    exact getD_set_true (hall e he)
  · rw [getD_set_ne false hki] at hk
    exact getD_set_true (h k hk o ho e he)

def allL (hs : List Nat) (listed : Array Bool) : Prop := ∀ i ∈ hs, listed.getD i false = true

/-- What does not belong to 'hs' and has not come up waits for all of 'hs'. -/
def waitB (ops : Array Oper) (pre hs : List Nat) : Bool :=
  (List.range ops.size).all fun j => pre.contains j || hs.contains j || hs.all fun i => ((ancs ops.toList []).getD j []).contains i

theorem waitB_spec {pre hs : List Nat} (hb : waitB ops pre hs = true) {listed : Array Bool} (hdc : DC ops listed) (hpre : allL pre listed) (hn : ¬ allL hs listed) {j : Nat} (hj : j ∈ Region.ready .any ops listed) : j ∈ hs := by
  obtain ⟨h0, o, ho, hall⟩ := ready_edges hj
  have hlt : j < ops.size := (Array.getElem?_eq_some_iff.1 ho).1
  have h1 := List.all_eq_true.1 hb j (by simpa using hlt)
  simp only [Bool.or_eq_true, List.contains_iff_mem, List.all_eq_true] at h1
  rcases h1 with (h1 | h1) | h1
  · exfalso
    have := hpre j h1
    rcases Nat.lt_or_ge j listed.size with hl | hl
    · simp [hl] at h0 this; rw [h0] at this; cases this
    · simp [Array.getElem?_eq_none hl] at this
  · exact h1
  · exfalso
    refine hn fun i hi => ?_
    have := ancs_sound ops.toList [] [] listed rfl (fun j o h => by simp at h) (by simpa using hdc) j o (by simpa using ho) hall i
    exact this (by simpa using h1 i hi)

/-- Whatever order is picked until all of 'hs' has come up; then the world stands again. -/
def wpM (P : Program) (ops : Array Oper) (C : World → Prop) (Q : Exit → Act → World → Prop) (hs : List Nat) : Nat → Array Bool → Act → Prop
  | 0, listed, a => allL hs listed ∧ ∀ w', C w' → wpAny P .any ops Q 0 listed a w'
  | fuel + 1, listed, a => (allL hs listed → ∀ w', C w' → wpAny P .any ops Q (fuel + 1) listed a w') ∧
    (¬ allL hs listed → Region.ready .any ops listed ≠ [] ∧ ∀ i ∈ Region.ready .any ops listed, qOp P ops C i (wpM P ops C Q hs fuel (listed.setIfInBounds i true)) a)

theorem wpM.all {hs : List Nat} {listed : Array Bool} {a : Act} (ha : allL hs listed) : ∀ fuel, (∀ w', C w' → wpAny P .any ops Q fuel listed a w') → wpM P ops C Q hs fuel listed a
  | 0, h => ⟨ha, h⟩
  | _ + 1, h => ⟨fun _ => h, fun hn => absurd ha hn⟩

theorem wpAny_of_wpM {hs : List Nat} : ∀ (fuel : Nat) (listed : Array Bool) (a : Act) (w : World), C w → wpM P ops C Q hs fuel listed a → wpAny P .any ops Q fuel listed a w
  | 0, _, _, _, hw, h => h.2 _ hw
  | fuel + 1, listed, a, w, hw, h => by
    by_cases ha : allL hs listed
    · exact h.1 ha w hw
    · obtain ⟨hne, h2⟩ := h.2 ha
      exact ⟨fun h0 => absurd h0 hne, fun i hi => wpOp_of_qOp hw (fun a' w' hw' h' => wpAny_of_wpM fuel _ a' w' hw' h') (h2 i hi)⟩

theorem unlisted_ne {listed : Array Bool} {i : Nat} (h : listed.getD i true = false) : listed.getD i false ≠ true := by
  rcases Nat.lt_or_ge i listed.size with hl | hl
  · simp [hl] at h ⊢; exact h
  · simp [Array.getElem?_eq_none hl] at h

theorem wpM_first {pre hs : List Nat} (hb : waitB ops pre hs = true) {i : Nat} {oi : Oper} {v : Value} (hih : i ∈ hs) (hi : ops[i]? = some oi) (hsel : ∀ (j : Nat) (o : Oper) cs b, ops[j]? = some o → o.op ≠ .select cs b) :
    ∀ (fuel : Nat) (listed : Array Bool) (a : Act), DC ops listed → allL pre listed →
      (∀ j oj, ops[j]? = some oj → j ≠ i → listed.getD j true = false → (∀ e ∈ oj.after, Region.binds .any e = true → e.on ≠ i) → oi.apart ops oj = true) →
      i ∈ Region.ready .any ops listed → YieldsIn P ops C oi v a →
      wpM P ops C Q hs fuel (listed.setIfInBounds i true) (a.put oi.dst v) → wpM P ops C Q hs (fuel + 1) listed a := by
  intro fuel
  induction fuel with
  | zero =>
    intro listed a hdc hpre _ hr hy H
    have hn : ¬ allL hs listed := fun ha => unlisted_ne (mem_ready.1 hr).1 (ha i hih)
    refine ⟨fun ha => absurd ha hn, fun _ => ⟨fun h0 => (by rw [h0] at hr; cases hr), fun j hj => ?_⟩⟩
    by_cases hji : j = i
    · subst hji; exact hy.qOp hi H
    · exfalso
      have hjh := waitB_spec hb hdc hpre hn hj
      have h1 := H.1 j hjh
      rw [getD_set_ne false (Ne.symm hji)] at h1
      exact unlisted_ne (mem_ready.1 hj).1 h1
  | succ fuel ih =>
    intro listed a hdc hpre hfree hr hy H
    have hn : ¬ allL hs listed := fun ha => unlisted_ne (mem_ready.1 hr).1 (ha i hih)
    refine ⟨fun ha => absurd ha hn, fun _ => ⟨fun h0 => (by rw [h0] at hr; cases hr), fun j hj => ?_⟩⟩
    by_cases hji : j = i
    · subst hji; exact hy.qOp hi H
    · have hjh := waitB_spec hb hdc hpre hn hj
      have hn2 : ¬ allL hs (listed.setIfInBounds i true) := fun ha => by
        have h1 := ha j hjh
        rw [getD_set_ne false (Ne.symm hji)] at h1
        exact unlisted_ne (mem_ready.1 hj).1 h1
      have h1 := (H.2 hn2).2 j (ready_mono hj hji)
      obtain ⟨hjun, oj, hoj, hall⟩ := mem_ready.1 hj
      have hnot : ∀ e ∈ oj.after, Region.binds .any e = true → e.on ≠ i := fun e he hbd heq => by
        have h1 := hall e he hbd
        rw [heq] at h1
        exact unlisted_ne (mem_ready.1 hr).1 h1
      have h2 := qOp_put hoj (hfree j oj hoj hji hjun hnot) (fun cs b => hsel i oi cs b hi) (fun cs b => hsel j oj cs b hoj) hy h1
      have hfree' : ∀ k ok, ops[k]? = some ok → k ≠ i → (listed.setIfInBounds j true).getD k true = false →
          (∀ e ∈ ok.after, Region.binds .any e = true → e.on ≠ i) → oi.apart ops ok = true := fun k ok hk hki hun hno => by
        refine hfree k ok hk hki ?_ hno
        by_cases hjk : j = k
        · subst hjk; exact hjun
        · rw [getD_set_ne true hjk] at hun; exact hun
      refine qOp_mono (fun a' h3 => ih (listed.setIfInBounds j true) a' (hdc.set hj) (fun k hk => getD_set_true (hpre k hk)) hfree' (ready_mono hr (Ne.symm hji)) h3.1 ?_) h2
      rw [Array.setIfInBounds_comm _ _ hji]
      exact h3.2

def nth : List Oper → Nat → Option Oper
  | [], _ => none
  | o :: _, 0 => some o
  | _ :: r, n + 1 => nth r n

def pick (l : List Oper) : List Nat → List Oper
  | [] => []
  | i :: is => match nth l i with
    | some o => o :: pick l is
    | none => pick l is

theorem nth_eq : ∀ (l : List Oper) (i : Nat), nth l i = l[i]?
  | [], i => by simp [nth]
  | o :: l, 0 => by simp [nth]
  | o :: l, i + 1 => by simp [nth, nth_eq l i]

/-- One after the other may come up first. -/
def lexI (ops : Array Oper) : List Nat → Array Bool → Bool
  | [], _ => true
  | i :: is, listed => (Region.ready .any ops listed).contains i && Region.free .any ops listed i && lexI ops is (listed.setIfInBounds i true)

def setL (is : List Nat) (listed : Array Bool) : Array Bool := is.foldl (fun l i => l.setIfInBounds i true) listed

theorem wpM_lex {pre hs : List Nat} (hb : waitB ops pre hs = true) (hsel : Region.noSelect ops = true) (f : Nat) : ∀ (is : List Nat) (listed : Array Bool) (a : Act), DC ops listed → allL pre listed → (∀ i ∈ is, i ∈ hs) → lexI ops is listed = true →
    allL hs (setL is listed) → wpQuiet P ops C (fun a' => ∀ w', C w' → wpAny P .any ops Q f (setL is listed) a' w') (pick ops.toList is) a → wpM P ops C Q hs (is.length + f) listed a
  | [], listed, a, _, _, _, _, ha, h => by
    rw [List.length_nil, Nat.zero_add]; exact wpM.all ha f h
  | i :: is, listed, a, hdc, hpre, hin, hB, ha, h => by
    simp only [lexI, Bool.and_eq_true] at hB
    obtain ⟨⟨hr, hf⟩, hB'⟩ := hB
    have hr' : i ∈ Region.ready .any ops listed := by simpa using hr
    obtain ⟨_, o, ho, _⟩ := mem_ready.1 hr'
    have hp : pick ops.toList (i :: is) = o :: pick ops.toList is := by
      have : nth ops.toList i = some o := by rw [nth_eq]; simpa using ho
      simp only [pick, this]
    rw [hp] at h
    have hst : qOp P ops C i (wpQuiet P ops C (fun a' => ∀ w', C w' → wpAny P .any ops Q f (setL is (listed.setIfInBounds i true)) a' w') (pick ops.toList is)) a := by unfold qOp; simp only [ho]; exact h
    obtain ⟨v, hy, hK⟩ := yieldsIn_of_qOp ho hst
    have := wpM_first hb (hin i (by simp)) ho (Region.noSelect_spec hsel) (is.length + f) listed a hdc hpre (Region.free_spec ho hf) hr' hy
      (wpM_lex hb hsel f is _ _ (hdc.set hr') (fun k hk => getD_set_true (hpre k hk)) (fun k hk => hin k (by simp [hk])) hB' ha hK)
    rw [show (i :: is).length + f = is.length + f + 1 by simp; omega]
    exact this

/-- One after the other, each alone. -/
def seqI (ops : Array Oper) : List Nat → Array Bool → Bool
  | [], listed => (Region.ready .any ops listed).isEmpty
  | i :: is, listed => (Region.ready .any ops listed == [i]) && seqI ops is (listed.setIfInBounds i true)

theorem wpAny_seq : ∀ (is : List Nat) (listed : Array Bool) (a : Act) (w : World), seqI ops is listed = true → wpList P ops Q (pick ops.toList is) a w → wpAny P .any ops Q is.length listed a w
  | [], listed, a, w, hB, h => by
    simp only [seqI, List.isEmpty_iff] at hB
    exact ⟨hB, h⟩
  | i :: is, listed, a, w, hB, h => by
    simp only [seqI, Bool.and_eq_true, beq_iff_eq] at hB
    obtain ⟨hr, hB'⟩ := hB
    have hr' : i ∈ Region.ready .any ops listed := by rw [hr]; simp
    obtain ⟨_, o, ho, _⟩ := mem_ready.1 hr'
    have hp : pick ops.toList (i :: is) = o :: pick ops.toList is := by
      have : nth ops.toList i = some o := by rw [nth_eq]; simpa using ho
      simp only [pick, this]
    rw [hp] at h
    refine ⟨fun h0 => (by rw [h0] at hr; cases hr), fun j hj => ?_⟩
    rw [hr, List.mem_singleton] at hj
    subst hj
    have : wpOp P ops Q j (wpList P ops Q (pick ops.toList is)) a w := by unfold wpOp; simp only [ho]; exact h
    exact wpOp_mono (fun a' w' h' => wpAny_seq is _ a' w' hB' h') this

/-- Operations that look at no memory, taken first. -/
def runP (P : Program) (N : Nat) (ops : Array Oper) : List Oper → Env → Env → Prop
  | [], env, env' => env = env'
  | o :: r, env, env' => ∃ e, (∀ w, run1 P N ops w env o = some (e, w)) ∧ o.dst.isSome = true ∧ runP P N ops r e env'

def NoP (Q : Exit → Act → World → Prop) : Exit → Act → World → Prop := fun e a w => match e with
  | .panic _ => False
  | e => Q e a w

theorem WQ.noP (h : WQ Q .normal N env w) : WQ (NoP Q) .normal N env w := h

/-- What is still to be done of a region: 'D' has come up already. -/
def KA (P : Program) (ops : Array Oper) (Q : Exit → Act → World → Prop) (f : Nat) (D : List Nat) : Exit → Act → World → Prop := fun e a w => match e with
  | .normal => DC ops (setL D (Array.replicate ops.size false)) → wpAny P .any ops (NoP Q) f (setL D (Array.replicate ops.size false)) a w
  | _ => False

theorem setL_append (D is : List Nat) (L : Array Bool) : setL (D ++ is) L = setL is (setL D L) := by simp [setL]

theorem wpQuiet_mono' {T T' : Act → Prop} (h : ∀ a, T a → T' a) : ∀ (l : List Oper) (a : Act), wpQuiet P ops C T l a → wpQuiet P ops C T' l a
  | [], a, hh => h a hh
  | o :: l, a, hh => by
    unfold wpQuiet at hh ⊢
    split
    · rename_i hw; simp only [hw, if_true] at hh; exact Oper.quiet_mono (fun a' => wpQuiet_mono' h l a') hh
    · rename_i hw; simp only [hw] at hh; exact wpQuiet_mono' h l _ hh

theorem lexI_DC : ∀ (is : List Nat) (listed : Array Bool), lexI ops is listed = true → DC ops listed → DC ops (setL is listed)
  | [], _, _, h => h
  | i :: is, listed, hB, h => by
    simp only [lexI, Bool.and_eq_true] at hB
    obtain ⟨⟨hr, _⟩, hB'⟩ := hB
    exact lexI_DC is _ hB' (h.set (by simpa using hr))

/-- One operation that looks at no memory, taken first. -/
theorem WA.pre {i f : Nat} {D D' : List Nat} {o : Oper} (env' : Env) (ho : nth ops.toList i = some o) (hB : (Region.noSelect ops && lexI ops [i] (setL D (Array.replicate ops.size false))) = true) (hD : D ++ [i] = D')
    (h1 : ∀ w, run1 P N ops w env o = some (env', w)) (hd : o.dst.isSome = true) (h : WQ (KA P ops Q f D') .normal N env' w) : WQ (KA P ops Q (f + 1) D) .normal N env w := by
  intro fr hs hdc
  subst hD
  have ho : ops[i]? = some o := by rw [nth_eq] at ho; simpa using ho
  simp only [lexI, Bool.and_eq_true, Bool.and_true] at hB
  obtain ⟨hsel, hr, hf⟩ := hB
  have hr' : i ∈ Region.ready .any ops (setL D (Array.replicate ops.size false)) := by simpa using hr
  obtain ⟨d, hd'⟩ := Option.isSome_iff_exists.1 hd
  obtain ⟨v, hy, hput⟩ : ∃ v, Yields P ops o v ⟨fr, []⟩ ∧ ∃ fr', (Act.put ⟨fr, []⟩ o.dst v) = ⟨fr', []⟩ ∧ Sat N fr' env' := by
    have h1w := h1 w
    unfold run1 at h1w
    cases hw : want ops env o with
    | none => simp [hw] at h1w
    | some b =>
      have hbw := hs.want hw
      cases b with
      | false =>
        simp only [hw, Option.map_eq_some_iff, Prod.mk.injEq] at h1w
        obtain ⟨e', hpe, rfl, -⟩ := h1w
        exact ⟨undef, .inr ⟨hbw, rfl⟩, hs.putO hpe⟩
      | true =>
        have one : ∀ w', ∃ v, (execOp (rho env) o).run P w' = .ok (.value v) w' ∧ putO N env o v = some env' ∧ known env o = true := by
          intro w'
          have h1w := h1 w'
          simp only [run1, hw] at h1w
          cases hk : known env o with
          | false => simp [hk] at h1w
          | true =>
            simp only [hk] at h1w
            cases hrr : (execOp (rho env) o).run P w' with
            | halt x y => simp [hrr] at h1w
            | ok n y =>
              cases n with
              | value v =>
                simp only [hrr, Option.map_eq_some_iff, Prod.mk.injEq] at h1w
                obtain ⟨e', hpe, rfl, rfl⟩ := h1w
                exact ⟨v, rfl, hpe, rfl⟩
              | _ => simp [hrr] at h1w
        have uniq : ∀ u v, putO N env o u = some env' → putO N env o v = some env' → u = v := by
          intro u v hu hv
          simp only [putO, hd'] at hu hv
          cases hN : Nat.blt d N with
          | false => simp [hN] at hu
          | true =>
            simp only [hN, Option.some.injEq] at hu hv
            have e1 := look_put_same env d u
            have e2 := look_put_same env d v
            rw [hu] at e1; rw [hv] at e2; rw [e1] at e2; exact Option.some.inj e2
        obtain ⟨v, _, hpv, hk⟩ := one w
        refine ⟨v, .inl ⟨hbw, fun w' => ?_⟩, hs.putO hpv⟩
        obtain ⟨u, hru, hpu, _⟩ := one w'
        rw [hs.exec hk, hru, uniq u v hpu hpv]
  obtain ⟨fr', he, hs'⟩ := hput
  refine wpAny_take ho hsel hf (by simpa using hr') (fun _ _ _ h => h) hy ?_
  rw [he]
  have e1 : setL (D ++ [i]) (Array.replicate ops.size false) = (setL D (Array.replicate ops.size false)).setIfInBounds i true := by rw [setL_append]; rfl
  have := h fr' hs' (by rw [e1]; exact hdc.set hr')
  rw [e1] at this
  exact this

/-- Operations that only read, in any order. -/
theorem WA.quiet {f f' : Nat} {D D' : List Nat} (hs : List Nat) (hf : hs.length + f' = f) (hD : D ++ hs = D')
    (hB : (Region.noSelect ops && lexI ops hs (setL D (Array.replicate ops.size false)) && waitB ops D hs && D.all (fun i => (setL D (Array.replicate ops.size false)).getD i false) && hs.all (fun i => (setL D' (Array.replicate ops.size false)).getD i false)) = true)
    (h : QL P ops (KA P ops Q f' D') N w (pick ops.toList hs) env) : WQ (KA P ops Q f D) .normal N env w := by
  intro fr hfr hdc
  subst hf
  simp only [Bool.and_eq_true, List.all_eq_true] at hB
  obtain ⟨⟨⟨⟨b1, b2⟩, b3⟩, b4⟩, b5⟩ := hB
  have e1 : setL D' (Array.replicate ops.size false) = setL hs (setL D (Array.replicate ops.size false)) := by rw [← hD, setL_append]
  rw [e1] at b5
  refine wpAny_of_wpM (C := Ext w) (hs := hs) _ _ _ _ (Ext.refl w) ?_
  refine wpM_lex b3 b1 f' hs _ _ hdc (fun i hi => b4 i hi) (fun i hi => hi) b2 (fun i hi => b5 i hi) ?_
  refine wpQuiet_mono' (fun a' h' w' hw' => ?_) _ _ (wpQuiet_of_QS _ _ (h fr hfr))
  have := h' w' hw'
  simp only [KA] at this
  rw [e1] at this
  exact this (lexI_DC hs _ b2 hdc)

theorem noOut {f : Nat} {D : List Nat} (h : LetsOut (KA P ops Q f D)) : False := by
  obtain ⟨a, w, h⟩ := h
  exact h

theorem upon_noP {f : Nat} {D : List Nat} {o : Oper} {a : Act} {w : World} {K : Act → World → Prop} {Q' : Exit → Act → World → Prop} (h : o.wp P a w K (KA P ops Q f D)) : o.wp P a w K Q' := by
  unfold Oper.wp at h ⊢
  generalize (execOp a.eval o).run P w = r at h ⊢
  cases r with
  | ok n w' =>
    cases n with
    | enter g args =>
      refine Calls.mono h fun e w'' h4 => ?_
      cases e with
      | returned v => exact h4
      | panicked c => exact False.elim h4
      | outgrown => exact (noOut h4).elim
    | _ => first | exact h | exact False.elim h
  | halt x w' => cases x <;> first | exact False.elim h | exact h

/-- One operation that comes up alone. -/
theorem WA.one {i f : Nat} {D D' : List Nat} {o : Oper} (ho : nth ops.toList i = some o) (hD : D ++ [i] = D') (hB : (Region.ready .any ops (setL D (Array.replicate ops.size false)) == [i]) = true)
    (h : WL P ops (KA P ops Q f D') N [o] env w) : WQ (KA P ops Q (f + 1) D) .normal N env w := by
  intro fr hs hdc
  subst hD
  have ho : ops[i]? = some o := by rw [nth_eq] at ho; simpa using ho
  have hr : Region.ready .any ops (setL D (Array.replicate ops.size false)) = [i] := by simpa using hB
  have hr' : i ∈ Region.ready .any ops (setL D (Array.replicate ops.size false)) := by rw [hr]; simp
  have e1 : setL (D ++ [i]) (Array.replicate ops.size false) = (setL D (Array.replicate ops.size false)).setIfInBounds i true := by rw [setL_append]; rfl
  have h2 := h fr hs
  refine ⟨fun h0 => (by rw [h0] at hr; cases hr), fun j hj => ?_⟩
  rw [hr, List.mem_singleton] at hj
  subst hj
  have h3 : wpOp P ops (KA P ops Q f (D ++ [j])) j (fun a' w' => wpAny P .any ops (NoP Q) f ((setL D (Array.replicate ops.size false)).setIfInBounds j true) a' w') ⟨fr, []⟩ w := by
    unfold wpOp
    simp only [ho]
    simp only [wpList] at h2
    split
    · rename_i hw
      simp only [hw, if_true] at h2
      rcases h2 with h2 | h2
      · refine .inl (Oper.wp_mono (fun a' w' h' => ?_) h2)
        simp only [KA] at h'
        rw [e1] at h'
        exact h' (hdc.set hr')
      · exact .inr h2
    · rename_i hw
      simp only [hw] at h2
      simp only [Bool.false_eq_true, if_false, KA] at h2
      rw [e1] at h2
      exact h2 (hdc.set hr')
  unfold wpOp at h3 ⊢
  simp only [ho] at h3 ⊢
  split
  · rename_i hw
    simp only [hw, if_true] at h3
    rcases h3 with h3 | ⟨_, h3⟩
    · exact .inl (upon_noP h3)
    · exact (noOut h3).elim
  · rename_i hw
    simp only [hw] at h3
    exact h3

/-! ### One that writes, beside others that only read -/

/-- What 'o' gives in every world from 'w' on, and it leaves what was there. -/
def YS (P : Program) (ops : Array Oper) (w : World) (o : Oper) (v : Value) (a : Act) : Prop :=
  (Region.wanted o (yielded ops a.tmps) = true ∧ ∀ w', Ext w w' → o.quietAt P a (Ext w') w' v) ∨ (Region.wanted o (yielded ops a.tmps) = false ∧ v = undef)

/-- A class of worlds that goes on. -/
structure Goes (w : World) (C : World → Prop) : Prop where
  sub : ∀ w', C w' → Ext w w'
  ext : ∀ w' w'', C w' → Ext w' w'' → C w''

theorem YS.yields {o : Oper} {v : Value} {a : Act} (h : YS P ops w o v a) (hC : Goes w C) : YieldsIn P ops C o v a := by
  rcases h with ⟨h1, h2⟩ | h
  · exact .inl ⟨h1, fun w' hw' => quietAt_mono (fun w'' hE => hC.ext w' w'' hw' hE) (h2 w' (hC.sub w' hw'))⟩
  · exact .inr h

theorem YS.of_same {o : Oper} {v : Value} {a a' : Act} (hy : YS P ops w o v a) (he : execOp a'.eval o = execOp a.eval o)
    (hw : Region.wanted o (yielded ops a'.tmps) = Region.wanted o (yielded ops a.tmps)) : YS P ops w o v a' := by
  unfold YS Oper.quietAt at *
  rw [he, hw]
  exact hy

theorem qOp_putS {C : World → Prop} {j : Nat} {oi oj : Oper} {v : Value} (hj : ops[j]? = some oj) (hap : oi.apart ops oj = true)
    (hsi : ∀ cs b, oi.op ≠ .select cs b) (hsj : ∀ cs b, oj.op ≠ .select cs b) {K : Act → Prop} {a : Act}
    (hy : YS P ops w oi v a) (h : qOp P ops C j K (a.put oi.dst v)) :
    qOp P ops C j (fun a' => YS P ops w oi v a' ∧ K (a'.put oi.dst v)) a := by
  obtain ⟨h1, h2, h3⟩ := Oper.apart_spec hap
  have keep : ∀ (a : Act), YS P ops w oi v a → ∀ u, YS P ops w oi v (a.put oj.dst u) := fun a hy u =>
    hy.of_same (execOp_put oi hsi a oj.dst u h3) (wanted_put oi a oj.dst u h3)
  unfold qOp at *
  simp only [hj] at *
  rw [wanted_put oj a oi.dst v h1] at h
  split
  · rename_i hw
    simp only [hw, if_true] at h
    obtain ⟨u, hu, hn⟩ := h
    refine ⟨u, fun w hw' => ?_, keep a hy u, by rw [← Act.put_comm a v u h2]; exact hn⟩
    have := hu w hw'
    unfold Oper.quietAt at *
    rwa [execOp_put oj hsj a oi.dst v h1] at this
  · rename_i hw
    simp only [hw] at h
    exact ⟨keep a hy _, by rw [← Act.put_comm a v undef h2]; exact h⟩

/-- What 'f' comes to: a value of which 'Φ' tells. -/
def fRes (P : Program) (Φ : Value → World → Prop) (w' : World) : Result Next → Prop
  | .ok (.value v) w'' => Ext w' w'' ∧ Φ v w''
  | .ok .skip w'' => Ext w' w'' ∧ Φ undef w''
  | .ok (.enter g args) w'' => CallV P g args w'' (fun v w3 => Ext w' w3 ∧ Φ v w3)
  | .ok (.row row args) w'' => Rows P row args w'' (fun v w3 => Ext w' w3 ∧ Φ v w3)
  | _ => False

/-- 'f' comes up, in any world from 'w' on. -/
def fStep (P : Program) (ops : Array Oper) (w : World) (Φ : Value → World → Prop) (o : Oper) (K : Value → Act → Prop) (a : Act) : Prop :=
  Region.wanted o (yielded ops a.tmps) = true ∧ (∀ w', Ext w w' → fRes P Φ w' ((execOp a.eval o).run P w')) ∧ ∀ v, K v (a.put o.dst v)

/-- Until 'f' has come up. -/
def wpF (P : Program) (ops : Array Oper) (w : World) (Φ : Value → World → Prop) (Q : Exit → Act → World → Prop) (hs : List Nat) (f : Nat) (of : Oper) : Nat → Array Bool → Act → Prop
  | 0, _, _ => False
  | fuel + 1, listed, a => Region.ready .any ops listed ≠ [] ∧ ∀ i ∈ Region.ready .any ops listed,
      (i = f → fStep P ops w Φ of (fun v => wpM P ops (fun w' => Ext w w' ∧ Φ v w') Q hs fuel (listed.setIfInBounds f true)) a) ∧
      (i ≠ f → qOp P ops (Ext w) i (wpF P ops w Φ Q hs f of fuel (listed.setIfInBounds i true)) a)

theorem upon_of_fRes {Φ : Value → World → Prop} {o : Oper} {a : Act} {K : Act → World → Prop} {Q' : Exit → Act → World → Prop} {w' : World} {r : Result Next} (h : fRes P Φ w' r) (hK : ∀ v w'', Ext w' w'' → Φ v w'' → K (a.put o.dst v) w'') :
    o.upon P a K Q' r := by
  cases r with
  | ok n w'' =>
    cases n with
    | value v => exact hK v w'' h.1 h.2
    | skip => exact hK undef w'' h.1 h.2
    | enter g args =>
      refine Calls.mono h ?_
      rintro e w3 ⟨v, rfl, h1, h2⟩
      exact hK v w3 h1 h2
    | row row args => exact Rows.mono h fun v w3 h1 => hK v w3 h1.1 h1.2
    | _ => exact h.elim
  | halt x w'' => exact h.elim

theorem wpAny_of_wpF {Φ : Value → World → Prop} {hs : List Nat} {f : Nat} {of : Oper} (hf : ops[f]? = some of) : ∀ (fuel : Nat) (listed : Array Bool) (a : Act) (w' : World), Ext w w' → wpF P ops w Φ Q hs f of fuel listed a → wpAny P .any ops Q fuel listed a w'
  | 0, _, _, _, _, h => h.elim
  | fuel + 1, listed, a, w', hE, h => by
    obtain ⟨hne, h2⟩ := h
    refine ⟨fun h0 => absurd h0 hne, fun i hi => ?_⟩
    by_cases hif : i = f
    · obtain ⟨g1, g2, g3⟩ := (h2 i hi).1 hif
      subst hif
      unfold wpOp
      simp only [hf, g1, if_true]
      left
      exact upon_of_fRes (g2 w' hE) fun v w'' hE' hΦ => wpAny_of_wpM fuel _ _ w'' ⟨hE.trans hE', hΦ⟩ (g3 v)
    · exact wpOp_of_qOp hE (fun a' w'' hw'' h' => wpAny_of_wpF hf fuel _ a' w'' hw'' h') ((h2 i hi).2 hif)

theorem wpF_first {Φ : Value → World → Prop} (hΦ : ∀ v w' w'', Φ v w' → Ext w' w'' → Φ v w'') {pre hs : List Nat} {f : Nat} {of : Oper} (hf : ops[f]? = some of) (hfs : f ∉ hs) (hbM : waitB ops (f :: pre) hs = true)
    {i : Nat} {oi : Oper} {v : Value} (hih : i ∈ hs) (hi : ops[i]? = some oi) (hsel : ∀ (j : Nat) (o : Oper) cs b, ops[j]? = some o → o.op ≠ .select cs b) :
    ∀ (fuel : Nat) (listed : Array Bool) (a : Act), DC ops listed → allL pre listed → f < listed.size →
      (∀ j oj, ops[j]? = some oj → j ≠ i → listed.getD j true = false → (∀ e ∈ oj.after, Region.binds .any e = true → e.on ≠ i) → oi.apart ops oj = true) →
      i ∈ Region.ready .any ops listed → YS P ops w oi v a →
      wpF P ops w Φ Q hs f of fuel (listed.setIfInBounds i true) (a.put oi.dst v) → wpF P ops w Φ Q hs f of (fuel + 1) listed a := by
  have hif : i ≠ f := fun h => hfs (h ▸ hih)
  intro fuel
  induction fuel with
  | zero => intro listed a _ _ _ _ _ _ H; exact H.elim
  | succ fuel ih =>
    intro listed a hdc hpre hfl hfree hr hy H
    refine ⟨fun h0 => (by rw [h0] at hr; cases hr), fun j hj => ?_⟩
    obtain ⟨hjun, oj, hoj, hall⟩ := mem_ready.1 hj
    have free2 : ∀ k ok, ops[k]? = some ok → k ≠ i → (listed.setIfInBounds j true).getD k true = false →
        (∀ e ∈ ok.after, Region.binds .any e = true → e.on ≠ i) → oi.apart ops ok = true := fun k ok hk hki hun hno => by
      refine hfree k ok hk hki ?_ hno
      by_cases hjk : j = k
      · subst hjk; exact hjun
      · rw [getD_set_ne true hjk] at hun; exact hun
    have hnot : ∀ e ∈ oj.after, Region.binds .any e = true → e.on ≠ i := fun e he hbd heq => by
      have h1 := hall e he hbd
      rw [heq] at h1
      exact unlisted_ne (mem_ready.1 hr).1 h1
    refine ⟨fun hjf => ?_, fun hjf => ?_⟩
    · -- f comes up ahead of i
      subst hjf
      have hji : j ≠ i := Ne.symm hif
      obtain ⟨g1, g2, g3⟩ := (H.2 j (ready_mono hj hji)).1 rfl
      rw [hf] at hoj; cases hoj
      have hap := hfree j of hf hji hjun hnot
      obtain ⟨h1, h2, h3⟩ := Oper.apart_spec hap
      have hsi := fun cs b => hsel i oi cs b hi
      have hsj := fun cs b => hsel j of cs b hf
      refine ⟨by rw [wanted_put of a oi.dst v h1] at g1; exact g1, fun w' hE => ?_, fun u => ?_⟩
      · have := g2 w' hE
        rwa [execOp_put of hsj a oi.dst v h1] at this
      · have hyu : YS P ops w oi v (a.put of.dst u) := hy.of_same (execOp_put oi hsi a of.dst u h3) (wanted_put oi a of.dst u h3)
        have hC : Goes w (fun w' => Ext w w' ∧ Φ u w') := ⟨fun _ h => h.1, fun w' w'' h hE => ⟨h.1.trans hE, hΦ u w' w'' h.2 hE⟩⟩
        refine wpM_first hbM hih hi hsel fuel (listed.setIfInBounds j true) (a.put of.dst u) (hdc.set hj) ?_ free2 (ready_mono hr (Ne.symm hji)) (hyu.yields hC) ?_
        · intro k hk
          rcases List.mem_cons.1 hk with rfl | hk
          · simp [hfl]
          · exact getD_set_true (hpre k hk)
        · have := g3 u
          rw [Array.setIfInBounds_comm _ _ hji, Act.put_comm a u v (fun d hd he => h2 d he hd)]
          exact this
    · by_cases hji : j = i
      · subst hji
        exact (hy.yields ⟨fun _ h => h, fun _ _ h hE => h.trans hE⟩).qOp hi H
      · have h1 := (H.2 j (ready_mono hj hji)).2 hjf
        have h2 := qOp_putS hoj (hfree j oj hoj hji hjun hnot) (fun cs b => hsel i oi cs b hi) (fun cs b => hsel j oj cs b hoj) hy h1
        refine qOp_mono (fun a' h3 => ih (listed.setIfInBounds j true) a' (hdc.set hj) (fun k hk => getD_set_true (hpre k hk)) (by simpa using hfl) free2 (ready_mono hr (Ne.symm hji)) h3.1 ?_) h2
        rw [Array.setIfInBounds_comm _ _ hji]
        exact h3.2

theorem wpF_lex {Φ : Value → World → Prop} (hΦ : ∀ v w' w'', Φ v w' → Ext w' w'' → Φ v w'') {pre hs : List Nat} {f : Nat} {of : Oper} (hf : ops[f]? = some of) (hfs : f ∉ hs) (hbM : waitB ops (f :: pre) hs = true)
    (hsel : Region.noSelect ops = true) (f' : Nat) : ∀ (is : List Nat) (listed : Array Bool) (a : Act), DC ops listed → allL pre listed → f < listed.size → (∀ i ∈ is, i ∈ hs) → lexI ops is listed = true →
    Region.ready .any ops (setL is listed) = [f] →
    wpQS P ops w (fun a' => fStep P ops w Φ of (fun v a'' => wpM P ops (fun w' => Ext w w' ∧ Φ v w') Q hs f' ((setL is listed).setIfInBounds f true) a'') a') (pick ops.toList is) a →
    wpF P ops w Φ Q hs f of (is.length + (f' + 1)) listed a
  | [], listed, a, _, _, _, _, _, hr, h => by
    obtain ⟨g1, g2, g3⟩ := h
    rw [List.length_nil, Nat.zero_add]
    have hr' : Region.ready .any ops listed = [f] := hr
    refine ⟨by rw [hr']; simp, fun i hi => ⟨fun _ => ⟨g1, g2, g3⟩, fun hif => ?_⟩⟩
    rw [hr', List.mem_singleton] at hi
    exact absurd hi hif
  | i :: is, listed, a, hdc, hpre, hfl, hin, hB, hrd, h => by
    simp only [lexI, Bool.and_eq_true] at hB
    obtain ⟨⟨hr, hfr⟩, hB'⟩ := hB
    have hr' : i ∈ Region.ready .any ops listed := by simpa using hr
    obtain ⟨_, o, ho, _⟩ := mem_ready.1 hr'
    have hp : pick ops.toList (i :: is) = o :: pick ops.toList is := by
      have : nth ops.toList i = some o := by rw [nth_eq]; simpa using ho
      simp only [pick, this]
    rw [hp] at h
    have hst : ∃ v, YS P ops w o v a ∧ wpQS P ops w (fun a' => fStep P ops w Φ of (fun v a'' => wpM P ops (fun w' => Ext w w' ∧ Φ v w') Q hs f' ((setL is (listed.setIfInBounds i true)).setIfInBounds f true) a'') a') (pick ops.toList is) (a.put o.dst v) := by
      unfold wpQS at h
      by_cases hw : Region.wanted o (yielded ops a.tmps) = true
      · simp only [hw, if_true] at h
        obtain ⟨v, h1, h2⟩ := h
        exact ⟨v, .inl ⟨hw, h1⟩, h2⟩
      · simp only [hw] at h
        exact ⟨undef, .inr ⟨by simpa using hw, rfl⟩, h⟩
    obtain ⟨v, hy, hK⟩ := hst
    have := wpF_first hΦ hf hfs hbM (hin i (by simp)) ho (Region.noSelect_spec hsel) (is.length + (f' + 1)) listed a hdc hpre hfl (Region.free_spec ho hfr) hr' hy
      (wpF_lex hΦ hf hfs hbM hsel f' is _ _ (hdc.set hr') (fun k hk => getD_set_true (hpre k hk)) (by simpa using hfl) (fun k hk => hin k (by simp [hk])) hB' hrd hK)
    rw [show (i :: is).length + (f' + 1) = is.length + (f' + 1) + 1 by simp; omega]
    exact this

theorem runP_nil {l : List Oper} : runP P N ops (pick l []) env env := rfl
theorem runP_cons {i : Nat} {is : List Nat} {o : Oper} (e : Env) (ho : nth ops.toList i = some o) (h1 : ∀ w, run1 P N ops w env o = some (e, w)) (hd : o.dst.isSome = true) (h : runP P N ops (pick ops.toList is) e env') :
    runP P N ops (pick ops.toList (i :: is)) env env' := by
  simp only [pick, ho]; exact ⟨e, h1, hd, h⟩

/-- Operations that look at no memory. -/
theorem wpM_runP {C : World → Prop} {pre hs : List Nat} (hb : waitB ops pre hs = true) (hsel : Region.noSelect ops = true) (f : Nat) : ∀ (is : List Nat) (listed : Array Bool) (env : Env), DC ops listed → allL pre listed → (∀ i ∈ is, i ∈ hs) → lexI ops is listed = true →
    allL hs (setL is listed) → runP P N ops (pick ops.toList is) env env' → (∀ fr, Sat N fr env' → ∀ w', C w' → wpAny P .any ops Q f (setL is listed) ⟨fr, []⟩ w') → ∀ fr, Sat N fr env → wpM P ops C Q hs (is.length + f) listed ⟨fr, []⟩
  | [], listed, env, _, _, _, _, ha, hp, h, fr, hfr => by
    cases hp
    rw [List.length_nil, Nat.zero_add]; exact wpM.all ha f (h fr hfr)
  | i :: is, listed, env, hdc, hpre, hin, hB, ha, hp, h, fr, hfr => by
    simp only [lexI, Bool.and_eq_true] at hB
    obtain ⟨⟨hr, hf⟩, hB'⟩ := hB
    have hr' : i ∈ Region.ready .any ops listed := by simpa using hr
    obtain ⟨_, o, ho, _⟩ := mem_ready.1 hr'
    have hpk : pick ops.toList (i :: is) = o :: pick ops.toList is := by
      have : nth ops.toList i = some o := by rw [nth_eq]; simpa using ho
      simp only [pick, this]
    rw [hpk] at hp
    obtain ⟨e, h1, hd, h2⟩ := hp
    obtain ⟨d, hd'⟩ := Option.isSome_iff_exists.1 hd
    obtain ⟨v, hy, hput⟩ : ∃ v, YieldsIn P ops C o v ⟨fr, []⟩ ∧ ∃ fr', (Act.put ⟨fr, []⟩ o.dst v) = ⟨fr', []⟩ ∧ Sat N fr' e := by
      have h1w := h1 default
      unfold run1 at h1w
      cases hw : want ops env o with
      | none => simp [hw] at h1w
      | some b =>
        have hbw := hfr.want hw
        cases b with
        | false =>
          simp only [hw, Option.map_eq_some_iff, Prod.mk.injEq] at h1w
          obtain ⟨e', hpe, rfl, -⟩ := h1w
          exact ⟨undef, .inr ⟨hbw, rfl⟩, hfr.putO hpe⟩
        | true =>
          have one : ∀ w', ∃ v, (execOp (rho env) o).run P w' = .ok (.value v) w' ∧ putO N env o v = some e ∧ known env o = true := by
            intro w'
            have h1w := h1 w'
            simp only [run1, hw] at h1w
            cases hk : known env o with
            | false => simp [hk] at h1w
            | true =>
              simp only [hk] at h1w
              cases hrr : (execOp (rho env) o).run P w' with
              | halt x y => simp [hrr] at h1w
              | ok n y =>
                cases n with
                | value v =>
                  simp only [hrr, Option.map_eq_some_iff, Prod.mk.injEq] at h1w
                  obtain ⟨e', hpe, rfl, rfl⟩ := h1w
                  exact ⟨v, rfl, hpe, rfl⟩
                | _ => simp [hrr] at h1w
          have uniq : ∀ u v, putO N env o u = some e → putO N env o v = some e → u = v := by
            intro u v hu hv
            simp only [putO, hd'] at hu hv
            cases hN : Nat.blt d N with
            | false => simp [hN] at hu
            | true =>
              simp only [hN, Option.some.injEq] at hu hv
              have e1 := look_put_same env d u
              have e2 := look_put_same env d v
              rw [hu] at e1; rw [hv] at e2; rw [e1] at e2; exact Option.some.inj e2
          obtain ⟨v, _, hpv, hk⟩ := one default
          refine ⟨v, .inl ⟨hbw, fun w' hw' => ?_⟩, hfr.putO hpv⟩
          obtain ⟨u, hru, hpu, _⟩ := one w'
          unfold Oper.quietAt
          rw [hfr.exec hk, hru, uniq u v hpu hpv]
          exact ⟨rfl, rfl⟩
    obtain ⟨fr', he, hs'⟩ := hput
    rw [show (i :: is).length + f = is.length + f + 1 by simp; omega]
    refine wpM_first hb (hin i (by simp)) ho (Region.noSelect_spec hsel) (is.length + f) listed _ hdc hpre (Region.free_spec ho hf) hr' hy ?_
    rw [he]
    exact wpM_runP hb hsel f is _ e (hdc.set hr') (fun k hk => getD_set_true (hpre k hk)) (fun k hk => hin k (by simp [hk])) hB' ha h2 h fr' hs'

/-- What stands before 'f' comes up at last. -/
def QF (P : Program) (ops : Array Oper) (Q : Exit → Act → World → Prop) (w : World) (Φ : Value → World → Prop) (of : Oper) (hs : List Nat) (f' : Nat) (D' : List Nat) : Exit → Act → World → Prop := fun _ a _ =>
  DC ops (setL D' (Array.replicate ops.size false)) → fStep P ops w Φ of (fun v a'' => wpM P ops (fun w' => Ext w w' ∧ Φ v w') (NoP Q) hs f' (setL D' (Array.replicate ops.size false)) a'') a

/-- One that writes (new memory alone), beside operations that only read: in any order. -/
theorem WA.float {Φ : Value → World → Prop} {f k f' : Nat} {of : Oper} {D D1 D' : List Nat} (hs ex : List Nat) (hΦ : ∀ v w' w'', Φ v w' → Ext w' w'' → Φ v w'') (ho : nth ops.toList f = some of) (hf : hs.length + (f' + 1) = k) (hD1 : D ++ hs = D1) (hD : D1 ++ [f] = D')
    (hB : (Region.noSelect ops && lexI ops hs (setL D (Array.replicate ops.size false)) && waitB ops (f :: D) (hs ++ ex) && D.all (fun i => (setL D (Array.replicate ops.size false)).getD i false) &&
      !(hs ++ ex).contains f && (Region.ready .any ops (setL D1 (Array.replicate ops.size false)) == [f]) && Nat.blt f ops.size) = true)
    (h : QL P ops (QF P ops Q w Φ of (hs ++ ex) f' D') N w (pick ops.toList hs) env) : WQ (KA P ops Q k D) .normal N env w := by
  intro fr hfr hdc
  subst hf
  simp only [Bool.and_eq_true, List.all_eq_true] at hB
  obtain ⟨⟨⟨⟨⟨⟨b1, b2⟩, b4⟩, b5⟩, b7⟩, b8⟩, b9⟩ := hB
  have e1 : setL D1 (Array.replicate ops.size false) = setL hs (setL D (Array.replicate ops.size false)) := by rw [← hD1, setL_append]
  have e2 : setL D' (Array.replicate ops.size false) = (setL hs (setL D (Array.replicate ops.size false))).setIfInBounds f true := by rw [← hD, setL_append, e1]; rfl
  have hfo : ops[f]? = some of := by rw [nth_eq] at ho; simpa using ho
  rw [e1] at b8
  have hsz : ∀ (is : List Nat) (L : Array Bool), (setL is L).size = L.size := by
    intro is; induction is with
    | nil => intro L; rfl
    | cons i is ih => intro L; have := ih (L.setIfInBounds i true); simpa [setL] using this
  have hrf : Region.ready .any ops (setL hs (setL D (Array.replicate ops.size false))) = [f] := by simpa using b8
  refine wpAny_of_wpF hfo _ _ _ w (Ext.refl w) (wpF_lex (hs := hs ++ ex) hΦ hfo (by simpa using b7) b4 b1 f' hs _ _ hdc (fun i hi => b5 i hi) (by rw [hsz]; simpa [Nat.blt_eq] using b9) (fun i hi => by simp [hi]) b2 hrf ?_)
  have hdc2 : DC ops ((setL hs (setL D (Array.replicate ops.size false))).setIfInBounds f true) := (lexI_DC hs _ b2 hdc).set (by rw [hrf]; simp)
  have mono : ∀ {T T' : Act → Prop}, (∀ a, T a → T' a) → ∀ (l : List Oper) (a : Act), wpQS P ops w T l a → wpQS P ops w T' l a := by
    intro T T' ht l
    induction l with
    | nil => exact fun a h => ht a h
    | cons o l ih =>
      intro a h
      unfold wpQS at h ⊢
      split
      · rename_i hw
        simp only [hw, if_true] at h
        obtain ⟨v, h1, h2⟩ := h
        exact ⟨v, h1, ih _ h2⟩
      · rename_i hw
        simp only [hw] at h
        exact ih _ h
  refine mono (fun a' h' => ?_) _ _ (h fr hfr)
  have := h' w (Ext.refl w) (by rw [e2]; exact hdc2)
  rw [e2] at this
  exact this

/-- What is told of the one step. -/
def QΦ (w' : World) (Φ : Value → World → Prop) (d : Nat) : Exit → Act → World → Prop := fun e a w'' => e = .normal ∧ a.defers = [] ∧ ∃ v, a.tmps[d]? = some v ∧ Ext w' w'' ∧ Φ v w''

theorem QΦ.intro {Φ : Value → World → Prop} {w' w'' : World} {d : Nat} {v : Value} (hd : look env d = some v) (hE : Ext w' w'') (hv : Φ v w'') : WQ (QΦ w' Φ d) .normal N env w'' :=
  fun _ hs => ⟨rfl, rfl, v, hs.val d v hd, hE, hv⟩

theorem QF.make {Φ : Value → World → Prop} {of : Oper} {hs ex pre : List Nat} {f' k : Nat} {D' D'' : List Nat} {w0 : World} (d : Nat) (h1 : ∀ w', Ext w w' → WL P ops (QΦ w' Φ d) N [of] env w')
    (hc : ∀ v, ∃ env'', runP P N ops (pick ops.toList ex) (put env d v) env'' ∧ ∀ w', Ext w w' → Φ v w' → WQ (KA P ops Q f' D'') .normal N env'' w') (hd : of.dst = some d) (hN : Nat.blt d N = true) (hw : want ops env of = some true) (hk : ex.length + f' = k) (hD : D' ++ ex = D'')
    (hB : (Region.noSelect ops && waitB ops pre (hs ++ ex) && lexI ops ex (setL D' (Array.replicate ops.size false)) && pre.all (fun i => (setL D' (Array.replicate ops.size false)).getD i false) && (hs ++ ex).all (fun i => (setL D'' (Array.replicate ops.size false)).getD i false)) = true) :
    WQ (QF P ops Q w Φ of (hs ++ ex) k D') .normal N env w0 := by
  intro fr hs
  intro hdc
  subst hk
  simp only [Bool.and_eq_true, List.all_eq_true] at hB
  obtain ⟨⟨⟨⟨b1, b2⟩, b3⟩, b4⟩, b5⟩ := hB
  have e1 : setL D'' (Array.replicate ops.size false) = setL ex (setL D' (Array.replicate ops.size false)) := by rw [← hD, setL_append]
  have hN' : d < N := by simpa [Nat.blt_eq] using hN
  have hput : ∀ v, (Act.put ⟨fr, []⟩ of.dst v) = ⟨fr.setIfInBounds d v, []⟩ := fun v => by rw [hd]; rfl
  have hsz : d < fr.size := by rw [hs.size]; exact hN'
  have noO : ∀ w', ¬ LetsOut (QΦ w' Φ d) := by
    rintro w' ⟨a, w3, h, _⟩
    cases h
  refine ⟨hs.want hw, fun w' hE => ?_, fun v => ?_⟩
  · have h2 := h1 w' hE fr hs
    simp only [wpList, hs.want hw, if_true] at h2
    rcases h2 with h2 | ⟨_, h2⟩
    · unfold Oper.wp at h2
      generalize (execOp (Act.eval ⟨fr, []⟩) of).run P w' = r at h2 ⊢
      have got : ∀ v w3, QΦ w' Φ d .normal (Act.put ⟨fr, []⟩ of.dst v) w3 → Ext w' w3 ∧ Φ v w3 := by
        rintro v w3 ⟨_, _, u, hu, hE', hΦ⟩
        rw [hput] at hu
        simp [hsz] at hu
        subst hu; exact ⟨hE', hΦ⟩
      cases r with
      | ok n w'' =>
        cases n with
        | value v => exact got v w'' h2
        | skip => exact got undef w'' h2
        | enter g args =>
          refine Calls.mono h2 fun e w3 h4 => ?_
          cases e with
          | returned v => exact ⟨v, rfl, got v w3 h4⟩
          | panicked c => obtain ⟨h5, _⟩ := h4; cases h5
          | outgrown => exact (noO w' h4).elim
        | row row args => exact Rows.mono h2 fun v w3 h4 => got v w3 h4
        | defer df =>
          obtain ⟨_, h5, _⟩ := h2
          rw [hd] at h5; cases h5
        | _ => exact h2.elim
      | halt x w'' => cases x <;> first | exact h2.elim | (obtain ⟨h5, _⟩ := h2; cases h5)
    · exact (noO w' h2).elim
  · rw [hput]
    have hs' : Sat N (fr.setIfInBounds d v) (put env d v) := hs.put hN' v
    obtain ⟨env'', hrun, hgo⟩ := hc v
    refine wpM_runP b2 b1 f' ex _ _ hdc (fun i hi => b4 i hi) (fun i hi => by simp [hi]) b3 (fun i hi => by rw [← e1]; exact b5 i hi) hrun (fun fr'' hs'' w' hw' => ?_) _ hs'
    have := hgo w' hw'.1 hw'.2 fr'' hs''
    simp only [KA] at this
    rw [e1] at this
    exact this (lexI_DC ex _ b3 hdc)

theorem SH.low {B B' : Nat} {L : List Asrt} (h : SH w B L) (hB : B' ≤ B) : SH w B' L := SHp.mono (fun _ hk => ⟨Nat.le_trans hB hk.1, hk.2⟩) h

theorem WA.done {D : List Nat} (hB : (Region.ready .any ops (setL D (Array.replicate ops.size false))).isEmpty = true) (h : WQ Q .normal N env w) : WQ (KA P ops Q 0 D) .normal N env w := by
  intro fr hs _
  exact ⟨by simpa using hB, h fr hs⟩

/-- A region whose order is open. -/
theorem WP.open {id n : Nat} (hm : P.follows .mixedOrders = true) (hn : ops.size = n) (h : ∀ w', Ext w w' → WQ (KA P ops Q n []) .normal N env w') : WP P (.region id ops true) Q N env w := by
  intro fr hs'
  subst hn
  refine Code.wp_mono (Q := NoP Q) (fun e a w' h => ?_) (wp_region_any hm (h _ (Ext.drew w) fr hs' (DC.init _)))
  cases e <;> first | exact h | exact False.elim h

/-! ### The bytes of a text: a row with a mark behind its end -/

def aFz (e : TypeId) (a : Option Addr) (c : Nat) (xs : List Int) : Asrt where
  on w S := ∃ g cur, a = some ⟨g, 0, none⟩ ∧ S g ∧ w.heap[g]? = some (.cells cur e (cur.size, cur.size + 1)) ∧ xs.length ≤ cur.size ∧ xs.length ≤ c ∧ cur.toList.take xs.length = xs.map fun n => Value.int .u8 n
  loc hS h := by
    obtain ⟨g, cur, h1, h2, h3, h4⟩ := h
    exact ⟨g, cur, h1, h2, by rw [hS g h2]; exact h3, h4⟩

theorem SH.rdFz {e : TypeId} {a : Option Addr} {c B : Nat} {L : List Asrt} {xs : List Int} (h : SH w B (aFz e a c xs :: L)) : Rd fU8.ty w a xs := by
  obtain ⟨S, ⟨g, cur, rfl, hg, hh, h1, h2, h3⟩, hS, -⟩ := h.upd
  intro i x hx
  refine ⟨rfl, (hS g hg).2, fU8.leaf x, rfl, fun j v hv => ?_⟩
  have hj : j = 0 := by
    have : j < (fU8.leaf x).length := by
      rcases Nat.lt_or_ge j (fU8.leaf x).length with hl | hl
      · exact hl
      · rw [List.getElem?_eq_none hl] at hv; cases hv
    simp [fU8] at this; exact this
  subst hj
  have hv' : v = .int .u8 x := by simp [fU8] at hv; exact hv.symm
  subst hv'
  have hf : (xs.map fun n => Value.int .u8 n)[i]? = some (.int .u8 x) := by rw [List.getElem?_map, hx]; rfl
  rw [← h3, List.getElem?_take] at hf
  split at hf
  · show w.cell? ⟨g, 0 + (i * 1 + 0), none⟩ = some _
    simp only [World.cell?, hh]
    simpa using hf
  · cases hf

theorem SH.leFz {e : TypeId} {a : Option Addr} {c B : Nat} {L : List Asrt} {xs : List Int} (h : SH w B (aFz e a c xs :: L)) : xs.length ≤ c ∧ (a = none → xs = []) := by
  obtain ⟨S, ⟨g, cur, rfl, hg, hh, h1, h2, h3⟩, hS, -⟩ := h.upd
  exact ⟨h2, by simp⟩

/-- A text's bytes. -/
theorem WL.bytes {t t' e : TypeId} {l : List UInt8} {u : TypeDesc} {o : Oper} {rest : List Oper} {X : Operand} (d : Nat) (ho : o.op = .convert t t' X) (hX : rho env X = .string (bs l)) (ht : P.underlying t = some u) (ht' : P.underlying t' = some (.slice e)) (he : P.underlying e = some (.int .u8))
    (hw : want ops env o = some true) (hk : known env o = true) (hd : o.dst = some d) (hN : Nat.blt d N = true)
    (h : ∀ a c w', Ext w w' → SH w' w.heap.size [aFz e a c (toBytes l)] → WL P ops Q N rest (put env d (.slice a (toBytes l).length c)) w') : WL P ops Q N (o :: rest) env w := by
  have hlen : (toBytes l).length = l.length := by simp [toBytes]
  have hsz : (bs l).size = l.length := rfl
  refine WL.val (.slice (some ⟨w.heap.size, 0, none⟩) (toBytes l).length (grownCap w l.length 0 e)) (Lib.bytesWorld w e (bs l)) hw hk ?_ (env' := put env d (.slice (some ⟨w.heap.size, 0, none⟩) (toBytes l).length (grownCap w l.length 0 e))) (by simp only [putO, hd, hN])
    (h _ _ _ ⟨rfl, rfl, rfl, ?_, fun k hk => Lib.bytesWorld_at_old w e _ k hk⟩ ?_)
  · unfold execOp; rw [ho]
    simp only [hX, Sem.run_bind, Lib.run_convert_string_bytes w t t' e (bs l) ht ht' he, Result.andThen_ok, Sem.run_pure, hlen, hsz]
  · rw [Lib.bytesWorld_size]; exact Nat.le_succ _
  · have hge := grownCap_ge w l.length 0 e
    have hcs : (Lib.bytesCells w e (bs l)).size = l.length + (grownCap w l.length 0 e - l.length) := by simp [Lib.bytesCells, hsz]
    refine ⟨fun k => k = w.heap.size, fun _ => False, ?_, by simp, by simp, ⟨w.heap.size, _, rfl, rfl, Lib.bytesWorld_at_new w e (bs l), ?_, ?_, ?_⟩, trivial⟩
    · rintro k rfl; exact ⟨Nat.le_refl _, by rw [Lib.bytesWorld_size]; omega⟩
    · rw [hcs, hlen]; omega
    · rw [hlen]; exact hge
    · rw [hlen]
      simp only [Lib.bytesCells, Array.toList_append]
      have e1 : (Array.map (fun b => Value.int .u8 (b.toNat : Int)) (bs l).data).toList = (toBytes l).map fun n => Value.int .u8 n := by simp [toBytes]
      rw [e1, List.take_append_of_le_length (by simp [toBytes]), List.take_of_length_le (by simp [toBytes])]

/-- A store into such a row. -/
theorem WL.storeFz {t e : TypeId} {inf : TypeInfo} {a : Option Addr} {c B : Nat} {L : List Asrt} {xs : List Int} {i x x' : Int} {o : Oper} {rest : List Oper} {X Y : Operand} (hS : SH w B (aFz e a c xs :: L)) (hB : B ≤ w.heap.size) (hx : idx xs i = some x)
    (ho : o.op = .store t X Y) (hX : rho env X = .pointer (some (at_ a (i.toNat * 1)))) (hY : rho env Y = .int .u8 x') (hi : P.info? t = some inf) (hsz : inf.size = 1) (hw : want ops env o = some true) (hk : known env o = true) (hd : o.dst = none)
    (h : ∀ w', Below B w w' → SH w' B (aFz e a c (xs.set i.toNat x') :: L) → WL P ops Q N rest env w') : WL P ops Q N (o :: rest) env w := by
  obtain ⟨S, ⟨g, cur, rfl, hg, hh, h1, h2, h3⟩, hSS, hup⟩ := hS.upd
  obtain ⟨g0, g1, g2⟩ := idx_some hx
  have hlt : i.toNat < cur.size := by omega
  have hcell : w.cell? ⟨g, i.toNat, none⟩ = some cur[i.toNat] := by simp [World.cell?, hh, hlt]
  have hfro : w.frozen? ⟨g, i.toNat, none⟩ = false := by simp [World.frozen?, hh]; omega
  have hst : (Go.store (⟨g, i.toNat, none⟩ : Addr) (Value.int .u8 x')).run P w = Result.ok () (w.setRow g (cur.setIfInBounds i.toNat (Value.int .u8 x'))) := by
    rw [run_store P w _ _ _ rfl, hcell]
    simp [hfro, setCell_eq_setRow w g i.toNat cur e _ _ hh]
  have hrun : (Instr.storeAt t (.pointer (some (at_ (some ⟨g, 0, none⟩) (i.toNat * 1)))) (.int .u8 x')).run P w = .ok () (w.setRow g (cur.setIfInBounds i.toNat (.int .u8 x'))) := by
    have hs : (Value.int .u8 x').cells.size = inf.size := by rw [hsz]; rfl
    have ha : at_ (some (⟨g, 0, none⟩ : Addr)) (i.toNat * 1) = ⟨g, i.toNat, none⟩ := by simp [at_, ba]
    have hadd : (⟨g, i.toNat, none⟩ : Addr).add 0 = ⟨g, i.toNat, none⟩ := by simp [Addr.add]
    rw [ha]
    simp only [Instr.storeAt, Instr.sureAddr, Sem.run_bind, Sem.run_pure, Result.andThen_ok, storeVar, run_sizeOf' hi, hs, ne_eq, not_true_eq_false, if_false]
    show (storeCells ⟨g, i.toNat, none⟩ [.int .u8 x']).run P w = _
    simp only [storeCells, hadd, Sem.run_bind, hst, Result.andThen_ok, Sem.run_pure]
  have hm : Mod S w (w.setRow g (cur.setIfInBounds i.toNat (.int .u8 x'))) := ⟨rfl, rfl, rfl, by simp, fun k hk hn => setRow_other w g k _ (fun ek => hn (ek ▸ hg))⟩
  refine WL.skip _ hw hk hd ?_ (h _ (hm.below hB fun k hk => (hSS k hk).1) (hup _ _ S hm ?_ ?_ hB))
  · unfold execOp; rw [ho]
    simp only [hX, hY, Sem.run_bind, hrun, Result.andThen_ok, Sem.run_pure]
  · refine ⟨g, cur.setIfInBounds i.toNat (.int .u8 x'), rfl, hg, by have := setRow_heap w g cur (cur.setIfInBounds i.toNat (.int .u8 x')) e _ hh; simpa using this, by simpa using h1, by simpa using h2, ?_⟩
    rw [List.length_set, Array.toList_setIfInBounds, List.take_set, h3]
    simp [List.map_set]
  · intro k hk; exact ⟨.inl hk, by simpa using (hSS k hk).2⟩

/-! ### A part of a slice -/

theorem WL.rsub {α : Type} {T : Ty α} {w0 : World} {xs ys : List α} {a : Option Addr} {c : Nat} {i j : Int} {t e : TypeId} {inf : TypeInfo} {X : Operand} {lo hi : Option Operand} {o : Oper} {rest : List Oper} (d : Nat) (hR : Rd T w0 a xs) (hE : Ext w0 w)
    (hc : xs.length ≤ c) (hs : Gv.sub xs i j = some ys) (ho : o.op = .slice t X lo hi none) (hX : rho env X = .slice a xs.length c) (ht : P.underlying t = some (.slice e)) (hi' : P.info? e = some inf) (hsz : inf.size = T.sz) (hlo : boundV env 0 lo i)
    (hhi : boundV env (xs.length : Int) hi j) (hw : want ops env o = some true) (hk : known env o = true) (hd : o.dst = some d) (hN : Nat.blt d N = true)
    (h : ∀ a' c', Rd T w0 a' ys → ys.length ≤ c' → WL P ops Q N rest (put env d (.slice a' ys.length c')) w) : WL P ops Q N (o :: rest) env w := by
  obtain ⟨a', c', hst, hR', hle⟩ := ST.rsub hR hE hc hs ho hX ht hi' hsz hlo hhi
  exact WL.st _ hst hw hk (by simp only [putO, hd, hN]) (h a' c' hR' hle)

theorem QL.rsub {α : Type} {T : Ty α} {w0 : World} {xs ys : List α} {a : Option Addr} {c : Nat} {i j : Int} {t e : TypeId} {inf : TypeInfo} {X : Operand} {lo hi : Option Operand} {o : Oper} {rest : List Oper} (d : Nat) (hR : Rd T w0 a xs) (hE : Ext w0 w)
    (hc : xs.length ≤ c) (hs : Gv.sub xs i j = some ys) (ho : o.op = .slice t X lo hi none) (hX : rho env X = .slice a xs.length c) (ht : P.underlying t = some (.slice e)) (hi' : P.info? e = some inf) (hsz : inf.size = T.sz) (hlo : boundV env 0 lo i)
    (hhi : boundV env (xs.length : Int) hi j) (hw : want ops env o = some true) (hk : known env o = true) (hd : o.dst = some d) (hN : Nat.blt d N = true)
    (h : ∀ a' c', Rd T w0 a' ys → ys.length ≤ c' → QL P ops Q N w rest (put env d (.slice a' ys.length c'))) : QL P ops Q N w (o :: rest) env := by
  obtain ⟨a', c', hst, hR', hle⟩ := ST.rsub hR hE hc hs ho hX ht hi' hsz hlo hhi
  exact QL.st _ hst hw hk (by simp only [putO, hd, hN]) (h a' c' hR' hle)

/-! ### A variable that is read behind a pointer -/

def RdB (w : World) (b o : Nat) (vs : List Value) : Prop := b < w.heap.size ∧ ∀ j v, vs[j]? = some v → w.cell? ⟨b, o + j, none⟩ = some v

theorem RdB.below {b o : Nat} {vs : List Value} {w w' : World} (h : RdB w b o vs) (hE : Ext w w') : RdB w' b o vs :=
  ⟨Nat.lt_of_lt_of_le h.1 hE.size, fun j v hv => by rw [cell_same (a := ⟨b, o + j, none⟩) (hE.block b h.1)]; exact h.2 j v hv⟩

theorem RdB.at {b o : Nat} {vs : List Value} {w : World} (h : RdB w b o vs) (j : Nat) (v : Value) (hv : vs[j]? = some v) : w.cell? ⟨b, o + j, none⟩ = some v := h.2 j v hv

theorem RdB.part {b o : Nat} {vs us : List Value} {w : World} (h : RdB w b o vs) (k : Nat) (hk : (vs.drop k).take us.length = us) (j : Nat) (v : Value) (hv : us[j]? = some v) : w.cell? ⟨b, o + k + j, none⟩ = some v := by
  have : vs[k + j]? = some v := by
    rw [← hk, List.getElem?_take] at hv
    split at hv
    · rwa [List.getElem?_drop] at hv
    · cases hv
  have := h.2 (k + j) v this
  rwa [show o + k + j = o + (k + j) by omega]

theorem SH.boxRd {t : TypeId} {b B : Nat} {L : List Asrt} {vs : List Value} (h : SH w B (aBox t b vs :: L)) : RdB w b 0 vs :=
  ⟨SH.boxLt h, fun j v hv => by rw [Nat.zero_add]; exact SH.boxAt h j v hv⟩

theorem RdB.ofRd {α : Type} {F : Fl α} {a : Option Addr} {xs : List α} {i : Int} {x : α} (h : Rd F.ty w a xs) (hx : idx xs i = some x) : RdB w (ba a).block ((ba a).off + i.toNat * F.sz) (F.leaf x) := by
  obtain ⟨_, h2, _⟩ := h _ x (idx_some hx).2.2
  exact ⟨h2, fun j v hv => Rd.flatA h hx j hv⟩

/-! ### Structs compared -/

theorem fieldsOf_of {t : TypeId} {fs : Array Field} (h : P.underlying t = some (.struct fs)) : P.fieldsOf t = fs := by simp [Program.fieldsOf, h]

theorem ST.aggeq {α : Type} [DecidableEq α] {F : Fl α} {x y : α} {t t' : TypeId} {X Y : Operand} {o : Oper} (heq : ∀ w, (Op.equalIn 10000 t (.agg (F.leaf x).toArray) (.agg (F.leaf y).toArray)).run P w = .ok (decide (x = y)) w)
    (hm : P.eqGuardType P.depth t = false) (ho : o.op = .binOp .eql t X Y t') (hX : rho env X = .agg (F.leaf x).toArray) (hY : rho env Y = .agg (F.leaf y).toArray) : ST P w env o (.bool (decide (x = y))) := by
  intro w' _
  unfold execOp; rw [ho]
  simp only [hX, hY, Sem.run_bind, run_eqGuard_agg w' _ _ _ _ _ _ hm, Result.andThen_ok, run_eql_struct, heq, Sem.run_pure]

theorem ST.aggne {α : Type} [DecidableEq α] {F : Fl α} {x y : α} {t t' : TypeId} {X Y : Operand} {o : Oper} (heq : ∀ w, (Op.equalIn 10000 t (.agg (F.leaf x).toArray) (.agg (F.leaf y).toArray)).run P w = .ok (decide (x = y)) w)
    (hm : P.eqGuardType P.depth t = false) (ho : o.op = .binOp .neq t X Y t') (hX : rho env X = .agg (F.leaf x).toArray) (hY : rho env Y = .agg (F.leaf y).toArray) : ST P w env o (.bool (!decide (x = y))) := by
  intro w' _
  unfold execOp; rw [ho]
  simp only [hX, hY, Sem.run_bind, run_eqGuard_agg w' _ _ _ _ _ _ hm, Result.andThen_ok, run_neq_struct, heq, Sem.run_pure]

/-! ### Results, some of them in memory -/

def RVal (P : Program) (env : Env) (w : World) : ResultVar → Value → Prop
  | .tmp t, v => look env t = some v
  | .cell p ty, v => ∃ a, look env p = some (.pointer (some a)) ∧ (loadVar ty a).run P w = .ok v w

theorem RVal.tmp {t : Nat} {v : Value} (h : look env t = some v) : RVal P env w (.tmp t) v := h

theorem RVal.box {t ty : TypeId} {b p : Nat} {vs : List Value} {B : Nat} {L : List Asrt} {d : TypeDesc} {inf : TypeInfo} (hS : SH w B (aBox t b vs :: L)) (h : look env p = some (.pointer (some ⟨b, 0, none⟩)))
    (hu : P.underlying ty = some d) (hd : (match d with | .struct _ | .array _ _ => true | _ => false) = true) (hi : P.info? ty = some inf) (hsz : inf.size = vs.length) : RVal P env w (.cell p ty) (.agg vs.toArray) := by
  obtain ⟨S, hA, -, -⟩ := hS.upd
  exact ⟨_, h, run_loadVar_row w b t ty vs.toArray (0, 0) d hA.2 hu hd (by simp [hi, hsz])⟩

def rv1 (tmps : Array Value) : ResultVar → Sem Value
  | .tmp t => pure (tmps.getD t undef)
  | .cell a t => do loadVar t (← asAddr (tmps.getD a undef))

theorem RVal.run {fr : Array Value} {r : ResultVar} {v : Value} (hs : Sat N fr env) (h : RVal P env w r v) : (rv1 fr r).run P w = .ok v w := by
  cases r with
  | tmp t => simp only [rv1]; rw [hs.getD h]; rfl
  | cell p ty =>
    obtain ⟨a, h1, h2⟩ := h
    simp only [rv1]
    rw [hs.getD h1]
    simp [asAddr, Sem.run_bind, h2]

theorem results_rv (fn : Func) (tmps : Array Value) : results fn tmps = (do
    let vs ← fn.results.mapM (rv1 tmps)
    pure (if h : vs.size = 1 then vs[0] else .tuple vs)) := by
  unfold results
  congr 1

theorem WQ.retv1 {fn : Func} {R : Value → World → Prop} {r : ResultVar} (v : Value) (hres : fn.results = #[r]) (h1 : RVal P env w r v) (hR : R v w) :
    WQ (bodyPost P fn fun e w' => ∃ v, e = .returned v ∧ R v w') .ret N env w := fun fr hs => by
  refine bodyPost_ret (v := v) ?_ rfl ⟨_, rfl, hR⟩
  rw [results_rv]
  simp [hres, Sem.run_bind, h1.run hs]

theorem WQ.retv2 {fn : Func} {R : Value → World → Prop} {r s : ResultVar} (v u : Value) (hres : fn.results = #[r, s]) (h1 : RVal P env w r v) (h2 : RVal P env w s u) (hR : R (.tuple #[v, u]) w) :
    WQ (bodyPost P fn fun e w' => ∃ v, e = .returned v ∧ R v w') .ret N env w := fun fr hs => by
  refine bodyPost_ret (v := .tuple #[v, u]) ?_ rfl ⟨_, rfl, hR⟩
  rw [results_rv]
  simp [hres, Sem.run_bind, h1.run hs, h2.run hs]

theorem WQ.retv3 {fn : Func} {R : Value → World → Prop} {r s x : ResultVar} (v u y : Value) (hres : fn.results = #[r, s, x]) (h1 : RVal P env w r v) (h2 : RVal P env w s u) (h3 : RVal P env w x y) (hR : R (.tuple #[v, u, y]) w) :
    WQ (bodyPost P fn fun e w' => ∃ v, e = .returned v ∧ R v w') .ret N env w := fun fr hs => by
  refine bodyPost_ret (v := .tuple #[v, u, y]) ?_ rfl ⟨_, rfl, hR⟩
  rw [results_rv]
  simp [hres, Sem.run_bind, h1.run hs, h2.run hs, h3.run hs]

end
end Go.Gv
