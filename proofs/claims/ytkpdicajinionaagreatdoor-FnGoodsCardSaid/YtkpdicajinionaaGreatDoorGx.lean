/- Rows of structs that hold slices of numbers, for the small program logic: read, and of the call's own. No program is named here. -/
import Derived.Test.YtkpdicajinionaaGreatDoorGh
namespace Go.Gv
open Go Go.RowKit

/-- What a cell holds: a plain value, or a slice of numbers. -/
inductive Lf where
  | val (v : Value)
  | row (xs : List Int)

/-- Data some of whose cells are slices of numbers. -/
structure Nl (α : Type) where
  sz : Nat
  pos : 0 < sz
  leaf : α → List Lf
  len : ∀ x, (leaf x).length = sz
  one : ∀ x v, Lf.val v ∈ leaf x → v.oneCell' = true

def Lf.rd (w : World) : Lf → Value → Prop
  | .val v, u => u = v
  | .row xs, u => ∃ a c, u = .slice a xs.length c ∧ Rd fInt.ty w a xs ∧ xs.length ≤ c

def lfs (w : World) : List Lf → List Value → Prop
  | [], vs => vs = []
  | l :: ls, vs => ∃ v vs', vs = v :: vs' ∧ l.rd w v ∧ lfs w ls vs'

theorem lfs_len {w : World} : ∀ {ls : List Lf} {vs : List Value}, lfs w ls vs → vs.length = ls.length
  | [], _, h => by have h' : _ = [] := h; simp [h']
  | _ :: ls, _, ⟨v, vs', h1, _, h3⟩ => by subst h1; simp [lfs_len h3]

theorem lfs_one {w : World} : ∀ {ls : List Lf} {vs : List Value}, (∀ v, Lf.val v ∈ ls → v.oneCell' = true) → lfs w ls vs → ∀ v ∈ vs, v.oneCell' = true
  | [], _, _, h => by have h' : _ = [] := h; simp [h']
  | l :: ls, _, ho, ⟨v, vs', h1, h2, h3⟩ => by
    subst h1
    intro u hu
    rcases List.mem_cons.1 hu with rfl | hu
    · cases l with
      | val x => have h2' : _ = _ := h2; subst h2'; exact ho _ (by simp)
      | row xs => obtain ⟨a, c, rfl, _⟩ := h2; rfl
    · exact lfs_one (fun x hx => ho x (by simp [hx])) h3 u hu

theorem lfs_ext {w w' : World} (hE : Ext w w') : ∀ {ls : List Lf} {vs : List Value}, lfs w ls vs → lfs w' ls vs
  | [], _, h => h
  | l :: ls, _, ⟨v, vs', h1, h2, h3⟩ => by
    refine ⟨v, vs', h1, ?_, lfs_ext hE h3⟩
    cases l with
    | val x => exact h2
    | row xs => obtain ⟨a, c, e, h4, h5⟩ := h2; exact ⟨a, c, e, h4.below hE, h5⟩

def Nl.ty {α : Type} (F : Nl α) : Ty α where
  sz := F.sz
  pos := F.pos
  rep w vs x := lfs w (F.leaf x) vs
  len h := by rw [lfs_len h, F.len]
  one h := lfs_one (fun v hv => F.one _ v hv) h
  ext hE h := lfs_ext hE h

/-- The cells of an element. -/
theorem Rd.nest {α : Type} {F : Nl α} {w : World} {a : Option Addr} {xs : List α} (h : Rd F.ty w a xs) {i : Int} {x : α} (hx : idx xs i = some x) :
    ∃ vs, lfs w (F.leaf x) vs ∧ ∀ j v, vs[j]? = some v → w.cell? (at_ a (i.toNat * F.sz + j)) = some v := by
  obtain ⟨_, _, vs, h3, h4⟩ := h _ x (idx_some hx).2.2
  exact ⟨vs, h3, h4⟩

theorem at_agg {w : World} {a : Option Addr} {n : Nat} {vs : List Value} (h : ∀ j v, vs[j]? = some v → w.cell? (at_ a (n + j)) = some v) (j : Nat) (v : Value) (hv : vs[j]? = some v) :
    w.cell? ⟨(at_ a n).block, (at_ a n).off + j, none⟩ = some v := by
  have := h j v hv
  rwa [show at_ a (n + j) = ⟨(at_ a n).block, (at_ a n).off + j, none⟩ by simp [at_, Nat.add_assoc]] at this

theorem cells_ext {w w' : World} {a : Option Addr} {n : Nat} {vs : List Value} (h : ∀ j v, vs[j]? = some v → w.cell? (at_ a (n + j)) = some v) (hE : Ext w w') (j : Nat) (v : Value) (hv : vs[j]? = some v) : w'.cell? (at_ a (n + j)) = some v :=
  cell_ext (h j v hv) w' hE

/-- A variable behind a pointer to an element. -/
theorem RdB.ofCells {w : World} {a : Option Addr} {n : Nat} {vs : List Value} (hn : 0 < vs.length) (h : ∀ j v, vs[j]? = some v → w.cell? (at_ a (n + j)) = some v) : RdB w (ba a).block ((ba a).off + n) vs := by
  refine ⟨?_, fun j v hv => ?_⟩
  · have := h 0 _ (List.getElem?_eq_getElem hn)
    exact World.block_lt_of_cell? w (at_ a (n + 0)) this
  · have := h j v hv
    rwa [show at_ a (n + j) = ⟨(ba a).block, (ba a).off + n + j, none⟩ by simp [at_, Nat.add_assoc]] at this

/-! ### Own -/

theorem SHp.perm {w : World} {L L' : List Asrt} (h : L.Perm L') : ∀ {S : Nat → Prop}, SHp w L S → SHp w L' S := by
  induction h with
  | nil => exact fun h => h
  | cons A _ ih => rintro S ⟨S1, S2, h1, h2, h3, h4, h5⟩; exact ⟨S1, S2, h1, h2, h3, h4, ih h5⟩
  | swap A C L => intro S h; exact SHp.swap h
  | trans _ _ ih1 ih2 => intro S h; exact ih2 (ih1 h)

theorem SH.perm {w : World} {B : Nat} {L L' : List Asrt} (h : SH w B L) (hp : L.Perm L') : SH w B L' := SHp.perm hp h

theorem SHp.split {w : World} : ∀ {M L : List Asrt} {S : Nat → Prop}, SHp w (M ++ L) S → ∃ S1 S2 : Nat → Prop, (∀ k, S1 k → S k) ∧ (∀ k, S2 k → S k) ∧ (∀ k, S1 k → ¬ S2 k) ∧ SHp w M S1 ∧ SHp w L S2
  | [], L, S, h => ⟨fun _ => False, S, by simp, fun _ h => h, by simp, trivial, h⟩
  | A :: M, L, S, ⟨T1, T2, h1, h2, h3, h4, h5⟩ => by
    obtain ⟨U1, U2, g1, g2, g3, g4, g5⟩ := SHp.split (M := M) h5
    refine ⟨fun k => T1 k ∨ U1 k, U2, fun k hk => hk.elim (h1 k) (fun h => h2 k (g1 k h)), fun k hk => h2 k (g2 k hk), fun k hk hh => ?_, ⟨T1, U1, fun _ h => .inl h, fun _ h => .inr h, fun k hk hh => h3 k hk (g1 k hh), h4, g4⟩, g5⟩
    rcases hk with hk | hk
    · exact h3 k hk (g2 k hh)
    · exact g3 k hk hh

theorem SHp.under {w : World} {M M' : List Asrt} (hM : ∀ S, SHp w M S → SHp w M' S) : ∀ {K : List Asrt} {S : Nat → Prop}, SHp w (K ++ M) S → SHp w (K ++ M') S
  | [], S, h => hM S h
  | _ :: _, _, ⟨S1, S2, h1, h2, h3, h4, h5⟩ => ⟨S1, S2, h1, h2, h3, h4, SHp.under hM h5⟩

/-- An assertion that stands for some. -/
theorem SHp.fold {w : World} {A : Asrt} {M L : List Asrt} {S : Nat → Prop} (hA : ∀ S, SHp w M S → A.on w S) (h : SHp w (M ++ L) S) : SHp w (A :: L) S := by
  obtain ⟨S1, S2, h1, h2, h3, h4, h5⟩ := SHp.split h
  exact ⟨S1, S2, h1, h2, h3, hA _ h4, h5⟩

abbrev Raw (n : Nat) := { vs : List Value // vs.length = n ∧ ∀ v ∈ vs, v.oneCell' = true }

def Nl.raw {α : Type} (F : Nl α) : Fl (Raw F.sz) := ⟨F.sz, F.pos, Subtype.val, fun x => x.2.1, fun x => x.2.2⟩

/-- Cells, what they hold, and the rows behind them. -/
inductive Fit (ei : TypeId) : List Lf → List Value → List Asrt → Prop
  | nil : Fit ei [] [] []
  | val {v : Value} {ls : List Lf} {vs : List Value} {I : List Asrt} : Fit ei ls vs I → Fit ei (.val v :: ls) (v :: vs) I
  | row {xs : List Int} {a : Option Addr} {c : Nat} {ls : List Lf} {vs : List Value} {I : List Asrt} : Fit ei ls vs I → Fit ei (.row xs :: ls) (.slice a xs.length c :: vs) (aOwn fInt ei a c xs :: I)

theorem Fit.row' {ei : TypeId} {xs : List Int} {a : Option Addr} {c n : Nat} {ls : List Lf} {vs : List Value} {I : List Asrt} (hn : n = xs.length) (h : Fit ei ls vs I) : Fit ei (.row xs :: ls) (.slice a n c :: vs) (aOwn fInt ei a c xs :: I) := by
  subst hn; exact .row h

theorem Fit.len {ei : TypeId} {ls : List Lf} {vs : List Value} {I : List Asrt} (h : Fit ei ls vs I) : vs.length = ls.length := by
  induction h <;> simp_all

theorem Fit.one {ei : TypeId} {ls : List Lf} {vs : List Value} {I : List Asrt} (h : Fit ei ls vs I) (ho : ∀ v, Lf.val v ∈ ls → v.oneCell' = true) : ∀ v ∈ vs, v.oneCell' = true := by
  induction h with
  | nil => simp
  | val _ ih =>
    intro v hv
    rcases List.mem_cons.1 hv with rfl | hv
    · exact ho _ (by simp)
    · exact ih (fun x hx => ho x (by simp [hx])) v hv
  | row _ ih =>
    intro v hv
    rcases List.mem_cons.1 hv with rfl | hv
    · rfl
    · exact ih (fun x hx => ho x (by simp [hx])) v hv

inductive Fits {α : Type} (F : Nl α) (ei : TypeId) : List α → List (Raw F.sz) → List Asrt → Prop
  | nil : Fits F ei [] [] []
  | cons {x : α} {y : Raw F.sz} {xs : List α} {ys : List (Raw F.sz)} {I J : List Asrt} : Fit ei (F.leaf x) y.val I → Fits F ei xs ys J → Fits F ei (x :: xs) (y :: ys) (I ++ J)

theorem Fits.length {α : Type} {F : Nl α} {ei : TypeId} {xs : List α} {ys : List (Raw F.sz)} {I : List Asrt} (h : Fits F ei xs ys I) : ys.length = xs.length := by
  induction h <;> simp_all

/-- A row of such structs, of the call's own. -/
def aNest {α : Type} (F : Nl α) (e ei : TypeId) (a : Option Addr) (c : Nat) (xs : List α) : Asrt where
  on w S := ∃ ys I, Fits F ei xs ys I ∧ SHp w (aOwn F.raw e a c ys :: I) S
  loc hS h := by
    obtain ⟨ys, I, h1, h2⟩ := h
    exact ⟨ys, I, h1, SHp.loc hS h2⟩

def HoleP {α : Type} (F : Nl α) (ei : TypeId) (xs : List α) (i : Nat) (ys : List (Raw F.sz)) (I1 I2 : List Asrt) : Prop :=
  ∀ x' y' Ix', Fit ei (F.leaf x') y'.val Ix' → Fits F ei (xs.set i x') (ys.set i y') (I1 ++ (Ix' ++ I2))

/-- The same, but for the i-th element's rows; 'vs': that element's cells. -/
def aHole {α : Type} (F : Nl α) (e ei : TypeId) (a : Option Addr) (c : Nat) (xs : List α) (i : Nat) (vs : List Value) : Asrt where
  on w S := ∃ ys I1 I2, (∃ y, ys[i]? = some y ∧ y.val = vs) ∧ HoleP F ei xs i ys I1 I2 ∧ SHp w (aOwn F.raw e a c ys :: (I1 ++ I2)) S
  loc hS h := by
    obtain ⟨ys, I1, I2, h1, h2, h3⟩ := h
    exact ⟨ys, I1, I2, h1, h2, SHp.loc hS h3⟩

section
variable {α : Type} {F : Nl α} {e ei : TypeId} {a : Option Addr} {c : Nat} {xs : List α} {w : World} {B : Nat} {L : List Asrt}

theorem Fits.at {ys : List (Raw F.sz)} {I : List Asrt} (h : Fits F ei xs ys I) : ∀ (i : Nat) (x : α), xs[i]? = some x →
    ∃ y I1 Ix I2, ys[i]? = some y ∧ I = I1 ++ (Ix ++ I2) ∧ Fit ei (F.leaf x) y.val Ix ∧ HoleP F ei xs i ys I1 I2 := by
  induction h with
  | nil => intro i x h; simp at h
  | @cons x0 y0 xs ys I0 J h0 hs ih =>
    intro i x hx
    cases i with
    | zero =>
      simp at hx; subst hx
      exact ⟨y0, [], I0, J, rfl, rfl, h0, fun x' y' Ix' hf => by simpa using Fits.cons hf hs⟩
    | succ i =>
      simp only [List.getElem?_cons_succ] at hx
      obtain ⟨y, I1, Ix, I2, h1, h2, h3, h4⟩ := ih i x hx
      refine ⟨y, I0 ++ I1, Ix, I2, by simpa using h1, by rw [h2]; simp, h3, fun x' y' Ix' hf => ?_⟩
      have := Fits.cons h0 (h4 x' y' Ix' hf)
      simpa using this

theorem SHp.nestIn {S : Nat → Prop} (h : SHp w (aNest F e ei a c xs :: L) S) : ∃ ys I, Fits F ei xs ys I ∧ SHp w (aOwn F.raw e a c ys :: (I ++ L)) S := by
  obtain ⟨S1, S2, h1, h2, h3, ⟨ys, I, hf, hh⟩, h5⟩ := h
  exact ⟨ys, I, hf, SHp.append (R := aOwn F.raw e a c ys :: I) h1 h2 h3 hh h5⟩

theorem SHp.nestOut {S : Nat → Prop} {ys : List (Raw F.sz)} {I : List Asrt} (hf : Fits F ei xs ys I) (h : SHp w (aOwn F.raw e a c ys :: (I ++ L)) S) : SHp w (aNest F e ei a c xs :: L) S :=
  SHp.fold (M := aOwn F.raw e a c ys :: I) (fun _ hh => ⟨ys, I, hf, hh⟩) h

theorem SH.elem (h : SH w B (aNest F e ei a c xs :: L)) {i : Int} {x : α} (hx : idx xs i = some x) :
    ∃ vs Ix, Fit ei (F.leaf x) vs Ix ∧ SH w B (Ix ++ (aHole F e ei a c xs i.toNat vs :: L)) := by
  obtain ⟨ys, I, hf, hh⟩ := SHp.nestIn h
  obtain ⟨y, I1, Ix, I2, h1, rfl, h3, h4⟩ := hf.at _ x (idx_some hx).2.2
  have p1 : (aOwn F.raw e a c ys :: (I1 ++ (Ix ++ I2) ++ L)).Perm (aOwn F.raw e a c ys :: (Ix ++ (I1 ++ I2 ++ L))) := by
    refine List.Perm.cons _ ?_
    simpa using List.Perm.append_right (I2 ++ L) (List.perm_append_comm (l₁ := I1) (l₂ := Ix))
  have p2 : (aOwn F.raw e a c ys :: (Ix ++ (I1 ++ I2 ++ L))).Perm (Ix ++ ((aOwn F.raw e a c ys :: (I1 ++ I2)) ++ L)) :=
    (List.perm_middle (a := aOwn F.raw e a c ys) (l₁ := Ix) (l₂ := I1 ++ I2 ++ L)).symm
  have h5 : SHp w (Ix ++ ((aOwn F.raw e a c ys :: (I1 ++ I2)) ++ L)) (fun k => B ≤ k ∧ k < w.heap.size) := SHp.perm (p1.trans p2) hh
  exact ⟨y.val, Ix, h3, SHp.under (fun S hS => SHp.fold (A := aHole F e ei a c xs i.toNat y.val) (fun _ hh => ⟨ys, I1, I2, ⟨y, h1, rfl⟩, h4, hh⟩) hS) h5⟩

theorem SH.elemBack {i : Nat} {vs : List Value} {Ix : List Asrt} {x' : α} (h : SH w B (Ix ++ (aHole F e ei a c xs i vs :: L))) (hf : Fit ei (F.leaf x') vs Ix) : SH w B (aNest F e ei a c (xs.set i x') :: L) := by
  have hp : (Ix ++ (aHole F e ei a c xs i vs :: L)).Perm (aHole F e ei a c xs i vs :: (Ix ++ L)) := List.perm_middle
  obtain ⟨S1, S2, h1, h2, h3, ⟨ys, I1, I2, ⟨y, hy, rfl⟩, hH, hh⟩, h5⟩ := SHp.perm hp h
  have hset : ys.set i y = ys := by
    apply List.ext_getElem?
    intro k
    by_cases hk : i = k
    · subst hk
      have hlt : i < ys.length := by
        rcases Nat.lt_or_ge i ys.length with hl | hl
        · exact hl
        · rw [List.getElem?_eq_none hl] at hy; cases hy
      rw [List.getElem?_set, hy]; simp [hlt]
    · rw [List.getElem?_set_ne hk]
  have hF := hH x' y Ix hf
  rw [hset] at hF
  refine SHp.nestOut hF (SHp.perm ?_ (SHp.append (R := aOwn F.raw e a c ys :: (I1 ++ I2)) h1 h2 h3 hh h5))
  refine List.Perm.cons _ ?_
  simpa using List.Perm.append_left I1 (List.Perm.append_right L (List.perm_append_comm (l₁ := I2) (l₂ := Ix)))

theorem SH.holeAt {i : Nat} {vs : List Value} (h : SH w B (aHole F e ei a c xs i vs :: L)) (j : Nat) (v : Value) (hv : vs[j]? = some v) : w.cell? (at_ a (i * F.sz + j)) = some v := by
  obtain ⟨S1, S2, h1, h2, h3, ⟨ys, I1, I2, ⟨y, hy, rfl⟩, hH, hh⟩, h5⟩ := h
  have h6 : SH w B (aOwn F.raw e a c ys :: (I1 ++ I2)) := SHp.mono h1 hh
  obtain ⟨_, _, vs, h7, h8⟩ := SH.rd h6 i y hy
  have h7' : vs = y.val := h7
  subst h7'
  exact h8 j v hv

theorem Fit.lfs {ls : List Lf} {vs : List Value} {I : List Asrt} (h : Fit ei ls vs I) : ∀ {R : List Asrt}, SH w B (I ++ R) → Gv.lfs w ls vs := by
  induction h with
  | nil => intro R _; rfl
  | val _ ih => intro R hS; exact ⟨_, _, rfl, rfl, ih hS⟩
  | row _ ih => intro R hS; exact ⟨_, _, rfl, ⟨_, _, rfl, SH.rd hS, (SH.le hS).1⟩, ih (SH.drop hS)⟩

theorem SH.rdN (h : SH w B (aNest F e ei a c xs :: L)) : Rd F.ty w a xs := by
  obtain ⟨ys, I, hf, hh⟩ := SHp.nestIn h
  intro i x hx
  obtain ⟨y, I1, Ix, I2, h1, rfl, h3, h4⟩ := hf.at i x hx
  obtain ⟨g1, g2, vs, h7, h8⟩ := SH.rd (w := w) (B := B) hh i y h1
  have h7' : vs = y.val := h7
  subst h7'
  refine ⟨g1, g2, y.val, ?_, h8⟩
  have hd : SH w B (I1 ++ (Ix ++ I2) ++ L) := SH.drop (w := w) (B := B) hh
  have hp : SH w B (Ix ++ (I1 ++ I2 ++ L)) := SH.perm hd (by
    rw [show I1 ++ (Ix ++ I2) ++ L = I1 ++ Ix ++ (I2 ++ L) by simp, show Ix ++ (I1 ++ I2 ++ L) = Ix ++ I1 ++ (I2 ++ L) by simp]
    exact List.Perm.append_right _ List.perm_append_comm)
  exact h3.lfs hp

theorem SH.leN (h : SH w B (aNest F e ei a c xs :: L)) : xs.length ≤ c ∧ (a = none → xs = []) := by
  obtain ⟨ys, I, hf, hh⟩ := SHp.nestIn h
  have := SH.le (w := w) (B := B) hh
  rw [hf.length] at this
  refine ⟨this.1, fun ha => List.eq_nil_of_length_eq_zero ?_⟩
  rw [← hf.length, this.2 ha]; rfl

theorem SH.nilNest (h : SH w B L) : SH w B (aNest F e ei none 0 ([] : List α) :: L) :=
  SHp.nestOut (ys := []) (I := []) .nil (SH.nilOwn h)

end

section
variable {P : Program} {ops : Array Oper} {Q : Exit → Act → World → Prop} {N : Nat} {env env' : Env} {w w' : World} {l rest : List Oper} {o : Oper} {B : Nat} {L : List Asrt} {α : Type} {F : Nl α} {e ei : TypeId} {a : Option Addr} {c : Nat} {xs : List α}

/-- A store into an element that stands open. -/
theorem WL.holeStore {t : TypeId} {inf : TypeInfo} {X Y : Operand} {v : Value} {i : Nat} {vs : List Value} (j : Nat) (news vs' : List Value) (hS : SH w B (aHole F e ei a c xs i vs :: L)) (hB : B ≤ w.heap.size)
    (hvs : vs.take j ++ news ++ vs.drop (j + news.length) = vs') (hj : Nat.ble (j + news.length) vs.length = true)
    (ho : o.op = .store t X Y) (hX : rho env X = .pointer (some (at_ a (i * F.sz + j)))) (hY : rho env Y = v) (hv : v.cells.toList = news) (h1 : news.all (·.oneCell') = true)
    (hi : P.info? t = some inf) (hsz : inf.size = news.length) (hw : want ops env o = some true) (hk : known env o = true) (hd : o.dst = none)
    (h : ∀ w', Below B w w' → SH w' B (aHole F e ei a c xs i vs' :: L) → WL P ops Q N rest env w') : WL P ops Q N (o :: rest) env w := by
  obtain ⟨S1, S2, g1, g2, g3, ⟨ys, I1, I2, ⟨y, hy, rfl⟩, hH, hh⟩, h5⟩ := hS
  have hS2 : SH w B (aOwn F.raw e a c ys :: (I1 ++ I2 ++ L)) := SHp.append (R := aOwn F.raw e a c ys :: (I1 ++ I2)) g1 g2 g3 hh h5
  have hj' := Nat.le_of_ble_eq_true hj
  have hyl := y.2.1
  have hl' : vs'.length = F.sz := by
    rw [← hvs]; simp only [List.length_append, List.length_take, List.length_drop]; omega
  have ho' : ∀ u ∈ vs', u.oneCell' = true := by
    rw [← hvs]
    intro u hu
    simp only [List.mem_append] at hu
    rcases hu with (hu | hu) | hu
    · exact y.2.2 u (List.mem_of_mem_take hu)
    · exact List.all_eq_true.1 h1 u hu
    · exact y.2.2 u (List.mem_of_mem_drop hu)
  have hx : idx ys (i : Int) = some y := by unfold idx; simpa using hy
  refine WL.store (F := F.raw) (i := (i : Int)) (x := y) ⟨vs', hl', ho'⟩ j news hS2 hB hx hvs.symm ?_ ho (by rw [hX]; rfl) hY hv h1 hi hsz hw hk hd (fun w' hb hS' => ?_)
  · exact Nat.ble_eq_true_of_le (by show j + news.length ≤ F.sz; rw [← hyl]; exact hj')
  · refine h w' hb (SHp.fold (M := aOwn F.raw e a c (ys.set i ⟨vs', hl', ho'⟩) :: (I1 ++ I2)) (fun _ hh => ⟨_, I1, I2, ⟨⟨vs', hl', ho'⟩, ?_, rfl⟩, ?_, hh⟩) (by have h9 : SHp w' _ _ := hS'; simpa using h9))
    · rw [List.getElem?_set]; simp
      rcases Nat.lt_or_ge i ys.length with hl | hl
      · exact hl
      · rw [List.getElem?_eq_none hl] at hy; cases hy
    · intro x' y' Ix' hf
      have := hH x' y' Ix' hf
      rwa [List.set_set]

/-- Rows that take no room. -/
def Emp (I : List Asrt) : Prop := ∀ A ∈ I, ∀ w, A.on w fun _ => False

theorem SHp.emp {I : List Asrt} (hI : Emp I) : ∀ {L : List Asrt} {S : Nat → Prop}, SHp w L S → SHp w (I ++ L) S := by
  induction I with
  | nil => exact fun h => h
  | cons A I ih => exact fun h => ⟨fun _ => False, _, by simp, fun _ h => h, by simp, hI A (by simp) w, ih (fun A' hA' => hI A' (by simp [hA'])) h⟩

theorem Emp.nil : Emp [] := fun A h => by simp at h
theorem Emp.row {I : List Asrt} (h : Emp I) : Emp (aOwn fInt ei none 0 ([] : List Int) :: I) := by
  intro A hA w
  rcases List.mem_cons.1 hA with rfl | hA
  · exact ⟨World.ownsRow_nil _ _ _ _, by simp [Value.ownBlock]⟩
  · exact h A hA w

theorem Fits.replicate {x : α} {y : Raw F.sz} {I : List Asrt} (hf : Fit ei (F.leaf x) y.val I) (hI : Emp I) : ∀ n, ∃ J, Fits F ei (List.replicate n x) (List.replicate n y) J ∧ Emp J
  | 0 => ⟨[], .nil, Emp.nil⟩
  | n + 1 => by
    obtain ⟨J, h1, h2⟩ := Fits.replicate hf hI n
    refine ⟨I ++ J, by rw [List.replicate_succ, List.replicate_succ]; exact .cons hf h1, fun A hA => ?_⟩
    rcases List.mem_append.1 hA with hA | hA
    · exact hI A hA
    · exact h2 A hA

/-- A row of n zero elements. -/
theorem WL.makeN (F : Nl α) {t : TypeId} {inf : TypeInfo} {z : Value} {zx : α} {I : List Asrt} {X Y : Operand} {k k' : IntKind} {i : Int} (d : Nat) (hx : Gv.mk zx i = some xs) (hf : Fit ei (F.leaf zx) z.cells.toList I) (hI : Emp I) (ho : o.op = .makeSlice t X Y)
    (hX : rho env X = .int k i) (hY : rho env Y = .int k' i) (ht : P.underlying t = some (.slice e)) (hi : P.info? e = some inf) (hz : inf.zero = some z) (hsz : inf.size = F.sz) (hby : Nat.ble inf.bytes 4096 = true)
    (hw : want ops env o = some true) (hk : known env o = true) (hd : o.dst = some d) (hN : Nat.blt d N = true)
    (h : ∀ a c w', Ext w w' → SH w' w.heap.size [aNest F e ei a c xs] → WL P ops Q N rest (put env d (.slice a xs.length c)) w') : WL P ops Q N (o :: rest) env w := by
  have hl : z.cells.toList.length = F.sz := by rw [hf.len, F.len]
  have ho1 := hf.one (fun v hv => F.one _ v hv)
  have hx' : xs = List.replicate i.toNat zx ∧ Gv.mk (⟨z.cells.toList, hl, ho1⟩ : Raw F.sz) i = some (List.replicate i.toNat ⟨z.cells.toList, hl, ho1⟩) := by
    unfold Gv.mk at hx ⊢
    split at hx
    · rename_i hh; rw [if_pos hh]; exact ⟨(Option.some.inj hx).symm, rfl⟩
    · cases hx
  obtain ⟨rfl, hx2⟩ := hx'
  refine WL.make F.raw d hx2 ho hX hY ht hi hz hsz hby rfl hw hk hd hN (fun a c w' hE hS => ?_)
  have hlen : (List.replicate i.toNat (⟨z.cells.toList, hl, ho1⟩ : Raw F.sz)).length = (List.replicate i.toNat zx).length := by simp
  rw [hlen]
  obtain ⟨J, hJ, hE2⟩ := Fits.replicate (F := F) (x := zx) (y := ⟨z.cells.toList, hl, ho1⟩) hf hI i.toNat
  refine h a c w' hE (SHp.nestOut hJ ?_)
  refine SHp.perm (List.perm_append_comm (l₁ := J ++ []) (l₂ := [aOwn F.raw e a c (List.replicate i.toNat ⟨z.cells.toList, hl, ho1⟩)])) ?_
  rw [List.append_nil]
  exact SHp.emp hE2 hS

/-- A row of the call's own, without elements. -/
theorem WL.rowN (F : Nl α) (e ei : TypeId) (cs : Array Value) (d : Nat) (hr : (execOp (rho env) o).run P w = .ok (.value (.slice (some ⟨w.heap.size, 0, none⟩) 0 0)) (w.alloc (.cells cs e)))
    (hw : want ops env o = some true) (hk : known env o = true) (hd : o.dst = some d) (hN : Nat.blt d N = true) (hcs : cs.toList = [])
    (h : ∀ a c w', Ext w w' → SH w' w.heap.size [aNest F e ei a c ([] : List α)] → WL P ops Q N rest (put env d (.slice a 0 c)) w') : WL P ops Q N (o :: rest) env w :=
  WL.row F.raw e [] 0 cs d hr hw hk hd hN rfl rfl hcs (fun a c w' hE hS => h a c w' hE (SHp.nestOut (I := []) .nil hS))

/-- A row of one element, whose rows are the call's own. -/
theorem WL.row1N (F : Nl α) (e : TypeId) {I : List Asrt} (x : α) (vs : List Value) (hf : Fit ei (F.leaf x) vs I) (d : Nat) (hS : SH w B (I ++ L)) (hB : B ≤ w.heap.size)
    (hr : (execOp (rho env) o).run P w = .ok (.value (.slice (some ⟨w.heap.size, 0, none⟩) 1 1)) (w.alloc (.cells vs.toArray e)))
    (hw : want ops env o = some true) (hk : known env o = true) (hd : o.dst = some d) (hN : Nat.blt d N = true)
    (h : ∀ a c w', Below B w w' → SH w' B (aNest F e ei a c [x] :: L) → WL P ops Q N rest (put env d (.slice a 1 c)) w') : WL P ops Q N (o :: rest) env w := by
  have hl : vs.length = F.sz := by rw [hf.len, F.len]
  have ho1 := hf.one (fun v hv => F.one _ v hv)
  refine WL.row F.raw e [⟨vs, hl, ho1⟩] 1 vs.toArray d hr hw hk hd hN rfl rfl (by simp [Nl.raw]) (fun a c w' hE hS' => ?_)
  refine h a c w' (Below.mono hE hB) ?_
  have hf2 : Fits F ei [x] [⟨vs, hl, ho1⟩] (I ++ []) := .cons hf .nil
  refine SHp.nestOut hf2 ?_
  have h9 : SHp w' _ _ := SH.add hS hE hB hS'
  simpa using h9

theorem Fits.append {xs xs' : List α} {ys ys' : List (Raw F.sz)} {I I' : List Asrt} (h : Fits F ei xs ys I) (h' : Fits F ei xs' ys' I') : Fits F ei (xs ++ xs') (ys ++ ys') (I ++ I') := by
  induction h with
  | nil => exact h'
  | cons hf _ ih => have := Fits.cons hf ih; simpa using this

/-- append of own elements: their rows go with them. -/
theorem WL.appendN {t : TypeId} {inf : TypeInfo} {z : Value} {a2 : Option Addr} {c2 : Nat} {ys zs : List α} {X Y : Operand} (d : Nat)
    (hS : SH w B (aNest F e ei a c xs :: aNest F e ei a2 c2 ys :: L)) (hB : B ≤ w.heap.size) (hz : app xs ys = some zs)
    (ho : o.op = .call { callee := .builtin .append, args := #[X, Y], argTypes := #[t, t] }) (hX : rho env X = .slice a xs.length c) (hY : rho env Y = .slice a2 ys.length c2)
    (ht : P.underlying t = some (.slice e)) (hi : P.info? e = some inf) (hzv : inf.zero = some z) (hsz : inf.size = F.sz) (hby : Nat.ble inf.bytes 4096 = true) (hzs : z.cells.size = F.sz)
    (hw : want ops env o = some true) (hk : known env o = true) (hd : o.dst = some d) (hN : Nat.blt d N = true)
    (h : ∀ a' c' w', Below B w w' → SH w' B (aNest F e ei a' c' zs :: L) → WL P ops Q N rest (put env d (.slice a' zs.length c')) w') : WL P ops Q N (o :: rest) env w := by
  obtain ⟨rs, I, hf, hh⟩ := SHp.nestIn hS
  have hh2 : SHp w (aNest F e ei a2 c2 ys :: (aOwn F.raw e a c rs :: (I ++ L))) (fun k => B ≤ k ∧ k < w.heap.size) := by
    refine SHp.perm ?_ hh
    have : (aOwn F.raw e a c rs :: (I ++ aNest F e ei a2 c2 ys :: L)) = (aOwn F.raw e a c rs :: I) ++ aNest F e ei a2 c2 ys :: L := by simp
    rw [this]
    exact (List.perm_middle).trans (by simp)
  obtain ⟨rs2, I2, hf2, hh3⟩ := SHp.nestIn hh2
  have hR : Rd F.raw.ty w a2 rs2 := SH.rd (w := w) (B := B) hh3
  have hh4 : SH w B (aOwn F.raw e a c rs :: (I2 ++ (I ++ L))) := by
    have hd : SH w B (I2 ++ aOwn F.raw e a c rs :: (I ++ L)) := SH.drop (w := w) (B := B) hh3
    exact SH.perm hd List.perm_middle
  have hzz : xs ++ ys = zs ∧ app rs rs2 = some (rs ++ rs2) := by
    unfold app at hz ⊢
    rw [hf.length, hf2.length]
    split at hz
    · rename_i hh; rw [if_pos hh]; exact ⟨Option.some.inj hz, rfl⟩
    · cases hz
  obtain ⟨rfl, hz2⟩ := hzz
  refine WL.append (F := F.raw) d hh4 hB hR hz2 ho (by rw [hf.length]; exact hX) (by rw [hf2.length]; exact hY) ht hi hzv hsz hby hzs hw hk hd hN (fun a' c' w' hb hS' => ?_)
  have hl : (rs ++ rs2).length = (xs ++ ys).length := by simp [hf.length, hf2.length]
  rw [hl]
  refine h a' c' w' hb (SHp.nestOut (hf.append hf2) (SHp.perm ?_ hS'))
  refine List.Perm.cons _ ?_
  rw [← List.append_assoc]
  exact List.Perm.append_right _ List.perm_append_comm

end
end Go.Gv
