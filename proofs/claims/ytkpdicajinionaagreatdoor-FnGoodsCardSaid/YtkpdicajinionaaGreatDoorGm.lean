/- Memory for the small program logic: what a call may turn, lists that are read, rows and boxes of the call's own. No program is named here. -/
import Derived.Test.YtkpdicajinionaaGreatDoorGv
namespace Go.Gv
open Go Go.RowKit

/-! ### What may turn -/

/-- Nothing that was there has turned. -/
abbrev Ext (w w' : World) : Prop := Below w.heap.size w w'

theorem Ext.refl (w : World) : Ext w w := Below.refl _ _
theorem Ext.trans {a b c : World} (h : Ext a b) (k : Ext b c) : Ext a c := Below.trans h (Below.mono k h.size)
theorem Ext.drew (w : World) : Ext w { w with drawn := w.drawn + 1 } := ⟨rfl, rfl, rfl, Nat.le_refl _, fun _ _ => rfl⟩
theorem Ext.alloc (w : World) (o : Obj) : Ext w (w.alloc o) := (Below.refl _ _).alloc (Nat.le_refl _) o

/-- Of what was there only blocks of 'S' may have turned. -/
structure Mod (S : Nat → Prop) (w w' : World) : Prop where
  os : w'.os = w.os
  tape : w'.tape = w.tape
  output : w'.output = w.output
  size : w.heap.size ≤ w'.heap.size
  block : ∀ k, k < w.heap.size → ¬ S k → w'.heap[k]? = w.heap[k]?

theorem Ext.mod {S : Nat → Prop} {w w' : World} (h : Ext w w') : Mod S w w' := ⟨h.os, h.tape, h.output, h.size, fun k hk _ => h.block k hk⟩
theorem Mod.refl (S : Nat → Prop) (w : World) : Mod S w w := (Ext.refl w).mod
theorem Mod.trans {S : Nat → Prop} {a b c : World} (h : Mod S a b) (k : Mod S b c) : Mod S a c :=
  ⟨k.os.trans h.os, k.tape.trans h.tape, k.output.trans h.output, Nat.le_trans h.size k.size,
    fun i hi hS => (k.block i (Nat.lt_of_lt_of_le hi h.size) hS).trans (h.block i hi hS)⟩
theorem Mod.mono {S S' : Nat → Prop} {w w' : World} (h : Mod S w w') (hS : ∀ k, k < w.heap.size → S k → S' k) : Mod S' w w' :=
  ⟨h.os, h.tape, h.output, h.size, fun k hk hn => h.block k hk fun hs => hn (hS k hk hs)⟩
theorem Mod.below {S : Nat → Prop} {B : Nat} {w w' : World} (h : Mod S w w') (hB : B ≤ w.heap.size) (hS : ∀ k, S k → B ≤ k) : Below B w w' :=
  ⟨h.os, h.tape, h.output, h.size, fun k hk => h.block k (Nat.lt_of_lt_of_le hk hB) fun hs => absurd (hS k hs) (by omega)⟩

theorem cell_same {w w' : World} {a : Addr} (h : w'.heap[a.block]? = w.heap[a.block]?) : w'.cell? a = w.cell? a := World.cell?_of_block h

/-! ### Types of elements -/

/-- How a datum lies in cells. -/
structure Ty (α : Type) where
  sz : Nat
  pos : 0 < sz
  rep : World → List Value → α → Prop
  len : ∀ {w vs x}, rep w vs x → vs.length = sz
  one : ∀ {w vs x}, rep w vs x → ∀ v ∈ vs, v.oneCell' = true
  ext : ∀ {w w' vs x}, Ext w w' → rep w vs x → rep w' vs x

/-- Data without pointers: the cells are a function of the datum. -/
structure Fl (α : Type) where
  sz : Nat
  pos : 0 < sz
  leaf : α → List Value
  len : ∀ x, (leaf x).length = sz
  one : ∀ x, ∀ v ∈ leaf x, v.oneCell' = true

def Fl.ty {α : Type} (F : Fl α) : Ty α where
  sz := F.sz
  pos := F.pos
  rep _ vs x := vs = F.leaf x
  len h := by subst h; exact F.len _
  one h := by subst h; exact F.one _
  ext _ h := h

abbrev bs (l : List UInt8) : ByteArray := ⟨l.toArray⟩
theorem bs_eq (s : ByteArray) : s = bs s.data.toList := by cases s; simp [bs]

def fInt : Fl Int := ⟨1, by decide, fun n => [.int .i64 n], fun _ => rfl, fun x v hv => by simp at hv; subst hv; rfl⟩
def fU8 : Fl Int := ⟨1, by decide, fun n => [.int .u8 n], fun _ => rfl, fun x v hv => by simp at hv; subst hv; rfl⟩
def fBool : Fl Bool := ⟨1, by decide, fun n => [.bool n], fun _ => rfl, fun x v hv => by simp at hv; subst hv; rfl⟩
def fStr : Fl (List UInt8) := ⟨1, by decide, fun n => [.string (bs n)], fun _ => rfl, fun x v hv => by simp at hv; subst hv; rfl⟩

/-! ### Lists that are read -/

def ba (a : Option Addr) : Addr := a.getD ⟨0, 0, none⟩
/-- The k-th cell behind a slice's head. -/
def at_ (a : Option Addr) (k : Nat) : Addr := ⟨(ba a).block, (ba a).off + k, none⟩

/-- The slice's array holds the list. -/
def Rd {α : Type} (T : Ty α) (w : World) (a : Option Addr) (xs : List α) : Prop :=
  ∀ i x, xs[i]? = some x → a = some (at_ a 0) ∧ (ba a).block < w.heap.size ∧ ∃ vs, T.rep w vs x ∧ ∀ j v, vs[j]? = some v → w.cell? (at_ a (i * T.sz + j)) = some v

theorem Rd.nil {α : Type} (T : Ty α) (w : World) (a : Option Addr) : Rd T w a [] := fun i x h => by simp at h

theorem Rd.below {α : Type} {T : Ty α} {w w' : World} {a : Option Addr} {xs : List α} (h : Rd T w a xs) (hb : Ext w w') : Rd T w' a xs := by
  intro i x hx
  obtain ⟨h1, h2, vs, h3, h4⟩ := h i x hx
  exact ⟨h1, Nat.lt_of_lt_of_le h2 hb.size, vs, T.ext hb h3, fun j v hv => by rw [cell_same (a := at_ a (i * T.sz + j)) (hb.block _ h2)]; exact h4 j v hv⟩

/-- An index that is in range. -/
def idx {α : Type} (xs : List α) (i : Int) : Option α := if 0 ≤ i then xs[i.toNat]? else none

theorem idx_some {α : Type} {xs : List α} {i : Int} {x : α} (h : idx xs i = some x) : 0 ≤ i ∧ i.toNat < xs.length ∧ xs[i.toNat]? = some x := by
  unfold idx at h
  split at h
  · rename_i h0
    refine ⟨h0, ?_, h⟩
    rcases Nat.lt_or_ge i.toNat xs.length with hl | hl
    · exact hl
    · simp [List.getElem?_eq_none hl] at h
  · cases h

theorem Rd.flat {α : Type} {F : Fl α} {w : World} {a : Option Addr} {xs : List α} (h : Rd F.ty w a xs) {i : Int} {x : α} (hx : idx xs i = some x) (j : Nat) {v : Value}
    (hv : (F.leaf x)[j]? = some v) : w.cell? (at_ a (i.toNat * F.sz + j)) = some v := by
  obtain ⟨_, _, vs, h3, h4⟩ := h _ x (idx_some hx).2.2
  exact h4 j v (by rw [show vs = F.leaf x from h3]; exact hv)

theorem Rd.flatA {α : Type} {F : Fl α} {w : World} {a : Option Addr} {xs : List α} (h : Rd F.ty w a xs) {i : Int} {x : α} (hx : idx xs i = some x) (j : Nat) {v : Value}
    (hv : (F.leaf x)[j]? = some v) : w.cell? ⟨(at_ a (i.toNat * F.sz)).block, (at_ a (i.toNat * F.sz)).off + j, none⟩ = some v := by
  have := Rd.flat h hx j hv
  rw [show at_ a (i.toNat * F.sz + j) = ⟨(at_ a (i.toNat * F.sz)).block, (at_ a (i.toNat * F.sz)).off + j, none⟩ by simp [at_, Nat.add_assoc]] at this
  exact this

/-! ### What the call itself has made: assertions on blocks -/

structure Asrt where
  on : World → (Nat → Prop) → Prop
  loc : ∀ {w w' S}, (∀ k, S k → w'.heap[k]? = w.heap[k]?) → on w S → on w' S

def SHp (w : World) : List Asrt → (Nat → Prop) → Prop
  | [], _ => True
  | A :: L, S => ∃ S1 S2 : Nat → Prop, (∀ k, S1 k → S k) ∧ (∀ k, S2 k → S k) ∧ (∀ k, S1 k → ¬ S2 k) ∧ A.on w S1 ∧ SHp w L S2

/-- From block B on the call's own memory is as the assertions say, each of blocks of its own. -/
def SH (w : World) (B : Nat) (L : List Asrt) : Prop := SHp w L fun k => B ≤ k ∧ k < w.heap.size

theorem SHp.mono {w : World} : ∀ {L : List Asrt} {S S' : Nat → Prop}, (∀ k, S k → S' k) → SHp w L S → SHp w L S'
  | [], _, _, _, _ => trivial
  | _ :: _, _, _, hS, ⟨S1, S2, h1, h2, h3, h4, h5⟩ => ⟨S1, S2, fun k hk => hS k (h1 k hk), fun k hk => hS k (h2 k hk), h3, h4, h5⟩

theorem SHp.loc {w w' : World} : ∀ {L : List Asrt} {S : Nat → Prop}, (∀ k, S k → w'.heap[k]? = w.heap[k]?) → SHp w L S → SHp w' L S
  | [], _, _, _ => trivial
  | A :: _, _, hS, ⟨S1, S2, h1, h2, h3, h4, h5⟩ => ⟨S1, S2, h1, h2, h3, A.loc (fun k hk => hS k (h1 k hk)) h4, SHp.loc (fun k hk => hS k (h2 k hk)) h5⟩

theorem SH.nil (w : World) (B : Nat) : SH w B [] := trivial

theorem SH.ext {w w' : World} {B : Nat} {L : List Asrt} (h : SH w B L) (he : Ext w w') : SH w' B L :=
  SHp.mono (fun k hk => ⟨hk.1, Nat.lt_of_lt_of_le hk.2 he.size⟩) (SHp.loc (fun k hk => he.block k hk.2) h)

theorem SHp.append {w : World} : ∀ {L R : List Asrt} {S S' T : Nat → Prop}, (∀ k, S k → T k) → (∀ k, S' k → T k) → (∀ k, S k → ¬ S' k) → SHp w R S → SHp w L S' → SHp w (R ++ L) T
  | _, [], _, _, _, _, h2, _, _, hL => SHp.mono h2 hL
  | L, A :: R, S, S', T, h1, h2, h3, ⟨S1, S2, g1, g2, g3, g4, g5⟩, hL =>
    ⟨S1, fun k => S2 k ∨ S' k, fun k hk => h1 k (g1 k hk), fun k hk => hk.elim (fun h => h1 k (g2 k h)) (h2 k),
      fun k hk hh => hh.elim (g3 k hk) (h3 k (g1 k hk)), g4, SHp.append (fun _ h => .inl h) (fun _ h => .inr h) (fun k hk => h3 k (g2 k hk)) g5 hL⟩

/-- What a call has made is the caller's. -/
theorem SH.add {w w' : World} {B : Nat} {L R : List Asrt} (h : SH w B L) (he : Ext w w') (hB : B ≤ w.heap.size) (hR : SH w' w.heap.size R) : SH w' B (R ++ L) :=
  SHp.append (S := fun k => w.heap.size ≤ k ∧ k < w'.heap.size) (S' := fun k => B ≤ k ∧ k < w.heap.size) (fun k hk => ⟨Nat.le_trans hB hk.1, hk.2⟩) (fun k hk => ⟨hk.1, Nat.lt_of_lt_of_le hk.2 he.size⟩)
    (fun k hk hh => by omega) hR (SHp.loc (fun k hk => he.block k hk.2) h)

theorem SHp.swap {w : World} {A C : Asrt} {L : List Asrt} {S : Nat → Prop} : SHp w (A :: C :: L) S → SHp w (C :: A :: L) S := by
  rintro ⟨S1, S2, a1, a2, a3, a4, S3, S4, b1, b2, b3, b4, b5⟩
  refine ⟨S3, fun k => S1 k ∨ S4 k, fun k hk => a2 k (b1 k hk), fun k hk => hk.elim (a1 k) (fun h => a2 k (b2 k h)), ?_, b4, S1, S4, fun k h => .inl h, fun k h => .inr h, fun k h hh => a3 k h (b2 k hh), a4, b5⟩
  intro k hk hh
  rcases hh with hh | hh
  · exact a3 k hh (b1 k hk)
  · exact b3 k hk hh

/-- The i-th assertion stands first. -/
def front : List Asrt → Nat → List Asrt
  | [], _ => []
  | A :: L, 0 => A :: L
  | A :: L, n + 1 => match front L n with
    | [] => [A]
    | C :: L' => C :: A :: L'

theorem SHp.front {w : World} : ∀ {L : List Asrt} {S : Nat → Prop} (n : Nat), SHp w L S → SHp w (Gv.front L n) S
  | [], _, _, _ => trivial
  | _ :: _, _, 0, h => h
  | A :: L, S, n + 1, ⟨S1, S2, h1, h2, h3, h4, h5⟩ => by
    have h6 := SHp.front n h5
    unfold Gv.front
    cases hf : Gv.front L n with
    | nil => exact ⟨S1, S2, h1, h2, h3, h4, trivial⟩
    | cons C L' =>
      rw [hf] at h6
      exact SHp.swap ⟨S1, S2, h1, h2, h3, h4, h6⟩

theorem SH.front {w : World} {B : Nat} {L : List Asrt} (n : Nat) (h : SH w B L) : SH w B (Gv.front L n) := SHp.front n h

theorem SH.drop {w : World} {B : Nat} {A : Asrt} {L : List Asrt} (h : SH w B (A :: L)) : SH w B L := by
  obtain ⟨S1, S2, h1, h2, h3, h4, h5⟩ := h
  exact SHp.mono h2 h5

theorem SH.one {w : World} {B : Nat} {A : Asrt} {L : List Asrt} (h : SH w B (A :: L)) : SH w B [A] := by
  obtain ⟨S1, S2, h1, h2, h3, h4, h5⟩ := h
  exact ⟨S1, S2, h1, h2, h3, h4, trivial⟩

/-- What the first assertion gives, and how it may be turned. -/
theorem SH.upd {w : World} {B : Nat} {A : Asrt} {L : List Asrt} (h : SH w B (A :: L)) : ∃ S, A.on w S ∧ (∀ k, S k → B ≤ k ∧ k < w.heap.size) ∧
    ∀ w' A' S', Mod S w w' → A'.on w' S' → (∀ k, S' k → (S k ∨ w.heap.size ≤ k) ∧ k < w'.heap.size) → B ≤ w.heap.size → SH w' B (A' :: L) := by
  obtain ⟨S1, S2, h1, h2, h3, h4, h5⟩ := h
  refine ⟨S1, h4, h1, fun w' A' S' hm hA hS' hB => ⟨S', S2, fun k hk => ?_, fun k hk => ?_, fun k hk hk2 => ?_, hA, SHp.loc (fun k hk => ?_) h5⟩⟩
  · have := hS' k hk
    refine ⟨?_, this.2⟩
    rcases this.1 with h | h
    · exact (h1 k h).1
    · omega
  · exact ⟨(h2 k hk).1, Nat.lt_of_lt_of_le (h2 k hk).2 hm.size⟩
  · rcases (hS' k hk).1 with h | h
    · exact h3 k h hk2
    · have := (h2 k hk2).2; omega
  · exact hm.block k (h2 k hk).2 fun hs => h3 k hs hk

/-- A row of the call's own: a slice that begins at its head (or nil). -/
def aOwn {α : Type} (F : Fl α) (e : TypeId) (a : Option Addr) (c : Nat) (xs : List α) : Asrt where
  on w S := w.ownsRow 0 e F.sz (.slice a xs.length c) xs.length (xs.flatMap F.leaf) ∧ ∀ k, (Value.slice a xs.length c).ownBlock = some k → S k
  loc {w w' S} hS h := by
    refine ⟨⟨h.1.1, ?_⟩, h.2⟩
    rcases h.1.2 with hn | ⟨g, cap, cur, hv, hb, hg, hr⟩
    · exact .inl hn
    · refine .inr ⟨g, cap, cur, hv, hb, ?_, hr⟩
      rw [hS g (h.2 g (by rw [hv]; rfl))]; exact hg

/-- A variable of the call's own that lies in memory. -/
def aBox (t : TypeId) (b : Nat) (vs : List Value) : Asrt where
  on w S := S b ∧ w.heap[b]? = some (.cells vs.toArray t (0, 0))
  loc hS h := ⟨h.1, by rw [hS _ h.1]; exact h.2⟩

end Go.Gv
