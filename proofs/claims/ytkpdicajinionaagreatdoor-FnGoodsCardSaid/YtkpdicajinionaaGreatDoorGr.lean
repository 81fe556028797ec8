/- From the row's reading of an argument to the lists of the small program logic. No program is named here. -/
import Derived.Test.YtkpdicajinionaaGreatDoorGq
import Derived.ProofKit
namespace Go.Gv
open Go Go.RowKit Go.WideShapes

/-- Whatever reads as data at type 'e' is a datum of 'T' (that is 'ok'). -/
def Opens (P : Program) {α : Type} (T : Ty α) (ok : α → Prop) (e : TypeId) : Prop :=
  ∀ {H : Type} {enc : TypeId × Value → H} {w : World} {spare : Nat → Bool} {held : Bool} {fuel : Nat} {cs : List Value} {x : DataW H × List MemPlace}, DataW.trod enc P w 0 spare held fuel e cs = some x → ∃ y, T.rep w cs y ∧ ok y

theorem list_of {α : Type} {p : Nat → α → Prop} : ∀ n, (∀ i, i < n → ∃ x, p i x) → ∃ xs : List α, xs.length = n ∧ ∀ i x, xs[i]? = some x → p i x
  | 0, _ => ⟨[], rfl, fun i x h => by simp at h⟩
  | n + 1, h => by
    obtain ⟨xs, hl, hx⟩ := list_of n fun i hi => h i (by omega)
    obtain ⟨y, hy⟩ := h n (by omega)
    refine ⟨xs ++ [y], by simp [hl], fun i x hi => ?_⟩
    rcases Nat.lt_trichotomy i n with hlt | rfl | hgt
    · rw [List.getElem?_append_left (by omega)] at hi; exact hx i x hi
    · rw [List.getElem?_append_right (by omega)] at hi
      simp [hl] at hi; subst hi; exact hy
    · have hl2 : (xs ++ [y]).length ≤ i := by simp [hl]; omega
      rw [List.getElem?_eq_none hl2] at hi; cases hi

theorem open_row {P : Program} {α : Type} {T : Ty α} {ok : α → Prop} {t e : TypeId} {H : Type} {enc : TypeId × Value → H} {w : World} {spare : Nat → Bool} {held : Bool} {a : Option Addr} {len cap : Nat} {d : DataW H} {ps : List MemPlace}
    (hT : Opens P T ok e) (ht : P.underlying t = some (.slice e)) (hsz : P.cellsOf e = T.sz) (h : DataW.Trod enc P w 0 spare held t (.slice a len cap) d ps) :
    ∃ xs : List α, xs.length = len ∧ Rd T w a xs ∧ len ≤ cap ∧ len ≤ 9223372036854775807 ∧ ∀ x ∈ xs, ok x := by
  obtain ⟨fuel, hf⟩ := h
  rcases DataW.trod_slice ht hf with ⟨hc, _⟩ | ⟨p, l, c, elems, rest, n, _, hc, _, _, hle, hmx, hlen, hel, _⟩
  · simp [Value.cells] at hc
    obtain ⟨rfl, rfl, rfl⟩ := hc
    exact ⟨[], rfl, Rd.nil _ _ _, Nat.le_refl _, by simp, by simp⟩
  · simp [Value.cells] at hc
    obtain ⟨rfl, rfl, rfl⟩ := hc
    have key : ∀ i, i < len → ∃ x : α, ok x ∧ ∃ cs, w.cells? 0 (p.add (i * T.sz)) T.sz = some cs ∧ T.rep w cs x := by
      intro i hi
      have h1 := hel i hi
      rw [List.getElem?_eq_getElem (by omega), Option.bind_eq_some_iff, hsz] at h1
      obtain ⟨cs, h2, h3⟩ := h1
      obtain ⟨x, hx, hok⟩ := hT h3
      exact ⟨x, hok, cs, h2, hx⟩
    obtain ⟨xs, hl, hx⟩ := list_of len key
    refine ⟨xs, hl, ?_, hle, by unfold maxLen at hmx; omega, fun x hmem => ?_⟩
    · intro i x hi
      obtain ⟨_, cs, h2, h3⟩ := hx i x hi
      obtain ⟨_, hcl, hcell⟩ := World.cells?_some h2
      have hp := T.pos
      have hs : p.spot = none := by
        obtain ⟨_, cs0, h20, _⟩ := hx 0 (xs[0]'(by
          rcases Nat.lt_or_ge i xs.length with hh | hh
          · omega
          · rw [List.getElem?_eq_none hh] at hi; cases hi)) (List.getElem?_eq_getElem _)
        obtain ⟨_, hcl0, hcell0⟩ := World.cells?_some h20
        have h0 := hcell0 0 hp
        rw [List.getElem?_eq_getElem (by omega)] at h0
        simp only [Nat.zero_mul, Addr.add, if_true] at h0
        exact World.cell?_spot h0
      have hadd : ∀ j, j < T.sz → (p.add (i * T.sz)).add j = at_ (some p) (i * T.sz + j) := by
        intro j _
        rw [add_at p _ hs, add_at _ _ rfl]; simp [at_, ba]; omega
      have hc0 := hcell 0 hp
      rw [hadd 0 hp, List.getElem?_eq_getElem (by omega)] at hc0
      refine ⟨?_, World.block_lt_of_cell? w (at_ (some p) (i * T.sz + 0)) hc0, cs, h3, fun j v hv => ?_⟩
      · obtain ⟨b, o, s⟩ := p; simp only at hs; subst hs; simp [at_, ba]
      · have hj : j < T.sz := by
          rcases Nat.lt_or_ge j cs.length with hh | hh
          · omega
          · rw [List.getElem?_eq_none hh] at hv; cases hv
        rw [← hadd j hj, hcell j hj]; exact hv
    · obtain ⟨i, hi⟩ := List.getElem?_of_mem hmem
      exact (hx i x hi).1

theorem open_agg {P : Program} {α : Type} {F : Fl α} {ok : α → Prop} {t : TypeId} {fs : Array Field} {H : Type} {enc : TypeId × Value → H} {w : World} {spare : Nat → Bool} {held : Bool} {r : Reach} {base : Nat} {v : Value} {d : DataW H} {ps : List MemPlace}
    (hT : Opens P F.ty ok t) (ht : P.underlying t = some (.struct fs)) (hv : Value.okWide P w r base t v) (h : DataW.Trod enc P w 0 spare held t v d ps) : ∃ x : α, v = .agg (F.leaf x).toArray ∧ ok x := by
  obtain ⟨cs, rfl, _⟩ := okWide_struct ht hv
  obtain ⟨fuel, hf⟩ := h
  obtain ⟨x, hx, hok⟩ := hT hf
  refine ⟨x, ?_, hok⟩
  have : cs.toList = F.leaf x := hx
  rw [← this]


theorem split1 {α : Type} {cs : List α} {n : Nat} (h : cs.length = n + 1) : ∃ c r, cs = c :: r ∧ r.length = n := by
  cases cs with
  | nil => simp at h
  | cons c r => exact ⟨c, r, rfl, by simpa using h⟩

theorem opens_i64 {P : Program} {e : TypeId} (he : P.underlying e = some (.int .i64)) : Opens P fInt.ty i64ok e := fun h => by
  obtain ⟨n, hc, _, hw⟩ := DataW.trod_int he h
  exact ⟨n, hc, by simpa [Lit.wf, IntKind.has, i64ok, IntKind.min, IntKind.max, IntKind.signed, IntKind.bits] using hw⟩
theorem opens_u8 {P : Program} {e : TypeId} (he : P.underlying e = some (.int .u8)) : Opens P fU8.ty u8ok e := fun h => by
  obtain ⟨n, hc, _, hw⟩ := DataW.trod_int he h
  exact ⟨n, hc, by simpa [Lit.wf, IntKind.has, u8ok, IntKind.min, IntKind.max, IntKind.signed, IntKind.bits] using hw⟩

theorem opens_bool {P : Program} {e : TypeId} (he : P.underlying e = some .bool) : Opens P fBool.ty (fun _ => True) e := fun h => by
  obtain ⟨n, hc, _⟩ := DataW.trod_bool he h
  exact ⟨n, hc, trivial⟩

theorem opens_str {P : Program} {e : TypeId} (he : P.underlying e = some .string) : Opens P fStr.ty strok e := fun h => by
  obtain ⟨s, hc, _, hl⟩ := DataW.trod_string he h
  refine ⟨s.data.toList, ?_, ?_⟩
  · rw [hc]; show [Value.string s] = [Value.string (bs s.data.toList)]; rw [← bs_eq]
  · have e : s.data.toList.length = s.size := rfl
    unfold strok; rw [e]; unfold maxLen at hl; omega

end Go.Gv
