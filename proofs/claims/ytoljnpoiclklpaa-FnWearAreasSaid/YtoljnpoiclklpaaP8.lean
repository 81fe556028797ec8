/- Plain laws of wear: how many areas there are does not hang on the order in which they are taken, nor on the side. -/
import Derived.Test.YtoljnpoiclklpaaP7
namespace Go.Gv
open Go Go.RowKit

theorem adj_symm {W : Nat} (hW : 0 < W) {i j : Int} (hi : 0 ≤ i) (hj : 0 ≤ j) (h : Adj W i j) : Adj W j i := by
  obtain ⟨a, rfl⟩ : ∃ a : Nat, i = (a : Int) := ⟨i.toNat, by omega⟩
  obtain ⟨b, rfl⟩ : ∃ b : Nat, j = (b : Int) := ⟨j.toNat, by omega⟩
  have ea := Nat.div_add_mod a W
  have ma := Nat.mod_lt a hW
  rcases h with h | h | ⟨h1, h⟩ | ⟨h1, h⟩
  · exact .inr (.inl (by omega))
  · exact .inl (by omega)
  · rw [tmod_nat] at h1
    have hb : b % W = a % W - 1 := by
      have : b = W * (a / W) + (a % W - 1) := by omega
      rw [this, Nat.mul_add_mod, Nat.mod_eq_of_lt (by omega)]
    refine .inr (.inr (.inr ⟨?_, by omega⟩))
    rw [tmod_nat, hb]; omega
  · rw [tmod_nat] at h1
    have hb : b % W = a % W + 1 := by
      have : b = W * (a / W) + (a % W + 1) := by omega
      rw [this, Nat.mul_add_mod, Nat.mod_eq_of_lt (by omega)]
    refine .inr (.inr (.inl ⟨?_, by omega⟩))
    rw [tmod_nat, hb]; omega

theorem Mem.nonneg {S : List Bool} {i : Int} (h : Mem S i) : 0 ≤ i := by obtain ⟨k, rfl, _, _⟩ := h.nat; omega

/-- What is connected with a member of an area is that area. -/
theorem Post.same {W : Nat} (hW : 0 < W) {S S1 S2 : List Bool} {f x c d : Int} (h1 : Post W S f c S1) (h2 : Post W S x d S2) (hf : Mem S f) (hx : Mem S x) (hx1 : ¬ Mem S1 x) : S1 = S2 := by
  have a1 : ∀ r, Mem S r → ¬ Mem S2 r → ¬ Mem S1 r := h2.least (fun r => ¬ Mem S1 r) (fun _ => hx1) (fun r j hr hS ha hj => h1.closed r j hS hr ha)
  have hf2 : ¬ Mem S2 f := by
    intro hf2
    have := h1.least (fun r => Mem S2 r) (fun _ => hf2) (fun r j hr hS ha hj => by
      apply Classical.byContradiction
      intro hn
      exact h2.closed j r hj hn (adj_symm hW hS.nonneg hj.nonneg ha) hr) x hx hx1
    exact h2.out this
  have a2 : ∀ r, Mem S r → ¬ Mem S1 r → ¬ Mem S2 r := h1.least (fun r => ¬ Mem S2 r) (fun _ => hf2) (fun r j hr hS ha hj => h2.closed r j hS hr ha)
  apply ext_mem (by rw [h1.len, h2.len])
  intro i
  constructor
  · intro hi
    apply Classical.byContradiction
    intro hn
    exact a1 i (h1.sub i hi) hn hi
  · intro hi
    apply Classical.byContradiction
    intro hn
    exact a2 i (h2.sub i hi) hn hi

def both (A B : List Bool) : List Bool := List.zipWith (fun a b => a && b) A B

theorem mem_both {A B : List Bool} (hl : A.length = B.length) (i : Int) : Mem (both A B) i ↔ Mem A i ∧ Mem B i := by
  have hlen : (both A B).length = A.length := by simp [both, hl]
  constructor
  · intro h
    obtain ⟨k, rfl, hk, hlt⟩ := h.nat
    unfold both at hk
    rw [List.getElem?_zipWith] at hk
    have h1 : A[k]? = some A[k] := List.getElem?_eq_getElem (by omega)
    have h2 : B[k]? = some B[k] := List.getElem?_eq_getElem (by omega)
    rw [h1, h2] at hk
    simp only [Option.some.injEq, Bool.and_eq_true] at hk
    exact ⟨mem_nat.2 (by rw [h1, hk.1]), mem_nat.2 (by rw [h2, hk.2])⟩
  · rintro ⟨h1, h2⟩
    obtain ⟨k, rfl, hk, hlt⟩ := h1.nat
    have hk2 := mem_nat.1 h2
    rw [mem_nat]
    unfold both
    rw [List.getElem?_zipWith, hk, hk2]; rfl

theorem mem_zero {a : Bool} {l : List Bool} : Mem (a :: l) 0 ↔ a = true := by simp [Mem, idx]
theorem mem_succ {a : Bool} {l : List Bool} {k : Nat} : Mem (a :: l) ((k + 1 : Nat) : Int) ↔ Mem l (k : Int) := by rw [mem_nat, mem_nat]; simp

theorem cnt_both : ∀ (S A B : List Bool), A.length = S.length → B.length = S.length → (∀ i, Mem S i ↔ Mem A i ∨ Mem B i) → cnt A + cnt B = cnt S + cnt (both A B)
  | [], A, B, hA, hB, _ => by
    have : A = [] := List.eq_nil_of_length_eq_zero (by simpa using hA)
    have : B = [] := List.eq_nil_of_length_eq_zero (by simpa using hB)
    subst A; subst B; rfl
  | s :: S, [], B, hA, _, _ => by simp at hA
  | s :: S, a :: A, [], _, hB, _ => by simp at hB
  | s :: S, a :: A, b :: B, hA, hB, h => by
    have ih := cnt_both S A B (by simpa using hA) (by simpa using hB) (fun i => by
      constructor
      · intro hi
        obtain ⟨k, rfl, _, _⟩ := hi.nat
        have := (h ((k + 1 : Nat) : Int)).1 (mem_succ.2 hi)
        rwa [mem_succ, mem_succ] at this
      · intro hi
        obtain ⟨k, rfl⟩ : ∃ k : Nat, i = (k : Int) := by
          rcases hi with hi | hi
          · obtain ⟨k, hk, _, _⟩ := hi.nat; exact ⟨k, hk⟩
          · obtain ⟨k, hk, _, _⟩ := hi.nat; exact ⟨k, hk⟩
        have := (h ((k + 1 : Nat) : Int)).2 (by rw [mem_succ, mem_succ]; exact hi)
        exact mem_succ.1 this)
    have h0 := h 0
    rw [mem_zero, mem_zero, mem_zero] at h0
    have e : both (a :: A) (b :: B) = (a && b) :: both A B := rfl
    rw [e]
    simp only [cnt]
    cases s <;> cases a <;> cases b <;> simp_all <;> omega

/-- Two areas may be taken in either order. -/
theorem Post.swap {W : Nat} (hW : 0 < W) {S S1 S2 : List Bool} {f g c d : Int} (h1 : Post W S f c S1) (h2 : Post W S g d S2) (hf : Mem S f) (hg : Mem S g) (hg1 : Mem S1 g)
    (hex : ∀ x, Mem S x → ∃ e S3, Post W S x e S3) : Post W S1 g d (both S1 S2) := by
  have hl : S1.length = S2.length := by rw [h1.len, h2.len]
  have hdis : ∀ x, Mem S x → ¬ Mem S1 x → Mem S2 x := by
    intro x hx hx1
    apply Classical.byContradiction
    intro hx2
    obtain ⟨e, S3, h3⟩ := hex x hx
    have e1 := h1.same hW h3 hf hx hx1
    have e2 := h2.same hW h3 hg hx hx2
    rw [e1, ← e2] at hg1
    exact h2.out hg1
  refine ⟨by simp [both, hl], fun i hi => ((mem_both hl i).1 hi).1, ?_, fun hh => h2.out ((mem_both hl g).1 hh).2, ?_, ?_⟩
  · have := cnt_both S S1 S2 h1.len h2.len (fun i => by
      constructor
      · intro hi
        by_cases h : Mem S1 i
        · exact .inl h
        · exact .inr (hdis i hi h)
      · rintro (h | h)
        · exact h1.sub i h
        · exact h2.sub i h)
    have := h2.sum
    omega
  · intro r j hr hn ha hj
    obtain ⟨hj1, hj2⟩ := (mem_both hl j).1 hj
    have hr2 : ¬ Mem S2 r := fun h => hn ((mem_both hl r).2 ⟨hr, h⟩)
    exact h2.closed r j (h1.sub r hr) hr2 ha hj2
  · intro T hT hcl r hr hn
    have hr2 : ¬ Mem S2 r := fun h => hn ((mem_both hl r).2 ⟨hr, h⟩)
    have := h2.least (fun x => Mem S1 x ∧ T x) (fun _ => ⟨hg1, hT hg1⟩) (fun x j hx hS ha hj => by
      have hj1 : Mem S1 j := by
        apply Classical.byContradiction
        intro hn1
        exact h1.closed j x hj hn1 (adj_symm hW hS.nonneg hj.nonneg ha) hx.1
      exact ⟨hj1, hcl x j hx.2 hx.1 ha hj1⟩) r (h1.sub r hr) hr2
    exact this.2

theorem both_comm (A B : List Bool) : both A B = both B A := by
  unfold both
  rw [List.zipWith_comm]
  congr 1
  funext a b; exact Bool.and_comm _ _

theorem post_ex {W : Nat} (hW : 2 ≤ W) (hW2 : W ≤ 8) {S : List Bool} (hl : S.length ≤ 96) {x : Int} (hx : Mem S x) : ∃ e S3, Post W S x e S3 := by
  obtain ⟨k, rfl, _, hk⟩ := hx.nat
  obtain ⟨c, S', _, h⟩ := p_area W hW hW2 (cnt S + 1) S (k : Int) hl (by omega) (by omega) (by omega)
  exact ⟨c, S', h⟩

def Empty (S : List Bool) : Prop := ∀ j, ¬ Mem S j

theorem areas_ex {W : Nat} (hW : 2 ≤ W) (hW2 : W ≤ 8) : ∀ (N : Nat) (S : List Bool), cnt S ≤ N → S.length ≤ 96 → ∃ l S', Areas W S l S' ∧ Empty S' := by
  intro N
  induction N with
  | zero =>
    intro S hc _
    refine ⟨[], S, .nil S, fun j hj => ?_⟩
    obtain ⟨k, rfl, hk, _⟩ := hj.nat
    have := cnt_set S k hk; omega
  | succ N ih =>
    intro S hc hl
    by_cases h : ∃ j, Mem S j
    · obtain ⟨j, hj⟩ := h
      obtain ⟨c, S1, h1⟩ := post_ex hW hW2 hl hj
      have := (post_pos h1).1 hj
      have := h1.sum
      obtain ⟨l, S', h2, h3⟩ := ih S1 (by omega) (by rw [h1.len]; exact hl)
      exact ⟨c :: l, S', .cons hj h1 h2, h3⟩
    · exact ⟨[], S, .nil S, fun j hj => h ⟨j, hj⟩⟩

theorem areas_len {W : Nat} (hW : 2 ≤ W) (hW2 : W ≤ 8) : ∀ (N : Nat) (S : List Bool), cnt S ≤ N → S.length ≤ 96 → ∀ l S' m S'', Areas W S l S' → Empty S' → Areas W S m S'' → Empty S'' → l.length = m.length := by
  intro N
  induction N with
  | zero =>
    intro S hc hl l S' m S'' hA _ hB _
    have hno : ∀ j, ¬ Mem S j := by
      intro j hj
      obtain ⟨k, rfl, hk, _⟩ := hj.nat
      have := cnt_set S k hk; omega
    cases hA with
    | nil => cases hB with
      | nil => rfl
      | cons hf _ _ => exact absurd hf (hno _)
    | cons hf _ _ => exact absurd hf (hno _)
  | succ N ih =>
    intro S hc hl l S' m S'' hA hE hB hE2
    cases hA with
    | nil => cases hB with
      | nil => rfl
      | cons hf _ _ => exact absurd hf (hE _)
    | @cons _ S1 _ f c l hf h1 hA1 =>
      cases hB with
      | nil => exact absurd hf (hE2 _)
      | @cons _ S2 _ g d m hg h2 hB1 =>
        have c1 := (post_pos h1).1 hf
        have c2 := (post_pos h2).1 hg
        have s1 := h1.sum; have s2 := h2.sum
        simp only [List.length_cons]
        by_cases hg1 : Mem S1 g
        · have hf2 : Mem S2 f := by
            apply Classical.byContradiction
            intro hn
            have := h2.same (by omega) h1 hg hf hn
            rw [← this] at hg1
            exact h2.out hg1
          have hex := fun x (hx : Mem S x) => post_ex hW hW2 hl hx
          have p1 := h1.swap (by omega) h2 hf hg hg1 hex
          have p2 := h2.swap (by omega) h1 hg hf hf2 hex
          rw [both_comm] at p2
          obtain ⟨q, T, hq, hT⟩ := areas_ex hW hW2 (cnt (both S1 S2)) (both S1 S2) (Nat.le_refl _) (by have := p1.len; rw [this, h1.len]; exact hl)
          have e1 := ih S1 (by omega) (by rw [h1.len]; exact hl) l S' (d :: q) T hA1 hE (.cons hg1 p1 hq) hT
          have e2 := ih S2 (by omega) (by rw [h2.len]; exact hl) m S'' (c :: q) T hB1 hE2 (.cons hf2 p2 hq) hT
          simp only [List.length_cons] at e1 e2
          omega
        · have : S1 = S2 := h1.same (by omega) h2 hf hg hg1
          subst this
          have := ih S1 (by omega) (by rw [h1.len]; exact hl) l S' m S'' hA1 hE hB1 hE2
          omega

/-! ### The other side -/

def mirK (W k : Nat) : Nat := W * (k / W) + (W - 1 - k % W)
def mirS (W : Nat) (S : List Bool) : List Bool := (List.range S.length).map fun k => S.getD (mirK W k) false

theorem mirK_div {W : Nat} (hW : 0 < W) (k : Nat) : mirK W k / W = k / W ∧ mirK W k % W = W - 1 - k % W := by
  have hm := Nat.mod_lt k hW
  have hlt : W - 1 - k % W < W := by omega
  unfold mirK
  rw [Nat.mul_add_div hW, Nat.div_eq_of_lt hlt, Nat.mul_add_mod, Nat.mod_eq_of_lt hlt]
  exact ⟨Nat.add_zero _, rfl⟩

theorem mirK_mirK {W : Nat} (hW : 0 < W) (k : Nat) : mirK W (mirK W k) = k := by
  obtain ⟨h1, h2⟩ := mirK_div hW k
  have e := Nat.div_add_mod k W
  have m := Nat.mod_lt k hW
  unfold mirK at h1 h2 ⊢
  rw [h1, h2]; omega

theorem mirK_lt {W H : Nat} (hW : 0 < W) {k : Nat} (h : k < H * W) : mirK W k < H * W := by
  have hq : k / W < H := Nat.div_lt_of_lt_mul (by rw [Nat.mul_comm]; exact h)
  have h2 : W * (k / W + 1) ≤ W * H := Nat.mul_le_mul (Nat.le_refl _) hq
  rw [Nat.mul_add, Nat.mul_one] at h2
  unfold mirK
  rw [Nat.mul_comm H W]
  omega

theorem mirS_len (W : Nat) (S : List Bool) : (mirS W S).length = S.length := by simp [mirS]

theorem mem_mirS {W H : Nat} (hW : 0 < W) {S : List Bool} (hS : S.length = H * W) (k : Nat) (hk : k < H * W) : Mem (mirS W S) (k : Int) ↔ Mem S (mirK W k : Nat) := by
  rw [mem_nat, mem_nat]
  unfold mirS
  rw [range_map_get _ (by omega)]
  have : mirK W k < S.length := by rw [hS]; exact mirK_lt hW hk
  rw [getD_of this false]

theorem adj_coord {W : Nat} (hW : 0 < W) {a b : Nat} : Adj W (a : Int) (b : Int) ↔ (a % W = b % W ∧ (a / W = b / W + 1 ∨ b / W = a / W + 1)) ∨ (a / W = b / W ∧ (a % W = b % W + 1 ∨ b % W = a % W + 1)) := by
  have ea := Nat.div_add_mod a W
  have eb := Nat.div_add_mod b W
  have ma := Nat.mod_lt a hW
  have mb := Nat.mod_lt b hW
  have uni : ∀ {x y p q : Nat}, p < W → q < W → W * x + p = W * y + q → x = y ∧ p = q := by
    intro x y p q hp hq h
    have h1 : (W * x + p) / W = x := by rw [Nat.mul_add_div hW, Nat.div_eq_of_lt hp, Nat.add_zero]
    have h2 : (W * y + q) / W = y := by rw [Nat.mul_add_div hW, Nat.div_eq_of_lt hq, Nat.add_zero]
    have : x = y := by rw [← h1, h, h2]
    subst this
    exact ⟨rfl, by omega⟩
  constructor
  · rintro (h | h | ⟨h1, h⟩ | ⟨h1, h⟩)
    · have : W * (b / W + 1) + b % W = W * (a / W) + a % W := by rw [Nat.mul_add, Nat.mul_one]; omega
      obtain ⟨u1, u2⟩ := uni mb ma this
      exact .inl ⟨u2.symm, .inl u1.symm⟩
    · have : W * (a / W + 1) + a % W = W * (b / W) + b % W := by rw [Nat.mul_add, Nat.mul_one]; omega
      obtain ⟨u1, u2⟩ := uni ma mb this
      exact .inl ⟨u2, .inr u1.symm⟩
    · rw [tmod_nat] at h1
      have : W * (a / W) + (a % W - 1) = W * (b / W) + b % W := by omega
      obtain ⟨u1, u2⟩ := uni (by omega) mb this
      exact .inr ⟨u1, .inl (by omega)⟩
    · rw [tmod_nat] at h1
      have : W * (a / W) + (a % W + 1) = W * (b / W) + b % W := by omega
      obtain ⟨u1, u2⟩ := uni (by omega) mb this
      exact .inr ⟨u1, .inr (by omega)⟩
  · rintro (⟨h1, h2 | h2⟩ | ⟨h1, h2 | h2⟩)
    · left
      have : W * (a / W) = W * (b / W) + W := by rw [h2, Nat.mul_add, Nat.mul_one]
      omega
    · right; left
      have : W * (b / W) = W * (a / W) + W := by rw [h2, Nat.mul_add, Nat.mul_one]
      omega
    · right; right; left
      have : W * (a / W) = W * (b / W) := by rw [h1]
      exact ⟨by rw [tmod_nat]; omega, by omega⟩
    · right; right; right
      have : W * (a / W) = W * (b / W) := by rw [h1]
      exact ⟨by rw [tmod_nat]; omega, by omega⟩

theorem adj_mir {W : Nat} (hW : 0 < W) (a b : Nat) : Adj W ((mirK W a : Nat) : Int) ((mirK W b : Nat) : Int) ↔ Adj W (a : Int) (b : Int) := by
  rw [adj_coord hW, adj_coord hW, (mirK_div hW a).1, (mirK_div hW a).2, (mirK_div hW b).1, (mirK_div hW b).2]
  have := Nat.mod_lt a hW
  have := Nat.mod_lt b hW
  omega

theorem cnt_append : ∀ (A B : List Bool), cnt (A ++ B) = cnt A + cnt B
  | [], B => by simp [cnt]
  | a :: A, B => by simp only [List.cons_append, cnt, cnt_append A B]; omega

theorem cnt_reverse : ∀ (A : List Bool), cnt A.reverse = cnt A
  | [] => rfl
  | a :: A => by rw [List.reverse_cons, cnt_append, cnt_reverse A]; simp only [cnt]; omega

theorem mirS_row {W : Nat} (hW : 0 < W) (r S : List Bool) (hr : r.length = W) : mirS W (r ++ S) = r.reverse ++ mirS W S := by
  apply List.ext_getElem?
  intro k
  have hl1 : (mirS W (r ++ S)).length = W + S.length := by rw [mirS_len]; simp [hr]
  rcases Nat.lt_or_ge k W with h | h
  · rw [List.getElem?_append_left (by simpa [hr] using h)]
    unfold mirS
    rw [range_map_get _ (by simp; omega), List.getElem?_reverse (by omega)]
    have e : mirK W k = W - 1 - k := by unfold mirK; rw [Nat.div_eq_of_lt h, Nat.mod_eq_of_lt h]; omega
    rw [e, List.getD_eq_getElem?_getD, List.getElem?_append_left (by omega), hr, List.getElem?_eq_getElem (by omega)]
    rfl
  · rcases Nat.lt_or_ge k (W + S.length) with h2 | h2
    · rw [List.getElem?_append_right (by simpa [hr] using h)]
      unfold mirS
      rw [range_map_get _ (by simp; omega), List.length_reverse, hr, range_map_get _ (by omega)]
      have e : mirK W k = W + mirK W (k - W) := by
        obtain ⟨q, rfl⟩ : ∃ q, k = W + q := ⟨k - W, by omega⟩
        unfold mirK
        rw [Nat.add_sub_cancel_left, Nat.add_div_left q hW, Nat.add_mod_left, Nat.mul_add, Nat.mul_one]
        omega
      rw [e, List.getD_eq_getElem?_getD, List.getElem?_append_right (by omega), hr, Nat.add_sub_cancel_left, ← List.getD_eq_getElem?_getD]
    · rw [List.getElem?_eq_none (by omega), List.getElem?_eq_none (by simp [mirS_len, hr]; omega)]

theorem cnt_mirS {W : Nat} (hW : 0 < W) : ∀ (H : Nat) (S : List Bool), S.length = H * W → cnt (mirS W S) = cnt S
  | 0, S, h => by
    have : S = [] := List.eq_nil_of_length_eq_zero (by simpa using h)
    subst this; rfl
  | H + 1, S, h => by
    have hlen : S.length = H * W + W := by rw [h, Nat.add_mul, Nat.one_mul]
    have e : S = S.take W ++ S.drop W := (List.take_append_drop W S).symm
    have h1 : (S.take W).length = W := by simp; omega
    have h2 : (S.drop W).length = H * W := by simp; omega
    rw [e, mirS_row hW _ _ h1, cnt_append, cnt_append, cnt_reverse, cnt_mirS hW H _ h2]

theorem Post.mir {W H : Nat} (hW : 0 < W) {S S' : List Bool} {f : Nat} {c : Int} (hS : S.length = H * W) (hf : f < H * W) (h : Post W S (f : Int) c S') : Post W (mirS W S) ((mirK W f : Nat) : Int) c (mirS W S') := by
  have hS' : S'.length = H * W := by rw [h.len, hS]
  have up : ∀ {A : List Bool}, A.length = H * W → ∀ {i : Int}, Mem (mirS W A) i → ∃ k : Nat, i = (k : Int) ∧ k < H * W ∧ Mem A ((mirK W k : Nat) : Int) := by
    intro A hA i hi
    obtain ⟨k, rfl, _, hk⟩ := hi.nat
    rw [mirS_len, hA] at hk
    exact ⟨k, rfl, hk, (mem_mirS hW hA k hk).1 hi⟩
  refine ⟨by rw [mirS_len, mirS_len, h.len], ?_, ?_, ?_, ?_, ?_⟩
  · intro i hi
    obtain ⟨k, rfl, hk, hm⟩ := up hS' hi
    exact (mem_mirS hW hS k hk).2 (h.sub _ hm)
  · rw [cnt_mirS hW H _ hS, cnt_mirS hW H _ hS']; exact h.sum
  · intro hm
    have := (mem_mirS hW hS' _ (mirK_lt hW hf)).1 hm
    rw [mirK_mirK hW] at this
    exact h.out this
  · intro r j hr hn ha hj
    obtain ⟨k, rfl, hk, hm⟩ := up hS hr
    obtain ⟨q, rfl, hq, hm2⟩ := up hS' hj
    have hn2 : ¬ Mem S' ((mirK W k : Nat) : Int) := fun hh => hn ((mem_mirS hW hS' k hk).2 hh)
    exact h.closed _ _ hm hn2 ((adj_mir hW k q).2 ha) hm2
  · intro T hT hcl r hr hn
    obtain ⟨k, rfl, hk, hm⟩ := up hS hr
    have hn2 : ¬ Mem S' ((mirK W k : Nat) : Int) := fun hh => hn ((mem_mirS hW hS' k hk).2 hh)
    have := h.least (fun x => ∀ q : Nat, x = (q : Int) → T ((mirK W q : Nat) : Int)) (fun hf0 q hq => by
      have : q = f := by omega
      subst this
      exact hT ((mem_mirS hW hS _ (mirK_lt hW hf)).2 (by rw [mirK_mirK hW]; exact hf0))) (fun x j hx hSx ha hSj q hq => by
      obtain ⟨p, rfl, _, hp⟩ := hSx.nat
      subst hq
      obtain ⟨q', hq', _, hql⟩ := hSj.nat
      have : q' = q := by omega
      subst this
      rw [hS] at hp hql
      refine hcl ((mirK W p : Nat) : Int) _ (hx p rfl) ((mem_mirS hW hS _ (mirK_lt hW hp)).2 (by rw [mirK_mirK hW]; exact hSx)) ((adj_mir hW p q').2 ha) ((mem_mirS hW hS _ (mirK_lt hW hql)).2 (by rw [mirK_mirK hW]; exact hSj))) _ hm hn2 (mirK W k) rfl
    rwa [mirK_mirK hW] at this

theorem areas_mir {W H : Nat} (hW : 0 < W) {S S' : List Bool} {l : List Int} (h : Areas W S l S') : S.length = H * W → Areas W (mirS W S) l (mirS W S') := by
  induction h with
  | nil S => intro _; exact .nil _
  | @cons S S1 S2 f c l hf h1 _ ih =>
    intro hS
    obtain ⟨k, rfl, _, hk⟩ := hf.nat
    rw [hS] at hk
    exact .cons ((mem_mirS hW hS _ (mirK_lt hW hk)).2 (by rw [mirK_mirK hW]; exact hf)) (h1.mir hW hS hk) (ih (by rw [h1.len, hS]))

theorem empty_mir {W H : Nat} (hW : 0 < W) {S : List Bool} (hS : S.length = H * W) (h : Empty S) : Empty (mirS W S) := by
  intro j hj
  obtain ⟨k, rfl, _, hk⟩ := hj.nat
  rw [mirS_len, hS] at hk
  exact h _ ((mem_mirS hW hS k hk).1 hj)

/-- The worn fields of the other side. -/
theorem worn_mir (least : Int) {W : Nat} (hW : 0 < W) : ∀ (rows : List (List UInt8)), (∀ r ∈ rows, r.length = W) → wornS least (rows.map mirR) = mirS W (wornS least rows)
  | [], _ => rfl
  | r :: rows, hu => by
    have ih := worn_mir least hW rows (fun q hq => hu q (by simp [hq]))
    unfold wornS at ih ⊢
    simp only [List.map_cons, List.flatMap_cons, List.map_append]
    rw [ih, mirS_row hW _ _ (by simp [hu r (by simp)]), mirR_rev]
    congr 1
    rw [List.map_reverse, List.map_reverse]

theorem areas_sum {W : Nat} {S S' : List Bool} {l : List Int} (h : Areas W S l S') : l.sum + (cnt S' : Int) = (cnt S : Int) ∧ ∀ c ∈ l, 1 ≤ c := by
  induction h with
  | nil S => simp
  | @cons S S1 S2 f c l hf h1 _ ih =>
    have := h1.sum
    have := (post_pos h1).1 hf
    simp only [List.sum_cons]
    refine ⟨by omega, fun q hq => ?_⟩
    simp only [List.mem_cons] at hq
    rcases hq with rfl | hq
    · omega
    · exact ih.2 q hq

theorem cnt_empty {S : List Bool} (h : Empty S) : cnt S = 0 := by
  cases hc : cnt S with
  | zero => rfl
  | succ k =>
    exfalso
    have : ∀ (S : List Bool), 0 < cnt S → ∃ k : Nat, S[k]? = some true := by
      intro S
      induction S with
      | nil => intro h; simp [cnt] at h
      | cons a l ih =>
        intro h
        cases a with
        | true => exact ⟨0, rfl⟩
        | false =>
          obtain ⟨k, hk⟩ := ih (by simpa [cnt] using h)
          exact ⟨k + 1, by simpa using hk⟩
    obtain ⟨k, hk⟩ := this S (by omega)
    exact h _ (mem_nat.2 hk)

end Go.Gv
