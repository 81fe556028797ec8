/- Plain laws of wear: worn areas. A field and all that are connected with it, taken depth first or breadth first. -/
import Derived.Test.YtoljnpoiclklpaaP3
namespace Go.Gv
open Go Go.RowKit

/-- A place that is still there. -/
def Mem (S : List Bool) (i : Int) : Prop := idx S i = some true

def cnt : List Bool → Nat
  | [] => 0
  | b :: l => (if b then 1 else 0) + cnt l

theorem cnt_le : ∀ S : List Bool, cnt S ≤ S.length
  | [] => by simp [cnt]
  | b :: l => by have := cnt_le l; simp only [cnt, List.length_cons]; split <;> omega

theorem cnt_set : ∀ (S : List Bool) (k : Nat), S[k]? = some true → cnt (S.set k false) + 1 = cnt S
  | [], k, h => by simp at h
  | b :: l, 0, h => by simp at h; subst h; simp [cnt]; omega
  | b :: l, k + 1, h => by
    simp at h
    have := cnt_set l k h
    simp only [List.set_cons_succ, cnt]; omega

theorem Mem.nat {S : List Bool} {i : Int} (h : Mem S i) : ∃ k : Nat, i = (k : Int) ∧ S[k]? = some true ∧ k < S.length := by
  obtain ⟨h0, h1, h2⟩ := idx_some h
  exact ⟨i.toNat, by omega, h2, h1⟩

theorem mem_nat {S : List Bool} {k : Nat} : Mem S (k : Int) ↔ S[k]? = some true := by unfold Mem; rw [idx_nat]

theorem mem_set_false {S : List Bool} {k : Nat} (hk : k < S.length) (i : Int) : Mem (S.set k false) i ↔ Mem S i ∧ i ≠ (k : Int) := by
  constructor
  · intro h
    obtain ⟨j, rfl, h1, h2⟩ := h.nat
    by_cases e : k = j
    · subst e; simp [hk] at h1
    · rw [List.getElem?_set_ne e] at h1
      exact ⟨mem_nat.2 h1, by omega⟩
  · rintro ⟨h, hne⟩
    obtain ⟨j, rfl, h1, h2⟩ := h.nat
    rw [mem_nat, List.getElem?_set_ne (by omega)]; exact h1

/-- Beside one another, on a sole with W columns. -/
def Adj (W : Nat) (i j : Int) : Prop := j = i - W ∨ j = i + W ∨ (0 < Int.tmod i W ∧ j = i - 1) ∨ (Int.tmod i W < (W : Int) - 1 ∧ j = i + 1)

def Closed (W : Nat) (S : List Bool) (T : Int → Prop) : Prop := ∀ r j, T r → Mem S r → Adj W r j → Mem S j → T j

/-- S' is S without f and all that is connected with it; c tells how many these are. -/
structure Post (W : Nat) (S : List Bool) (f : Int) (c : Int) (S' : List Bool) : Prop where
  len : S'.length = S.length
  sub : ∀ i, Mem S' i → Mem S i
  sum : c + (cnt S' : Int) = (cnt S : Int)
  out : ¬ Mem S' f
  closed : ∀ r j, Mem S r → ¬ Mem S' r → Adj W r j → ¬ Mem S' j
  least : ∀ T : Int → Prop, (Mem S f → T f) → Closed W S T → ∀ r, Mem S r → ¬ Mem S' r → T r

theorem ext_mem {S S' : List Bool} (hl : S.length = S'.length) (h : ∀ i, Mem S i ↔ Mem S' i) : S = S' := by
  apply List.ext_getElem?
  intro k
  rcases Nat.lt_or_ge k S.length with hk | hk
  · have h2 := h (k : Int)
    rw [mem_nat, mem_nat] at h2
    rw [List.getElem?_eq_getElem hk, List.getElem?_eq_getElem (by omega)] at h2 ⊢
    cases h3 : S[k] <;> cases h4 : S'[k]'(by omega) <;> simp_all
  · rw [List.getElem?_eq_none hk, List.getElem?_eq_none (by omega)]

theorem Post.uniq {W : Nat} {S : List Bool} {f c c' : Int} {S1 S2 : List Bool} (h1 : Post W S f c S1) (h2 : Post W S f c' S2) : S1 = S2 ∧ c = c' := by
  have key : ∀ {c c' : Int} {S1 S2 : List Bool}, Post W S f c S1 → Post W S f c' S2 → ∀ i, Mem S1 i → Mem S2 i := by
    intro c c' S1 S2 h1 h2 i hi
    apply Classical.byContradiction
    intro hn
    have := h2.least (fun r => ¬ Mem S1 r) (fun _ => h1.out) (fun r j hr hS ha hj => h1.closed r j hS hr ha) i (h1.sub i hi) hn
    exact this hi
  have e : S1 = S2 := ext_mem (by rw [h1.len, h2.len]) fun i => ⟨key h1 h2 i, key h2 h1 i⟩
  subst e
  refine ⟨rfl, ?_⟩
  have := h1.sum; have := h2.sum; omega

theorem Post.none {W : Nat} {S : List Bool} {f : Int} (h : ¬ Mem S f) : Post W S f 0 S :=
  ⟨rfl, fun _ h => h, by omega, h, fun r j h1 h2 => absurd h1 h2, fun T _ _ r h1 h2 => absurd h1 h2⟩

/-- One step further: f is taken, then its neighbours one after the other. -/
structure Part (W : Nat) (S : List Bool) (f : Int) (c : Int) (S' : List Bool) : Prop where
  len : S'.length = S.length
  sub : ∀ i, Mem S' i → Mem S i
  sum : c + (cnt S' : Int) = (cnt S : Int)
  out : ¬ Mem S' f
  closed : ∀ r j, r ≠ f → Mem S r → ¬ Mem S' r → Adj W r j → ¬ Mem S' j
  least : ∀ T : Int → Prop, T f → Closed W S T → ∀ r, Mem S r → ¬ Mem S' r → T r

theorem Part.start {W : Nat} {S : List Bool} {k : Nat} (h : S[k]? = some true) : Part W S (k : Int) 1 (S.set k false) := by
  have hk := lt_of_get h
  refine ⟨by simp, fun i hi => ((mem_set_false hk i).1 hi).1, ?_, fun hh => ((mem_set_false hk _).1 hh).2 rfl, ?_, ?_⟩
  · have := cnt_set S k h; omega
  · intro r j hne hS hn ha hj
    exact hn ((mem_set_false hk r).2 ⟨hS, hne⟩)
  · intro T hT _ r hS hn
    by_cases e : r = (k : Int)
    · rw [e]; exact hT
    · exact absurd ((mem_set_false hk r).2 ⟨hS, e⟩) hn

theorem Part.step {W : Nat} {S S1 S2 : List Bool} {f g c d : Int} (h : Part W S f c S1) (hf : Mem S f) (hg : Adj W f g) (h2 : Post W S1 g d S2) : Part W S f (c + d) S2 ∧ ¬ Mem S2 g := by
  refine ⟨⟨by rw [h2.len, h.len], fun i hi => h.sub i (h2.sub i hi), by have := h.sum; have := h2.sum; omega, fun hh => h.out (h2.sub f hh), ?_, ?_⟩, h2.out⟩
  · intro r j hne hS hn ha hj
    by_cases h1 : Mem S1 r
    · exact h2.closed r j h1 hn ha hj
    · exact h.closed r j hne hS h1 ha (h2.sub j hj)
  · intro T hT hcl r hS hn
    by_cases h1 : Mem S1 r
    · refine h2.least T (fun hm => hcl f g hT hf hg (h.sub g hm)) (fun a b ha hSa hab hSb => hcl a b ha (h.sub a hSa) hab (h.sub b hSb)) r h1 hn
    · exact h.least T hT hcl r hS h1

theorem Part.post {W : Nat} {S S' : List Bool} {f c : Int} (h : Part W S f c S') (hf : Mem S f) (hn : ∀ j, Adj W f j → ¬ Mem S' j) : Post W S f c S' := by
  refine ⟨h.len, h.sub, h.sum, h.out, ?_, fun T hT => h.least T (hT hf)⟩
  intro r j hS hr ha hj
  by_cases e : r = f
  · subst e; exact hn j ha hj
  · exact h.closed r j e hS hr ha hj

/-- Depth first. -/
theorem p_area (W : Nat) (hW : 2 ≤ W) (hW2 : W ≤ 8) : ∀ (n : Nat) (S : List Bool) (f : Int), S.length ≤ 96 → cnt S < n → -1000 ≤ f → f ≤ 1000 → ∃ c S', m_impl_area n S (W : Int) f = some (c, S') ∧ Post W S f c S' := by
  intro n
  induction n with
  | zero => intro S f _ h; omega
  | succ n ih =>
    intro S f hl hc f0 f1
    by_cases hf : Mem S f
    · obtain ⟨k, rfl, hk, hkl⟩ := hf.nat
      have P0 : Part W S (k : Int) 1 (S.set k false) := Part.start hk
      have hle := cnt_le S
      have c1 := cnt_set S k hk
      have key : ∀ {c : Int} {S1 : List Bool} (g : Int), Part W S (k : Int) c S1 → 1 ≤ c → Adj W (k : Int) g → -1000 ≤ g → g ≤ 1000 → ∃ d S2, m_impl_area n S1 (W : Int) g = some (d, S2) ∧ Part W S (k : Int) (c + d) S2 ∧ ¬ Mem S2 g ∧ (∀ i, Mem S2 i → Mem S1 i) ∧ 0 ≤ d ∧ c + d ≤ 96 := by
        intro c S1 g hP hc1 ha g0 g1
        have hs := hP.sum
        obtain ⟨d, S2, e1, e2⟩ := ih S1 g (by rw [hP.len]; exact hl) (by omega) g0 g1
        obtain ⟨q1, q2⟩ := hP.step hf ha e2
        have hd : 0 ≤ d := by
          have := e2.sum
          have hcs : cnt S2 ≤ cnt S1 := by
            clear ih hP hs e1 q1 q2 this
            have hlen := e2.len; have hsub := e2.sub
            clear e2
            revert S2
            induction S1 with
            | nil => intro S2 hlen _; cases S2 with
              | nil => simp
              | cons a b => simp at hlen
            | cons a l ihl =>
              intro S2 hlen hsub
              cases S2 with
              | nil => simp at hlen
              | cons b l2 =>
                have h0 := hsub 0
                have := ihl l2 (by simpa using hlen) (fun i hi => by
                  obtain ⟨q, rfl, hq, _⟩ := hi.nat
                  have := hsub ((q + 1 : Nat) : Int) (mem_nat.2 (by simpa using hq))
                  have := mem_nat.1 this
                  exact mem_nat.2 (by simpa using this))
                simp only [cnt]
                have hb : b = true → a = true := fun e => by
                  subst e
                  have := h0 (by simp [Mem, idx])
                  simpa [Mem, idx] using this
                cases a <;> cases b <;> simp_all <;> omega
          omega
        refine ⟨d, S2, e1, q1, q2, e2.sub, hd, ?_⟩
        have := q1.sum
        have := cnt_le S
        omega
      have hk9 : (k : Int) < 96 := by omega
      have w1 : wI64 ((k : Int) - (W : Int)) = (k : Int) - (W : Int) := wI64_eq (by omega) (by omega)
      have w2 : wI64 ((k : Int) + (W : Int)) = (k : Int) + (W : Int) := wI64_eq (by omega) (by omega)
      have w3 : wI64 ((k : Int) - 1) = (k : Int) - 1 := wI64_eq (by omega) (by omega)
      have w4 : wI64 ((k : Int) + 1) = (k : Int) + 1 := wI64_eq (by omega) (by omega)
      have w5 : wI64 ((W : Int) - 1) = (W : Int) - 1 := wI64_eq (by omega) (by omega)
      obtain ⟨d1, S1, a1, P1, o1, s1, z1, t1⟩ := key ((k : Int) - W) P0 (by omega) (.inl rfl) (by omega) (by omega)
      obtain ⟨d2, S2, a2, P2, o2, s2, z2, t2⟩ := key ((k : Int) + W) P1 (by omega) (.inr (.inl rfl)) (by omega) (by omega)
      have hrem : rem (k : Int) (W : Int) = some (Int.tmod (k : Int) (W : Int)) := by unfold rem; rw [if_neg (by omega)]
      have h3 : ∃ c3 S3, Option.bind (if (decide (Int.tmod (k : Int) (W : Int) > 0)) then
          Option.bind (m_impl_area n S2 (W : Int) ((k : Int) - 1)) fun x94 => some ((wI64 ((wI64 ((wI64 (1 + d1)) + d2)) + x94.1)), x94.2)
          else some ((wI64 ((wI64 (1 + d1)) + d2)), S2)) (fun x => some x) = some (c3, S3) ∧ Part W S (k : Int) c3 S3 ∧ 1 ≤ c3 ∧ c3 ≤ 96 ∧ (∀ i, Mem S3 i → Mem S2 i) ∧ (0 < Int.tmod (k : Int) (W : Int) → ¬ Mem S3 ((k : Int) - 1)) := by
        have v1 : wI64 (1 + d1) = 1 + d1 := wI64_eq (by omega) (by omega)
        have v2 : wI64 (1 + d1 + d2) = 1 + d1 + d2 := wI64_eq (by omega) (by omega)
        rw [v1, v2]
        by_cases hm : Int.tmod (k : Int) (W : Int) > 0
        · obtain ⟨d3, S3, a3, P3, o3, s3, z3, t3⟩ := key ((k : Int) - 1) P2 (by omega) (.inr (.inr (.inl ⟨hm, rfl⟩))) (by omega) (by omega)
          have v3 : wI64 (1 + d1 + d2 + d3) = 1 + d1 + d2 + d3 := wI64_eq (by omega) (by omega)
          refine ⟨1 + d1 + d2 + d3, S3, ?_, P3, by omega, by omega, s3, fun _ => o3⟩
          simp only [hm, decide_true, if_true, a3, Option.bind_some, v3]
        · refine ⟨1 + d1 + d2, S2, ?_, P2, by omega, by omega, fun _ h => h, fun h => absurd h hm⟩
          simp only [hm, decide_false, Bool.false_eq_true, if_false, Option.bind_some]
      obtain ⟨c3, S3, a3, P3, z3, t3, s3, o3⟩ := h3
      have h4 : ∃ c4 S4, Option.bind (if (decide (Int.tmod (k : Int) (W : Int) < (W : Int) - 1)) then
          Option.bind (m_impl_area n S3 (W : Int) ((k : Int) + 1)) fun x152 => some ((wI64 (c3 + x152.1)), x152.2)
          else some (c3, S3)) (fun x => some x) = some (c4, S4) ∧ Part W S (k : Int) c4 S4 ∧ (∀ i, Mem S4 i → Mem S3 i) ∧ (Int.tmod (k : Int) (W : Int) < (W : Int) - 1 → ¬ Mem S4 ((k : Int) + 1)) := by
        by_cases hm : Int.tmod (k : Int) (W : Int) < (W : Int) - 1
        · obtain ⟨d4, S4, a4, P4, o4, s4, z4, t4⟩ := key ((k : Int) + 1) P3 (by omega) (.inr (.inr (.inr ⟨hm, rfl⟩))) (by omega) (by omega)
          have v3 : wI64 (c3 + d4) = c3 + d4 := wI64_eq (by omega) (by omega)
          refine ⟨c3 + d4, S4, ?_, P4, s4, fun _ => o4⟩
          simp only [hm, decide_true, if_true, a4, Option.bind_some, v3]
        · refine ⟨c3, S3, ?_, P3, fun _ h => h, fun h => absurd h hm⟩
          simp only [hm, decide_false, Bool.false_eq_true, if_false, Option.bind_some]
      obtain ⟨c4, S4, a4, P4, s4, o4⟩ := h4
      refine ⟨c4, S4, ?_, P4.post hf ?_⟩
      · rw [m_impl_area]
        have g0 : decide ((k : Int) < 0) = false := by simp
        have g1 : decide ((k : Int) ≥ (S.length : Int)) = false := by simp; omega
        simp only [g0, g1, Bool.false_eq_true, if_false, idx_nat, hk, Option.bind_some, Bool.not_true, Int.toNat_natCast, w1, w2, w3, w4, w5, a1, a2, hrem]
        have e3 : ∀ {α : Type} (o : Option α), o.bind (fun x => some x) = o := fun o => by cases o <;> rfl
        rw [e3] at a3 a4
        rw [a3]
        simp only [Option.bind_some]
        rw [a4]
        rfl
      · intro j ha hj
        rcases ha with rfl | rfl | ⟨h1, rfl⟩ | ⟨h1, rfl⟩
        · exact o1 (s2 _ (s3 _ (s4 _ hj)))
        · exact o2 (s3 _ (s4 _ hj))
        · exact o3 h1 (s4 _ hj)
        · exact o4 h1 hj
    · refine ⟨0, S, ?_, Post.none hf⟩
      rw [m_impl_area]
      by_cases h0 : f < 0
      · simp [h0]
      · by_cases h1 : f ≥ (S.length : Int)
        · simp [h0, h1]
        · obtain ⟨k, rfl⟩ : ∃ k : Nat, f = (k : Int) := ⟨f.toNat, by omega⟩
          have hk : S[k]? = some false := by
            have hlt : k < S.length := by omega
            have := mt mem_nat.2 hf
            rw [List.getElem?_eq_getElem hlt] at this ⊢
            cases hb : S[k] <;> simp_all
          simp only [h0, h1, decide_false, Bool.false_eq_true, if_false, idx_nat, hk, Option.bind_some, Bool.not_false, if_true]

end Go.Gv
