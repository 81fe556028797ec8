/- Plain lemmas on the models' words: loops with a count, wraps, lists. No program is named here. -/
import Derived.Test.YtkpdicajinionaaGreatDoorGq
namespace Go.Gv
open Go Go.RowKit

theorem wI64_eq {x : Int} (h1 : -9223372036854775808 ≤ x) (h2 : x ≤ 9223372036854775807) : wI64 x = x := by
  unfold wI64; rw [IntKind.wrap_i64]; omega

theorem wU8_eq {x : Int} (h1 : 0 ≤ x) (h2 : x ≤ 255) : IntKind.u8.wrap x = x := by
  simp [IntKind.wrap, IntKind.bits, IntKind.signed]; omega

theorem wU64_eq {x : Int} (h1 : 0 ≤ x) (h2 : x < 18446744073709551616) : IntKind.u64.wrap x = x := by
  simp [IntKind.wrap, IntKind.bits, IntKind.signed]; omega

theorem idx_nat {α : Type} (xs : List α) (k : Nat) : idx xs (k : Int) = xs[k]? := by simp [idx]
theorem idx_zero {α : Type} (xs : List α) : idx xs 0 = xs[0]? := by simp [idx]
theorem idx_of {α : Type} {xs : List α} {i : Int} {k : Nat} (h : i = (k : Int)) : idx xs i = xs[k]? := by rw [h, idx_nat]

theorem mk_nat {α : Type} (z : α) (k : Nat) (h : k ≤ 4294967296) : mk z (k : Int) = some (List.replicate k z) := by
  have : ((k : Int)) ≤ (big : Int) := by simp [big]; omega
  simp [mk, this]

theorem app_eq {α : Type} {xs ys : List α} (h : xs.length + ys.length ≤ 4294967296) : app xs ys = some (xs ++ ys) := by
  unfold app; rw [if_pos (by simpa [big] using h)]

/-- A loop that goes k rounds and is then left. -/
theorem loopN_run {σ τ : Type} {body : σ → Option (Step σ τ)} (st : Nat → σ) (t : τ) (k : Nat) (hstep : ∀ i, i < k → body (st i) = some (.next (st (i + 1)))) (hend : body (st k) = some (.done t)) :
    ∀ n, k < n → loopN body n (st 0) = some t := by
  have key : ∀ j n, j ≤ k → j < n → loopN body n (st (k - j)) = some t := by
    intro j
    induction j with
    | zero =>
      intro n _ hn
      obtain ⟨m, rfl⟩ : ∃ m, n = m + 1 := ⟨n - 1, by omega⟩
      simp [loopN, hend]
    | succ j ih =>
      intro n hj hn
      obtain ⟨m, rfl⟩ : ∃ m, n = m + 1 := ⟨n - 1, by omega⟩
      have h1 := hstep (k - (j + 1)) (by omega)
      have h2 := ih m (by omega) (by omega)
      simp only [loopN, h1, Option.bind_some]
      rw [show k - (j + 1) + 1 = k - j by omega]; exact h2
  intro n hn
  have := key k n (Nat.le_refl _) hn
  simpa using this

/-- A loop that looks for a round that fails. -/
theorem loopN_all {σ τ : Type} {body : σ → Option (Step σ τ)} (st : Nat → σ) (yes no : τ) (N : Nat) (c : Nat → Bool) (hstep : ∀ i, i < N → body (st i) = some (if c i then .next (st (i + 1)) else .done no)) (hend : body (st N) = some (.done yes)) (n : Nat) (hn : N < n) :
    loopN body n (st 0) = some (if (List.range N).all c then yes else no) := by
  by_cases h : ∃ i, i < N ∧ c i = false
  · obtain ⟨i, ⟨hi, hc⟩, hmin⟩ := least (fun i => i < N ∧ c i = false) h
    have hno : (List.range N).all c = false := by
      rw [List.all_eq_false]; exact ⟨i, by simpa using hi, by simp [hc]⟩
    rw [hno]
    refine loopN_run st no i (fun j hj => ?_) ?_ n (by omega)
    · have : c j = true := by
        cases hcj : c j with
        | true => rfl
        | false => have := hmin j ⟨by omega, hcj⟩; omega
      rw [hstep j (by omega), this]; simp
    · rw [hstep i hi, hc]; simp
  · have hyes : (List.range N).all c = true := by
      rw [List.all_eq_true]; intro i hi
      have hi' : i < N := by simpa using hi
      cases hc : c i with
      | true => rfl
      | false => exact absurd ⟨i, hi', hc⟩ h
    rw [hyes]
    refine loopN_run st yes N (fun j hj => ?_) hend n hn
    have : c j = true := by
      cases hcj : c j with
      | true => rfl
      | false => exact absurd ⟨j, hj, hcj⟩ h
    rw [hstep j hj, this]; simp

theorem range_all {α : Type} (xs : List α) (p : α → Bool) (d : α) : (List.range xs.length).all (fun i => p (xs.getD i d)) = xs.all p := by
  rw [Bool.eq_iff_iff, List.all_eq_true, List.all_eq_true]
  constructor
  · intro h x hx
    obtain ⟨i, hi⟩ := List.getElem?_of_mem hx
    have hl : i < xs.length := by
      rcases Nat.lt_or_ge i xs.length with hl | hl
      · exact hl
      · rw [List.getElem?_eq_none hl] at hi; cases hi
    have := h i (by simpa using hl)
    simpa [List.getD_eq_getElem?_getD, hi] using this
  · intro h i hi
    have hl : i < xs.length := by simpa using hi
    have := h xs[i] (List.getElem_mem hl)
    simpa [List.getD_eq_getElem?_getD, List.getElem?_eq_getElem hl] using this

/-- The same over a list. -/
theorem loopN_listAll {α σ τ : Type} {body : σ → Option (Step σ τ)} (xs : List α) (p : α → Bool) (st : Nat → σ) (yes no : τ) (hstep : ∀ i x, xs[i]? = some x → body (st i) = some (if p x then .next (st (i + 1)) else .done no))
    (hend : body (st xs.length) = some (.done yes)) (n : Nat) (hn : xs.length < n) : loopN body n (st 0) = some (if xs.all p then yes else no) := by
  cases xs with
  | nil => simpa using loopN_run st yes 0 (fun i hi => by omega) hend n hn
  | cons d xs =>
    rw [← range_all (d :: xs) p d]
    refine loopN_all st yes no _ _ (fun i hi => ?_) hend n hn
    have hg : (d :: xs)[i]? = some ((d :: xs).getD i d) := by
      rw [List.getD_eq_getElem?_getD, List.getElem?_eq_getElem hi]; rfl
    rw [hstep i _ hg]

/-- A loop over a list that gathers. -/
theorem loopN_fold {α β σ τ : Type} {body : σ → Option (Step σ τ)} (xs : List α) (f : β → α → β) (b0 : β) (st : Nat → β → σ) (out : β → τ) (I : Nat → β → Prop) (h0 : I 0 b0)
    (hstep : ∀ i x b, xs[i]? = some x → I i b → body (st i b) = some (.next (st (i + 1) (f b x))) ∧ I (i + 1) (f b x))
    (hend : ∀ b, I xs.length b → body (st xs.length b) = some (.done (out b))) (n : Nat) (hn : xs.length < n) : loopN body n (st 0 b0) = some (out (xs.foldl f b0)) ∧ I xs.length (xs.foldl f b0) := by
  have hI : ∀ i, i ≤ xs.length → I i ((xs.take i).foldl f b0) := by
    intro i
    induction i with
    | zero => intro _; simpa using h0
    | succ i ih =>
      intro hi
      have h1 := ih (by omega)
      have hx : xs[i]? = some xs[i] := List.getElem?_eq_getElem (by omega)
      have h2 := (hstep i _ _ hx h1).2
      have e : (xs.take (i + 1)).foldl f b0 = f ((xs.take i).foldl f b0) xs[i] := by rw [List.take_add_one, hx, List.foldl_append]; rfl
      rw [e]; exact h2
  have hlast := hI xs.length (Nat.le_refl _)
  rw [List.take_length] at hlast
  refine ⟨?_, hlast⟩
  have := loopN_run (body := body) (fun i => st i ((xs.take i).foldl f b0)) (out (xs.foldl f b0)) xs.length (fun i hi => ?_) ?_ n hn
  · simpa using this
  · have hx : xs[i]? = some xs[i] := List.getElem?_eq_getElem hi
    have e : (xs.take (i + 1)).foldl f b0 = f ((xs.take i).foldl f b0) xs[i] := by rw [List.take_add_one, hx, List.foldl_append]; rfl
    rw [(hstep i _ _ hx (hI i (by omega))).1, e]
  · simp only [List.take_length]; exact hend _ hlast

/-- A fold that may be left, with the round's number. -/
def runL {α β τ : Type} (f : Nat → β → α → Except τ β) : Nat → List α → β → Except τ β
  | _, [], b => .ok b
  | i, x :: xs, b => match f i b x with
    | .ok b' => runL f (i + 1) xs b'
    | .error t => .error t

theorem loopN_runL {α β σ τ : Type} {body : σ → Option (Step σ τ)} (xs : List α) (f : Nat → β → α → Except τ β) (b0 : β) (st : Nat → β → σ) (out : β → τ) (I : Nat → β → Prop) (h0 : I 0 b0)
    (hstep : ∀ i x b, xs[i]? = some x → I i b → match f i b x with
      | .ok b' => body (st i b) = some (.next (st (i + 1) b')) ∧ I (i + 1) b'
      | .error t => body (st i b) = some (.done t))
    (hend : ∀ b, I xs.length b → body (st xs.length b) = some (.done (out b))) (n : Nat) (hn : xs.length < n) :
    loopN body n (st 0 b0) = some (match runL f 0 xs b0 with | .ok b => out b | .error t => t) ∧ ∀ b, runL f 0 xs b0 = .ok b → I xs.length b := by
  have key : ∀ (ys : List α) (i : Nat) (b : β) (m : Nat), (∀ j, ys[j]? = xs[i + j]?) → i + ys.length = xs.length → I i b → ys.length < m →
      loopN body m (st i b) = some (match runL f i ys b with | .ok b => out b | .error t => t) ∧ ∀ b', runL f i ys b = .ok b' → I xs.length b' := by
    intro ys
    induction ys with
    | nil =>
      intro i b m _ hl hI hm
      obtain ⟨m, rfl⟩ : ∃ k, m = k + 1 := ⟨m - 1, by omega⟩
      have hi : i = xs.length := by simpa using hl
      subst hi
      refine ⟨by simp [loopN, runL, hend b hI], fun b' h => ?_⟩
      simp [runL] at h; subst h; exact hI
    | cons y ys ih =>
      intro i b m hj hl hI hm
      obtain ⟨m, rfl⟩ : ∃ k, m = k + 1 := ⟨m - 1, by simp at hm; omega⟩
      have hx : xs[i]? = some y := by have := hj 0; simpa using this.symm
      have hs := hstep i y b hx hI
      cases hf : f i b y with
      | error t =>
        simp only [hf] at hs
        refine ⟨by simp [loopN, runL, hs, hf], fun b' h => ?_⟩
        simp [runL, hf] at h
      | ok b' =>
        simp only [hf] at hs
        have := ih (i + 1) b' m (fun j => by have := hj (j + 1); simp at this; rw [this]; congr 1; omega) (by simp at hl; omega) hs.2 (by simp at hm; omega)
        refine ⟨?_, fun b'' h => ?_⟩
        · simp only [loopN, hs.1, Option.bind_some, runL, hf]; exact this.1
        · simp only [runL, hf] at h; exact this.2 b'' h
  exact key xs 0 b0 n (fun j => by simp) (by simp) h0 hn

theorem set_prefix {α : Type} (pre ys : List α) (i : Nat) (v : α) (hp : pre.length = i) (hi : i < ys.length) : (pre ++ ys.drop i).set i v = (pre ++ [v]) ++ ys.drop (i + 1) := by
  rw [List.set_append_right _ _ (by omega), hp, Nat.sub_self, List.drop_eq_getElem_cons hi, List.set_cons_zero, List.append_assoc]
  rfl

theorem idx_prefix {α : Type} (pre ys : List α) (i : Nat) (hp : pre.length = i) (hi : i < ys.length) : ∃ x, idx (pre ++ ys.drop i) (i : Int) = some x := by
  rw [idx_nat, List.getElem?_append_right (by omega), hp, Nat.sub_self, List.drop_eq_getElem_cons hi]
  exact ⟨_, rfl⟩

/-- A loop that fills a row in order. -/
theorem loopN_fill {α σ τ : Type} {body : σ → Option (Step σ τ)} (N : Nat) (g : Nat → α) (ys : List α) (hy : ys.length = N) (st : Nat → List α → σ) (out : List α → τ)
    (hstep : ∀ i l x, i < N → l.length = N → idx l (i : Int) = some x → body (st i l) = some (.next (st (i + 1) (l.set i (g i)))))
    (hend : ∀ l, body (st N l) = some (.done (out l))) (n : Nat) (hn : N < n) : loopN body n (st 0 ys) = some (out ((List.range N).map g)) := by
  have := loopN_run (body := body) (fun i => st i ((List.range i).map g ++ ys.drop i)) (out ((List.range N).map g)) N (fun i hi => ?_) ?_ n hn
  · simpa using this
  · have hl : ((List.range i).map g).length = i := by simp
    obtain ⟨x, hx⟩ := idx_prefix ((List.range i).map g) ys i hl (by omega)
    rw [hstep i _ x hi (by simp; omega) hx, set_prefix _ ys i _ hl (by omega), List.range_succ, List.map_append]; rfl
  · rw [hend, List.drop_of_length_le (by omega), List.append_nil]

theorem loopN_fillL {α σ τ : Type} {body : σ → Option (Step σ τ)} (N : Nat) (g : Nat → α) (ys : List α) (hy : ys.length = N) (st : Nat → List α → σ) (out : List α → τ)
    (hstep : ∀ i l x, i < N → l.length = N → idx l (i : Int) = some x → body (st i l) = some (.next (st (i + 1) (l.set i (g i)))))
    (hend : ∀ l, l.length = N → body (st N l) = some (.done (out l))) (n : Nat) (hn : N < n) : loopN body n (st 0 ys) = some (out ((List.range N).map g)) := by
  have := loopN_run (body := body) (fun i => st i ((List.range i).map g ++ ys.drop i)) (out ((List.range N).map g)) N (fun i hi => ?_) ?_ n hn
  · simpa using this
  · have hl : ((List.range i).map g).length = i := by simp
    obtain ⟨x, hx⟩ := idx_prefix ((List.range i).map g) ys i hl (by omega)
    rw [hstep i _ x hi (by simp; omega) hx, set_prefix _ ys i _ hl (by omega), List.range_succ, List.map_append]; rfl
  · rw [hend _ (by simp; omega), List.drop_of_length_le (by omega), List.append_nil]

theorem lt_of_get {α : Type} {xs : List α} {i : Nat} {x : α} (h : xs[i]? = some x) : i < xs.length := by
  rcases Nat.lt_or_ge i xs.length with hl | hl
  · exact hl
  · rw [List.getElem?_eq_none hl] at h; cases h

theorem succ64 {i N : Nat} (h : i < N) (hN : N ≤ 9223372036854775807) : wI64 ((i : Int) + 1) = ((i + 1 : Nat) : Int) := by
  rw [wI64_eq (by omega) (by omega)]; omega

theorem ltB {i N : Nat} (h : i < N) : decide ((i : Int) < (N : Int)) = true := by simp; omega
theorem ltB_self (N : Nat) : decide ((N : Int) < (N : Int)) = false := by simp

theorem range_map_get {α : Type} (g : Nat → α) {i N : Nat} (h : i < N) : ((List.range N).map g)[i]? = some (g i) := by
  rw [List.getElem?_map, List.getElem?_range h]; rfl

/-- The first place where p holds. -/
theorem loopN_index {α : Type} {body : Int → Option (Step Int (Unit ⊕ Int))} (xs : List α) (p : α → Bool) (hstep : ∀ (i : Nat) x, xs[i]? = some x → body (i : Int) = some (if p x then .done (.inr (i : Int)) else .next ((i + 1 : Nat) : Int)))
    (hend : body (xs.length : Int) = some (.done (.inl ()))) (n : Nat) (hn : xs.length < n) :
    loopN body n 0 = some (match xs.findIdx? p with | some i => .inr (i : Int) | none => .inl ()) := by
  cases h : xs.findIdx? p with
  | none =>
    rw [List.findIdx?_eq_none_iff] at h
    exact loopN_run (body := body) (fun i => (i : Int)) (Sum.inl ()) xs.length (fun i hi => by
      have hx : xs[i]? = some xs[i] := List.getElem?_eq_getElem hi
      rw [hstep i _ hx, h _ (List.getElem_mem hi)]; rfl) hend n hn
  | some i =>
    rw [List.findIdx?_eq_some_iff_getElem] at h
    obtain ⟨hi, hp, hlt⟩ := h
    exact loopN_run (body := body) (fun i => (i : Int)) (Sum.inr (i : Int)) i (fun j hj => by
      have hx : xs[j]? = some xs[j] := List.getElem?_eq_getElem (by omega)
      have := hlt j hj
      rw [hstep j _ hx]; simp [this]) (by rw [hstep i _ (List.getElem?_eq_getElem hi), hp]; rfl) n (by omega)

theorem loopN_find {α τ : Type} {body : Int → Option (Step Int τ)} (xs : List α) (p : α → Bool) (r : Nat → τ) (t : τ) (hstep : ∀ (i : Nat) x, xs[i]? = some x → body (i : Int) = some (if p x then .done (r i) else .next ((i + 1 : Nat) : Int)))
    (hend : body (xs.length : Int) = some (.done t)) (n : Nat) (hn : xs.length < n) :
    loopN body n 0 = some (match xs.findIdx? p with | some i => r i | none => t) := by
  cases h : xs.findIdx? p with
  | none =>
    rw [List.findIdx?_eq_none_iff] at h
    exact loopN_run (body := body) (fun i => (i : Int)) t xs.length (fun i hi => by
      have hx : xs[i]? = some xs[i] := List.getElem?_eq_getElem hi
      rw [hstep i _ hx, h _ (List.getElem_mem hi)]; rfl) hend n hn
  | some i =>
    rw [List.findIdx?_eq_some_iff_getElem] at h
    obtain ⟨hi, hp, hlt⟩ := h
    exact loopN_run (body := body) (fun i => (i : Int)) (r i) i (fun j hj => by
      have hx : xs[j]? = some xs[j] := List.getElem?_eq_getElem (by omega)
      have := hlt j hj
      rw [hstep j _ hx]; simp [this]) (by rw [hstep i _ (List.getElem?_eq_getElem hi), hp]; rfl) n (by omega)

/-- A loop that gathers a row, one element a round. -/
theorem loopN_collect {α τ : Type} {body : List α × Int → Option (Step (List α × Int) τ)} (N : Nat) (g : Nat → α) (out : List α → τ) (hstep : ∀ i l, i < N → l.length = i → body (l, (i : Int)) = some (.next (l ++ [g i], ((i + 1 : Nat) : Int))))
    (hend : ∀ l, l.length = N → body (l, (N : Int)) = some (.done (out l))) (n : Nat) (hn : N < n) : loopN body n ([], 0) = some (out ((List.range N).map g)) := by
  have := loopN_run (body := body) (fun i => ((List.range i).map g, (i : Int))) (out ((List.range N).map g)) N (fun i hi => by
    rw [hstep i _ hi (by simp), List.range_succ, List.map_append]; rfl) (hend _ (by simp)) n hn
  simpa using this

/-- Two gatherings side by side. -/
theorem foldl_rel {α β γ : Type} (xs : List α) (f : β → α → β) (g : γ → α → γ) (R : Nat → β → γ → Prop) (b : β) (c : γ) (h0 : R 0 b c) (hs : ∀ i x b c, xs[i]? = some x → R i b c → R (i + 1) (f b x) (g c x)) :
    R xs.length (xs.foldl f b) (xs.foldl g c) := by
  have key : ∀ i, i ≤ xs.length → R i ((xs.take i).foldl f b) ((xs.take i).foldl g c) := by
    intro i
    induction i with
    | zero => intro _; simpa using h0
    | succ i ih =>
      intro hi
      have hx : xs[i]? = some xs[i] := List.getElem?_eq_getElem (by omega)
      rw [List.take_add_one, hx, List.foldl_append, List.foldl_append]
      exact hs i _ _ _ hx (ih (by omega))
  have := key xs.length (Nat.le_refl _)
  rwa [List.take_length] at this

theorem range_map_getD {α : Type} (xs : List α) (d : α) : (List.range xs.length).map (fun i => xs.getD i d) = xs := by
  apply List.ext_getElem
  · simp
  · intro i h1 h2
    rw [List.getElem_map, List.getElem_range, List.getD_eq_getElem?_getD, List.getElem?_eq_getElem h2]; rfl

theorem getD_of {α : Type} {xs : List α} {i : Nat} (h : i < xs.length) (d : α) : xs[i]? = some (xs.getD i d) := by
  rw [List.getD_eq_getElem?_getD, List.getElem?_eq_getElem h]; rfl

end Go.Gv
