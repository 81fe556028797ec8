/- Plain laws: numbers in decimal, written and read. -/
import Derived.Test.YtkpdicajinionaaGreatDoorPn
namespace Go.Gv
open Go Go.RowKit

/-- The digits of a number, as bytes. -/
def digZ (k : Nat) : List Int := if h : k = 0 then [] else digZ (k / 10) ++ [48 + ((k % 10 : Nat) : Int)]
termination_by k
decreasing_by omega

theorem digZ_zero : digZ 0 = [] := by rw [digZ]; rfl
theorem digZ_pos {k : Nat} (h : k ≠ 0) : digZ k = digZ (k / 10) ++ [48 + ((k % 10 : Nat) : Int)] := by rw [digZ]; simp [h]

def natD (k : Nat) : List UInt8 := if k = 0 then [48] else ofBytes (digZ k)
/-- A number in decimal. -/
def decZ (z : Int) : List UInt8 := if z < 0 then 45 :: natD z.natAbs else natD z.natAbs

theorem digZ_len : ∀ (j k : Nat), k < 10 ^ j → (digZ k).length ≤ j
  | 0, k, h => by
    have : k = 0 := by simpa using h
    subst this; rw [digZ_zero]; simp
  | j + 1, k, h => by
    by_cases h0 : k = 0
    · subst h0; rw [digZ_zero]; simp
    · have hp : 10 ^ (j + 1) = 10 ^ j * 10 := Nat.pow_succ _ _
      have := digZ_len j (k / 10) (by omega)
      rw [digZ_pos h0]; simp; omega

theorem digZ_len2 : ∀ (j k : Nat), 10 ^ j ≤ k → j < (digZ k).length
  | 0, k, h => by
    have h0 : k ≠ 0 := by have : 1 ≤ k := by simpa using h
                          omega
    rw [digZ_pos h0]; simp
  | j + 1, k, h => by
    have hp : 10 ^ (j + 1) = 10 ^ j * 10 := Nat.pow_succ _ _
    have hpos : 0 < 10 ^ j := Nat.pow_pos (by omega)
    have h0 : k ≠ 0 := by omega
    have := digZ_len2 j (k / 10) (by omega)
    rw [digZ_pos h0]; simp; omega

theorem digZ_mem : ∀ (j k : Nat), k < 10 ^ j → ∀ v ∈ digZ k, 48 ≤ v ∧ v ≤ 57
  | 0, k, h => by
    have : k = 0 := by simpa using h
    subst this; rw [digZ_zero]; simp
  | j + 1, k, h => by
    by_cases h0 : k = 0
    · subst h0; rw [digZ_zero]; simp
    · have hp : 10 ^ (j + 1) = 10 ^ j * 10 := Nat.pow_succ _ _
      have := digZ_mem j (k / 10) (by omega)
      rw [digZ_pos h0]
      intro v hv
      rw [List.mem_append, List.mem_singleton] at hv
      rcases hv with hv | rfl
      · exact this v hv
      · omega

theorem dec_loop (n : Nat) : ∀ (j m k : Nat) (s : Int) (acc : List Int), j < m → k < 10 ^ j → k ≤ 9223372036854775808 → (s = 1 ∨ s = -1) → acc.length + j ≤ 1000 → loopN (m_spec_l01Dec_l1 n) m (acc, s * (k : Int)) = some (digZ k ++ acc) := by
  intro j
  induction j with
  | zero =>
    intro m k s acc hm hk _ _ _
    obtain ⟨m, rfl⟩ : ∃ q, m = q + 1 := ⟨m - 1, by omega⟩
    have : k = 0 := by simpa using hk
    subst this
    rw [digZ_zero]; simp [loopN, m_spec_l01Dec_l1]
  | succ j ih =>
    intro m k s acc hm hk hk2 hs hl
    obtain ⟨m, rfl⟩ : ∃ q, m = q + 1 := ⟨m - 1, by omega⟩
    by_cases h0 : k = 0
    · subst h0; rw [digZ_zero]; simp [loopN, m_spec_l01Dec_l1]
    · have hp : 10 ^ (j + 1) = 10 ^ j * 10 := Nat.pow_succ _ _
      have hne : (s * (k : Int) != 0) = true := by rcases hs with rfl | rfl <;> simp <;> omega
      have hb : m_spec_l01Dec_l1 n (acc, s * (k : Int)) = some (.next ((48 + ((k % 10 : Nat) : Int)) :: acc, s * ((k / 10 : Nat) : Int))) := by
        unfold m_spec_l01Dec_l1
        have hm1 : k % 10 < 10 := Nat.mod_lt _ (by omega)
        have hd1 : k / 10 ≤ k := Nat.div_le_self _ _
        have hz1 : (0 : Int) ≤ ((k % 10 : Nat) : Int) := Int.natCast_nonneg _
        have hz2 : (0 : Int) ≤ ((k / 10 : Nat) : Int) := Int.natCast_nonneg _
        have habs : (if decide ((Int.tmod (s * (k : Int)) 10) < 0) then some (wI64 (0 - (Int.tmod (s * (k : Int)) 10))) else some (Int.tmod (s * (k : Int)) 10)) = some ((k % 10 : Nat) : Int) ∧ wI64 (Int.tdiv (s * (k : Int)) 10) = s * ((k / 10 : Nat) : Int) := by
          have e1 : Int.tmod (k : Int) 10 = ((k % 10 : Nat) : Int) := rfl
          have e2 : Int.tdiv (k : Int) 10 = ((k / 10 : Nat) : Int) := rfl
          rcases hs with rfl | rfl
          · rw [Int.one_mul, Int.one_mul, e1, e2]
            have : decide (((k % 10 : Nat) : Int) < 0) = false := decide_eq_false (by omega)
            rw [this, wI64_eq (x := ((k / 10 : Nat) : Int)) (by omega) (by omega)]
            exact ⟨rfl, rfl⟩
          · rw [Int.neg_one_mul, Int.neg_one_mul, Int.neg_tmod, Int.neg_tdiv, e1, e2, wI64_eq (x := -((k / 10 : Nat) : Int)) (by omega) (by omega), Int.sub_neg, Int.zero_add, wI64_eq (x := ((k % 10 : Nat) : Int)) (by omega) (by omega)]
            refine ⟨?_, rfl⟩
            by_cases hz : k % 10 = 0
            · rw [hz]; rfl
            · rw [decide_eq_true (by omega)]; rfl
        simp only [hne, if_true]
        rw [habs.1, habs.2]
        simp only [Option.bind_some]
        rw [wI64_eq (by omega) (by omega), wU8_eq (by omega) (by omega), app_eq (by simp; omega)]
        rfl
      have := ih m (k / 10) s ((48 + ((k % 10 : Nat) : Int)) :: acc) (by omega) (by omega) (by have := Nat.div_le_self k 10; omega) hs (by simp; omega)
      simp only [loopN, hb, Option.bind_some]
      rw [this, digZ_pos h0]; simp

theorem ten19 {k : Nat} (h : k ≤ 9223372036854775808) : k < 10 ^ 19 := Nat.lt_of_le_of_lt h (by decide)

theorem p_l01Dec (n : Nat) (z : Int) (hz : i64ok z) (hn : 1048576 < n) : m_spec_l01Dec n z = some (decZ z) := by
  unfold i64ok at hz
  have hk : z.natAbs ≤ 9223372036854775808 := by omega
  have key : loopN (m_spec_l01Dec_l1 n) n (([] : List Int), z) = some (digZ z.natAbs) := by
    have e : z = (if z < 0 then -1 else 1) * (z.natAbs : Int) := by split <;> omega
    have := dec_loop n 19 n z.natAbs (if z < 0 then -1 else 1) [] (by omega) (ten19 hk) hk (by split <;> simp) (by simp)
    rw [← e, List.append_nil] at this
    exact this
  unfold m_spec_l01Dec decZ natD
  rw [key]
  simp only [Option.bind_some]
  by_cases h0 : z.natAbs = 0
  · have : z = 0 := by omega
    subst this
    rw [show (0 : Int).natAbs = 0 from rfl, digZ_zero]; simp
  · have hl : 0 < (digZ z.natAbs).length := by rw [digZ_pos h0]; simp
    have hl2 := digZ_len 19 z.natAbs (ten19 hk)
    have hb : (((digZ z.natAbs).length : Int) == 0) = false := by
      have : ¬ ((digZ z.natAbs).length : Int) = 0 := by omega
      simpa using (by omega : ¬ (digZ z.natAbs).length = 0)
    simp only [hb, Bool.false_eq_true, if_false, h0]
    by_cases hneg : z < 0
    · simp only [hneg, decide_true, if_true]
      rw [app_eq (by simp [ofBytes]; omega)]; rfl
    · simp only [hneg, decide_false, Bool.false_eq_true, if_false]

/-- The number that digits tell. -/
def valD (l : List UInt8) : Nat := l.foldl (fun b c => 10 * b + (c.toNat - 48)) 0

theorem valD_append (l : List UInt8) (c : UInt8) : valD (l ++ [c]) = 10 * valD l + (c.toNat - 48) := by simp [valD]

theorem byte_of {k : Nat} (h : k < 10) : (UInt8.ofNat (48 + (k : Int)).toNat).toNat = 48 + k := by
  rw [UInt8.toNat_ofNat', show (48 + (k : Int)).toNat = 48 + k by omega]
  exact Nat.mod_eq_of_lt (by omega)

theorem valD_dig : ∀ (j k : Nat), k < 10 ^ j → valD (ofBytes (digZ k)) = k
  | 0, k, h => by
    have : k = 0 := by simpa using h
    subst this; rw [digZ_zero]; rfl
  | j + 1, k, h => by
    by_cases h0 : k = 0
    · subst h0; rw [digZ_zero]; rfl
    · have hp : 10 ^ (j + 1) = 10 ^ j * 10 := Nat.pow_succ _ _
      have ih := valD_dig j (k / 10) (by omega)
      rw [digZ_pos h0]
      have e : ofBytes (digZ (k / 10) ++ [48 + ((k % 10 : Nat) : Int)]) = ofBytes (digZ (k / 10)) ++ [UInt8.ofNat (48 + ((k % 10 : Nat) : Int)).toNat] := by simp [ofBytes]
      rw [e, valD_append, ih, byte_of (Nat.mod_lt _ (by omega))]
      omega

theorem valD_bound : ∀ (l : List UInt8), (∀ c ∈ l, dgC c = true) → valD l < 10 ^ l.length := by
  intro l
  induction h : l.length generalizing l with
  | zero =>
    intro _
    have : l = [] := List.eq_nil_of_length_eq_zero h
    subst this; simp [valD]
  | succ j ih =>
    intro hd
    have hne : l ≠ [] := by intro e; subst e; simp at h
    obtain ⟨a, c, rfl⟩ : ∃ a c, l = a ++ [c] := ⟨l.dropLast, l.getLast hne, (List.dropLast_concat_getLast hne).symm⟩
    have h2 := ih a (by simpa using h) (fun c hc => hd c (by simp [hc]))
    have h3 := hd c (by simp)
    unfold dgC at h3
    simp only [Bool.and_eq_true, decide_eq_true_eq] at h3
    rw [valD_append]
    have hp : 10 ^ (j + 1) = 10 ^ j * 10 := Nat.pow_succ _ _
    omega

theorem natD_dg (k : Nat) : ∀ c ∈ natD k, dgC c = true := by
  intro c hc
  unfold natD at hc
  split at hc
  · simp at hc; subst hc; decide
  · have hlt : k < 10 ^ k := Nat.lt_pow_self (by omega)
    unfold ofBytes at hc
    rw [List.mem_map] at hc
    obtain ⟨v, hv, rfl⟩ := hc
    have := digZ_mem k k hlt v hv
    unfold dgC
    have e : (UInt8.ofNat v.toNat).toNat = v.toNat := by rw [UInt8.toNat_ofNat']; exact Nat.mod_eq_of_lt (by omega)
    rw [e]; simp; omega

theorem natD_val (k : Nat) : valD (natD k) = k := by
  unfold natD
  split
  · rename_i h; subst h; rfl
  · exact valD_dig k k (Nat.lt_pow_self (by omega))

theorem natD_len (k : Nat) : 1 ≤ (natD k).length := by
  unfold natD
  split
  · simp
  · rename_i h; rw [digZ_pos h]; simp [ofBytes]

theorem natD_len18 (k : Nat) : (natD k).length ≤ 18 ↔ k < 10 ^ 18 := by
  unfold natD
  split
  · rename_i h; subst h; simp
  · have e : (ofBytes (digZ k)).length = (digZ k).length := by simp [ofBytes]
    rw [e]
    constructor
    · intro h
      apply Nat.lt_of_not_le
      intro hle
      have := digZ_len2 18 k hle
      omega
    · exact digZ_len 18 k

/-! ### Read -/

def readD (s : List UInt8) : Int × Bool :=
  let t := if s.head? = some 45 then s.tail else s
  if t.length < 1 ∨ 18 < t.length then (0, false)
  else if t.all dgC then
    let z : Int := if t.length < s.length then -(valD t : Int) else (valD t : Int)
    if decZ z = s then (z, true) else (0, false)
  else (0, false)

theorem p_l01Number (n : Nat) (s : List UInt8) (hs : s.length ≤ 9223372036854775807) (hn : 1048576 < n) : m_spec_l01Number n s = some (readD s) := by
  obtain ⟨t, ht⟩ : ∃ t, t = if s.head? = some 45 then s.tail else s := ⟨_, rfl⟩
  have htl : t.length ≤ s.length := by rw [ht]; split <;> simp
  have step0 : Option.bind (if (!(s == [])) then Option.bind (idx s 0) fun x11 => some ((x11.toNat : Int) == 45) else some false) (fun x8 => (if x8 then Option.bind (sub s 1 (s.length : Int)) fun x22 => some x22 else some s)) = some t := by
    cases s with
    | nil => rw [ht]; rfl
    | cons c s =>
      have hne : ((c :: s) == ([] : List UInt8)) = false := rfl
      simp only [hne, Bool.not_false, if_true, idx_zero, List.getElem?_cons_zero, Option.bind_some]
      by_cases hc : c = 45
      · subst hc
        rw [ht]
        have hsub : Gv.sub ((45 : UInt8) :: s) 1 ((((45 : UInt8) :: s).length : Nat) : Int) = some s := by
          unfold Gv.sub
          rw [if_pos ⟨by omega, by simp; omega, by omega⟩]
          simp
        have : ((((45 : UInt8).toNat : Nat) : Int) == 45) = true := by decide
        simp only [this, if_true, hsub, Option.bind_some, List.head?_cons, List.tail_cons]
      · have h1 : ((c.toNat : Int) == 45) = false := by
          rw [beq_eq_false_iff_ne]
          intro e
          apply hc
          apply UInt8.toNat_inj.1
          have : c.toNat = 45 := by omega
          rw [this]; rfl
        have h2 : ¬ (some c = some (45 : UInt8)) := fun e => hc (Option.some.inj e)
        rw [ht]
        simp only [h1, Bool.false_eq_true, if_false, List.head?_cons, h2]
  have hrd : readD s = if t.length < 1 ∨ 18 < t.length then (0, false) else if t.all dgC then (if decZ (if t.length < s.length then -(valD t : Int) else (valD t : Int)) = s then ((if t.length < s.length then -(valD t : Int) else (valD t : Int)), true) else (0, false)) else (0, false) := by
    unfold readD; rw [← ht]
  rw [hrd]
  unfold m_spec_l01Number
  have e0 : ∀ {α β γ : Type} (a : Option α) (f : α → Option β) (g : β → Option γ), a.bind (fun x => (f x).bind g) = (a.bind f).bind g := fun a f g => by cases a <;> rfl
  rw [e0, step0]
  simp only [Option.bind_some]
  by_cases hl : t.length < 1 ∨ 18 < t.length
  · rw [if_pos hl]
    have : Option.bind (if (decide ((t.length : Int) < 1)) then some true else some (decide ((t.length : Int) > 18))) (fun x => some x) = some true := by
      rcases hl with h | h
      · rw [decide_eq_true (by omega : (t.length : Int) < 1)]; rfl
      · by_cases h1 : t.length < 1
        · rw [decide_eq_true (by omega : (t.length : Int) < 1)]; rfl
        · rw [decide_eq_false (by omega : ¬ (t.length : Int) < 1), decide_eq_true (by omega : (t.length : Int) > 18)]; rfl
    have e1 : ∀ {α β : Type} (a : Option α) (g : α → Option β), a.bind g = (a.bind fun x => some x).bind g := fun a g => by cases a <;> rfl
    rw [e1, this]; rfl
  · rw [if_neg hl]
    have h1 : decide ((t.length : Int) < 1) = false := decide_eq_false (by omega)
    have h2 : decide ((t.length : Int) > 18) = false := decide_eq_false (by omega)
    simp only [h1, h2, Bool.false_eq_true, if_false, Option.bind_some]
    have hrun := loopN_runL (body := m_spec_l01Number_l1 n t) t (fun _ (b : Int) c => if dgC c then .ok (10 * b + ((c.toNat - 48 : Nat) : Int)) else .error (.inr (0, false))) 0 (fun i b => (b, (i : Int))) (fun b => .inl b) (fun i b => b = (valD (t.take i) : Int) ∧ ∀ c ∈ t.take i, dgC c = true) ⟨rfl, by simp⟩
      (fun i c b hc hb => by
        have hlt := lt_of_get hc
        obtain ⟨hb1, hb2⟩ := hb
        have htk : t.take (i + 1) = t.take i ++ [c] := by rw [List.take_add_one, hc]; rfl
        have hbd := valD_bound _ hb2
        have hlen : (t.take i).length ≤ 17 := by simp; omega
        have h17 : valD (t.take i) < 10 ^ 17 := Nat.lt_of_lt_of_le hbd (Nat.pow_le_pow_right (by omega) hlen)
        have h17' : valD (t.take i) < 100000000000000000 := h17
        cases hd : dgC c with
        | true =>
          simp only [if_true]
          have hd' := hd
          unfold dgC at hd'
          simp only [Bool.and_eq_true, decide_eq_true_eq] at hd'
          refine ⟨?_, ?_, ?_⟩
          · unfold m_spec_l01Number_l1
            have w0 : wI64 (IntKind.u8.wrap ((c.toNat : Int) - 48)) = ((c.toNat - 48 : Nat) : Int) := by rw [wU8_eq (by omega) (by omega), wI64_eq (by omega) (by omega)]; omega
            have w1 : wI64 (10 * b) = 10 * b := wI64_eq (by omega) (by omega)
            have w2 : wI64 (10 * b + ((c.toNat - 48 : Nat) : Int)) = 10 * b + ((c.toNat - 48 : Nat) : Int) := wI64_eq (by omega) (by omega)
            simp only [ltB hlt, if_true, idx_nat, hc, Option.bind_some, p_l01DigitC, hd, Bool.not_true, Bool.false_eq_true, if_false, w0, w1, w2, succ64 hlt (by omega)]
          · rw [htk, valD_append, hb1]; omega
          · rw [htk]
            intro q hq
            rw [List.mem_append, List.mem_singleton] at hq
            rcases hq with hq | rfl
            · exact hb2 q hq
            · exact hd
        | false =>
          simp only [Bool.false_eq_true, if_false]
          unfold m_spec_l01Number_l1
          simp only [ltB hlt, if_true, idx_nat, hc, Option.bind_some, p_l01DigitC, hd, Bool.not_false])
      (fun b _ => by unfold m_spec_l01Number_l1; simp) n (by omega)
    have hcl : ∀ (l : List UInt8) (i : Nat) (b : Int), runL (τ := Int ⊕ (Int × Bool)) (fun _ (b : Int) c => if dgC c then .ok (10 * b + ((c.toNat - 48 : Nat) : Int)) else .error (.inr (0, false))) i l b = if l.all dgC then .ok (l.foldl (fun b c => 10 * b + ((c.toNat - 48 : Nat) : Int)) b) else .error (.inr (0, false)) := by
      intro l
      induction l with
      | nil => intro i b; rfl
      | cons c l ih =>
        intro i b
        unfold runL
        cases hd : dgC c with
        | true => simp only [if_true, List.all_cons, hd, Bool.true_and, List.foldl_cons]; exact ih _ _
        | false => simp only [Bool.false_eq_true, if_false, List.all_cons, hd, Bool.false_and]
    obtain ⟨hr1, hr2⟩ := hrun
    have hr1' : loopN (m_spec_l01Number_l1 n t) n (0, 0) = _ := hr1
    rw [hr1']
    by_cases hall : t.all dgC = true
    · have hok := hcl t 0 0
      rw [if_pos hall] at hok
      obtain ⟨hv, _⟩ := hr2 _ hok
      rw [List.take_length] at hv
      rw [hok]
      simp only [Option.bind_some]
      rw [hv, if_pos hall]
      have hall' : ∀ c ∈ t, dgC c = true := by simpa [List.all_eq_true] using hall
      have hbd := valD_bound t hall'
      have hbd2 : valD t < 10 ^ 18 := Nat.lt_of_lt_of_le hbd (Nat.pow_le_pow_right (by omega) (by omega))
      have hbd3 : valD t < 1000000000000000000 := hbd2
      have hz : Option.bind (if (decide ((t.length : Int) < (s.length : Int))) then some (wI64 (0 - (valD t : Int))) else some (valD t : Int)) (fun x => some x) = some (if t.length < s.length then -(valD t : Int) else (valD t : Int)) := by
        by_cases hlt : t.length < s.length
        · rw [decide_eq_true (by omega : (t.length : Int) < (s.length : Int)), wI64_eq (by omega) (by omega)]; simp [hlt]
        · rw [decide_eq_false (by omega : ¬ (t.length : Int) < (s.length : Int))]; simp [hlt]
      have e1 : ∀ {α β : Type} (a : Option α) (g : α → Option β), a.bind g = (a.bind fun x => some x).bind g := fun a g => by cases a <;> rfl
      rw [e1, hz]
      simp only [Option.bind_some]
      rw [p_l01Dec n _ (by unfold i64ok; split <;> omega) hn]
      simp only [Option.bind_some]
      by_cases hq : decZ (if t.length < s.length then -(valD t : Int) else (valD t : Int)) = s
      · simp [hq]
      · simp [hq]
    · have hok := hcl t 0 0
      rw [if_neg hall] at hok
      rw [hok]
      simp only [Option.bind_some]
      rw [if_neg hall]

theorem decZ_parts (z : Int) : (if (decZ z).head? = some 45 then (decZ z).tail else decZ z) = natD z.natAbs := by
  unfold decZ
  by_cases h : z < 0
  · simp [h]
  · simp only [h, if_false]
    have hl := natD_len z.natAbs
    have hd := natD_dg z.natAbs
    cases hn : natD z.natAbs with
    | nil => rw [hn] at hl; simp at hl
    | cons c t =>
      have := hd c (by rw [hn]; simp)
      have hne : c ≠ 45 := by rintro rfl; simp [dgC] at this
      simp [hne]

/-- What was written is read. -/
theorem readD_dec (z : Int) : readD (decZ z) = if z.natAbs < 10 ^ 18 then (z, true) else (0, false) := by
  unfold readD
  rw [decZ_parts]
  have hl := natD_len z.natAbs
  have h18 := natD_len18 z.natAbs
  by_cases h : z.natAbs < 10 ^ 18
  · have h2 := h18.2 h
    rw [if_pos h]
    have hc : ¬ ((natD z.natAbs).length < 1 ∨ 18 < (natD z.natAbs).length) := by omega
    have hall : (natD z.natAbs).all dgC = true := by rw [List.all_eq_true]; exact natD_dg _
    simp only [hc, if_false, hall, if_true, natD_val]
    have hz : (if (natD z.natAbs).length < (decZ z).length then -(z.natAbs : Int) else (z.natAbs : Int)) = z := by
      unfold decZ
      by_cases hneg : z < 0
      · simp only [hneg, if_true, List.length_cons]
        rw [if_pos (by omega)]; omega
      · simp only [hneg, if_false, Nat.lt_irrefl]; omega
    rw [hz]; simp
  · rw [if_neg h]
    have : (natD z.natAbs).length < 1 ∨ 18 < (natD z.natAbs).length := by
      right
      apply Nat.lt_of_not_le
      intro hle; exact h (h18.1 hle)
    simp only [this, if_true]

/-- What is read was written so. -/
theorem readD_cases (s : List UInt8) : readD s = (0, false) ∨ ∃ z, readD s = (z, true) ∧ decZ z = s := by
  obtain ⟨t, ht⟩ : ∃ t, t = if s.head? = some 45 then s.tail else s := ⟨_, rfl⟩
  unfold readD
  rw [← ht]
  simp only
  by_cases h1 : t.length < 1 ∨ 18 < t.length
  · left; rw [if_pos h1]
  · rw [if_neg h1]
    by_cases h2 : t.all dgC = true
    · rw [if_pos h2]
      by_cases h3 : decZ (if t.length < s.length then -(valD t : Int) else (valD t : Int)) = s
      · right; rw [if_pos h3]; exact ⟨_, rfl, h3⟩
      · left; rw [if_neg h3]
    · left; rw [if_neg h2]

theorem readD_true {s : List UInt8} {z : Int} (h : readD s = (z, true)) : s = decZ z ∧ z.natAbs < 10 ^ 18 := by
  have hs : s = decZ z := by
    rcases readD_cases s with h1 | ⟨y, h1, h2⟩
    · rw [h1] at h; simp at h
    · rw [h1] at h; cases h; exact h2.symm
  refine ⟨hs, ?_⟩
  rw [hs, readD_dec] at h
  split at h
  · assumption
  · simp at h

theorem readD_snd (s : List UInt8) : (readD s).2 = false → readD s = (0, false) := by
  intro h
  rcases readD_cases s with h1 | ⟨y, h1, h2⟩
  · exact h1
  · rw [h1] at h; simp at h

end Go.Gv
