/- Plain laws of repairs: masks, places among rising numbers, repairs with all before them. -/
import Derived.Test.YtkglfbcelaphhaaPvC
namespace Go.Gv
open Go Go.RowKit

/-! ### Masks -/

theorem ior_nat (a b : Nat) (ha : a < 2 ^ 62) (hb : b < 2 ^ 62) : ior .i64 (a : Int) (b : Int) = ((a ||| b : Nat) : Int) := by
  have h1 : a ||| b < 2 ^ 62 := Nat.or_lt_two_pow ha hb
  have e : (BitVec.ofInt 64 (a : Int) ||| BitVec.ofInt 64 (b : Int)).toNat = a ||| b := by
    rw [BitVec.ofInt_natCast, BitVec.ofInt_natCast, BitVec.toNat_or, BitVec.toNat_ofNat, BitVec.toNat_ofNat, Nat.mod_eq_of_lt (by omega), Nat.mod_eq_of_lt (by omega)]
  unfold ior
  show wI64 ((BitVec.ofInt 64 (a : Int) ||| BitVec.ofInt 64 (b : Int)).toNat : Int) = _
  rw [e, wI64_eq (by omega) (by omega)]

theorem iand_one (m : Nat) (hm : m < 2 ^ 62) : iand .i64 (m : Int) 1 = ((m % 2 : Nat) : Int) := by
  have e : (BitVec.ofInt 64 (m : Int) &&& BitVec.ofInt 64 (1 : Int)).toNat = m % 2 := by
    rw [show (1 : Int) = ((1 : Nat) : Int) from rfl, BitVec.ofInt_natCast, BitVec.ofInt_natCast, BitVec.toNat_and, BitVec.toNat_ofNat, BitVec.toNat_ofNat, Nat.mod_eq_of_lt (by omega), Nat.mod_eq_of_lt (by omega), Nat.and_one_is_mod]
  unfold iand
  show wI64 ((BitVec.ofInt 64 (m : Int) &&& BitVec.ofInt 64 (1 : Int)).toNat : Int) = _
  rw [e, wI64_eq (by omega) (by omega)]

theorem nat64 {m : Nat} (h : m < 2 ^ 62) : wI64 (m : Int) = (m : Int) := wI64_eq (by omega) (by omega)

theorem shl_one (k : Nat) (hk : k < 62) : shl .i64 1 (IntKind.u64.wrap (k : Int)) = some ((2 ^ k : Nat) : Int) := by
  rw [wU64_eq (by omega) (by omega)]
  unfold shl
  have h2 : (2 : Nat) ^ k < 2 ^ 62 := Nat.pow_lt_pow_right (by omega) hk
  have e : min (k : Int).toNat IntKind.i64.bits = k := by show min (k : Int).toNat 64 = k; omega
  rw [if_neg (by omega), e, Int.one_mul]
  have e2 : ((2 : Int) ^ k) = ((2 ^ k : Nat) : Int) := by simp
  rw [e2]
  exact congrArg some (nat64 h2)

theorem shr_nat (m k : Nat) (hk : k < 62) : shr .i64 (m : Int) (IntKind.u64.wrap (k : Int)) = some ((m / 2 ^ k : Nat) : Int) := by
  rw [wU64_eq (by omega) (by omega)]
  unfold shr
  have e : min (k : Int).toNat IntKind.i64.bits = k := by show min (k : Int).toNat 64 = k; omega
  rw [if_neg (by omega), e]
  have e2 : ((2 : Int) ^ k) = ((2 ^ k : Nat) : Int) := by simp
  rw [e2, ← Int.ofNat_fdiv]

theorem bit_eq (m k : Nat) : (((m / 2 ^ k % 2 : Nat) : Int) == 1) = m.testBit k := by
  rw [Nat.testBit_eq_decide_div_mod_eq]
  rcases Nat.mod_two_eq_zero_or_one (m / 2 ^ k) with h | h <;> rw [h] <;> rfl

theorem p_has (n m k : Nat) (hm : m < 2 ^ 62) (hk : k < 62) : m_impl_has n (m : Int) (k : Int) = some (m.testBit k) := by
  unfold m_impl_has
  have hd : m / 2 ^ k < 2 ^ 62 := Nat.lt_of_le_of_lt (Nat.div_le_self _ _) hm
  rw [shr_nat m k hk, Option.bind_some, iand_one _ hd, bit_eq]

def MaskIs (m : Nat) (S : List Int) : Prop := m < 2 ^ 62 ∧ ∀ k : Nat, k < 62 → m.testBit k = S.contains (k : Int)

theorem MaskIs.zero : MaskIs 0 [] := ⟨by decide, fun k _ => by simp⟩

theorem MaskIs.cons {m : Nat} {S : List Int} (h : MaskIs m S) {b : Nat} (hb : b < 62) : MaskIs (m ||| 2 ^ b) ((b : Int) :: S) := by
  refine ⟨Nat.or_lt_two_pow h.1 (Nat.pow_lt_pow_right (by omega) hb), fun k hk => ?_⟩
  rw [Nat.testBit_or, h.2 k hk, Nat.testBit_two_pow]
  by_cases e : b = k
  · subst e; simp
  · have e2 : ¬ ((k : Int) = (b : Int)) := by omega
    have e3 : ((k : Int) == (b : Int)) = false := by simp [e2]
    rw [List.contains_cons, e3]; simp [e]

theorem MaskIs.congr {m : Nat} {S S' : List Int} (h : MaskIs m S) (hS : ∀ x, x ∈ S ↔ x ∈ S') : MaskIs m S' :=
  ⟨h.1, fun k hk => by
    rw [h.2 k hk, Bool.eq_iff_iff, List.contains_iff_mem, List.contains_iff_mem]; exact hS _⟩

/-- Numbers are put into a mask. -/
theorem mask_loop (n : Nat) (body : Int × Int → Option (Step (Int × Int) Int)) (s : List Int) (hs : ∀ k ∈ s, 0 ≤ k ∧ k < 62) (hl : s.length ≤ 1048576)
    (hb : body = fun st => if (decide (st.2 < (s.length : Int))) then Option.bind (idx s st.2) fun x => Option.bind (shl .i64 1 (IntKind.u64.wrap x)) fun y => some (.next ((ior .i64 st.1 y), (wI64 (st.2 + 1)))) else some (.done st.1)) (hn : 1048576 < n)
    (m : Nat) (S : List Int) (hm : MaskIs m S) : ∃ m' : Nat, loopN body n ((m : Int), 0) = some (m' : Int) ∧ MaskIs m' (s ++ S) := by
  have key := loopN_fold (body := body) s (fun (b : Nat) k => b ||| 2 ^ k.toNat) m (fun i b => ((b : Int), (i : Int))) (fun b => (b : Int)) (fun i b => MaskIs b ((s.take i).reverse ++ S)) (by simpa using hm)
    (fun i x b hx hM => by
      have hlt := lt_of_get hx
      have hx2 := hs x (List.mem_of_getElem? hx)
      obtain ⟨k, rfl⟩ : ∃ k : Nat, x = (k : Int) := ⟨x.toNat, by omega⟩
      have hk : k < 62 := by omega
      refine ⟨?_, ?_⟩
      · rw [hb]
        simp only [ltB hlt, if_true, idx_nat, hx, Option.bind_some, shl_one k hk, ior_nat b (2 ^ k) hM.1 (Nat.pow_lt_pow_right (by omega) hk), succ64 hlt (by omega), Int.toNat_natCast]
      · have := hM.cons hk
        rw [List.take_add_one, hx]
        simpa using this)
    (fun b _ => by rw [hb]; simp) n (by omega)
  refine ⟨_, key.1, key.2.congr fun x => ?_⟩
  simp [List.take_length]

/-! ### Rising numbers -/

theorem sorted_ext : ∀ (a b : List Int), a.Pairwise (· < ·) → b.Pairwise (· < ·) → (∀ x, x ∈ a ↔ x ∈ b) → a = b
  | [], [], _, _, _ => rfl
  | [], y :: ys, _, _, h => by have := (h y).2 (by simp); simp at this
  | x :: xs, [], _, _, h => by have := (h x).1 (by simp); simp at this
  | x :: xs, y :: ys, ha, hb, h => by
    rw [List.pairwise_cons] at ha hb
    have hxy : x = y := by
      rcases List.mem_cons.1 ((h x).1 (by simp)) with e | e
      · exact e
      · rcases List.mem_cons.1 ((h y).2 (by simp)) with e2 | e2
        · exact e2.symm
        · have := hb.1 x e; have := ha.1 y e2; omega
    subst hxy
    congr 1
    refine sorted_ext xs ys ha.2 hb.2 fun z => ?_
    constructor
    · intro hz
      rcases List.mem_cons.1 ((h z).1 (by simp [hz])) with e | e
      · subst e; have := ha.1 z hz; omega
      · exact e
    · intro hz
      rcases List.mem_cons.1 ((h z).2 (by simp [hz])) with e | e
      · subst e; have := hb.1 z hz; omega
      · exact e

/-- A number's place among rising ones. -/
def putL (v : Int) : List Int → List Int
  | [] => [v]
  | x :: xs => if x ≥ v then (if x > v then v :: x :: xs else x :: xs) else x :: putL v xs

theorem putL_mem (v z : Int) : ∀ (l : List Int), z ∈ putL v l ↔ z = v ∨ z ∈ l
  | [] => by simp [putL]
  | x :: xs => by
    unfold putL
    by_cases h : x ≥ v
    · by_cases h2 : x > v
      · simp [h, h2]
      · have e : x = v := by omega
        subst e; simp
    · simp only [h, if_false, List.mem_cons, putL_mem v z xs]
      constructor
      · rintro (h | h | h) <;> simp [h]
      · rintro (h | h | h) <;> simp [h]

theorem putL_sorted (v : Int) : ∀ (l : List Int), l.Pairwise (· < ·) → (putL v l).Pairwise (· < ·)
  | [], _ => by simp [putL]
  | x :: xs, h => by
    have h' := h
    rw [List.pairwise_cons] at h
    unfold putL
    by_cases h1 : x ≥ v
    · by_cases h2 : x > v
      · simp only [h1, h2, if_true]
        rw [List.pairwise_cons]
        refine ⟨fun z hz => ?_, h'⟩
        rcases List.mem_cons.1 hz with rfl | hz
        · omega
        · have := h.1 z hz; omega
      · simp only [h1, h2, if_true, if_false]; exact h'
    · simp only [h1, if_false]
      rw [List.pairwise_cons]
      refine ⟨fun z hz => ?_, putL_sorted v xs h.2⟩
      rcases (putL_mem v z xs).1 hz with rfl | hz
      · omega
      · exact h.1 z hz

theorem putL_len (v : Int) : ∀ (l : List Int), putL v l = l ∨ (putL v l).length = l.length + 1
  | [] => by simp [putL]
  | x :: xs => by
    unfold putL
    by_cases h1 : x ≥ v
    · by_cases h2 : x > v
      · simp [h1, h2]
      · left; simp [h1, h2]
    · simp only [h1, if_false]
      rcases putL_len v xs with h | h
      · left; rw [h]
      · right; simp [h]

theorem putL_same (v : Int) {l : List Int} (hs : l.Pairwise (· < ·)) (h : v ∈ l) : putL v l = l :=
  sorted_ext _ _ (putL_sorted v l hs) hs fun x => by rw [putL_mem]; exact ⟨fun h' => h'.elim (fun e => e ▸ h) id, .inr⟩

def putF (v : Int) (b : List Int × Bool) (x : Int) : List Int × Bool := if (!b.2 && decide (x ≥ v)) then ((if x > v then b.1 ++ [v] else b.1) ++ [x], true) else (b.1 ++ [x], b.2)

theorem putF_done (v : Int) : ∀ (l o : List Int), l.foldl (putF v) (o, true) = (o ++ l, true)
  | [], o => by simp
  | x :: xs, o => by simp only [List.foldl_cons]; rw [show putF v (o, true) x = (o ++ [x], true) from rfl, putF_done v xs]; simp

def finF (v : Int) (b : List Int × Bool) : List Int := if b.2 then b.1 else b.1 ++ [v]

theorem putF_fold (v : Int) : ∀ (l o : List Int), finF v (l.foldl (putF v) (o, false)) = o ++ putL v l
  | [], o => by simp [putL, finF]
  | x :: xs, o => by
    rw [List.foldl_cons]
    unfold putL
    by_cases h1 : x ≥ v
    · have e : putF v (o, false) x = ((if x > v then o ++ [v] else o) ++ [x], true) := by unfold putF; simp [h1]
      rw [e, putF_done]
      by_cases h2 : x > v <;> simp [h1, h2, finF]
    · have e : putF v (o, false) x = (o ++ [x], false) := by unfold putF; simp [h1]
      rw [e, putF_fold v xs]
      simp [h1]

theorem p_l00Put (n : Nat) (l : List Int) (v : Int) (hl : l.length ≤ 1048576) (hn : 1048576 < n) : m_spec_l00Put n l v = some (putL v l) := by
  unfold m_spec_l00Put
  have key := loopN_fold (body := m_spec_l00Put_l1 n l v) l (putF v) (([] : List Int), false) (fun i b => (b.1, b.2, (i : Int))) id (fun i b => b.1.length ≤ i + 1 ∧ (b.2 = false → b.1.length ≤ i)) (by simp)
    (fun i x b hx hb => by
      obtain ⟨o, d⟩ := b
      have hlt := lt_of_get hx
      simp only at hb
      have a3 : app o [x] = some (o ++ [x]) := app_eq (by simp; omega)
      unfold m_spec_l00Put_l1 putF
      simp only [ltB hlt, if_true, idx_nat, hx, Option.bind_some, succ64 hlt (by omega)]
      cases d with
      | true => simp only [Bool.not_true, Bool.false_eq_true, if_false, Bool.false_and, Option.bind_some, a3]; simp; omega
      | false =>
        have ho := hb.2 rfl
        have a1 : app o [v] = some (o ++ [v]) := app_eq (by simp; omega)
        have a2 : app (o ++ [v]) [x] = some (o ++ [v] ++ [x]) := app_eq (by simp; omega)
        by_cases h1 : x ≥ v
        · by_cases h2 : x > v
          · simp only [Bool.not_false, if_true, h1, h2, decide_true, Bool.and_self, Option.bind_some, a1, a2]; simp; omega
          · simp only [Bool.not_false, if_true, h1, h2, decide_true, decide_false, Bool.and_self, Option.bind_some, Bool.false_eq_true, if_false, a3]; simp; omega
        · simp only [Bool.not_false, if_true, h1, decide_false, Bool.and_false, Bool.false_eq_true, if_false, Option.bind_some, a3]; simp; omega)
    (fun b _ => by unfold m_spec_l00Put_l1; simp) n (by omega)
  have k1 : loopN (m_spec_l00Put_l1 n l v) n (([] : List Int), false, 0) = _ := key.1
  have k2 := putF_fold v l []
  have k3 := key.2
  rw [k1]
  generalize l.foldl (putF v) (([] : List Int), false) = b at k2 k3
  obtain ⟨o, d⟩ := b
  simp only [id, Option.bind_some] at k2 k3 ⊢
  cases d with
  | true => simp only [finF, if_true, List.nil_append] at k2; simp [k2]
  | false =>
    have a1 : app o [v] = some (o ++ [v]) := app_eq (by simp; omega)
    simp only [finF, Bool.false_eq_true, if_false, List.nil_append] at k2
    simp only [Bool.not_false, if_true, a1, Option.bind_some, k2]

/-! ### Repairs with all before them -/

def putAllL (F S : List Int) : List Int := F.foldl (fun o b => putL b o) S

theorem putAllL_mem (z : Int) : ∀ (F S : List Int), z ∈ putAllL F S ↔ z ∈ F ∨ z ∈ S
  | [], S => by simp [putAllL]
  | b :: F, S => by
    show z ∈ putAllL F (putL b S) ↔ _
    rw [putAllL_mem z F, putL_mem, List.mem_cons]
    constructor
    · rintro (h | h | h) <;> simp [h]
    · rintro ((h | h) | h) <;> simp [h]

theorem putAllL_sorted : ∀ (F S : List Int), S.Pairwise (· < ·) → (putAllL F S).Pairwise (· < ·)
  | [], _, h => h
  | b :: F, S, h => putAllL_sorted F (putL b S) (putL_sorted b S h)

theorem putAllL_len : ∀ (F S : List Int), putAllL F S = S ∨ S.length < (putAllL F S).length
  | [], S => .inl rfl
  | b :: F, S => by
    show putAllL F (putL b S) = S ∨ S.length < (putAllL F (putL b S)).length
    rcases putL_len b S with h | h
    · rw [h]; exact putAllL_len F S
    · rcases putAllL_len F (putL b S) with h2 | h2
      · right; rw [h2]; omega
      · right; omega

def stepW (l : List SRepair) (i : Nat) (S : List Int) : List Int := if S.contains (i : Int) then putAllL (l.getD i rD).First S else S
/-- The repairs below the i-th are looked at, the last first. -/
def withL (l : List SRepair) : Nat → List Int → List Int
  | 0, S => S
  | i + 1, S => withL l i (stepW l i S)

theorem stepW_sm {l : List SRepair} (hl : Vr l) {S : List Int} (hS : Sm l S) {i : Nat} (hi : i < l.length) : Sm l (stepW l i S) := by
  unfold stepW
  split
  · refine ⟨fun k hk => ?_, putAllL_sorted _ _ hS.inc⟩
    rcases (putAllL_mem k _ _).1 hk with h | h
    · have := (hl.first i _ (getD_of hi rD)).1 k h; omega
    · exact hS.mem k h
  · exact hS

theorem stepW_sub (l : List SRepair) (i : Nat) (S : List Int) (x : Int) (hx : x ∈ S) : x ∈ stepW l i S := by
  unfold stepW; split
  · exact (putAllL_mem x _ _).2 (.inr hx)
  · exact hx

theorem withL_sm {l : List SRepair} (hl : Vr l) : ∀ (i : Nat) (S : List Int), i ≤ l.length → Sm l S → Sm l (withL l i S)
  | 0, _, _, h => h
  | i + 1, S, hi, h => withL_sm hl i _ (by omega) (stepW_sm hl h (by omega))

theorem withL_sub (l : List SRepair) (x : Int) : ∀ (i : Nat) (S : List Int), x ∈ S → x ∈ withL l i S
  | 0, _, h => h
  | i + 1, S, h => withL_sub l x i _ (stepW_sub l i S x h)

theorem withL_low {l : List SRepair} (hl : Vr l) (x : Int) : ∀ (i : Nat) (S : List Int), i ≤ l.length → x ∈ withL l i S → x ∈ S ∨ (0 ≤ x ∧ x < (i : Int))
  | 0, _, _, h => .inl h
  | i + 1, S, hi, h => by
    rcases withL_low hl x i _ (by omega) h with h | h
    · unfold stepW at h
      split at h
      · rcases (putAllL_mem x _ _).1 h with h | h
        · have := (hl.first i _ (getD_of (by omega) rD)).1 x h; exact .inr (by omega)
        · exact .inl h
      · exact .inl h
    · exact .inr (by omega)

theorem withL_len (l : List SRepair) : ∀ (i : Nat) (S : List Int), withL l i S = S ∨ S.length < (withL l i S).length
  | 0, _ => .inl rfl
  | i + 1, S => by
    show withL l i (stepW l i S) = S ∨ S.length < (withL l i (stepW l i S)).length
    have h1 : stepW l i S = S ∨ S.length < (stepW l i S).length := by
      unfold stepW; split
      · exact putAllL_len _ _
      · exact .inl rfl
    have h2 := withL_len l i (stepW l i S)
    rcases h1 with h1 | h1
    · rw [h1] at h2 ⊢; exact h2
    · rcases h2 with h2 | h2
      · right; rw [h2]; exact h1
      · right; omega

def closedB (l : List SRepair) (s : List Int) : Bool := s.all fun k => (l.getD k.toNat rD).First.all fun b => s.contains b

theorem withL_same {l : List SRepair} {s : List Int} (hs : s.Pairwise (· < ·)) (hc : closedB l s = true) : ∀ i, withL l i s = s
  | 0 => rfl
  | i + 1 => by
    have e : stepW l i s = s := by
      unfold stepW
      split
      · rename_i h
        rw [List.contains_iff_mem] at h
        unfold closedB at hc
        rw [List.all_eq_true] at hc
        have h2 := hc _ h
        rw [List.all_eq_true] at h2
        have : ∀ (F : List Int), (∀ b ∈ F, b ∈ s) → putAllL F s = s := by
          intro F
          induction F with
          | nil => intro _; rfl
          | cons b F ih =>
            intro hF
            show putAllL F (putL b s) = s
            rw [putL_same b hs (hF b (by simp))]
            exact ih fun x hx => hF x (by simp [hx])
        refine this _ fun b hb => ?_
        have := h2 b (by simpa using hb)
        rwa [List.contains_iff_mem] at this
      · rfl
    show withL l i (stepW l i s) = s
    rw [e]; exact withL_same hs hc i

theorem withL_has {l : List SRepair} {b : Int} {k : Nat} (hb : b ∈ (l.getD k rD).First) : ∀ (i : Nat) (S : List Int), k < i → (k : Int) ∈ S → b ∈ withL l i S
  | 0, _, h, _ => by omega
  | i + 1, S, h, hk => by
    show b ∈ withL l i (stepW l i S)
    by_cases e : k = i
    · subst e
      refine withL_sub l b k _ ?_
      unfold stepW
      rw [if_pos (by rw [List.contains_iff_mem]; exact hk)]
      exact (putAllL_mem b _ _).2 (.inl hb)
    · exact withL_has hb i _ (by omega) (stepW_sub l i S _ hk)

/-- As many as before: then all before them were there. -/
theorem withL_closed {l : List SRepair} {s : List Int} (hs : Sm l s) : ((withL l l.length s).length == s.length) = closedB l s := by
  rw [Bool.eq_iff_iff, beq_iff_eq]
  constructor
  · intro h
    have e : withL l l.length s = s := by
      rcases withL_len l l.length s with h2 | h2
      · exact h2
      · omega
    unfold closedB
    rw [List.all_eq_true]
    intro k hk
    rw [List.all_eq_true]
    intro b hb
    rw [List.contains_iff_mem]
    have hkm := hs.mem k hk
    have := withL_has hb l.length s (by omega) (by rw [show ((k.toNat : Nat) : Int) = k by omega]; exact hk)
    rwa [e] at this
  · intro h; rw [withL_same hs.inc h]

theorem Sm.short {l : List SRepair} {s : List Int} (hl : Vr l) (h : Sm l s) : s.length ≤ 10 := Nat.le_trans h.len hl.len

theorem p_l21With (n : Nat) (l : List SRepair) (s : List Int) (hl : Vr l) (hs : Sm l s) (hn : 1048576 < n) : m_spec_l21With n l s = some (withL l l.length s) := by
  have hll := hl.len
  have inner : ∀ (i : Nat) (S : List Int), i < l.length → Sm l S → S.contains (i : Int) = true → loopN (m_spec_l21With_l3 n l (S, (i : Int))) n (S, 0) = some (putAllL (l.getD i rD).First S) := by
    intro i S hi hS hc
    have hg : l[i]? = some (l.getD i rD) := getD_of hi rD
    have hF := hl.first i _ hg
    have hFl := inc_len (l.getD i rD).First 0 i (fun k hk => hF.1 k hk) hF.2
    have key := loopN_fold (body := m_spec_l21With_l3 n l (S, (i : Int))) (l.getD i rD).First (fun o b => putL b o) S (fun j o => (o, (j : Int))) id (fun _ o => Sm l o) hS
      (fun j b o hb ho => by
        have hlt := lt_of_get hb
        have hsh := ho.short hl
        unfold m_spec_l21With_l3
        refine ⟨?_, fun k hk => ?_, putL_sorted b o ho.inc⟩
        · simp only [idx_nat l i, hg, Option.bind_some, ltB hlt, if_true, idx_nat, hb, p_l00Put n o b (by omega) hn, succ64 hlt (by omega)]
        · rcases (putL_mem b k o).1 hk with rfl | h
          · have := hF.1 k (List.mem_of_getElem? hb); omega
          · exact ho.mem k h)
      (fun o _ => by unfold m_spec_l21With_l3; simp only [idx_nat l i, hg, Option.bind_some, ltB_self]; rfl) n (by omega)
    exact key.1
  have outer : ∀ (i : Nat) (S : List Int) (f : Nat), i ≤ l.length → Sm l S → i < f → loopN (m_spec_l21With_l1 n l) f (S, (i : Int) - 1) = some (withL l i S) := by
    intro i
    induction i with
    | zero =>
      intro S f _ _ hf
      obtain ⟨f, rfl⟩ : ∃ g, f = g + 1 := ⟨f - 1, by omega⟩
      unfold loopN m_spec_l21With_l1; simp [withL]
    | succ i ih =>
      intro S f hi hS hf
      obtain ⟨f, rfl⟩ : ∃ g, f = g + 1 := ⟨f - 1, by omega⟩
      have hsh := hS.short hl
      have e : ((i + 1 : Nat) : Int) - 1 = (i : Int) := by omega
      have hge : decide ((i : Int) ≥ 0) = true := decide_eq_true (by omega)
      have hstep : m_spec_l21With_l1 n l (S, (i : Int)) = some (.next (stepW l i S, (i : Int) - 1)) := by
        unfold m_spec_l21With_l1 stepW
        simp only [hge, if_true, p_l00Has n S _ (by omega) hn, Option.bind_some, pred64 (show i ≤ 1048576 by omega)]
        cases hc : S.contains (i : Int) with
        | true => simp only [if_true, inner i S (by omega) hS hc, Option.bind_some]
        | false => simp
      unfold loopN
      rw [e, hstep]
      exact ih (stepW l i S) f (by omega) (stepW_sm hl hS (by omega)) (by omega)
  have hsh := hs.short hl
  unfold m_spec_l21With m_spec_l00Own
  rw [app_eq (by simp; omega), pred64 (by omega)]
  simp only [Option.bind_some, List.nil_append]
  rw [outer l.length s n (Nat.le_refl _) hs (by omega)]; rfl

end Go.Gv
