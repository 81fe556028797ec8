/- Plain laws of repairs: the cheapest repairs, and whether they are worth it. -/
import Derived.Test.YtkglfbcelaphhaaPvE
namespace Go.Gv
open Go Go.RowKit

/-- The repairs of a mask. -/
def ownL (N : Nat) (m : Nat) : List Int := ((List.range N).filter (fun i => m.testBit i)).map (fun i : Nat => (i : Int))

theorem ownL_sm {l : List SRepair} (m : Nat) : Sm l (ownL l.length m) := by
  refine ⟨fun k hk => ?_, ?_⟩
  · unfold ownL at hk
    rw [List.mem_map] at hk
    obtain ⟨i, hi, rfl⟩ := hk
    rw [List.mem_filter, List.mem_range] at hi
    omega
  · unfold ownL
    rw [List.pairwise_map]
    exact (List.pairwise_lt_range.filter _).imp (fun h => by omega)

def lessL : List Int → List Int → Bool
  | x :: xs, y :: ys => if x = y then lessL xs ys else decide (x < y)
  | _, _ => false

theorem runL_less : ∀ (a b : List Int) (i : Nat), a.length = b.length →
    (match runL (fun _ (u : Unit) (p : Int × Int) => if p.1 = p.2 then .ok u else .error (decide (p.1 < p.2))) i (a.zip b) () with | .ok _ => false | .error t => t) = lessL a b
  | [], [], _, _ => rfl
  | x :: xs, y :: ys, i, h => by
    have ih := runL_less xs ys (i + 1) (by simpa using h)
    simp only [List.zip_cons_cons, runL, lessL]
    by_cases e : x = y
    · simp only [e, if_true]; exact ih
    · simp only [e, if_false]
  | [], _ :: _, _, h => by simp at h
  | _ :: _, [], _, h => by simp at h

theorem p_l21Less (n : Nat) (a b : List Int) (hl : a.length = b.length) (ha : a.length ≤ 1048576) (hn : 1048576 < n) : m_spec_l21Less n a b = some (lessL a b) := by
  unfold m_spec_l21Less
  have key := loopN_runL (body := m_spec_l21Less_l1 n a b) (a.zip b) (fun _ (u : Unit) (p : Int × Int) => if p.1 = p.2 then .ok u else .error (.inr (decide (p.1 < p.2)))) () (fun i _ => (i : Int)) (fun _ => .inl ()) (fun _ _ => True) trivial
    (fun i p u hp _ => by
      rw [List.getElem?_zip_eq_some] at hp
      have hlt := lt_of_get hp.1
      by_cases e : p.1 = p.2
      · simp only [e, if_true]
        unfold m_spec_l21Less_l1
        simp only [ltB hlt, if_true, idx_nat, hp.1, hp.2, Option.bind_some, e, bne_self_eq_false, Bool.false_eq_true, if_false, succ64 hlt (by omega), and_self]
      · simp only [e, if_false]
        have hne : (p.1 != p.2) = true := by simp [bne, e]
        unfold m_spec_l21Less_l1
        simp only [ltB hlt, if_true, idx_nat, hp.1, hp.2, Option.bind_some, hne])
    (fun u _ => by unfold m_spec_l21Less_l1; simp [hl]) n (by simp; omega)
  have k1 : loopN (m_spec_l21Less_l1 n a b) n 0 = _ := key.1
  rw [k1, ← runL_less a b 0 hl]
  have conv : ∀ (ps : List (Int × Int)) (i : Nat), (runL (fun _ (u : Unit) (p : Int × Int) => if p.1 = p.2 then Except.ok u else Except.error (Sum.inr (decide (p.1 < p.2)) : Unit ⊕ Bool)) i ps () = .ok () ∧ runL (fun _ (u : Unit) (p : Int × Int) => if p.1 = p.2 then Except.ok u else Except.error (decide (p.1 < p.2))) i ps () = .ok ()) ∨
      ∃ t, runL (fun _ (u : Unit) (p : Int × Int) => if p.1 = p.2 then Except.ok u else Except.error (Sum.inr (decide (p.1 < p.2)) : Unit ⊕ Bool)) i ps () = .error (.inr t) ∧ runL (fun _ (u : Unit) (p : Int × Int) => if p.1 = p.2 then Except.ok u else Except.error (decide (p.1 < p.2))) i ps () = .error t := by
    intro ps
    induction ps with
    | nil => intro i; exact .inl ⟨rfl, rfl⟩
    | cons p ps ih =>
      intro i
      simp only [runL]
      by_cases e : p.1 = p.2
      · simp only [e, if_true]; exact ih (i + 1)
      · simp only [e, if_false]; exact .inr ⟨_, rfl, rfl⟩
  rcases conv (a.zip b) 0 with ⟨h1, h2⟩ | ⟨t, h1, h2⟩ <;> rw [h1, h2] <;> rfl

def cmpI (x y : Int) : Int := if x < y then -1 else if x > y then 1 else 0

theorem p_cmp (n : Nat) (x y : Int) : m_cmp_Compare_int64 n x y = some (cmpI x y) := by
  unfold m_cmp_Compare_int64 m_cmp_isNaN_int64 cmpI
  by_cases h1 : x < y <;> by_cases h2 : x > y <;> simp [h1, h2]

theorem p_Compare (n : Nat) (a b : List Int) (hl : a.length = b.length) (ha : a.length ≤ 1048576) (hn : 1048576 < n) : ∃ v, m_slices_Compare_int64_int64 n a b = some v ∧ decide (v < 0) = lessL a b := by
  unfold m_slices_Compare_int64_int64
  have key := loopN_runL (body := m_slices_Compare_int64_int64_l1 n a b) (a.zip b) (fun _ (u : Unit) (p : Int × Int) => if p.1 = p.2 then .ok u else .error (.inr (cmpI p.1 p.2))) () (fun i _ => (i : Int)) (fun _ => .inl ()) (fun _ _ => True) trivial
    (fun i p u hp _ => by
      rw [List.getElem?_zip_eq_some] at hp
      have hlt := lt_of_get hp.1
      have hge : decide ((i : Int) ≥ (b.length : Int)) = false := decide_eq_false (by omega)
      by_cases e : p.1 = p.2
      · simp only [e, if_true]
        unfold m_slices_Compare_int64_int64_l1
        have hc : cmpI p.2 p.2 = 0 := by unfold cmpI; simp
        simp only [ltB hlt, if_true, idx_nat, hp.1, hp.2, Option.bind_some, hge, p_cmp, e, hc, bne_self_eq_false, Bool.false_eq_true, if_false, succ64 hlt (by omega), and_self]
      · simp only [e, if_false]
        have hc : (cmpI p.1 p.2 != 0) = true := by
          unfold cmpI
          by_cases h1 : p.1 < p.2
          · simp [h1]
          · have h2 : p.1 > p.2 := by omega
            simp [h1, h2]
        unfold m_slices_Compare_int64_int64_l1
        simp only [ltB hlt, if_true, idx_nat, hp.1, hp.2, Option.bind_some, hge, p_cmp, hc, Bool.false_eq_true, if_false])
    (fun u _ => by unfold m_slices_Compare_int64_int64_l1; simp [hl]) n (by simp; omega)
  have k1 : loopN (m_slices_Compare_int64_int64_l1 n a b) n 0 = _ := key.1
  rw [k1]
  have conv : ∀ (a b : List Int) (i : Nat), a.length = b.length → (runL (fun _ (u : Unit) (p : Int × Int) => if p.1 = p.2 then Except.ok u else Except.error (Sum.inr (cmpI p.1 p.2) : Unit ⊕ Int)) i (a.zip b) () = .ok () ∧ lessL a b = false) ∨
      ∃ v, runL (fun _ (u : Unit) (p : Int × Int) => if p.1 = p.2 then Except.ok u else Except.error (Sum.inr (cmpI p.1 p.2) : Unit ⊕ Int)) i (a.zip b) () = .error (.inr v) ∧ decide (v < 0) = lessL a b := by
    intro a
    induction a with
    | nil => intro b i h; exact .inl ⟨rfl, rfl⟩
    | cons x xs ih =>
      intro b i h
      cases b with
      | nil => simp at h
      | cons y ys =>
        simp only [List.zip_cons_cons, runL, lessL]
        by_cases e : x = y
        · simp only [e, if_true]; exact ih ys (i + 1) (by simpa using h)
        · simp only [e, if_false]
          refine .inr ⟨_, rfl, ?_⟩
          unfold cmpI
          by_cases h1 : x < y
          · simp [h1]
          · have h2 : x > y := by omega
            simp [h1, h2]
  have hlt : decide ((a.length : Int) < (b.length : Int)) = false := decide_eq_false (by omega)
  rcases conv a b 0 hl with ⟨h1, h2⟩ | ⟨v, h1, h2⟩
  · refine ⟨0, ?_, by rw [h2]; rfl⟩
    rw [h1]
    simp only [Option.bind_some, hlt, Bool.false_eq_true, if_false]
  · exact ⟨v, by rw [h1]; rfl, h2⟩

def betterB (l : List SRepair) (best own : List Int) : Bool :=
  decide (sumL (·.Price) l own < sumL (·.Price) l best) || (sumL (·.Price) l own == sumL (·.Price) l best && (decide (own.length < best.length) || (own.length == best.length && lessL own best)))
def pickF (l : List SRepair) (f : List Int) (b : Option (List Int)) (m : Nat) : Option (List Int) :=
  if allB l (ownL l.length m) f then (match b with | none => some (ownL l.length m) | some best => if betterB l best (ownL l.length m) then some (ownL l.length m) else some best) else b
def cheapL (l : List SRepair) (f : List Int) : Option (List Int) := (List.range (2 ^ l.length)).foldl (pickF l f) none

def okO (l : List SRepair) : Option (List Int) → Prop
  | none => True
  | some b => Sm l b

theorem pickF_ok {l : List SRepair} {f : List Int} {b : Option (List Int)} (h : okO l b) (m : Nat) : okO l (pickF l f b m) := by
  unfold pickF
  split
  · cases b with
    | none => exact ownL_sm m
    | some best => simp only; split
                   · exact ownL_sm m
                   · exact h
  · exact h

theorem cheapL_ok (l : List SRepair) (f : List Int) : okO l (cheapL l f) := by
  unfold cheapL
  have : ∀ (xs : List Nat) (b : Option (List Int)), okO l b → okO l (xs.foldl (pickF l f) b) := by
    intro xs
    induction xs with
    | nil => exact fun b h => h
    | cons m xs ih => exact fun b h => ih _ (pickF_ok h m)
  exact this _ _ trivial

def specO : Option (List Int) → List Int × Bool
  | none => ([], false)
  | some b => (b, true)
def implO (l : List SRepair) : Option (List Int) → List Int × Int
  | none => ([], -1)
  | some b => (b, sumL (·.Price) l b)

theorem pow_small {N : Nat} (h : N ≤ 10) : 2 ^ N ≤ 1024 := by
  have : 2 ^ N ≤ 2 ^ 10 := Nat.pow_le_pow_right (by omega) h
  exact this

theorem len_eqI (a b : List Int) : ((a.length : Int) == (b.length : Int)) = (a.length == b.length) := by
  by_cases h : a.length = b.length
  · rw [h]; simp
  · have h3 : ¬ ((a.length : Int) = (b.length : Int)) := by omega
    rw [beq_eq_false_iff_ne.2 h, beq_eq_false_iff_ne.2 h3]

theorem p_l21Cheapest (n : Nat) (l : List SRepair) (f : List Int) (hl : Vr l) (hf : f.length ≤ 1048576) (hn : 1048576 < n) : m_spec_l21Cheapest n l f = some (specO (cheapL l f)) := by
  have hll := hl.len
  have hp := pow_small hll
  unfold m_spec_l21Cheapest
  have key := loopN_fold (body := m_spec_l21Cheapest_l1 n l f) (List.range (2 ^ l.length)) (pickF l f) none (fun i b => ((specO b).1, (specO b).2, (i : Int))) specO (fun _ b => okO l b) trivial
    (fun i m b hm hb => by
      have hi : i < 2 ^ l.length := by have := lt_of_get hm; simpa using this
      obtain rfl : m = i := by rw [List.getElem?_range hi] at hm; exact (Option.some.inj hm).symm
      refine ⟨?_, pickF_ok hb m⟩
      have inner := loopN_keep (body := m_spec_l21Cheapest_l2 n l ((specO b).1, (specO b).2, (m : Int))) l.length (fun i => m.testBit i) (fun i : Nat => (i : Int)) id
        (fun k o hk ho => by
          unfold m_spec_l21Cheapest_l2
          have hd : m / 2 ^ k < 2 ^ 62 := Nat.lt_of_le_of_lt (Nat.div_le_self _ _) (by omega)
          simp only [ltB hk, if_true, shr_nat m k (by omega), Option.bind_some, iand_one _ hd, bit_eq, succ64 hk (by omega)]
          rw [app_eq (by simp; omega)]
          cases m.testBit k <;> rfl)
        (fun o _ => by unfold m_spec_l21Cheapest_l2; simp) n (by omega)
      have inner' : loopN (m_spec_l21Cheapest_l2 n l ((specO b).1, (specO b).2, (m : Int))) n (([] : List Int), 0) = some (ownL l.length m) := inner
      have hown := ownL_sm (l := l) m
      have hbm : Sm l (specO b).1 := by cases b with | none => exact ⟨fun k hk => by simp [specO] at hk, by simp [specO]⟩ | some b => exact hb
      unfold m_spec_l21Cheapest_l1
      have hlt2 : decide ((m : Int) < ((2 ^ l.length : Nat) : Int)) = true := decide_eq_true (by omega)
      simp only [shl_one l.length (by omega), Option.bind_some, hlt2, if_true, inner', p_l21All n l _ f hl hown hf hn, p_specPrice n l _ hl hown hn, p_specPrice n l _ hl hbm hn, succ64 hi (by omega), len_eqI]
      unfold pickF
      cases allB l (ownL l.length m) f with
      | false => rfl
      | true =>
        cases b with
        | none => rfl
        | some best =>
          simp only [specO, betterB, Bool.not_true, Bool.false_eq_true, if_false, if_true]
          by_cases c1 : sumL (·.Price) l (ownL l.length m) < sumL (·.Price) l best
          · simp [c1]
          · by_cases c2 : sumL (·.Price) l (ownL l.length m) = sumL (·.Price) l best
            · by_cases c3 : (ownL l.length m).length < best.length
              · have c3' : decide (((ownL l.length m).length : Int) < (best.length : Int)) = true := decide_eq_true (by omega)
                simp [c2, c3]
              · by_cases c4 : (ownL l.length m).length = best.length
                · have h1 := hown.short hl
                  by_cases c5 : lessL (ownL l.length m) best = true <;> simp [p_l21Less n _ best c4 (by omega) hn, c2, c4, c5]
                · simp [c2, c3, c4]
            · simp [c1, c2])
    (fun b _ => by
      unfold m_spec_l21Cheapest_l1
      simp only [shl_one l.length (by omega), Option.bind_some, List.length_range, ltB_self]
      rfl) n (by simp; omega)
  have k1 : loopN (m_spec_l21Cheapest_l1 n l f) n (([] : List Int), false, 0) = _ := key.1
  rw [k1]; rfl

theorem p_implCheapLoop (n : Nat) (l : List SRepair) (f : List Int) (hl : Vr l) (hf : f.length ≤ 1048576) (hn : 1048576 < n) :
    loopN (m_impl_CheapestRepairs_l1 n l f ((2 ^ l.length : Nat) : Int)) n (([] : List Int), (-1), 0) = some (implO l (cheapL l f)) := by
  have hll := hl.len
  have hp := pow_small hll
  have key := loopN_fold (body := m_impl_CheapestRepairs_l1 n l f ((2 ^ l.length : Nat) : Int)) (List.range (2 ^ l.length)) (pickF l f) none (fun i b => ((implO l b).1, (implO l b).2, (i : Int))) (implO l) (fun _ b => okO l b) trivial
    (fun i m b hm hb => by
      have hi : i < 2 ^ l.length := by have := lt_of_get hm; simpa using this
      obtain rfl : m = i := by rw [List.getElem?_range hi] at hm; exact (Option.some.inj hm).symm
      refine ⟨?_, pickF_ok hb m⟩
      have inner := loopN_keep (body := m_impl_CheapestRepairs_l2 n l ((implO l b).1, (implO l b).2, (m : Int))) l.length (fun i => m.testBit i) (fun i : Nat => (i : Int)) id
        (fun k o hk ho => by
          unfold m_impl_CheapestRepairs_l2
          simp only [ltB hk, if_true, p_has n m k (by omega) (by omega), Option.bind_some, succ64 hk (by omega)]
          rw [app_eq (by simp; omega)]
          cases m.testBit k <;> rfl)
        (fun o _ => by unfold m_impl_CheapestRepairs_l2; simp) n (by omega)
      have inner' : loopN (m_impl_CheapestRepairs_l2 n l ((implO l b).1, (implO l b).2, (m : Int))) n (([] : List Int), 0) = some (ownL l.length m) := inner
      have hown := ownL_sm (l := l) m
      unfold m_impl_CheapestRepairs_l1
      have hlt2 : decide ((m : Int) < ((2 ^ l.length : Nat) : Int)) = true := decide_eq_true (by omega)
      simp only [hlt2, if_true, inner', Option.bind_some, p_mendsAll n l _ f hl hown hf hn, p_implPrice n l _ hl hown hn, succ64 hi (by omega), len_eqI]
      unfold pickF
      cases allB l (ownL l.length m) f with
      | false => rfl
      | true =>
        cases b with
        | none => rfl
        | some best =>
          have hb0 := (sumL_bound hl hb).1
          have hneg : ¬ sumL (·.Price) l best < 0 := by omega
          simp only [implO, betterB, Bool.not_true, Bool.false_eq_true, if_false, if_true, hneg, decide_false]
          by_cases c1 : sumL (·.Price) l (ownL l.length m) < sumL (·.Price) l best
          · simp [c1]
          · by_cases c2 : sumL (·.Price) l (ownL l.length m) = sumL (·.Price) l best
            · by_cases c3 : (ownL l.length m).length < best.length
              · have c3' : decide (((ownL l.length m).length : Int) < (best.length : Int)) = true := decide_eq_true (by omega)
                simp [c2, c3]
              · by_cases c4 : (ownL l.length m).length = best.length
                · have h1 := hown.short hl
                  obtain ⟨v, hv1, hv2⟩ := p_Compare n (ownL l.length m) best c4 (by omega) hn
                  by_cases c5 : lessL (ownL l.length m) best = true
                  · rw [c5] at hv2
                    have c6 := of_decide_eq_true hv2
                    simp [hv1, c2, c4, c5, c6]
                  · rw [Bool.not_eq_true] at c5
                    rw [c5] at hv2
                    have c6 := of_decide_eq_false hv2
                    simp [hv1, c2, c4, c5, c6]
                · simp [c2, c3, c4]
            · simp [c1, c2])
    (fun b _ => by
      unfold m_impl_CheapestRepairs_l1
      simp only [List.length_range, ltB_self]
      rfl) n (by simp; omega)
  exact key.1

def cheapB (l : List SRepair) (f : List Int) : List Int × Int := if codeB l [] f = 0 then (match cheapL l f with | none => ([], 3) | some b => (b, 0)) else ([], codeB l [] f)

theorem p_specCheapest (n : Nat) (l : List SRepair) (f : List Int) (hl : smallR l) (hf : f.length ≤ 1048576) (hn : 1048576 < n) : m_spec_CheapestRepairs n l f = some (cheapB l f) := by
  unfold m_spec_CheapestRepairs cheapB
  simp only [p_l21Faults n l [] f hl (by simp) hf hn, Option.bind_some]
  by_cases h : codeB l [] f = 0
  · obtain ⟨h1, -, -⟩ := code0 h
    simp only [h, bne_self_eq_false, Bool.false_eq_true, if_false, p_l21Cheapest n l f h1 hf hn, Option.bind_some, if_true]
    cases cheapL l f <;> rfl
  · have hb : (codeB l [] f != 0) = true := by simp [bne, h]
    simp only [hb, h, if_true, if_false]

theorem p_implCheapest (n : Nat) (l : List SRepair) (f : List Int) (hl : smallR l) (hf : f.length ≤ 1048576) (hn : 1048576 < n) : m_impl_CheapestRepairs n l f = some (cheapB l f) := by
  unfold m_impl_CheapestRepairs cheapB
  simp only [p_someCode n l [] f hl (by simp) hf hn, Option.bind_some]
  by_cases h : codeB l [] f = 0
  · obtain ⟨h1, -, -⟩ := code0 h
    have hll := h1.len
    simp only [h, bne_self_eq_false, Bool.false_eq_true, if_false, shl_one l.length (by omega), Option.bind_some, p_implCheapLoop n l f h1 hf hn, if_true]
    have hok := cheapL_ok l f
    cases hc : cheapL l f with
    | none => rfl
    | some b =>
      rw [hc] at hok
      have hb0 := (sumL_bound h1 hok).1
      have hneg : ¬ sumL (·.Price) l b < 0 := by omega
      simp only [implO, hneg, decide_false, Bool.false_eq_true, if_false]
  · have hb : (codeB l [] f != 0) = true := by simp [bne, h]
    simp only [hb, h, if_true, if_false]

theorem cheapB_len (l : List SRepair) (f : List Int) : (cheapB l f).1.length ≤ 10 := by
  unfold cheapB
  by_cases h : codeB l [] f = 0
  · obtain ⟨h1, -, -⟩ := code0 h
    rw [if_pos h]
    have hok := cheapL_ok l f
    cases hc : cheapL l f with
    | none => simp
    | some b => rw [hc] at hok; exact hok.short h1
  · rw [if_neg h]; simp

theorem law_CheapestRepairs (a : List SRepair) (f : List Int) (ha : a.length ≤ 9223372036854775807) (oa : ∀ x ∈ a, okRepair x) (_hf : f.length ≤ 9223372036854775807) (_of : ∀ x ∈ f, i64ok x) : m_laws_FnExactCheapestRepairs 2000000 a f = some true := by
  unfold m_laws_FnExactCheapestRepairs
  cases hbig : decide ((f.length : Int) > 1048576) with
  | true => rfl
  | false =>
    have hfl := big_len hbig
    simp only [Bool.false_eq_true, if_false]
    obtain ⟨v, hv, h⟩ := p_szRepairS 2000000 a 1048576 (by omega) (by omega) ha oa (by omega)
    rw [hv]
    simp only [Option.bind_some]
    rcases h with h | ⟨h0, h1⟩
    · simp [h]
    · have hnv : ¬ v < 0 := by omega
      have sa := smallR_of h1 h0 (by omega) oa
      have hr : (cheapB a f).1.length ≤ 1048576 := by have := cheapB_len a f; omega
      obtain ⟨K, rows, hK, hK0, hK1⟩ := p_markRepairS 2000000 a sa (by omega)
      have hnK : ¬ K < 0 := by omega
      have hm : ¬ (1 + ((cheapB a f).1.length : Int)) < 0 := by omega
      have hm2 : ¬ (K + (f.length : Int)) < 0 := by omega
      simp only [hnv, decide_false, Bool.false_eq_true, if_false, p_toRepairS 2000000 a sa (by omega), p_toInt64S 2000000 f hfl (by omega), Option.bind_some, p_specCheapest 2000000 a f sa hfl (by omega), p_implCheapest 2000000 a f sa hfl (by omega),
        p_eqRepairS 2000000 a sa (by omega), p_eqInt64S 2000000 f hfl (by omega), p_eqInt64S 2000000 _ hr (by omega), bne_self_eq_false, Bool.not_true, hK, hnK, p_markInt64S 2000000 _ hr (by omega), p_heldInt64S 2000000 _ hr (by omega), hm, w64_Name 2000000 K f hK0 hfl (by omega) (by omega), hm2]

def worthB (l : List SRepair) (f : List Int) (v p : Int) : Bool × Int :=
  if codeB l [] f = 0 then (if inRB 0 100000 v && inRB 0 100 p then (match cheapL l f with | none => (false, 3) | some b => (decide (wI64 (100 * sumL (·.Price) l b) ≤ wI64 (v * p)), 0)) else (false, 2)) else (false, codeB l [] f)

theorem p_specWorth (n : Nat) (l : List SRepair) (f : List Int) (v p : Int) (hl : smallR l) (hf : f.length ≤ 1048576) (hn : 1048576 < n) : m_spec_IsWorthwhile n l f v p = some (worthB l f v p) := by
  unfold m_spec_IsWorthwhile worthB
  simp only [p_l21Faults n l [] f hl (by simp) hf hn, Option.bind_some, p_l00In]
  by_cases h : codeB l [] f = 0
  · obtain ⟨h1, -, -⟩ := code0 h
    simp only [h, beq_self_eq_true, if_true, p_l21Cheapest n l f h1 hf hn]
    unfold inRB
    cases (decide (0 ≤ v) && decide (v ≤ 100000)) with
    | false => rfl
    | true =>
      cases (decide (0 ≤ p) && decide (p ≤ 100)) with
      | false => rfl
      | true =>
        have hok := cheapL_ok l f
        cases hc : cheapL l f with
        | none => rfl
        | some b =>
          rw [hc] at hok
          simp only [specO, Bool.not_true, Bool.false_eq_true, if_false, if_true, Option.bind_some, bne_self_eq_false, p_specPrice n l b h1 hok hn, Bool.and_self]
  · have hb : (codeB l [] f == 0) = false := by simp [h]
    have hb2 : (codeB l [] f != 0) = true := by simp [bne, h]
    simp only [hb, h, if_false, Bool.false_eq_true, Option.bind_some, hb2, if_true]

theorem p_implWorth (n : Nat) (l : List SRepair) (f : List Int) (v p : Int) (hl : smallR l) (hf : f.length ≤ 1048576) (hn : 1048576 < n) : m_impl_IsWorthwhile n l f v p = some (worthB l f v p) := by
  unfold m_impl_IsWorthwhile worthB
  simp only [p_someCode n l [] f hl (by simp) hf hn, Option.bind_some, p_within]
  by_cases h : codeB l [] f = 0
  · obtain ⟨h1, -, -⟩ := code0 h
    simp only [h, beq_self_eq_true, if_true, p_implCheapest n l f hl hf hn, cheapB]
    unfold inRB
    cases (decide (0 ≤ v) && decide (v ≤ 100000)) with
    | false => rfl
    | true =>
      cases (decide (0 ≤ p) && decide (p ≤ 100)) with
      | false => rfl
      | true =>
        have hok := cheapL_ok l f
        cases hc : cheapL l f with
        | none => rfl
        | some b =>
          rw [hc] at hok
          simp only [Bool.not_true, Bool.false_eq_true, if_false, if_true, Option.bind_some, bne_self_eq_false, p_implPrice n l b h1 hok hn, Bool.and_self]
  · have hb : (codeB l [] f == 0) = false := by simp [h]
    have hb2 : (codeB l [] f != 0) = true := by simp [bne, h]
    simp only [hb, h, if_false, Bool.false_eq_true, Option.bind_some, hb2, if_true]

theorem law_IsWorthwhile (a : List SRepair) (f : List Int) (v p : Int) (ha : a.length ≤ 9223372036854775807) (oa : ∀ x ∈ a, okRepair x) (_hf : f.length ≤ 9223372036854775807) (_of : ∀ x ∈ f, i64ok x) (_ov : i64ok v) (_op : i64ok p) :
    m_laws_FnExactIsWorthwhile 2000000 a f v p = some true := by
  unfold m_laws_FnExactIsWorthwhile
  cases hbig : decide ((f.length : Int) > 1048576) with
  | true => rfl
  | false =>
    have hfl := big_len hbig
    simp only [Bool.false_eq_true, if_false]
    obtain ⟨u, hv, h⟩ := p_szRepairS 2000000 a 1048576 (by omega) (by omega) ha oa (by omega)
    rw [hv]
    simp only [Option.bind_some]
    rcases h with h | ⟨h0, h1⟩
    · simp [h]
    · have hnv : ¬ u < 0 := by omega
      have sa := smallR_of h1 h0 (by omega) oa
      simp only [hnv, decide_false, Bool.false_eq_true, if_false, p_toRepairS 2000000 a sa (by omega), p_toInt64S 2000000 f hfl (by omega), Option.bind_some, p_specWorth 2000000 a f v p sa hfl (by omega), p_implWorth 2000000 a f v p sa hfl (by omega),
        p_eqRepairS 2000000 a sa (by omega), p_eqInt64S 2000000 f hfl (by omega), beq_self_eq_true, bne_self_eq_false, Bool.not_true]

end Go.Gv
