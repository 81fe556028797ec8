/- Plain laws (those of another seat, turned to this one by tools/renum.py). -/
import Derived.Test.YtkglfbcelaphhaaGreatDoorQvC
namespace Go.Gv
open Go Go.RowKit

/-- What is said behind the comparisons. -/
def tailM (A : Bool × Int) (C D : List Int × Int) (E : Bool × Int) (F : Int × Int) (G : List Int × Int) (H : Int × Int) : Option Bool :=
  Option.bind (if (A.2 == 0) then some (!((D.2 == 0) == A.1)) else some false) fun x227 =>
  if x227 then some false else
  if (C.2 != 0) then
    Option.bind (if (A.2 != 0) then some true else if (!A.1) then some true else some (C.2 != 3)) fun x242 => some x242
  else
    Option.bind (if (E.2 != 0) then some true else if (!E.1) then some true else some (F.2 != 0)) fun x272 =>
    if x272 then some false else
    Option.bind (if (G.2 != 0) then some true else some ((G.1.length : Int) != 0)) fun x297 =>
    if x297 then some false else
    Option.bind (if (A.2 != 0) then some true else some (!A.1)) fun x309 =>
    if x309 then some true else
    Option.bind (if (H.2 == 0) then some (decide (F.1 ≤ H.1)) else some false) fun x329 => some x329

theorem tail_true (l : List SRepair) (s f : List Int) : tailM (mB l s f) (cheapB l f) (needB l s f) (mB l (cheapB l f).1 f) (prB l (cheapB l f).1) (needB l (cheapB l f).1 f) (prB l s) = some true := by
  by_cases hc : codeB l s f = 0
  · obtain ⟨hl, hs, -⟩ := code0 hc
    obtain ⟨hcf, hcs⟩ := codeB_less hc
    have hm : mB l s f = (allB l s f, 0) := by unfold mB; rw [if_pos hc]
    have hn : ((needB l s f).2 == 0) = allB l s f := by
      unfold needB; rw [if_pos hc]
      cases allB l s f <;> rfl
    unfold tailM
    rw [hm, hn]
    cases hch : cheapL l f with
    | none =>
      have hcb : cheapB l f = ([], 3) := by unfold cheapB; rw [if_pos hcf, hch]
      have ha := cheap_none hl hch s hs
      rw [hcb, ha]
      rfl
    | some b =>
      have hcb : cheapB l f = (b, 0) := by unfold cheapB; rw [if_pos hcf, hch]
      obtain ⟨h1, h2, h3⟩ := cheap_some hl hch
      have hcb2 := codeB_some hcf h2
      have hcb3 := (codeB_less hcb2).2
      have hmb : mB l b f = (true, 0) := by unfold mB; rw [if_pos hcb2, h1]
      have hpb : prB l b = (sumL (·.Price) l b, 0) := by unfold prB; rw [if_pos hcb3]
      have hnb : needB l b f = ([], 0) := by unfold needB; rw [if_pos hcb2, if_pos h1, need_nil hl hch]
      have hps : prB l s = (sumL (·.Price) l s, 0) := by unfold prB; rw [if_pos hcs]
      rw [hcb]
      simp only [hmb, hpb, hnb, hps]
      cases ha : allB l s f with
      | false => rfl
      | true =>
        have := h3 s hs ha
        unfold wk at this
        have hle : decide (sumL (·.Price) l b ≤ sumL (·.Price) l s) = true := decide_eq_true (by omega)
        simp only [hle]
        rfl
  · have hm : mB l s f = (false, codeB l s f) := by unfold mB; rw [if_neg hc]
    have h0 : (codeB l s f == 0) = false := by simp [hc]
    have h0' : (codeB l s f != 0) = true := ne0 hc
    unfold tailM
    rw [hm]
    simp only [h0, h0', Bool.false_eq_true, if_false, if_true, Option.bind_some]
    by_cases hcf : codeB l [] f = 0
    · have hl := (code0 hcf).1
      cases hch : cheapL l f with
      | none =>
        have hcb : cheapB l f = ([], 3) := by unfold cheapB; rw [if_pos hcf, hch]
        rw [hcb]; rfl
      | some b =>
        have hcb : cheapB l f = (b, 0) := by unfold cheapB; rw [if_pos hcf, hch]
        obtain ⟨h1, h2, h3⟩ := cheap_some hl hch
        have hcb2 := codeB_some hcf h2
        have hcb3 := (codeB_less hcb2).2
        have hmb : mB l b f = (true, 0) := by unfold mB; rw [if_pos hcb2, h1]
        have hpb : prB l b = (sumL (·.Price) l b, 0) := by unfold prB; rw [if_pos hcb3]
        have hnb : needB l b f = ([], 0) := by unfold needB; rw [if_pos hcb2, if_pos h1, need_nil hl hch]
        rw [hcb]
        simp only [hmb, hpb, hnb]
        rfl
    · have hcb : cheapB l f = ([], codeB l [] f) := by unfold cheapB; rw [if_neg hcf]
      have h1 : (codeB l [] f != 0) = true := ne0 hcf
      rw [hcb]; simp only [h1, if_true]

def digZ (k : Nat) : List Int := if h : k = 0 then [] else digZ (k / 10) ++ [48 + ((k % 10 : Nat) : Int)]
termination_by k
decreasing_by omega

theorem digZ_zero : digZ 0 = [] := by rw [digZ]; rfl

theorem digZ_pos {k : Nat} (h : k ≠ 0) : digZ k = digZ (k / 10) ++ [48 + ((k % 10 : Nat) : Int)] := by rw [digZ]; simp [h]

def natD (k : Nat) : List UInt8 := if k = 0 then [48] else ofBytes (digZ k)

/-- A number in decimal. -/
def decZ (z : Int) : List UInt8 := if z < 0 then 45 :: natD z.natAbs else natD z.natAbs

theorem digZ_len : ∀ (j k : Nat), k < 10 ^ j → (digZ k).length ≤ j
  | 0, k, h => by
    have : k = 0 := by simpa using h
    subst this; rw [digZ_zero]; simp
  | j + 1, k, h => by
    by_cases h0 : k = 0
    · subst h0; rw [digZ_zero]; simp
    · have hp : 10 ^ (j + 1) = 10 ^ j * 10 := Nat.pow_succ _ _
      have := digZ_len j (k / 10) (by omega)
      rw [digZ_pos h0]; simp; omega

theorem digZ_len2 : ∀ (j k : Nat), 10 ^ j ≤ k → j < (digZ k).length
  | 0, k, h => by
    have h0 : k ≠ 0 := by have : 1 ≤ k := by simpa using h
                          omega
    rw [digZ_pos h0]; simp
  | j + 1, k, h => by
    have hp : 10 ^ (j + 1) = 10 ^ j * 10 := Nat.pow_succ _ _
    have hpos : 0 < 10 ^ j := Nat.pow_pos (by omega)
    have h0 : k ≠ 0 := by omega
    have := digZ_len2 j (k / 10) (by omega)
    rw [digZ_pos h0]; simp; omega

theorem digZ_mem : ∀ (j k : Nat), k < 10 ^ j → ∀ v ∈ digZ k, 48 ≤ v ∧ v ≤ 57
  | 0, k, h => by
    have : k = 0 := by simpa using h
    subst this; rw [digZ_zero]; simp
  | j + 1, k, h => by
    by_cases h0 : k = 0
    · subst h0; rw [digZ_zero]; simp
    · have hp : 10 ^ (j + 1) = 10 ^ j * 10 := Nat.pow_succ _ _
      have := digZ_mem j (k / 10) (by omega)
      rw [digZ_pos h0]
      intro v hv
      rw [List.mem_append, List.mem_singleton] at hv
      rcases hv with hv | rfl
      · exact this v hv
      · omega

theorem dec_loop (n : Nat) : ∀ (j m k : Nat) (s : Int) (acc : List Int), j < m → k < 10 ^ j → k ≤ 9223372036854775808 → (s = 1 ∨ s = -1) → acc.length + j ≤ 1000 → loopN (m_spec_l01Dec_l1 n) m (acc, s * (k : Int)) = some (digZ k ++ acc) := by
  intro j
  induction j with
  | zero =>
    intro m k s acc hm hk _ _ _
    obtain ⟨m, rfl⟩ : ∃ q, m = q + 1 := ⟨m - 1, by omega⟩
    have : k = 0 := by simpa using hk
    subst this
    rw [digZ_zero]; simp [loopN, m_spec_l01Dec_l1]
  | succ j ih =>
    intro m k s acc hm hk hk2 hs hl
    obtain ⟨m, rfl⟩ : ∃ q, m = q + 1 := ⟨m - 1, by omega⟩
    by_cases h0 : k = 0
    · subst h0; rw [digZ_zero]; simp [loopN, m_spec_l01Dec_l1]
    · have hp : 10 ^ (j + 1) = 10 ^ j * 10 := Nat.pow_succ _ _
      have hne : (s * (k : Int) != 0) = true := by rcases hs with rfl | rfl <;> simp <;> omega
      have hb : m_spec_l01Dec_l1 n (acc, s * (k : Int)) = some (.next ((48 + ((k % 10 : Nat) : Int)) :: acc, s * ((k / 10 : Nat) : Int))) := by
        unfold m_spec_l01Dec_l1
        have hm1 : k % 10 < 10 := Nat.mod_lt _ (by omega)
        have hd1 : k / 10 ≤ k := Nat.div_le_self _ _
        have hz1 : (0 : Int) ≤ ((k % 10 : Nat) : Int) := Int.natCast_nonneg _
        have hz2 : (0 : Int) ≤ ((k / 10 : Nat) : Int) := Int.natCast_nonneg _
        have habs : (if decide ((Int.tmod (s * (k : Int)) 10) < 0) then some (wI64 (0 - (Int.tmod (s * (k : Int)) 10))) else some (Int.tmod (s * (k : Int)) 10)) = some ((k % 10 : Nat) : Int) ∧ wI64 (Int.tdiv (s * (k : Int)) 10) = s * ((k / 10 : Nat) : Int) := by
          have e1 : Int.tmod (k : Int) 10 = ((k % 10 : Nat) : Int) := rfl
          have e2 : Int.tdiv (k : Int) 10 = ((k / 10 : Nat) : Int) := rfl
          rcases hs with rfl | rfl
          · rw [Int.one_mul, Int.one_mul, e1, e2]
            have : decide (((k % 10 : Nat) : Int) < 0) = false := decide_eq_false (by omega)
            rw [this, wI64_eq (x := ((k / 10 : Nat) : Int)) (by omega) (by omega)]
            exact ⟨rfl, rfl⟩
          · rw [Int.neg_one_mul, Int.neg_one_mul, Int.neg_tmod, Int.neg_tdiv, e1, e2, wI64_eq (x := -((k / 10 : Nat) : Int)) (by omega) (by omega), Int.sub_neg, Int.zero_add, wI64_eq (x := ((k % 10 : Nat) : Int)) (by omega) (by omega)]
            refine ⟨?_, rfl⟩
            by_cases hz : k % 10 = 0
            · rw [hz]; rfl
            · rw [decide_eq_true (by omega)]; rfl
        simp only [hne, if_true]
        rw [habs.1, habs.2]
        simp only [Option.bind_some]
        rw [wI64_eq (by omega) (by omega), wU8_eq (by omega) (by omega), app_eq (by simp; omega)]
        rfl
      have := ih m (k / 10) s ((48 + ((k % 10 : Nat) : Int)) :: acc) (by omega) (by omega) (by have := Nat.div_le_self k 10; omega) hs (by simp; omega)
      simp only [loopN, hb, Option.bind_some]
      rw [this, digZ_pos h0]; simp

theorem ten19 {k : Nat} (h : k ≤ 9223372036854775808) : k < 10 ^ 19 := Nat.lt_of_le_of_lt h (by decide)

theorem p_l01Dec (n : Nat) (z : Int) (hz : i64ok z) (hn : 1048576 < n) : m_spec_l01Dec n z = some (decZ z) := by
  unfold i64ok at hz
  have hk : z.natAbs ≤ 9223372036854775808 := by omega
  have key : loopN (m_spec_l01Dec_l1 n) n (([] : List Int), z) = some (digZ z.natAbs) := by
    have e : z = (if z < 0 then -1 else 1) * (z.natAbs : Int) := by split <;> omega
    have := dec_loop n 19 n z.natAbs (if z < 0 then -1 else 1) [] (by omega) (ten19 hk) hk (by split <;> simp) (by simp)
    rw [← e, List.append_nil] at this
    exact this
  unfold m_spec_l01Dec decZ natD
  rw [key]
  simp only [Option.bind_some]
  by_cases h0 : z.natAbs = 0
  · have : z = 0 := by omega
    subst this
    rw [show (0 : Int).natAbs = 0 from rfl, digZ_zero]; simp
  · have hl : 0 < (digZ z.natAbs).length := by rw [digZ_pos h0]; simp
    have hl2 := digZ_len 19 z.natAbs (ten19 hk)
    have hb : (((digZ z.natAbs).length : Int) == 0) = false := by
      have : ¬ ((digZ z.natAbs).length : Int) = 0 := by omega
      simpa using (by omega : ¬ (digZ z.natAbs).length = 0)
    simp only [hb, Bool.false_eq_true, if_false, h0]
    by_cases hneg : z < 0
    · simp only [hneg, decide_true, if_true]
      rw [app_eq (by simp [ofBytes]; omega)]; rfl
    · simp only [hneg, decide_false, Bool.false_eq_true, if_false]

/-- The number that digits tell. -/

theorem decZ_len {z : Int} (h : i64ok z) : (decZ z).length ≤ 20 := by
  unfold i64ok at h
  have hk : z.natAbs ≤ 9223372036854775808 := by omega
  have : (natD z.natAbs).length ≤ 19 := by
    unfold natD
    split
    · simp
    · have := digZ_len 19 z.natAbs (ten19 hk)
      simpa [ofBytes] using this
  unfold decZ
  split
  · simp; omega
  · omega

theorem decDigits_natD : ∀ (j k : Nat), k ≤ j → Lib.decDigits k = natD k := by
  intro j
  induction j with
  | zero =>
    intro k hk
    obtain rfl : k = 0 := by omega
    rw [Lib.decDigits]; rfl
  | succ j ih =>
    intro k hk
    rw [Lib.decDigits]
    by_cases h : k < 10
    · rw [dif_pos h]
      unfold natD
      by_cases h0 : k = 0
      · subst h0; rfl
      · rw [if_neg h0, digZ_pos h0, show k / 10 = 0 by omega, digZ_zero, show k % 10 = k by omega]
        show [UInt8.ofNat (48 + k)] = [UInt8.ofNat (48 + (k : Int)).toNat]
        rw [show (48 + (k : Int)).toNat = 48 + k by omega]
    · rw [dif_neg h, ih (k / 10) (by omega)]
      unfold natD
      rw [if_neg (by omega : ¬ k / 10 = 0), if_neg (by omega : ¬ k = 0), digZ_pos (by omega : k ≠ 0)]
      unfold ofBytes
      rw [List.map_append]
      show _ = _ ++ [UInt8.ofNat (48 + ((k % 10 : Nat) : Int)).toNat]
      rw [show (48 + ((k % 10 : Nat) : Int)).toNat = 48 + k % 10 by omega]

theorem itoa_decZ (z : Int) : Lib.itoa z = decZ z := by
  unfold Lib.itoa decZ
  by_cases h : z < 0
  · rw [if_pos h, if_pos h, decDigits_natD _ _ (Nat.le_refl _)]
  · rw [if_neg h, if_neg h, decDigits_natD _ _ (Nat.le_refl _), show z.toNat = z.natAbs by omega]

theorem p_Decimal (n : Nat) (z : Int) (hz : i64ok z) : m_impl_Decimal n z = some (decZ z) := by
  unfold m_impl_Decimal m_strconv_FormatInt
  unfold i64ok at hz
  rw [if_pos ⟨by omega, by omega, rfl⟩, itoa_decZ]; rfl

theorem joinTail_snoc (sep : List UInt8) (r : List (List UInt8)) (t : List UInt8) : Lib.joinTail sep (r ++ [t]) = Lib.joinTail sep r ++ sep ++ t := by simp [Lib.joinTail]

theorem join_snoc (sep t : List UInt8) : ∀ (r : List (List UInt8)), r ≠ [] → Lib.join (r ++ [t]) sep = Lib.join r sep ++ sep ++ t
  | [], h => absurd rfl h
  | x :: r, _ => by rw [List.cons_append, Lib.join_cons, Lib.join_cons, joinTail_snoc]; simp

/-! ### The text -/

theorem join_len (M : Nat) : ∀ (ns : List (List UInt8)), (∀ t ∈ ns, t.length ≤ M) → (Lib.join ns [44]).length ≤ ns.length * (M + 1)
  | [], _ => by simp [Lib.join_nil]
  | x :: r, h => by
    rw [Lib.join_cons]
    have h1 : ∀ (r : List (List UInt8)), (∀ t ∈ r, t.length ≤ M) → (Lib.joinTail [44] r).length ≤ r.length * (M + 1) := by
      intro r
      induction r with
      | nil => intro _; simp [Lib.joinTail]
      | cons y r ih =>
        intro h
        have h2 := ih fun t ht => h t (by simp [ht])
        have h3 := h y (by simp)
        have e : Lib.joinTail [44] (y :: r) = [44] ++ y ++ Lib.joinTail [44] r := by simp [Lib.joinTail]
        rw [e, List.length_cons, Nat.add_mul]
        simp only [List.length_append, List.length_cons, List.length_nil]
        omega
    have h2 := h1 r fun t ht => h t (by simp [ht])
    have h3 := h x (by simp)
    rw [List.length_append, List.length_cons, Nat.add_mul]
    omega

def afterT : List UInt8 := [32, 97, 102, 116, 101, 114, 32]

def sfx (ns : List (List UInt8)) : List UInt8 := if ns = [] then [] else afterT ++ Lib.join ns [44]

theorem sfx_len {M : Nat} {ns : List (List UInt8)} (h : ∀ t ∈ ns, t.length ≤ M) : (sfx ns).length ≤ 7 + ns.length * (M + 1) := by
  have := join_len M ns h
  unfold sfx
  split
  · simp
  · rw [List.length_append]; simp only [afterT, List.length_cons, List.length_nil]; omega

theorem sfx_snoc (ns : List (List UInt8)) (t : List UInt8) : sfx (ns ++ [t]) = (if ns = [] then afterT else sfx ns ++ [44]) ++ t := by
  unfold sfx
  rw [if_neg (by simp)]
  by_cases h : ns = []
  · subst h; simp [Lib.join_one]
  · rw [if_neg h, if_neg h, join_snoc [44] t ns h]; simp

def namesOf (l : List SRepair) (x : SRepair) : List (List UInt8) := x.First.map fun b => (l.getD b.toNat rD).Name

def headT (x : SRepair) : List UInt8 := (((x.Name ++ [32, 112, 114, 105, 99, 101, 32]) ++ decZ x.Price) ++ [32, 104, 111, 117, 114, 115, 32]) ++ decZ x.Hours

theorem firsts {l : List SRepair} (hl : Vr l) (hs : smallR l) {k : Nat} {x : SRepair} (hx : l[k]? = some x) : x.First.length ≤ 10 ∧ (namesOf l x).length = x.First.length ∧ (∀ t ∈ namesOf l x, t.length ≤ 1048576) ∧
    ∀ (i : Nat) b, x.First[i]? = some b → idx l b = some (l.getD b.toNat rD) ∧ (namesOf l x)[i]? = some (l.getD b.toNat rD).Name := by
  obtain ⟨h1, h2⟩ := hl.first k x hx
  have hlt := lt_of_get hx
  have hll := hl.len
  have hin : ∀ b ∈ x.First, b.toNat < l.length := fun b hb => by have := h1 b hb; omega
  refine ⟨?_, by simp [namesOf], fun t ht => ?_, fun i b hb => ⟨?_, ?_⟩⟩
  · have := inc_len x.First 0 k (fun b hb => h1 b hb) h2; omega
  · unfold namesOf at ht
    rw [List.mem_map] at ht
    obtain ⟨b, hb, rfl⟩ := ht
    exact (smallR_rows hs (List.mem_of_getElem? (getD_of (hin b hb) rD))).1
  · have hm := List.mem_of_getElem? hb
    have := h1 b hm
    unfold idx; rw [if_pos (by omega)]; exact getD_of (hin b hm) rD
  · unfold namesOf; rw [List.getElem?_map, hb]; rfl

theorem p_specLoop (n : Nat) (l : List SRepair) (hl : Vr l) (hs : smallR l) {k : Nat} {x : SRepair} (hx : l[k]? = some x) (o : List UInt8) (ho : o.length ≤ 2000000) (hn : 1048576 < n) : loopN (m_spec_RepairText_l1 n l x) n (o, 0) = some (o ++ sfx (namesOf l x)) := by
  obtain ⟨f1, f2, f3, f4⟩ := firsts hl hs hx
  have key := loopN_run (body := m_spec_RepairText_l1 n l x) (fun i => (o ++ sfx ((namesOf l x).take i), (i : Int))) (o ++ sfx (namesOf l x)) x.First.length
    (fun i hi => by
      have hb : x.First[i]? = some x.First[i] := List.getElem?_eq_getElem hi
      obtain ⟨g1, g2⟩ := f4 i _ hb
      have hsl := sfx_len (M := 1048576) (ns := (namesOf l x).take i) fun t ht => f3 t (List.mem_of_mem_take ht)
      have htl : ((namesOf l x).take i).length = i := by rw [List.length_take]; omega
      rw [htl] at hsl
      have hsl2 : (sfx ((namesOf l x).take i)).length ≤ 7 + 10 * 1048577 := Nat.le_trans hsl (Nat.add_le_add_left (Nat.mul_le_mul_right _ (by omega)) 7)
      have hnm := f3 _ (List.mem_of_getElem? g2)
      have e : (namesOf l x).take (i + 1) = (namesOf l x).take i ++ [(l.getD (x.First[i]).toNat rD).Name] := by rw [List.take_add_one, g2]; rfl
      have hne : ((namesOf l x).take i = []) ↔ i = 0 := by
        constructor
        · intro h; rw [h] at htl; simpa using htl.symm
        · rintro rfl; simp
      unfold m_spec_RepairText_l1
      rw [e, sfx_snoc]
      simp only [ltB hi, if_true, idx_nat, hb, g1, Option.bind_some, succ64 hi (by omega)]
      by_cases h0 : i = 0
      · subst h0
        have e0 : sfx ((namesOf l x).take 0) = [] := by simp [sfx]
        have a1 : app o [32, 97, 102, 116, 101, 114, 32] = some (o ++ afterT) := app_eq (by simp; omega)
        rw [e0, List.append_nil]
        simp only [show (((0 : Nat) : Int) == 0) = true from rfl, if_true, a1, Option.bind_some]
        rw [app_eq (by simp [afterT] at *; omega)]
        simp
      · have hz : (((i : Nat) : Int) == 0) = false := beq_eq_false_iff_ne.2 (by omega)
        have a1 : app (o ++ sfx ((namesOf l x).take i)) [44] = some (o ++ sfx ((namesOf l x).take i) ++ [44]) := app_eq (by simp; omega)
        simp only [hz, Bool.false_eq_true, if_false, a1, Option.bind_some]
        rw [app_eq (by simp at *; omega)]
        have hne2 : ¬ (namesOf l x).take i = [] := fun h => h0 (hne.1 h)
        simp only [hne2, if_false, Option.bind_some]
        simp)
    (by
      unfold m_spec_RepairText_l1
      have e : (namesOf l x).take x.First.length = namesOf l x := by rw [← f2, List.take_length]
      simp only [ltB_self, Bool.false_eq_true, if_false, e]) n (by omega)
  have e0 : sfx ((namesOf l x).take 0) = [] := by simp [sfx]
  have k1 : loopN (m_spec_RepairText_l1 n l x) n (o ++ sfx ((namesOf l x).take 0), 0) = _ := key
  rw [e0, List.append_nil] at k1
  exact k1

theorem p_implLoop (n : Nat) (l : List SRepair) (hl : Vr l) (hs : smallR l) {k : Nat} {x : SRepair} (hx : l[k]? = some x) (hn : 1048576 < n) : loopN (m_impl_RepairText_l1 n l x) n (([] : List (List UInt8)), 0) = some (namesOf l x) := by
  obtain ⟨f1, f2, f3, f4⟩ := firsts hl hs hx
  have key := loopN_run (body := m_impl_RepairText_l1 n l x) (fun i => ((namesOf l x).take i, (i : Int))) (namesOf l x) x.First.length
    (fun i hi => by
      have hb : x.First[i]? = some x.First[i] := List.getElem?_eq_getElem hi
      obtain ⟨g1, g2⟩ := f4 i _ hb
      have e : (namesOf l x).take (i + 1) = (namesOf l x).take i ++ [(l.getD (x.First[i]).toNat rD).Name] := by rw [List.take_add_one, g2]; rfl
      unfold m_impl_RepairText_l1
      rw [e]
      simp only [ltB hi, if_true, idx_nat, hb, g1, Option.bind_some, succ64 hi (by omega)]
      rw [app_eq (by simp; omega)]; rfl)
    (by
      unfold m_impl_RepairText_l1
      have e : (namesOf l x).take x.First.length = namesOf l x := by rw [← f2, List.take_length]
      simp only [ltB_self, Bool.false_eq_true, if_false, e]) n (by omega)
  have k1 : loopN (m_impl_RepairText_l1 n l x) n ((namesOf l x).take 0, 0) = _ := key
  simpa using k1

def textB (l : List SRepair) (k : Int) : List UInt8 := if repsB l && inRB 0 ((l.length : Int) - 1) k then headT (l.getD k.toNat rD) ++ sfx (namesOf l (l.getD k.toNat rD)) else []

theorem head_ok {l : List SRepair} (hl : Vr l) (hs : smallR l) {x : SRepair} (hx : x ∈ l) : x.Name.length ≤ 1048576 ∧ i64ok x.Price ∧ i64ok x.Hours := by
  have h1 := hl.price x hx
  have h2 := hl.hours x hx
  exact ⟨(smallR_rows hs hx).1, by unfold i64ok; omega, by unfold i64ok; omega⟩

theorem p_specRepairText (n : Nat) (l : List SRepair) (k : Int) (hs : smallR l) (hn : 1048576 < n) : m_spec_RepairText n l k = some (textB l k) := by
  have hll : l.length ≤ 1048576 := by have := hs.1; omega
  unfold m_spec_RepairText textB
  simp only [p_l21Ok n l hs hn, Option.bind_some, p_l00In, pred64 hll]
  unfold inRB
  cases hr : repsB l with
  | false => rfl
  | true =>
    cases hk : (decide (0 ≤ k) && decide (k ≤ (l.length : Int) - 1)) with
    | false => rfl
    | true =>
      simp only [Bool.and_eq_true, decide_eq_true_eq] at hk
      have hl := vr_of hr
      have hlt : k.toNat < l.length := by omega
      have hg := getD_of hlt rD
      have hi : idx l k = some (l.getD k.toNat rD) := by unfold idx; rw [if_pos hk.1]; exact hg
      obtain ⟨o1, o2, o3⟩ := head_ok hl hs (List.mem_of_getElem? hg)
      have d1 := decZ_len o2
      have d2 := decZ_len o3
      generalize l.getD k.toNat rD = x at hg hi o1 o2 o3 d1 d2 ⊢
      simp only [Bool.not_true, Bool.false_eq_true, if_false, Option.bind_some, hi, Bool.and_self, if_true]
      rw [app_eq (by simp; omega)]
      simp only [Option.bind_some, p_l01Dec n _ o2 hn]
      rw [app_eq (by simp; omega)]
      simp only [Option.bind_some]
      rw [app_eq (by simp; omega)]
      simp only [Option.bind_some, p_l01Dec n _ o3 hn]
      rw [app_eq (by simp; omega)]
      simp only [Option.bind_some]
      have := p_specLoop n l hl hs hg (headT x) (by unfold headT; simp; omega) hn
      unfold headT at this ⊢
      rw [this]; rfl

theorem p_implRepairText (n : Nat) (l : List SRepair) (k : Int) (hs : smallR l) (hn : 1048576 < n) : m_impl_RepairText n l k = some (textB l k) := by
  have hll : l.length ≤ 1048576 := by have := hs.1; omega
  unfold m_impl_RepairText textB
  simp only [p_implValidRepairs n l hs hn, Option.bind_some, p_within, pred64 hll]
  unfold inRB
  cases hr : repsB l with
  | false => rfl
  | true =>
    cases hk : (decide (0 ≤ k) && decide (k ≤ (l.length : Int) - 1)) with
    | false => rfl
    | true =>
      simp only [Bool.and_eq_true, decide_eq_true_eq] at hk
      have hl := vr_of hr
      have hlt : k.toNat < l.length := by omega
      have hg := getD_of hlt rD
      have hi : idx l k = some (l.getD k.toNat rD) := by unfold idx; rw [if_pos hk.1]; exact hg
      obtain ⟨o1, o2, o3⟩ := head_ok hl hs (List.mem_of_getElem? hg)
      have d1 := decZ_len o2
      have d2 := decZ_len o3
      generalize l.getD k.toNat rD = x at hg hi o1 o2 o3 d1 d2 ⊢
      obtain ⟨f1, f2, f3, f4⟩ := firsts hl hs hg
      have hj := join_len 1048576 _ f3
      have hj2 : (Lib.join (namesOf l x) [44]).length ≤ 10 * 1048577 := Nat.le_trans hj (Nat.mul_le_mul_right _ (by omega))
      simp only [Bool.not_true, Bool.false_eq_true, if_false, Option.bind_some, hi, Bool.and_self, if_true, p_implLoop n l hl hs hg hn]
      rw [app_eq (by simp; omega)]
      simp only [Option.bind_some, p_Decimal n _ o2]
      rw [app_eq (by simp; omega)]
      simp only [Option.bind_some]
      rw [app_eq (by simp; omega)]
      simp only [Option.bind_some, p_Decimal n _ o3]
      rw [app_eq (by simp; omega)]
      simp only [Option.bind_some]
      by_cases h0 : namesOf l x = []
      · rw [h0]; simp [sfx, headT]
      · have hpos : decide (((namesOf l x).length : Int) > 0) = true := decide_eq_true (by have := List.length_pos_iff.2 h0; omega)
        have hJ : m_strings_Join n (namesOf l x) [44] = some (Lib.join (namesOf l x) [44]) := by
          unfold m_strings_Join; rw [if_pos ⟨by omega, by omega⟩]
        have a1 : app [32, 97, 102, 116, 101, 114, 32] (Lib.join (namesOf l x) [44]) = some (sfx (namesOf l x)) := by
          unfold sfx; rw [if_neg h0, app_eq (by simp; omega)]; rfl
        have hsl := sfx_len (M := 1048576) f3
        have hsl2 : (sfx (namesOf l x)).length ≤ 7 + 10 * 1048577 := Nat.le_trans hsl (Nat.add_le_add_left (Nat.mul_le_mul_right _ (by omega)) 7)
        simp only [hpos, if_true, hJ, Option.bind_some, a1]
        rw [app_eq (by simp; omega)]; rfl

end Go.Gv
