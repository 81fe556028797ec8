/- Plain laws of repairs for their texts: sizes, copies, numbers, valid repairs, the text. -/
import Derived.Test.YtkglfbcelaphhaaDoorPn
import Derived.Lib.ItoaNum
import Derived.Lib.Strings
import Derived.Lib.Join
namespace Go.Gv
open Go Go.RowKit

def digZ (k : Nat) : List Int := if h : k = 0 then [] else digZ (k / 10) ++ [48 + ((k % 10 : Nat) : Int)]
termination_by k
decreasing_by omega

theorem digZ_zero : digZ 0 = [] := by rw [digZ]; rfl
theorem digZ_pos {k : Nat} (h : k ≠ 0) : digZ k = digZ (k / 10) ++ [48 + ((k % 10 : Nat) : Int)] := by rw [digZ]; simp [h]

def natD (k : Nat) : List UInt8 := if k = 0 then [48] else ofBytes (digZ k)
/-- A number in decimal. -/
def decZ (z : Int) : List UInt8 := if z < 0 then 45 :: natD z.natAbs else natD z.natAbs

theorem digZ_len : ∀ (j k : Nat), k < 10 ^ j → (digZ k).length ≤ j
  | 0, k, h => by
    have : k = 0 := by simpa using h
    subst this; rw [digZ_zero]; simp
  | j + 1, k, h => by
    by_cases h0 : k = 0
    · subst h0; rw [digZ_zero]; simp
    · have hp : 10 ^ (j + 1) = 10 ^ j * 10 := Nat.pow_succ _ _
      have := digZ_len j (k / 10) (by omega)
      rw [digZ_pos h0]; simp; omega

theorem digZ_len2 : ∀ (j k : Nat), 10 ^ j ≤ k → j < (digZ k).length
  | 0, k, h => by
    have h0 : k ≠ 0 := by have : 1 ≤ k := by simpa using h
                          omega
    rw [digZ_pos h0]; simp
  | j + 1, k, h => by
    have hp : 10 ^ (j + 1) = 10 ^ j * 10 := Nat.pow_succ _ _
    have hpos : 0 < 10 ^ j := Nat.pow_pos (by omega)
    have h0 : k ≠ 0 := by omega
    have := digZ_len2 j (k / 10) (by omega)
    rw [digZ_pos h0]; simp; omega

theorem digZ_mem : ∀ (j k : Nat), k < 10 ^ j → ∀ v ∈ digZ k, 48 ≤ v ∧ v ≤ 57
  | 0, k, h => by
    have : k = 0 := by simpa using h
    subst this; rw [digZ_zero]; simp
  | j + 1, k, h => by
    by_cases h0 : k = 0
    · subst h0; rw [digZ_zero]; simp
    · have hp : 10 ^ (j + 1) = 10 ^ j * 10 := Nat.pow_succ _ _
      have := digZ_mem j (k / 10) (by omega)
      rw [digZ_pos h0]
      intro v hv
      rw [List.mem_append, List.mem_singleton] at hv
      rcases hv with hv | rfl
      · exact this v hv
      · omega

theorem dec_loop (n : Nat) : ∀ (j m k : Nat) (s : Int) (acc : List Int), j < m → k < 10 ^ j → k ≤ 9223372036854775808 → (s = 1 ∨ s = -1) → acc.length + j ≤ 1000 → loopN (m_spec_l01Dec_l1 n) m (acc, s * (k : Int)) = some (digZ k ++ acc) := by
  intro j
  induction j with
  | zero =>
    intro m k s acc hm hk _ _ _
    obtain ⟨m, rfl⟩ : ∃ q, m = q + 1 := ⟨m - 1, by omega⟩
    have : k = 0 := by simpa using hk
    subst this
    rw [digZ_zero]; simp [loopN, m_spec_l01Dec_l1]
  | succ j ih =>
    intro m k s acc hm hk hk2 hs hl
    obtain ⟨m, rfl⟩ : ∃ q, m = q + 1 := ⟨m - 1, by omega⟩
    by_cases h0 : k = 0
    · subst h0; rw [digZ_zero]; simp [loopN, m_spec_l01Dec_l1]
    · have hp : 10 ^ (j + 1) = 10 ^ j * 10 := Nat.pow_succ _ _
      have hne : (s * (k : Int) != 0) = true := by rcases hs with rfl | rfl <;> simp <;> omega
      have hb : m_spec_l01Dec_l1 n (acc, s * (k : Int)) = some (.next ((48 + ((k % 10 : Nat) : Int)) :: acc, s * ((k / 10 : Nat) : Int))) := by
        unfold m_spec_l01Dec_l1
        have hm1 : k % 10 < 10 := Nat.mod_lt _ (by omega)
        have hd1 : k / 10 ≤ k := Nat.div_le_self _ _
        have hz1 : (0 : Int) ≤ ((k % 10 : Nat) : Int) := Int.natCast_nonneg _
        have hz2 : (0 : Int) ≤ ((k / 10 : Nat) : Int) := Int.natCast_nonneg _
        have habs : (if decide ((Int.tmod (s * (k : Int)) 10) < 0) then some (wI64 (0 - (Int.tmod (s * (k : Int)) 10))) else some (Int.tmod (s * (k : Int)) 10)) = some ((k % 10 : Nat) : Int) ∧ wI64 (Int.tdiv (s * (k : Int)) 10) = s * ((k / 10 : Nat) : Int) := by
          have e1 : Int.tmod (k : Int) 10 = ((k % 10 : Nat) : Int) := rfl
          have e2 : Int.tdiv (k : Int) 10 = ((k / 10 : Nat) : Int) := rfl
          rcases hs with rfl | rfl
          · rw [Int.one_mul, Int.one_mul, e1, e2]
            have : decide (((k % 10 : Nat) : Int) < 0) = false := decide_eq_false (by omega)
            rw [this, wI64_eq (x := ((k / 10 : Nat) : Int)) (by omega) (by omega)]
            exact ⟨rfl, rfl⟩
          · rw [Int.neg_one_mul, Int.neg_one_mul, Int.neg_tmod, Int.neg_tdiv, e1, e2, wI64_eq (x := -((k / 10 : Nat) : Int)) (by omega) (by omega), Int.sub_neg, Int.zero_add, wI64_eq (x := ((k % 10 : Nat) : Int)) (by omega) (by omega)]
            refine ⟨?_, rfl⟩
            by_cases hz : k % 10 = 0
            · rw [hz]; rfl
            · rw [decide_eq_true (by omega)]; rfl
        simp only [hne, if_true]
        rw [habs.1, habs.2]
        simp only [Option.bind_some]
        rw [wI64_eq (by omega) (by omega), wU8_eq (by omega) (by omega), app_eq (by simp; omega)]
        rfl
      have := ih m (k / 10) s ((48 + ((k % 10 : Nat) : Int)) :: acc) (by omega) (by omega) (by have := Nat.div_le_self k 10; omega) hs (by simp; omega)
      simp only [loopN, hb, Option.bind_some]
      rw [this, digZ_pos h0]; simp

theorem ten19 {k : Nat} (h : k ≤ 9223372036854775808) : k < 10 ^ 19 := Nat.lt_of_le_of_lt h (by decide)

theorem p_l01Dec (n : Nat) (z : Int) (hz : i64ok z) (hn : 1048576 < n) : m_spec_l01Dec n z = some (decZ z) := by
  unfold i64ok at hz
  have hk : z.natAbs ≤ 9223372036854775808 := by omega
  have key : loopN (m_spec_l01Dec_l1 n) n (([] : List Int), z) = some (digZ z.natAbs) := by
    have e : z = (if z < 0 then -1 else 1) * (z.natAbs : Int) := by split <;> omega
    have := dec_loop n 19 n z.natAbs (if z < 0 then -1 else 1) [] (by omega) (ten19 hk) hk (by split <;> simp) (by simp)
    rw [← e, List.append_nil] at this
    exact this
  unfold m_spec_l01Dec decZ natD
  rw [key]
  simp only [Option.bind_some]
  by_cases h0 : z.natAbs = 0
  · have : z = 0 := by omega
    subst this
    rw [show (0 : Int).natAbs = 0 from rfl, digZ_zero]; simp
  · have hl : 0 < (digZ z.natAbs).length := by rw [digZ_pos h0]; simp
    have hl2 := digZ_len 19 z.natAbs (ten19 hk)
    have hb : (((digZ z.natAbs).length : Int) == 0) = false := by
      have : ¬ ((digZ z.natAbs).length : Int) = 0 := by omega
      simpa using (by omega : ¬ (digZ z.natAbs).length = 0)
    simp only [hb, Bool.false_eq_true, if_false, h0]
    by_cases hneg : z < 0
    · simp only [hneg, decide_true, if_true]
      rw [app_eq (by simp [ofBytes]; omega)]; rfl
    · simp only [hneg, decide_false, Bool.false_eq_true, if_false]

/-- The number that digits tell. -/

theorem decZ_len {z : Int} (h : i64ok z) : (decZ z).length ≤ 20 := by
  unfold i64ok at h
  have hk : z.natAbs ≤ 9223372036854775808 := by omega
  have : (natD z.natAbs).length ≤ 19 := by
    unfold natD
    split
    · simp
    · have := digZ_len 19 z.natAbs (ten19 hk)
      simpa [ofBytes] using this
  unfold decZ
  split
  · simp; omega
  · omega

theorem decDigits_natD : ∀ (j k : Nat), k ≤ j → Lib.decDigits k = natD k := by
  intro j
  induction j with
  | zero =>
    intro k hk
    obtain rfl : k = 0 := by omega
    rw [Lib.decDigits]; rfl
  | succ j ih =>
    intro k hk
    rw [Lib.decDigits]
    by_cases h : k < 10
    · rw [dif_pos h]
      unfold natD
      by_cases h0 : k = 0
      · subst h0; rfl
      · rw [if_neg h0, digZ_pos h0, show k / 10 = 0 by omega, digZ_zero, show k % 10 = k by omega]
        show [UInt8.ofNat (48 + k)] = [UInt8.ofNat (48 + (k : Int)).toNat]
        rw [show (48 + (k : Int)).toNat = 48 + k by omega]
    · rw [dif_neg h, ih (k / 10) (by omega)]
      unfold natD
      rw [if_neg (by omega : ¬ k / 10 = 0), if_neg (by omega : ¬ k = 0), digZ_pos (by omega : k ≠ 0)]
      unfold ofBytes
      rw [List.map_append]
      show _ = _ ++ [UInt8.ofNat (48 + ((k % 10 : Nat) : Int)).toNat]
      rw [show (48 + ((k % 10 : Nat) : Int)).toNat = 48 + k % 10 by omega]

theorem itoa_decZ (z : Int) : Lib.itoa z = decZ z := by
  unfold Lib.itoa decZ
  by_cases h : z < 0
  · rw [if_pos h, if_pos h, decDigits_natD _ _ (Nat.le_refl _)]
  · rw [if_neg h, if_neg h, decDigits_natD _ _ (Nat.le_refl _), show z.toNat = z.natAbs by omega]

theorem p_Decimal (n : Nat) (z : Int) (hz : i64ok z) : m_impl_Decimal n z = some (decZ z) := by
  unfold m_impl_Decimal m_strconv_FormatInt
  unfold i64ok at hz
  rw [if_pos ⟨by omega, by omega, rfl⟩, itoa_decZ]; rfl

def szR (x : SRepair) : Nat := x.Name.length + x.Mends.length + x.First.length
def totR (l : List SRepair) : Nat := (l.map szR).sum
/-- Small enough, every part. -/
def smallR (l : List SRepair) : Prop := l.length + totR l ≤ 1048576 ∧ ∀ x ∈ l, okRepair x

theorem mem_le_totR {l : List SRepair} {x : SRepair} (h : x ∈ l) : szR x ≤ totR l := by
  induction l with
  | nil => simp at h
  | cons y ys ih =>
    simp only [totR, List.map_cons, List.sum_cons] at ih ⊢
    rcases List.mem_cons.1 h with rfl | h
    · omega
    · have := ih h; omega

theorem p_szRepair (n : Nat) (x : SRepair) (L : Int) (h0 : 0 ≤ L) (h1 : L ≤ 1048576) (hx : okRepair x) : ∃ v, m_laws_szRepair n x L = some v ∧ ((v = -1) ∨ (0 ≤ v ∧ v = L - szR x)) := by
  obtain ⟨o1, ⟨o2, -⟩, ⟨o3, -⟩, -, -⟩ := hx
  unfold strok at o1
  unfold m_laws_szRepair m_laws_szInt64S szR
  rw [wI64_eq (x := L - (x.Name.length : Int)) (by omega) (by omega)]
  by_cases hc : L - (x.Name.length : Int) < 0
  · exact ⟨-1, by simp [hc], .inl rfl⟩
  · simp only [hc, decide_false, Bool.false_eq_true, if_false]
    rw [wI64_eq (x := L - (x.Name.length : Int) - (x.Mends.length : Int)) (by omega) (by omega)]
    by_cases hd : L - (x.Name.length : Int) - (x.Mends.length : Int) < 0
    · exact ⟨-1, by simp [hd], .inl rfl⟩
    · simp only [hd, decide_false, Bool.false_eq_true, if_false, Option.bind_some]
      rw [wI64_eq (x := L - (x.Name.length : Int) - (x.Mends.length : Int) - (x.First.length : Int)) (by omega) (by omega)]
      by_cases he : L - (x.Name.length : Int) - (x.Mends.length : Int) - (x.First.length : Int) < 0
      · exact ⟨-1, by simp [he], .inl rfl⟩
      · exact ⟨L - (x.Name.length : Int) - (x.Mends.length : Int) - (x.First.length : Int), by simp only [he, decide_false, Bool.false_eq_true, if_false, Option.bind_some], .inr ⟨by omega, by omega⟩⟩

theorem p_szRepairS (n : Nat) (rows : List SRepair) (L : Int) (h0 : 0 ≤ L) (h1 : L ≤ 1048576) (hl : rows.length ≤ 9223372036854775807) (hs : ∀ r ∈ rows, okRepair r) (hn : 1048576 < n) :
    ∃ v, m_laws_szRepairS n rows L = some v ∧ (v < 0 ∨ (0 ≤ v ∧ v = L - rows.length - totR rows)) := by
  unfold m_laws_szRepairS
  have w1 : wI64 (L - (rows.length : Int)) = L - rows.length := wI64_eq (by omega) (by omega)
  rw [w1]
  by_cases hneg : L - (rows.length : Int) < 0
  · exact ⟨-1, by simp [hneg], .inl (by omega)⟩
  · simp only [hneg, decide_false, Bool.false_eq_true, if_false]
    have hrun := loopN_runL (body := m_laws_szRepairS_l1 n rows) rows (fun _ (b : Int) (x : SRepair) => match m_laws_szRepair n x b with | some v => if v < 0 then .error (.inr (-1)) else .ok v | none => .error (.inr (-1))) (L - rows.length) (fun i b => (b, (i : Int))) (fun b => .inl b)
      (fun i b => 0 ≤ b ∧ b ≤ 1048576 ∧ b = L - rows.length - totR (rows.take i)) ⟨by omega, by omega, by simp [totR]⟩
      (fun i x b hx ⟨hb0, hb1, hb2⟩ => by
        have hlt := lt_of_get hx
        obtain ⟨v, hv, hv2⟩ := p_szRepair n x b hb0 hb1 (hs x (List.mem_of_getElem? hx))
        have w3 : wI64 ((i : Int) + 1) = ((i + 1 : Nat) : Int) := succ64 hlt hl
        rcases hv2 with rfl | ⟨hv3, hv4⟩
        · simp only [hv]
          unfold m_laws_szRepairS_l1
          simp only [ltB hlt, if_true, idx_nat, hx, Option.bind_some, hv]; rfl
        · have hnn : ¬ v < 0 := by omega
          simp only [hv, hnn, if_false]
          unfold m_laws_szRepairS_l1
          simp only [ltB hlt, if_true, idx_nat, hx, Option.bind_some, hv, hnn, decide_false, Bool.false_eq_true, if_false, w3, true_and]
          refine ⟨by omega, by omega, ?_⟩
          rw [List.take_add_one, hx]; simp [totR] at hb2 ⊢; omega)
      (fun b _ => by unfold m_laws_szRepairS_l1; simp) n (by omega)
    obtain ⟨hr, hI⟩ := hrun
    have hr' : loopN (m_laws_szRepairS_l1 n rows) n (L - (rows.length : Int), 0) = _ := hr
    rw [hr']
    generalize hg : runL (fun _ (b : Int) (x : SRepair) => match m_laws_szRepair n x b with | some v => if v < 0 then Except.error (Sum.inr (-1) : Int ⊕ Int) else .ok v | none => .error (.inr (-1))) 0 rows (L - rows.length) = res at hI ⊢
    cases res with
    | ok b =>
      have := hI b rfl
      simp only [List.take_length] at this
      exact ⟨b, rfl, .inr ⟨this.1, this.2.2⟩⟩
    | error t =>
      have ht : t = .inr (-1) := by
        have : ∀ (ys : List SRepair) (i : Nat) (b : Int), runL (fun _ (b : Int) (x : SRepair) => match m_laws_szRepair n x b with | some v => if v < 0 then Except.error (Sum.inr (-1) : Int ⊕ Int) else .ok v | none => .error (.inr (-1))) i ys b = .error t → t = .inr (-1) := by
          intro ys
          induction ys with
          | nil => intro i b h; simp [runL] at h
          | cons y ys ih =>
            intro i b h
            simp only [runL] at h
            cases hv : m_laws_szRepair n y b with
            | none => simp [hv] at h; exact h.symm
            | some v =>
              by_cases hc : v < 0
              · simp [hv, hc] at h; exact h.symm
              · simp only [hv, hc, if_false] at h; exact ih _ _ h
        exact this _ _ _ hg
      subst ht
      exact ⟨-1, rfl, .inl (by omega)⟩

theorem smallR_rows {l : List SRepair} (h : smallR l) {x : SRepair} (hx : x ∈ l) : x.Name.length ≤ 1048576 ∧ x.Mends.length ≤ 1048576 ∧ x.First.length ≤ 1048576 ∧ strok x.Name := by
  have := mem_le_totR hx
  have h1 := h.1
  unfold szR at this
  exact ⟨by omega, by omega, by omega, (h.2 x hx).1⟩

theorem p_toRepair (n : Nat) (a : SRepair) (h1 : a.Mends.length ≤ 1048576) (h2 : a.First.length ≤ 1048576) (hn : 1048576 < n) : m_laws_toRepair n a = some a := by
  unfold m_laws_toRepair
  rw [p_toInt64S n _ h1 hn, p_toInt64S n _ h2 hn]; rfl

def rD : SRepair := ⟨[], [], [], 0, 0⟩

theorem p_toRepairS (n : Nat) (a : List SRepair) (ha : smallR a) (hn : 1048576 < n) : m_laws_toRepairS n a = some a := by
  have hl : a.length ≤ 1048576 := by have := ha.1; omega
  unfold m_laws_toRepairS
  rw [mk_nat _ _ (by omega)]
  simp only [Option.bind_some]
  have := loopN_fill (body := m_laws_toRepairS_l1 n a) a.length (fun i => a.getD i rD) (List.replicate a.length rD) (by simp) (fun i l => ((i : Int), l)) id
    (fun i l x hi hl2 hx => by
      have hm : a.getD i rD ∈ a := List.mem_of_getElem? (getD_of hi rD)
      obtain ⟨-, b1, b2, -⟩ := smallR_rows ha hm
      have hb : decide ((i : Int) < (a.length : Int)) = true := ltB hi
      have w3 : wI64 ((i : Int) + 1) = ((i + 1 : Nat) : Int) := succ64 hi (by omega)
      unfold m_laws_toRepairS_l1
      simp only [hb, if_true, idx_nat a i, getD_of hi rD, Option.bind_some, p_toRepair n _ b1 b2 hn, hx, w3, Int.toNat_natCast])
    (fun l => by unfold m_laws_toRepairS_l1; simp) n (by omega)
  have h2 : loopN (m_laws_toRepairS_l1 n a) n (0, List.replicate a.length rD) = _ := this
  have h3 : loopN (m_laws_toRepairS_l1 n a) n (0, List.replicate a.length ((SRepair.mk [] ([] : List Int) ([] : List Int) 0 0) : SRepair)) = _ := h2
  rw [h3, range_map_getD]; rfl

theorem p_eqRepairS (n : Nat) (a : List SRepair) (ha : smallR a) (hn : 1048576 < n) : m_laws_eqRepairS n a a = some true := by
  have hl : a.length ≤ 1048576 := by have := ha.1; omega
  unfold m_laws_eqRepairS
  simp only [bne_self_eq_false, Bool.false_eq_true, if_false]
  have := loopN_listAll (body := m_laws_eqRepairS_l1 n a a) a (fun _ => true) (fun i => (i : Int)) (.inl ()) (.inr false)
    (fun i x hx => by
      have hlt := lt_of_get hx
      obtain ⟨-, b1, b2, -⟩ := smallR_rows ha (List.mem_of_getElem? hx)
      have he : m_laws_eqRepair n x x = some true := by
        unfold m_laws_eqRepair
        rw [p_eqInt64S n _ b1 hn, p_eqInt64S n _ b2 hn]; simp
      unfold m_laws_eqRepairS_l1
      simp only [ltB hlt, if_true, idx_nat a i, hx, Option.bind_some, he, succ64 hlt (by omega)]; simp)
    (by unfold m_laws_eqRepairS_l1; simp) n (by omega)
  have h2 : loopN (m_laws_eqRepairS_l1 n a a) n 0 = _ := this
  rw [h2]; simp

theorem smallR_of {l : List SRepair} {v L : Int} (h : v = L - l.length - totR l) (hv : 0 ≤ v) (hL : L ≤ 1048576) (hok : ∀ x ∈ l, okRepair x) : smallR l := ⟨by omega, hok⟩

/-! ### Numbers that rise -/

def inRB (lo hi v : Int) : Bool := decide (lo ≤ v) && decide (v ≤ hi)
def riseB (lo hi : Int) (l : List Int) (i : Nat) : Bool := inRB lo hi (l.getD i 0) && (decide (i = 0) || decide (l.getD (i - 1) 0 < l.getD i 0))
def risB (lo hi : Int) (l : List Int) : Bool := (List.range l.length).all (riseB lo hi l)

theorem not_ge (x y : Int) : decide (x ≥ y) = !decide (x < y) := by
  by_cases h : x < y
  · have : ¬ x ≥ y := by omega
    simp [h, this]
  · have : x ≥ y := by omega
    simp [h, this]

theorem p_l00Rises (n : Nat) (l : List Int) (lo hi : Int) (hl : l.length ≤ 1048576) (hn : 1048576 < n) : m_spec_l00Rises n l lo hi = some (risB lo hi l) := by
  unfold m_spec_l00Rises risB
  have key := loopN_all (body := m_spec_l00Rises_l1 n l lo hi) (fun i => (i : Int)) (.inl ()) (.inr false) l.length (riseB lo hi l)
    (fun i hi2 => by
      have hg : l[i]? = some (l.getD i 0) := getD_of hi2 0
      unfold m_spec_l00Rises_l1 riseB inRB
      simp only [ltB hi2, if_true, idx_nat, hg, Option.bind_some, p_l00In, succ64 hi2 (by omega)]
      cases hgb : (decide (lo ≤ l.getD i 0) && decide (l.getD i 0 ≤ hi)) with
      | false => rfl
      | true =>
        simp only [Bool.not_true, Bool.false_eq_true, if_false, Bool.true_and]
        by_cases h0 : i = 0
        · subst h0; rfl
        · have hp : decide ((i : Int) > 0) = true := decide_eq_true (by omega)
          have hw : wI64 ((i : Int) - 1) = ((i - 1 : Nat) : Int) := by rw [wI64_eq (by omega) (by omega)]; omega
          have hg2 : l[i - 1]? = some (l.getD (i - 1) 0) := getD_of (by omega) 0
          simp only [hp, if_true, hw, idx_nat, hg2, Option.bind_some, h0, decide_false, Bool.false_or, not_ge]
          cases decide (l.getD (i - 1) 0 < l.getD i 0) <;> rfl)
    (by unfold m_spec_l00Rises_l1; simp) n (by omega)
  have k1 : loopN (m_spec_l00Rises_l1 n l lo hi) n 0 = _ := key
  rw [k1]
  cases (List.range l.length).all (riseB lo hi l) <;> rfl

theorem p_isIncreasing (n : Nat) (l : List Int) (lo hi : Int) (hl : l.length ≤ 1048576) (hn : 1048576 < n) : m_impl_isIncreasing n l lo hi = some (risB lo hi l) := by
  unfold m_impl_isIncreasing risB
  have key := loopN_all (body := m_impl_isIncreasing_l1 n l lo hi) (fun i => (i : Int)) (.inl ()) (.inr false) l.length (riseB lo hi l)
    (fun i hi2 => by
      have hg : l[i]? = some (l.getD i 0) := getD_of hi2 0
      unfold m_impl_isIncreasing_l1 riseB inRB
      simp only [ltB hi2, if_true, idx_nat, hg, Option.bind_some, p_within, succ64 hi2 (by omega)]
      cases hgb : (decide (lo ≤ l.getD i 0) && decide (l.getD i 0 ≤ hi)) with
      | false => rfl
      | true =>
        simp only [Bool.not_true, Bool.false_eq_true, if_false, Bool.true_and]
        by_cases h0 : i = 0
        · subst h0; rfl
        · have hp : decide ((i : Int) > 0) = true := decide_eq_true (by omega)
          have hw : wI64 ((i : Int) - 1) = ((i - 1 : Nat) : Int) := by rw [wI64_eq (by omega) (by omega)]; omega
          have hg2 : l[i - 1]? = some (l.getD (i - 1) 0) := getD_of (by omega) 0
          simp only [hp, if_true, hw, idx_nat, hg2, Option.bind_some, h0, decide_false, Bool.false_or, not_ge]
          cases decide (l.getD (i - 1) 0 < l.getD i 0) <;> rfl)
    (by unfold m_impl_isIncreasing_l1; simp) n (by omega)
  have k1 : loopN (m_impl_isIncreasing_l1 n l lo hi) n 0 = _ := key
  rw [k1]
  cases (List.range l.length).all (riseB lo hi l) <;> rfl

/-- What it means to rise. -/
theorem risB_spec {lo hi : Int} {l : List Int} : risB lo hi l = true ↔ (∀ x ∈ l, lo ≤ x ∧ x ≤ hi) ∧ l.Pairwise (· < ·) := by
  unfold risB
  rw [List.all_eq_true]
  constructor
  · intro h
    have at_ : ∀ i (hi2 : i < l.length), lo ≤ l[i] ∧ l[i] ≤ hi ∧ (i ≠ 0 → l[i - 1]'(by omega) < l[i]) := by
      intro i hi2
      have := h i (by simpa using hi2)
      unfold riseB inRB at this
      simp only [Bool.and_eq_true, Bool.or_eq_true, decide_eq_true_eq, List.getD_eq_getElem?_getD, List.getElem?_eq_getElem hi2, List.getElem?_eq_getElem (show i - 1 < l.length by omega), Option.getD_some] at this
      exact ⟨this.1.1, this.1.2, fun h0 => this.2.resolve_left h0⟩
    refine ⟨fun x hx => ?_, ?_⟩
    · obtain ⟨i, hi2, rfl⟩ := List.getElem_of_mem hx
      exact ⟨(at_ i hi2).1, (at_ i hi2).2.1⟩
    · rw [List.pairwise_iff_getElem]
      intro i j h1 h2 hij
      have : ∀ d (hd : i + d + 1 < l.length), l[i] < l[i + d + 1] := by
        intro d
        induction d with
        | zero => intro hd; have := (at_ (i + 1) hd).2.2 (by omega); simpa using this
        | succ d ih =>
          intro hd
          have h1 := ih (by omega)
          have h2 := (at_ (i + (d + 1) + 1) hd).2.2 (by omega)
          have e : i + (d + 1) + 1 - 1 = i + d + 1 := by omega
          simp only [e] at h2
          exact Int.lt_trans h1 h2
      have := this (j - i - 1) (by omega)
      have e : i + (j - i - 1) + 1 = j := by omega
      simpa [e] using this
  · rintro ⟨h1, h2⟩ i hi2
    have hi3 : i < l.length := by simpa using hi2
    unfold riseB inRB
    simp only [Bool.and_eq_true, Bool.or_eq_true, decide_eq_true_eq, List.getD_eq_getElem?_getD, List.getElem?_eq_getElem hi3, List.getElem?_eq_getElem (show i - 1 < l.length by omega), Option.getD_some]
    refine ⟨h1 _ (List.getElem_mem hi3), ?_⟩
    by_cases h0 : i = 0
    · exact .inl h0
    · right
      rw [List.pairwise_iff_getElem] at h2
      exact h2 (i - 1) i (by omega) hi3 (by omega)

/-! ### Valid repairs -/

def repB (l : List SRepair) (i : Nat) : Bool :=
  nameB (l.getD i rD).Name && (risB 0 9 (l.getD i rD).Mends && (risB 0 ((i : Int) - 1) (l.getD i rD).First && (inRB 0 100000 (l.getD i rD).Price && (inRB 0 1000 (l.getD i rD).Hours && (l.take i).all (fun o => !(o.Name == (l.getD i rD).Name))))))
def repsB (l : List SRepair) : Bool := (List.range l.length).all (repB l) && decide (l.length ≤ 10)

theorem pred64 {i : Nat} (h : i ≤ 1048576) : wI64 ((i : Int) - 1) = (i : Int) - 1 := wI64_eq (by omega) (by omega)

theorem p_l21Ok_l2 (n : Nat) (l : List SRepair) (i : Nat) (x : SRepair) (hi : i < l.length) (hl : l.length ≤ 1048576) (hn : 1048576 < n) :
    loopN (m_spec_l21Ok_l2 n l (i : Int) x) n 0 = some (if (l.take i).all (fun o => !(o.Name == x.Name)) then .inl () else .inr false) := by
  have hlen : (l.take i).length = i := by simp; omega
  have key := loopN_listAll (body := m_spec_l21Ok_l2 n l (i : Int) x) (l.take i) (fun o => !(o.Name == x.Name)) (fun i => (i : Int)) (.inl ()) (.inr false)
    (fun k o ho => by
      have hk := lt_of_get ho
      rw [hlen] at hk
      have ho2 : l[k]? = some o := by rw [List.getElem?_take] at ho; simpa [hk] using ho
      unfold m_spec_l21Ok_l2
      simp only [ltB hk, if_true, idx_nat, ho2, Option.bind_some, succ64 hk (by omega)]
      cases o.Name == x.Name <;> rfl)
    (by unfold m_spec_l21Ok_l2; rw [hlen]; simp) n (by rw [hlen]; omega)
  exact key

theorem p_l21Ok (n : Nat) (l : List SRepair) (hs : smallR l) (hn : 1048576 < n) : m_spec_l21Ok n l = some (repsB l) := by
  have hl : l.length ≤ 1048576 := by have := hs.1; omega
  unfold m_spec_l21Ok repsB
  have key := loopN_all (body := m_spec_l21Ok_l1 n l) (fun i => (i : Int)) (.inl ()) (.inr false) l.length (repB l)
    (fun i hi => by
      have hg : l[i]? = some (l.getD i rD) := getD_of hi rD
      obtain ⟨-, b1, b2, b3⟩ := smallR_rows hs (List.mem_of_getElem? hg)
      unfold m_spec_l21Ok_l1 repB
      simp only [ltB hi, if_true, idx_nat, hg, Option.bind_some, p_specIsName n _ b3 hn, p_l00Rises n _ _ _ b1 hn, p_l00Rises n _ _ _ b2 hn, p_l00In, pred64 (show i ≤ 1048576 by omega), p_l21Ok_l2 n l i _ hi hl hn, succ64 hi (by omega)]
      unfold inRB
      cases nameB (l.getD i rD).Name <;> cases risB 0 9 (l.getD i rD).Mends <;> cases risB 0 ((i : Int) - 1) (l.getD i rD).First <;> cases (decide (0 ≤ (l.getD i rD).Price) && decide ((l.getD i rD).Price ≤ 100000)) <;>
        cases (decide (0 ≤ (l.getD i rD).Hours) && decide ((l.getD i rD).Hours ≤ 1000)) <;> cases (l.take i).all (fun o => !(o.Name == (l.getD i rD).Name)) <;> rfl)
    (by unfold m_spec_l21Ok_l1; simp) n (by omega)
  have k1 : loopN (m_spec_l21Ok_l1 n l) n 0 = _ := key
  rw [k1]
  have h10 : decide ((l.length : Int) ≤ 10) = decide (l.length ≤ 10) := decide_eq_decide.2 (by omega)
  cases (List.range l.length).all (repB l) with
  | true => simp only [if_true, Option.bind_some, h10, Bool.true_and]
  | false => rfl

theorem p_hasName (n : Nat) (l : List SRepair) (x : SRepair) (hl : l.length ≤ 1048576) (hn : 1048576 < n) : m_slices_ContainsFunc_impl_Repair_impl_Repair_f27 n l x = some (!l.all (fun o => !(o.Name == x.Name))) := by
  unfold m_slices_ContainsFunc_impl_Repair_impl_Repair_f27 m_slices_IndexFunc_impl_Repair_impl_Repair_f27
  have key := loopN_index (body := m_slices_IndexFunc_impl_Repair_impl_Repair_f27_l1 n l x) l (fun o => o.Name == x.Name)
    (fun i o ho => by
      have hlt := lt_of_get ho
      unfold m_slices_IndexFunc_impl_Repair_impl_Repair_f27_l1 m_impl_ValidRepairs_1
      simp only [ltB hlt, if_true, idx_nat, ho, Option.bind_some, succ64 hlt (by omega)]
      cases o.Name == x.Name <;> rfl)
    (by unfold m_slices_IndexFunc_impl_Repair_impl_Repair_f27_l1; simp) n (by omega)
  rw [key]
  cases h : l.findIdx? (fun o => o.Name == x.Name) with
  | none =>
    rw [List.findIdx?_eq_none_iff] at h
    have : l.all (fun o => !(o.Name == x.Name)) = true := by rw [List.all_eq_true]; intro o ho; simp [h o ho]
    rw [this]; rfl
  | some i =>
    rw [List.findIdx?_eq_some_iff_getElem] at h
    obtain ⟨hi, hp, -⟩ := h
    have : l.all (fun o => !(o.Name == x.Name)) = false := by rw [List.all_eq_false]; exact ⟨_, List.getElem_mem hi, by simp [hp]⟩
    rw [this]
    have h0 : decide ((i : Int) ≥ 0) = true := decide_eq_true (by omega)
    simp only [Option.bind_some, h0, Bool.not_false]

theorem p_implValidRepairs (n : Nat) (l : List SRepair) (hs : smallR l) (hn : 1048576 < n) : m_impl_ValidRepairs n l = some (repsB l) := by
  have hl : l.length ≤ 1048576 := by have := hs.1; omega
  unfold m_impl_ValidRepairs repsB
  have key := loopN_all (body := m_impl_ValidRepairs_l1 n l) (fun i => (i : Int)) (.inl ()) (.inr false) l.length (repB l)
    (fun i hi => by
      have hg : l[i]? = some (l.getD i rD) := getD_of hi rD
      obtain ⟨-, b1, b2, b3⟩ := smallR_rows hs (List.mem_of_getElem? hg)
      have hsub : sub l 0 (i : Int) = some (l.take i) := by
        unfold sub
        rw [if_pos ⟨by omega, by omega, by omega⟩]; simp
      have hlt : (l.take i).length ≤ 1048576 := by simp; omega
      unfold m_impl_ValidRepairs_l1 repB m_impl_areFaults
      simp only [ltB hi, if_true, idx_nat, hg, Option.bind_some, p_implIsName n _ b3 hn, p_isIncreasing n _ _ _ b1 hn, p_isIncreasing n _ _ _ b2 hn, p_within, pred64 (show i ≤ 1048576 by omega), hsub, p_hasName n _ _ hlt hn, succ64 hi (by omega)]
      unfold inRB
      cases nameB (l.getD i rD).Name <;> cases risB 0 9 (l.getD i rD).Mends <;> cases risB 0 ((i : Int) - 1) (l.getD i rD).First <;> cases (decide (0 ≤ (l.getD i rD).Price) && decide ((l.getD i rD).Price ≤ 100000)) <;>
        cases (decide (0 ≤ (l.getD i rD).Hours) && decide ((l.getD i rD).Hours ≤ 1000)) <;> cases (l.take i).all (fun o => !(o.Name == (l.getD i rD).Name)) <;> rfl)
    (by unfold m_impl_ValidRepairs_l1; simp) n (by omega)
  have k1 : loopN (m_impl_ValidRepairs_l1 n l) n 0 = _ := key
  rw [k1]
  have h10 : decide ((l.length : Int) ≤ 10) = decide (l.length ≤ 10) := decide_eq_decide.2 (by omega)
  cases (List.range l.length).all (repB l) with
  | true => simp only [if_true, Option.bind_some, h10, Bool.true_and]
  | false => rfl

/-- What is known of valid repairs. -/
structure Vr (l : List SRepair) : Prop where
  len : l.length ≤ 10
  first : ∀ (i : Nat) x, l[i]? = some x → (∀ b ∈ x.First, 0 ≤ b ∧ b < (i : Int)) ∧ x.First.Pairwise (· < ·)
  mends : ∀ x ∈ l, (∀ b ∈ x.Mends, 0 ≤ b ∧ b ≤ 9) ∧ x.Mends.Pairwise (· < ·)
  price : ∀ x ∈ l, 0 ≤ x.Price ∧ x.Price ≤ 100000
  hours : ∀ x ∈ l, 0 ≤ x.Hours ∧ x.Hours ≤ 1000

theorem vr_of {l : List SRepair} (h : repsB l = true) : Vr l := by
  unfold repsB at h
  simp only [Bool.and_eq_true, decide_eq_true_eq, List.all_eq_true, List.mem_range] at h
  obtain ⟨h1, h2⟩ := h
  have at_ : ∀ (i : Nat) x, l[i]? = some x → risB 0 9 x.Mends = true ∧ risB 0 ((i : Int) - 1) x.First = true ∧ (0 ≤ x.Price ∧ x.Price ≤ 100000) ∧ 0 ≤ x.Hours ∧ x.Hours ≤ 1000 := by
    intro i x hx
    have := h1 i (lt_of_get hx)
    unfold repB inRB at this
    rw [List.getD_eq_getElem?_getD, hx] at this
    simp only [Option.getD_some, Bool.and_eq_true, decide_eq_true_eq] at this
    exact ⟨this.2.1, this.2.2.1, this.2.2.2.1, this.2.2.2.2.1⟩
  refine ⟨h2, fun i x hx => ?_, fun x hx => ?_, fun x hx => ?_, fun x hx => ?_⟩
  · obtain ⟨g1, g2⟩ := risB_spec.1 (at_ i x hx).2.1
    exact ⟨fun b hb => by have := g1 b hb; omega, g2⟩
  all_goals
    obtain ⟨i, hi⟩ := List.getElem?_of_mem hx
    have := at_ i x hi
  · exact risB_spec.1 this.1
  · exact this.2.2.1
  · exact this.2.2.2

/-- Rising numbers from 0 on, below a bound, are few. -/
theorem inc_len : ∀ (s : List Int) (a N : Nat), (∀ k ∈ s, (a : Int) ≤ k ∧ k < (N : Int)) → s.Pairwise (· < ·) → s.length ≤ N - a
  | [], _, _, _, _ => by simp
  | x :: xs, a, N, h, hp => by
    have hx := h x (by simp)
    rw [List.pairwise_cons] at hp
    have := inc_len xs (x.toNat + 1) N (fun k hk => ⟨by have := hp.1 k hk; omega, (h k (by simp [hk])).2⟩) hp.2
    simp only [List.length_cons]; omega

theorem joinTail_snoc (sep : List UInt8) (r : List (List UInt8)) (t : List UInt8) : Lib.joinTail sep (r ++ [t]) = Lib.joinTail sep r ++ sep ++ t := by simp [Lib.joinTail]

theorem join_snoc (sep t : List UInt8) : ∀ (r : List (List UInt8)), r ≠ [] → Lib.join (r ++ [t]) sep = Lib.join r sep ++ sep ++ t
  | [], h => absurd rfl h
  | x :: r, _ => by rw [List.cons_append, Lib.join_cons, Lib.join_cons, joinTail_snoc]; simp

/-! ### The text -/

theorem join_len (M : Nat) : ∀ (ns : List (List UInt8)), (∀ t ∈ ns, t.length ≤ M) → (Lib.join ns [44]).length ≤ ns.length * (M + 1)
  | [], _ => by simp [Lib.join_nil]
  | x :: r, h => by
    rw [Lib.join_cons]
    have h1 : ∀ (r : List (List UInt8)), (∀ t ∈ r, t.length ≤ M) → (Lib.joinTail [44] r).length ≤ r.length * (M + 1) := by
      intro r
      induction r with
      | nil => intro _; simp [Lib.joinTail]
      | cons y r ih =>
        intro h
        have h2 := ih fun t ht => h t (by simp [ht])
        have h3 := h y (by simp)
        have e : Lib.joinTail [44] (y :: r) = [44] ++ y ++ Lib.joinTail [44] r := by simp [Lib.joinTail]
        rw [e, List.length_cons, Nat.add_mul]
        simp only [List.length_append, List.length_cons, List.length_nil]
        omega
    have h2 := h1 r fun t ht => h t (by simp [ht])
    have h3 := h x (by simp)
    rw [List.length_append, List.length_cons, Nat.add_mul]
    omega

def afterT : List UInt8 := [32, 97, 102, 116, 101, 114, 32]
def sfx (ns : List (List UInt8)) : List UInt8 := if ns = [] then [] else afterT ++ Lib.join ns [44]

theorem sfx_len {M : Nat} {ns : List (List UInt8)} (h : ∀ t ∈ ns, t.length ≤ M) : (sfx ns).length ≤ 7 + ns.length * (M + 1) := by
  have := join_len M ns h
  unfold sfx
  split
  · simp
  · rw [List.length_append]; simp only [afterT, List.length_cons, List.length_nil]; omega

theorem sfx_snoc (ns : List (List UInt8)) (t : List UInt8) : sfx (ns ++ [t]) = (if ns = [] then afterT else sfx ns ++ [44]) ++ t := by
  unfold sfx
  rw [if_neg (by simp)]
  by_cases h : ns = []
  · subst h; simp [Lib.join_one]
  · rw [if_neg h, if_neg h, join_snoc [44] t ns h]; simp

def namesOf (l : List SRepair) (x : SRepair) : List (List UInt8) := x.First.map fun b => (l.getD b.toNat rD).Name
def headT (x : SRepair) : List UInt8 := (((x.Name ++ [32, 112, 114, 105, 99, 101, 32]) ++ decZ x.Price) ++ [32, 104, 111, 117, 114, 115, 32]) ++ decZ x.Hours

theorem firsts {l : List SRepair} (hl : Vr l) (hs : smallR l) {k : Nat} {x : SRepair} (hx : l[k]? = some x) : x.First.length ≤ 10 ∧ (namesOf l x).length = x.First.length ∧ (∀ t ∈ namesOf l x, t.length ≤ 1048576) ∧
    ∀ (i : Nat) b, x.First[i]? = some b → idx l b = some (l.getD b.toNat rD) ∧ (namesOf l x)[i]? = some (l.getD b.toNat rD).Name := by
  obtain ⟨h1, h2⟩ := hl.first k x hx
  have hlt := lt_of_get hx
  have hll := hl.len
  have hin : ∀ b ∈ x.First, b.toNat < l.length := fun b hb => by have := h1 b hb; omega
  refine ⟨?_, by simp [namesOf], fun t ht => ?_, fun i b hb => ⟨?_, ?_⟩⟩
  · have := inc_len x.First 0 k (fun b hb => h1 b hb) h2; omega
  · unfold namesOf at ht
    rw [List.mem_map] at ht
    obtain ⟨b, hb, rfl⟩ := ht
    exact (smallR_rows hs (List.mem_of_getElem? (getD_of (hin b hb) rD))).1
  · have hm := List.mem_of_getElem? hb
    have := h1 b hm
    unfold idx; rw [if_pos (by omega)]; exact getD_of (hin b hm) rD
  · unfold namesOf; rw [List.getElem?_map, hb]; rfl

theorem p_specLoop (n : Nat) (l : List SRepair) (hl : Vr l) (hs : smallR l) {k : Nat} {x : SRepair} (hx : l[k]? = some x) (o : List UInt8) (ho : o.length ≤ 2000000) (hn : 1048576 < n) : loopN (m_spec_RepairText_l1 n l x) n (o, 0) = some (o ++ sfx (namesOf l x)) := by
  obtain ⟨f1, f2, f3, f4⟩ := firsts hl hs hx
  have key := loopN_run (body := m_spec_RepairText_l1 n l x) (fun i => (o ++ sfx ((namesOf l x).take i), (i : Int))) (o ++ sfx (namesOf l x)) x.First.length
    (fun i hi => by
      have hb : x.First[i]? = some x.First[i] := List.getElem?_eq_getElem hi
      obtain ⟨g1, g2⟩ := f4 i _ hb
      have hsl := sfx_len (M := 1048576) (ns := (namesOf l x).take i) fun t ht => f3 t (List.mem_of_mem_take ht)
      have htl : ((namesOf l x).take i).length = i := by rw [List.length_take]; omega
      rw [htl] at hsl
      have hsl2 : (sfx ((namesOf l x).take i)).length ≤ 7 + 10 * 1048577 := Nat.le_trans hsl (Nat.add_le_add_left (Nat.mul_le_mul_right _ (by omega)) 7)
      have hnm := f3 _ (List.mem_of_getElem? g2)
      have e : (namesOf l x).take (i + 1) = (namesOf l x).take i ++ [(l.getD (x.First[i]).toNat rD).Name] := by rw [List.take_add_one, g2]; rfl
      have hne : ((namesOf l x).take i = []) ↔ i = 0 := by
        constructor
        · intro h; rw [h] at htl; simpa using htl.symm
        · rintro rfl; simp
      unfold m_spec_RepairText_l1
      rw [e, sfx_snoc]
      simp only [ltB hi, if_true, idx_nat, hb, g1, Option.bind_some, succ64 hi (by omega)]
      by_cases h0 : i = 0
      · subst h0
        have e0 : sfx ((namesOf l x).take 0) = [] := by simp [sfx]
        have a1 : app o [32, 97, 102, 116, 101, 114, 32] = some (o ++ afterT) := app_eq (by simp; omega)
        rw [e0, List.append_nil]
        simp only [show (((0 : Nat) : Int) == 0) = true from rfl, if_true, a1, Option.bind_some]
        rw [app_eq (by simp [afterT] at *; omega)]
        simp
      · have hz : (((i : Nat) : Int) == 0) = false := beq_eq_false_iff_ne.2 (by omega)
        have a1 : app (o ++ sfx ((namesOf l x).take i)) [44] = some (o ++ sfx ((namesOf l x).take i) ++ [44]) := app_eq (by simp; omega)
        simp only [hz, Bool.false_eq_true, if_false, a1, Option.bind_some]
        rw [app_eq (by simp at *; omega)]
        have hne2 : ¬ (namesOf l x).take i = [] := fun h => h0 (hne.1 h)
        simp only [hne2, if_false, Option.bind_some]
        simp)
    (by
      unfold m_spec_RepairText_l1
      have e : (namesOf l x).take x.First.length = namesOf l x := by rw [← f2, List.take_length]
      simp only [ltB_self, Bool.false_eq_true, if_false, e]) n (by omega)
  have e0 : sfx ((namesOf l x).take 0) = [] := by simp [sfx]
  have k1 : loopN (m_spec_RepairText_l1 n l x) n (o ++ sfx ((namesOf l x).take 0), 0) = _ := key
  rw [e0, List.append_nil] at k1
  exact k1

theorem p_implLoop (n : Nat) (l : List SRepair) (hl : Vr l) (hs : smallR l) {k : Nat} {x : SRepair} (hx : l[k]? = some x) (hn : 1048576 < n) : loopN (m_impl_RepairText_l1 n l x) n (([] : List (List UInt8)), 0) = some (namesOf l x) := by
  obtain ⟨f1, f2, f3, f4⟩ := firsts hl hs hx
  have key := loopN_run (body := m_impl_RepairText_l1 n l x) (fun i => ((namesOf l x).take i, (i : Int))) (namesOf l x) x.First.length
    (fun i hi => by
      have hb : x.First[i]? = some x.First[i] := List.getElem?_eq_getElem hi
      obtain ⟨g1, g2⟩ := f4 i _ hb
      have e : (namesOf l x).take (i + 1) = (namesOf l x).take i ++ [(l.getD (x.First[i]).toNat rD).Name] := by rw [List.take_add_one, g2]; rfl
      unfold m_impl_RepairText_l1
      rw [e]
      simp only [ltB hi, if_true, idx_nat, hb, g1, Option.bind_some, succ64 hi (by omega)]
      rw [app_eq (by simp; omega)]; rfl)
    (by
      unfold m_impl_RepairText_l1
      have e : (namesOf l x).take x.First.length = namesOf l x := by rw [← f2, List.take_length]
      simp only [ltB_self, Bool.false_eq_true, if_false, e]) n (by omega)
  have k1 : loopN (m_impl_RepairText_l1 n l x) n ((namesOf l x).take 0, 0) = _ := key
  simpa using k1

def textB (l : List SRepair) (k : Int) : List UInt8 := if repsB l && inRB 0 ((l.length : Int) - 1) k then headT (l.getD k.toNat rD) ++ sfx (namesOf l (l.getD k.toNat rD)) else []

theorem head_ok {l : List SRepair} (hl : Vr l) (hs : smallR l) {x : SRepair} (hx : x ∈ l) : x.Name.length ≤ 1048576 ∧ i64ok x.Price ∧ i64ok x.Hours := by
  have h1 := hl.price x hx
  have h2 := hl.hours x hx
  exact ⟨(smallR_rows hs hx).1, by unfold i64ok; omega, by unfold i64ok; omega⟩

theorem p_specRepairText (n : Nat) (l : List SRepair) (k : Int) (hs : smallR l) (hn : 1048576 < n) : m_spec_RepairText n l k = some (textB l k) := by
  have hll : l.length ≤ 1048576 := by have := hs.1; omega
  unfold m_spec_RepairText textB
  simp only [p_l21Ok n l hs hn, Option.bind_some, p_l00In, pred64 hll]
  unfold inRB
  cases hr : repsB l with
  | false => rfl
  | true =>
    cases hk : (decide (0 ≤ k) && decide (k ≤ (l.length : Int) - 1)) with
    | false => rfl
    | true =>
      simp only [Bool.and_eq_true, decide_eq_true_eq] at hk
      have hl := vr_of hr
      have hlt : k.toNat < l.length := by omega
      have hg := getD_of hlt rD
      have hi : idx l k = some (l.getD k.toNat rD) := by unfold idx; rw [if_pos hk.1]; exact hg
      obtain ⟨o1, o2, o3⟩ := head_ok hl hs (List.mem_of_getElem? hg)
      have d1 := decZ_len o2
      have d2 := decZ_len o3
      generalize l.getD k.toNat rD = x at hg hi o1 o2 o3 d1 d2 ⊢
      simp only [Bool.not_true, Bool.false_eq_true, if_false, Option.bind_some, hi, Bool.and_self, if_true]
      rw [app_eq (by simp; omega)]
      simp only [Option.bind_some, p_l01Dec n _ o2 hn]
      rw [app_eq (by simp; omega)]
      simp only [Option.bind_some]
      rw [app_eq (by simp; omega)]
      simp only [Option.bind_some, p_l01Dec n _ o3 hn]
      rw [app_eq (by simp; omega)]
      simp only [Option.bind_some]
      have := p_specLoop n l hl hs hg (headT x) (by unfold headT; simp; omega) hn
      unfold headT at this ⊢
      rw [this]; rfl

theorem p_implRepairText (n : Nat) (l : List SRepair) (k : Int) (hs : smallR l) (hn : 1048576 < n) : m_impl_RepairText n l k = some (textB l k) := by
  have hll : l.length ≤ 1048576 := by have := hs.1; omega
  unfold m_impl_RepairText textB
  simp only [p_implValidRepairs n l hs hn, Option.bind_some, p_within, pred64 hll]
  unfold inRB
  cases hr : repsB l with
  | false => rfl
  | true =>
    cases hk : (decide (0 ≤ k) && decide (k ≤ (l.length : Int) - 1)) with
    | false => rfl
    | true =>
      simp only [Bool.and_eq_true, decide_eq_true_eq] at hk
      have hl := vr_of hr
      have hlt : k.toNat < l.length := by omega
      have hg := getD_of hlt rD
      have hi : idx l k = some (l.getD k.toNat rD) := by unfold idx; rw [if_pos hk.1]; exact hg
      obtain ⟨o1, o2, o3⟩ := head_ok hl hs (List.mem_of_getElem? hg)
      have d1 := decZ_len o2
      have d2 := decZ_len o3
      generalize l.getD k.toNat rD = x at hg hi o1 o2 o3 d1 d2 ⊢
      obtain ⟨f1, f2, f3, f4⟩ := firsts hl hs hg
      have hj := join_len 1048576 _ f3
      have hj2 : (Lib.join (namesOf l x) [44]).length ≤ 10 * 1048577 := Nat.le_trans hj (Nat.mul_le_mul_right _ (by omega))
      simp only [Bool.not_true, Bool.false_eq_true, if_false, Option.bind_some, hi, Bool.and_self, if_true, p_implLoop n l hl hs hg hn]
      rw [app_eq (by simp; omega)]
      simp only [Option.bind_some, p_Decimal n _ o2]
      rw [app_eq (by simp; omega)]
      simp only [Option.bind_some]
      rw [app_eq (by simp; omega)]
      simp only [Option.bind_some, p_Decimal n _ o3]
      rw [app_eq (by simp; omega)]
      simp only [Option.bind_some]
      by_cases h0 : namesOf l x = []
      · rw [h0]; simp [sfx, headT]
      · have hpos : decide (((namesOf l x).length : Int) > 0) = true := decide_eq_true (by have := List.length_pos_iff.2 h0; omega)
        have hJ : m_strings_Join n (namesOf l x) [44] = some (Lib.join (namesOf l x) [44]) := by
          unfold m_strings_Join; rw [if_pos ⟨by omega, by omega⟩]
        have a1 : app [32, 97, 102, 116, 101, 114, 32] (Lib.join (namesOf l x) [44]) = some (sfx (namesOf l x)) := by
          unfold sfx; rw [if_neg h0, app_eq (by simp; omega)]; rfl
        have hsl := sfx_len (M := 1048576) f3
        have hsl2 : (sfx (namesOf l x)).length ≤ 7 + 10 * 1048577 := Nat.le_trans hsl (Nat.add_le_add_left (Nat.mul_le_mul_right _ (by omega)) 7)
        simp only [hpos, if_true, hJ, Option.bind_some, a1]
        rw [app_eq (by simp; omega)]; rfl

theorem law_RepairText (a : List SRepair) (k : Int) (ha : a.length ≤ 9223372036854775807) (oa : ∀ x ∈ a, okRepair x) (_ok : i64ok k) : m_laws_FnExactRepairText 2000000 a k = some true := by
  unfold m_laws_FnExactRepairText
  obtain ⟨v, hv, h⟩ := p_szRepairS 2000000 a 1048576 (by omega) (by omega) ha oa (by omega)
  rw [hv]
  simp only [Option.bind_some]
  rcases h with h | ⟨h0, h1⟩
  · simp [h]
  · have hnv : ¬ v < 0 := by omega
    have sa := smallR_of h1 h0 (by omega) oa
    simp only [hnv, decide_false, Bool.false_eq_true, if_false, p_toRepairS 2000000 a sa (by omega), Option.bind_some, p_specRepairText 2000000 a k sa (by omega), p_implRepairText 2000000 a k sa (by omega), p_eqRepairS 2000000 a sa (by omega), beq_self_eq_true, Bool.not_true]

end Go.Gv
