/- Plain laws of prescriptions: what fittings and raises promise. -/
import Derived.Test.YtlplbjeegkkilaaPcA
import Derived.Test.YtlplbjeegkkilaaPk
namespace Go.Gv
open Go Go.RowKit

/-! ### What is drawn is valid -/

theorem p_l22New (n : Nat) {code : List Int} (hc : bytesok code) (a : Nat) (ha : a ≤ 800000000) (seed : Int) :
    ∃ (c : SChange) (a' : Nat) (s' : Int), m_spec_l22New n code (a : Int) seed = some (c, (a' : Int), s') ∧ a' ≤ a + 6 ∧ vch c = true ∧ -60 ≤ c.Amount ∧ c.Amount ≤ 60 ∧ c.Amount ≠ 0 := by
  unfold m_spec_l22New
  obtain ⟨x, a1, s1, e1, x0, x1, h1⟩ := p_pick n hc a (by omega) seed 5 (by omega)
  rw [e1]; simp only [Option.bind_some]
  obtain ⟨y, a2, s2, e2, y0, y1, h2⟩ := p_pick n hc a1 (by omega) s1 60 (by omega)
  rw [e2]; simp only [Option.bind_some]
  obtain ⟨b, a3, s3, e3, h3⟩ := p_one n hc a2 (by omega) s2 2 (by omega)
  rw [e3]; simp only [Option.bind_some]
  have x2 := x1 (by omega); have y2 := y1 (by omega)
  have w1 : wI64 (1 + x) = 1 + x := wI64_eq (by omega) (by omega)
  have w2 : wI64 (1 + y) = 1 + y := wI64_eq (by omega) (by omega)
  have w3 : wI64 (0 - (1 + y)) = 0 - (1 + y) := wI64_eq (by omega) (by omega)
  have hv : ∀ am : Int, am ≠ 0 → -60 ≤ am → am ≤ 60 → vch ⟨1 + x, am⟩ = true := by
    intro am h0 hlo hhi
    have hmost : 150 ≤ mostC (1 + x) := by
      unfold mostC
      repeat' split
      all_goals omega
    unfold vch
    simp only [Bool.and_eq_true, decide_eq_true_eq]
    omega
  cases b with
  | true =>
    simp only [if_true, w1, w2, w3, Option.bind_some]
    exact ⟨_, a3, s3, rfl, by omega, hv _ (by omega) (by omega) (by omega), by show -60 ≤ 0 - (1 + y); omega, by show 0 - (1 + y) ≤ 60; omega, by show 0 - (1 + y) ≠ 0; omega⟩
  | false =>
    simp only [Bool.false_eq_true, if_false, w1, w2, Option.bind_some]
    exact ⟨_, a3, s3, rfl, by omega, hv _ (by omega) (by omega) (by omega), by show -60 ≤ 1 + y; omega, by show 1 + y ≤ 60; omega, by show 1 + y ≠ 0; omega⟩

theorem p_A2Change (n : Nat) {code : List Int} (hc : bytesok code) : ∃ c, m_spec_A2Change n code = some c ∧ vch c = true ∧ -60 ≤ c.Amount ∧ c.Amount ≤ 60 ∧ c.Amount ≠ 0 := by
  unfold m_spec_A2Change m_spec_l00From
  simp only [Option.bind_some]
  obtain ⟨c, a', s', e, _, h⟩ := p_l22New n hc 0 (by omega) 0
  have e' : m_spec_l22New n code 0 0 = some (c, (a' : Int), s') := e
  rw [e']
  exact ⟨c, rfl, h⟩

theorem p_A2Changes (n : Nat) (hn : 1048576 < n) {code : List Int} (hc : bytesok code) : ∃ l, m_spec_A2Changes n code = some l ∧ l.length ≤ 5 ∧ ∀ c ∈ l, vch c = true := by
  unfold m_spec_A2Changes m_spec_l00From m_spec_l22Draw
  simp only [Option.bind_some]
  obtain ⟨x, a1, s1, e1, x0, x1, h1⟩ := p_pick n hc 0 (by omega) 0 6 (by omega)
  have e1' : m_spec_l00Src_pick n code 0 0 6 = some (x, (a1 : Int), s1) := e1
  rw [e1']; simp only [Option.bind_some]
  have x2 := x1 (by omega)
  obtain ⟨N, rfl⟩ : ∃ N : Nat, x = (N : Int) := ⟨x.toNat, by omega⟩
  have := loopN_count (body := m_spec_l22Draw_l1 n code) (fun i (s : List SChange × Int × Int × Int) => s.1.length = i ∧ s.2.1 = (N : Int) - (i : Int) ∧ (∀ c ∈ s.1, vch c = true) ∧ ∃ A : Nat, s.2.2.1 = (A : Int) ∧ A ≤ a1 + 6 * i) N
    (fun t => t.1.length ≤ 5 ∧ ∀ c ∈ t.1, vch c = true) (fun i s hi hJ => by
      obtain ⟨j1, j2, j3, A, j4, j5⟩ := hJ
      obtain ⟨c, A', S', e, h2, h3, _⟩ := p_l22New n hc A (by omega) s.2.2.2
      unfold m_spec_l22Draw_l1
      have hgt : decide (s.2.1 > 0) = true := decide_eq_true (by omega)
      have hw : wI64 (s.2.1 - 1) = (N : Int) - ((i + 1 : Nat) : Int) := by rw [wI64_eq (by omega) (by omega)]; omega
      simp only [hgt, if_true, j4, e, Option.bind_some, hw]
      rw [app_eq (by simp; omega)]
      simp only [Option.bind_some]
      refine ⟨_, rfl, by simp [j1], rfl, fun q hq => ?_, A', rfl, by omega⟩
      simp only [List.mem_append, List.mem_singleton] at hq
      rcases hq with hq | rfl
      · exact j3 q hq
      · exact h3)
    (fun s hJ => by
      obtain ⟨j1, j2, j3, A, j4, j5⟩ := hJ
      unfold m_spec_l22Draw_l1
      have hgt : decide (s.2.1 > 0) = false := decide_eq_false (by omega)
      simp only [hgt, Bool.false_eq_true, if_false]
      exact ⟨_, rfl, by show s.1.length ≤ 5; omega, j3⟩) n (by omega) (([] : List SChange), (N : Int), (a1 : Int), s1) ⟨rfl, by simp, by simp, a1, rfl, by omega⟩
  obtain ⟨t, h2, h3, h4⟩ := this
  rw [h2]
  exact ⟨t.1, rfl, h3, h4⟩

/-! ### Fittings -/

/-- The i-th of N parts of A. -/
def partF (A N i : Nat) : Nat := A / N + (if i < A % N then 1 else 0)
def sgn (z : Int) (k : Nat) : Int := if z < 0 then -(k : Int) else (k : Int)

theorem p_fittings (n : Nat) (c : SChange) (A S : Nat) (hv : vch c = true) (hA : c.Amount.natAbs = A) (hA1 : 1 ≤ A) (hA2 : A ≤ 60) (hS : 1 ≤ S) (hS2 : S ≤ 30) (hn : 1048576 < n) :
    m_impl_FittingsOf n c (S : Int) = some ((List.range ((A + S - 1) / S)).map (fun i => sgn c.Amount (partF A ((A + S - 1) / S) i)), 0) := by
  unfold m_impl_FittingsOf
  rw [p_validChange, hv]
  have hr : (decide (1 ≤ (S : Int)) && decide ((S : Int) ≤ 100)) = true := by
    rw [decide_eq_true (by omega), decide_eq_true (by omega)]; rfl
  have hap : m_impl_apart n c.Amount 0 = some (A : Int) := by
    unfold m_impl_apart imax
    rw [wI64_eq (x := c.Amount - 0) (by omega) (by omega), wI64_eq (x := 0 - c.Amount) (by omega) (by omega)]
    congr 1
    split <;> omega
  have hpos : 0 < (A + S - 1) / S := Nat.div_pos (by omega) (by omega)
  have hNle : (A + S - 1) / S ≤ A + S - 1 := Nat.div_le_self _ _
  have hw1 : wI64 ((A : Int) + (S : Int)) = (A : Int) + (S : Int) := wI64_eq (by omega) (by omega)
  have hw2 : wI64 ((A : Int) + (S : Int) - 1) = ((A + S - 1 : Nat) : Int) := by rw [wI64_eq (by omega) (by omega)]; omega
  have hqn : ∀ (x y : Nat), 0 < y → x ≤ 1048576 → quo .i64 (x : Int) (y : Int) = some ((x / y : Nat) : Int) := by
    intro x y hy hx
    have hne : ¬ ((y : Int) = 0) := by omega
    have h1 : Int.tdiv (x : Int) (y : Int) = ((x / y : Nat) : Int) := rfl
    have hb : x / y ≤ x := Nat.div_le_self _ _
    have h0 : (0 : Int) ≤ ((x / y : Nat) : Int) := Int.natCast_nonneg _
    unfold quo; rw [if_neg hne, h1]; exact congrArg some (wI64_eq (by omega) (by omega))
  simp only [Bool.not_true, Bool.false_eq_true, if_false, p_within, hr, Option.bind_some, hap, hw1, hw2, hqn (A + S - 1) S (by omega) (by omega)]
  obtain ⟨N, hN⟩ : ∃ N, N = (A + S - 1) / S := ⟨_, rfl⟩
  rw [← hN] at hpos hNle ⊢
  have key := loopN_collect (body := m_impl_FittingsOf_l1 n c (A : Int) (N : Int)) N (fun i => sgn c.Amount (partF A N i)) id
    (fun i l hi hl => by
      have hrem : rem (A : Int) (N : Int) = some ((A % N : Nat) : Int) := by unfold rem; rw [if_neg (by omega)]; rfl
      have hdl : A / N ≤ A := Nat.div_le_self _ _
      have h0 : (0 : Int) ≤ ((A / N : Nat) : Int) := Int.natCast_nonneg _
      unfold m_impl_FittingsOf_l1
      simp only [ltB hi, if_true, hqn A N hpos (by omega), hrem, Option.bind_some, succ64 hi (by omega)]
      have e1 : (if decide ((i : Int) < ((A % N : Nat) : Int)) then some (wI64 (((A / N : Nat) : Int) + 1)) else some ((A / N : Nat) : Int)) = some ((partF A N i : Nat) : Int) := by
        unfold partF
        by_cases h : i < A % N
        · rw [decide_eq_true (by omega), if_pos h, wI64_eq (by omega) (by omega)]; simp
        · rw [decide_eq_false (by omega), if_neg h]; simp
      rw [e1]
      simp only [Option.bind_some]
      have hpl : partF A N i ≤ A + 1 := by unfold partF; split <;> omega
      have e2 : (if decide (c.Amount < 0) then some (wI64 (0 - ((partF A N i : Nat) : Int))) else some ((partF A N i : Nat) : Int)) = some (sgn c.Amount (partF A N i)) := by
        unfold sgn
        by_cases h : c.Amount < 0
        · rw [decide_eq_true h, if_pos h, wI64_eq (by omega) (by omega)]; simp
        · rw [decide_eq_false h, if_neg h]; simp
      rw [e2]
      simp only [Option.bind_some]
      rw [app_eq (by simp; omega)]; rfl)
    (fun l hl => by unfold m_impl_FittingsOf_l1; simp) n (by omega)
  rw [key]; rfl

theorem parts_sum (A N : Nat) (hN : 0 < N) : ((List.range N).map (partF A N)).sum = A := by
  have key : ∀ M, M ≤ N → ((List.range M).map (partF A N)).sum = (A / N) * M + min M (A % N) := by
    intro M
    induction M with
    | zero => intro _; simp
    | succ M ih =>
      intro h
      rw [List.range_succ, List.map_append, List.sum_append, ih (by omega)]
      simp only [List.map_cons, List.map_nil, List.sum_cons, List.sum_nil, partF]
      rw [Nat.mul_add, Nat.mul_one]
      split <;> omega
  rw [key N (Nat.le_refl _)]
  have h1 := Nat.mod_lt A hN
  have h2 := Nat.div_add_mod A N
  rw [Nat.mul_comm] at h2
  omega

theorem sum_sgn (z : Int) : ∀ (l : List Nat), (l.map (sgn z)).sum = sgn z l.sum
  | [] => by simp [sgn]
  | a :: l => by
    have := sum_sgn z l
    simp only [List.map_cons, List.sum_cons, this]
    unfold sgn; split <;> omega

theorem p_sum (n : Nat) (l : List Int) (hl : l.length ≤ 1000) (hb : ∀ x ∈ l, -1000 ≤ x ∧ x ≤ 1000) (hn : 1048576 < n) : m_laws_a2Sum n l = some l.sum := by
  unfold m_laws_a2Sum
  have key := loopN_fold (body := m_laws_a2Sum_l1 n l) l (fun (b x : Int) => b + x) 0 (fun i b => (b, (i : Int))) id (fun i b => -(1000 * (i : Int)) ≤ b ∧ b ≤ 1000 * (i : Int)) ⟨by omega, by omega⟩
    (fun i x b hx hI => by
      have hlt := lt_of_get hx
      have := hb x (List.mem_of_getElem? hx)
      refine ⟨?_, by omega, by omega⟩
      unfold m_laws_a2Sum_l1
      have hw : wI64 (b + x) = b + x := wI64_eq (by omega) (by omega)
      simp only [ltB hlt, if_true, idx_nat, hx, Option.bind_some, hw, succ64 hlt (by omega)])
    (fun b _ => by unfold m_laws_a2Sum_l1; simp) n (by omega)
  have k1 : loopN (m_laws_a2Sum_l1 n l) n (0, 0) = _ := key.1
  rw [k1]
  simp only [Option.bind_some, id]
  congr 1
  have : ∀ (us : List Int) (b : Int), us.foldl (fun (b x : Int) => b + x) b = b + us.sum := by
    intro us
    induction us with
    | nil => intro b; simp
    | cons u us ih => intro b; rw [List.foldl_cons, ih, List.sum_cons]; omega
  rw [this]; simp

theorem p_size (n : Nat) (z : Int) (k : Nat) (hk : k ≤ 1000) : m_laws_a2Size n (sgn z k) = some (k : Int) := by
  unfold m_laws_a2Size sgn
  by_cases hz : z < 0
  · rw [if_pos hz]
    by_cases h0 : k = 0
    · subst h0; rfl
    · rw [decide_eq_true (by omega), wI64_eq (by omega) (by omega)]; simp
  · rw [if_neg hz, decide_eq_false (by omega)]; simp

/-! ### The first clash -/

def clashAt (a : List SChange) : Nat → List SChange → Option (Nat × Nat)
  | _, [] => none
  | i, x :: xs => match (a.take i).findIdx? (fun o => clash o x) with
    | some j => some (i, j)
    | none => clashAt a (i + 1) xs

theorem p_implClash (n : Nat) (a : List SChange) (ha : a.length ≤ 20) (hv : ∀ c ∈ a, vch c = true) (hn : 1048576 < n) :
    m_impl_FirstClash n a = some (match clashAt a 0 a with | some p => ((p.1 : Int), (p.2 : Int), 0) | none => (0, 0, 3)) := by
  unfold m_impl_FirstClash
  rw [p_implValidChanges n a (by omega) hn]
  have hall : (decide (a.length ≤ 20) && a.all vch) = true := by
    simp only [Bool.and_eq_true, decide_eq_true_eq, List.all_eq_true]; exact ⟨ha, hv⟩
  simp only [hall, Option.bind_some, Bool.not_true, Bool.false_eq_true, if_false]
  have h2 := loopN_runL (body := m_impl_FirstClash_l1 n a) a (fun i (_ : Unit) x => match (a.take i).findIdx? (fun o => clash o x) with | some j => .error (Sum.inr ((i : Int), (j : Int), (0 : Int))) | none => .ok ()) ()
    (fun i _ => (i : Int)) (fun _ => Sum.inl ()) (fun _ _ => True) trivial
    (fun i x b hx _ => by
      have hlt := lt_of_get hx
      have inner := loopN_index (body := m_slices_IndexFunc_impl_Change_impl_Change_f69_l1 n (a.take i) x) (a.take i) (fun o => clash o x)
        (fun j o ho => by
          have hj := lt_of_get ho
          unfold m_slices_IndexFunc_impl_Change_impl_Change_f69_l1 m_impl_FirstClash_1
          simp only [ltB hj, if_true, idx_nat, ho, Option.bind_some, succ64 hj (by simp; omega)]
          unfold clash
          by_cases hk : o.Kind = x.Kind
          · by_cases h1 : o.Amount < 0 <;> by_cases h2 : x.Amount < 0 <;> simp [hk, h1, h2]
          · simp [hk])
        (by unfold m_slices_IndexFunc_impl_Change_impl_Change_f69_l1; simp) n (by simp; omega)
      cases hf : (a.take i).findIdx? (fun o => clash o x) with
      | none =>
        refine ⟨?_, trivial⟩
        unfold m_impl_FirstClash_l1
        simp only [ltB hlt, if_true, idx_nat, hx, Option.bind_some, sub_take a (Nat.le_of_lt hlt), m_slices_IndexFunc_impl_Change_impl_Change_f69]
        rw [inner, hf]
        simp [succ64 hlt (by omega)]
      | some j =>
        unfold m_impl_FirstClash_l1
        simp only [ltB hlt, if_true, idx_nat, hx, Option.bind_some, sub_take a (Nat.le_of_lt hlt), m_slices_IndexFunc_impl_Change_impl_Change_f69]
        rw [inner, hf]
        simp)
    (fun _ _ => by unfold m_impl_FirstClash_l1; simp) n (by omega)
  have h2' : loopN (m_impl_FirstClash_l1 n a) n 0 = _ := h2.1
  have hr : ∀ (xs : List SChange) (i : Nat), runL (fun i (_ : Unit) x => match (a.take i).findIdx? (fun o => clash o x) with | some j => Except.error (Sum.inr ((i : Int), (j : Int), (0 : Int)) : Unit ⊕ (Int × Int × Int)) | none => .ok ()) i xs () = match clashAt a i xs with | some p => .error (.inr ((p.1 : Int), (p.2 : Int), 0)) | none => .ok () := by
    intro xs
    induction xs with
    | nil => intro i; rfl
    | cons x xs ih =>
      intro i
      unfold runL clashAt
      cases hf : (a.take i).findIdx? (fun o => clash o x) with
      | none => exact ih (i + 1)
      | some j => rfl
  rw [hr] at h2'
  rw [h2']
  cases clashAt a 0 a with
  | none => rfl
  | some p => rfl

theorem p_ownClash (n : Nat) (a : List SChange) (ha : a.length ≤ 20) (hn : 1048576 < n) :
    loopN (m_laws_FnFittings_l4 n a) n ((-1), (-1), 0) = some (match clashAt a 0 a with | some p => ((p.1 : Int), (p.2 : Int)) | none => (-1, -1)) := by
  have inner : ∀ (i : Nat) (x : SChange), a[i]? = some x → ∀ (m j : Nat), i - j + 1 < m → j ≤ i → loopN (m_laws_FnFittings_l5 n a ((-1), (-1), (i : Int))) m ((-1), (-1), (j : Int)) = some (match ((a.take i).drop j).findIdx? (fun o => clash o x) with | some k => ((i : Int), ((j + k : Nat) : Int)) | none => (-1, -1)) := by
    intro i x hx m
    have hlt := lt_of_get hx
    induction m with
    | zero => intro j h; omega
    | succ m ih =>
      intro j hm hj
      by_cases hji : j < i
      · obtain ⟨o, ho⟩ : ∃ o, a[j]? = some o := ⟨_, List.getElem?_eq_getElem (by omega)⟩
        have hd : (a.take i).drop j = o :: (a.take i).drop (j + 1) := by
          have hl : j < (a.take i).length := by simp; omega
          rw [List.drop_eq_getElem_cons hl]
          congr 1
          rw [List.getElem_take]
          rw [List.getElem?_eq_getElem (by omega)] at ho
          exact Option.some.inj ho
        have hb : m_laws_FnFittings_l5 n a ((-1), (-1), (i : Int)) ((-1), (-1), (j : Int)) = some (.next (if clash o x then ((i : Int), (j : Int), ((j + 1 : Nat) : Int)) else ((-1), (-1), ((j + 1 : Nat) : Int)))) := by
          unfold m_laws_FnFittings_l5
          have hneg : decide ((-1 : Int) < 0) = true := rfl
          simp only [ltB hji, if_true, hneg, Option.bind_some, idx_nat, hx, ho, succ64 hji (by omega)]
          unfold clash
          by_cases hk : x.Kind = o.Kind
          · have hk2 : o.Kind = x.Kind := hk.symm
            by_cases h1 : x.Amount < 0 <;> by_cases h2 : o.Amount < 0 <;> simp [hk, h1, h2]
          · have hk2 : ¬ o.Kind = x.Kind := fun e => hk e.symm
            simp [hk, hk2]
        rw [hd, List.findIdx?_cons]
        simp only [loopN, hb, Option.bind_some]
        cases hc : clash o x with
        | true =>
          simp only [if_true]
          obtain ⟨m', rfl⟩ : ∃ q, m = q + 1 := ⟨m - 1, by omega⟩
          have hpos : decide ((i : Int) < 0) = false := decide_eq_false (by omega)
          unfold loopN m_laws_FnFittings_l5
          cases decide (((j + 1 : Nat) : Int) < (i : Int)) <;> simp only [if_true, hpos, Option.bind_some, Bool.false_eq_true, if_false, Nat.add_zero]
        | false =>
          simp only [Bool.false_eq_true, if_false]
          rw [ih (j + 1) (by omega) (by omega)]
          cases ((a.take i).drop (j + 1)).findIdx? (fun o => clash o x) with
          | none => rfl
          | some k =>
            simp only [Option.map_some]
            congr 2
            omega
      · have he : j = i := by omega
        subst he
        have hd : (a.take j).drop j = [] := by rw [List.drop_eq_nil_iff]; simp; omega
        rw [hd]
        simp [loopN, m_laws_FnFittings_l5]
  have outer : ∀ (m i : Nat) (xs : List SChange), a.length - i + 1 < m → i ≤ a.length → a.drop i = xs → loopN (m_laws_FnFittings_l4 n a) m ((-1), (-1), (i : Int)) = some (match clashAt a i xs with | some p => ((p.1 : Int), (p.2 : Int)) | none => (-1, -1)) := by
    intro m
    induction m with
    | zero => intro i xs h; omega
    | succ m ih =>
      intro i xs hm hi hxs
      by_cases hlt : i < a.length
      · obtain ⟨x, hx⟩ : ∃ x, a[i]? = some x := ⟨_, List.getElem?_eq_getElem hlt⟩
        have hd : a.drop i = x :: a.drop (i + 1) := by
          rw [List.drop_eq_getElem_cons hlt]
          congr 1
          rw [List.getElem?_eq_getElem hlt] at hx; exact Option.some.inj hx
        rw [hd] at hxs
        subst hxs
        have hin := inner i x hx n 0 (by omega) (by omega)
        rw [List.drop_zero] at hin
        have hin' : loopN (m_laws_FnFittings_l5 n a ((-1), (-1), (i : Int))) n ((-1), (-1), 0) = _ := hin
        unfold clashAt
        have hneg : decide ((-1 : Int) < 0) = true := rfl
        have hb : m_laws_FnFittings_l4 n a ((-1), (-1), (i : Int)) = some (.next (match (a.take i).findIdx? (fun o => clash o x) with | some k => ((i : Int), ((0 + k : Nat) : Int), ((i + 1 : Nat) : Int)) | none => ((-1), (-1), ((i + 1 : Nat) : Int)))) := by
          unfold m_laws_FnFittings_l4
          simp only [ltB hlt, if_true, hneg, Option.bind_some, hin', succ64 hlt (by omega)]
          cases (a.take i).findIdx? (fun o => clash o x) <;> rfl
        simp only [loopN, hb, Option.bind_some]
        cases hf : (a.take i).findIdx? (fun o => clash o x) with
        | none =>
          simp only
          exact ih (i + 1) _ (by omega) (by omega) rfl
        | some k =>
          simp only
          obtain ⟨m', rfl⟩ : ∃ q, m = q + 1 := ⟨m - 1, by omega⟩
          have hpos : decide ((i : Int) < 0) = false := decide_eq_false (by omega)
          unfold loopN m_laws_FnFittings_l4
          cases decide (((i + 1 : Nat) : Int) < (a.length : Int)) <;> simp only [if_true, hpos, Option.bind_some, Bool.false_eq_true, if_false, Nat.zero_add]
      · have he : i = a.length := by omega
        subst he
        rw [List.drop_length] at hxs
        subst hxs
        simp [loopN, m_laws_FnFittings_l4, clashAt]
  exact outer n 0 a (by omega) (by omega) (by simp)

/-! ### Raises -/

theorem p_raise (n : Nat) (a b c d : Int) (ha : 0 ≤ a ∧ a ≤ 400) (hb : 0 ≤ b ∧ b ≤ 400) (hc : 0 ≤ c ∧ c ≤ 400) (hd : 0 ≤ d ∧ d ≤ 400) (hn : 1048576 < n) :
    m_impl_RaiseFor n a b c d = some (if min a b + min (a - min a b) c + min (a - min a b - min (a - min a b) c) d < a then ([], 10) else ([min a b, min (a - min a b) c + min (a - min a b - min (a - min a b) c) d, min (a - min a b - min (a - min a b) c) d], 0)) := by
  unfold m_impl_RaiseFor
  rw [p_outside n [a, b, c, d] 0 400 (by simp) hn]
  have hall : ([a, b, c, d] : List Int).all (inR 0 400) = true := by
    simp [inR]; omega
  simp only [hall, Option.bind_some, Bool.not_true, Bool.false_eq_true, if_false]
  have e1 : imin a b = min a b := by unfold imin; split <;> omega
  rw [e1]
  have w1 : wI64 (a - min a b) = a - min a b := wI64_eq (by omega) (by omega)
  rw [w1]
  have e2 : imin (a - min a b) c = min (a - min a b) c := by unfold imin; split <;> omega
  rw [e2]
  have w2 : wI64 (a - min a b - min (a - min a b) c) = a - min a b - min (a - min a b) c := wI64_eq (by omega) (by omega)
  rw [w2]
  have e3 : imin (a - min a b - min (a - min a b) c) d = min (a - min a b - min (a - min a b) c) d := by unfold imin; split <;> omega
  rw [e3]
  have w3 : wI64 (min a b + min (a - min a b) c) = min a b + min (a - min a b) c := wI64_eq (by omega) (by omega)
  rw [w3]
  have w4 : wI64 (min a b + min (a - min a b) c + min (a - min a b - min (a - min a b) c) d) = min a b + min (a - min a b) c + min (a - min a b - min (a - min a b) c) d := wI64_eq (by omega) (by omega)
  rw [w4]
  have w5 : wI64 (min (a - min a b) c + min (a - min a b - min (a - min a b) c) d) = min (a - min a b) c + min (a - min a b - min (a - min a b) c) d := wI64_eq (by omega) (by omega)
  rw [w5]
  by_cases h : min a b + min (a - min a b) c + min (a - min a b - min (a - min a b) c) d < a
  · simp only [h, decide_true, if_true]
  · simp only [h, decide_false, Bool.false_eq_true, if_false]

/-- The statement on fittings. -/
theorem law_Fittings (code more : List Int) (_ : code.length ≤ 9223372036854775807) (hc : ∀ c ∈ code, u8ok c) (_ : more.length ≤ 9223372036854775807) (hm : ∀ c ∈ more, u8ok c) : m_laws_FnFittings 2000000 code more = some true := by
  unfold m_laws_FnFittings m_laws_a2Long
  by_cases hlong : (code.length : Int) > 3000 ∨ (more.length : Int) > 3000
  · have : Option.bind (if (decide ((code.length : Int) > 3000)) then some true else some (decide ((more.length : Int) > 3000))) (fun x4 => some x4) = some true := by
      by_cases h1 : (code.length : Int) > 3000
      · rw [decide_eq_true h1]; rfl
      · rw [decide_eq_false h1, decide_eq_true (hlong.resolve_left h1)]; rfl
    rw [this]; rfl
  · have hl1 : decide ((code.length : Int) > 3000) = false := decide_eq_false (fun h => hlong (.inl h))
    have hl2 : decide ((more.length : Int) > 3000) = false := decide_eq_false (fun h => hlong (.inr h))
    simp only [hl1, hl2, Bool.false_eq_true, if_false, Option.bind_some]
    obtain ⟨c, e1, hv, c1, c2, c3⟩ := p_A2Change 2000000 hc
    obtain ⟨s, e2, s0, s1⟩ := p_a2At 2000000 hm 0 30 (by omega)
    have e2' : m_laws_a2At 2000000 more 0 30 = some s := e2
    obtain ⟨S, hS⟩ : ∃ S : Nat, 1 + s = (S : Int) := ⟨(1 + s).toNat, by omega⟩
    have w1 : wI64 (1 + s) = (S : Int) := by rw [wI64_eq (by omega) (by omega), hS]
    obtain ⟨A, hA⟩ : ∃ A, c.Amount.natAbs = A := ⟨_, rfl⟩
    have hfit := p_fittings 2000000 c A S hv hA (by omega) (by omega) (by omega) (by omega) (by omega)
    obtain ⟨N, hN⟩ : ∃ N, N = (A + S - 1) / S := ⟨_, rfl⟩
    rw [← hN] at hfit
    have hSp : 0 < S := by omega
    have g1 : N * S ≤ A + S - 1 := by rw [hN]; exact Nat.div_mul_le_self _ _
    have g2 : A + S - 1 < S * (N + 1) := by rw [hN]; exact Nat.lt_mul_div_succ _ hSp
    have g2' : S * (N + 1) = N * S + S := by rw [Nat.mul_add, Nat.mul_one, Nat.mul_comm]
    have hN1 : 1 ≤ N := by
      rw [hN]; exact Nat.div_pos (by omega) hSp
    have g3 : (N - 1) * S + S = N * S := by
      have : (N - 1 + 1) * S = N * S := by rw [Nat.sub_add_cancel hN1]
      rw [← this, Nat.add_mul, Nat.one_mul]
    have hNA : N ≤ A := by
      have : (N - 1) * 1 ≤ (N - 1) * S := Nat.mul_le_mul (Nat.le_refl _) hSp
      omega
    have hdiv : 1 ≤ A / N := Nat.div_pos hNA hN1
    have hdm := Nat.div_add_mod A N
    have hmod := Nat.mod_lt A hN1
    have hle : A / N ≤ S := Nat.div_le_of_le_mul (by omega)
    have hlt : 0 < A % N → A / N < S := by
      intro h
      apply Nat.lt_of_not_le
      intro hge
      have : N * S ≤ N * (A / N) := Nat.mul_le_mul (Nat.le_refl _) hge
      omega
    have hpart : ∀ i, 1 ≤ partF A N i ∧ partF A N i ≤ S ∧ partF A N i ≤ partF A N 0 ∧ partF A N 0 ≤ partF A N i + 1 := by
      intro i
      unfold partF
      by_cases h : i < A % N
      · have := hlt (by omega)
        rw [if_pos h, if_pos (by omega)]; omega
      · rw [if_neg h]
        by_cases h0 : 0 < A % N
        · have := hlt h0
          rw [if_pos h0]; omega
        · rw [if_neg h0]; omega
    have hcA : c.Amount = sgn c.Amount A := by unfold sgn; split <;> omega
    have hsum : m_laws_a2Sum 2000000 ((List.range N).map (fun i => sgn c.Amount (partF A N i))) = some c.Amount := by
      rw [p_sum 2000000 _ (by simp; omega) (fun x hx => by
        rw [List.mem_map] at hx
        obtain ⟨i, _, rfl⟩ := hx
        have := hpart i
        unfold sgn; split <;> omega) (by omega)]
      have e : (List.range N).map (fun i => sgn c.Amount (partF A N i)) = ((List.range N).map (partF A N)).map (sgn c.Amount) := by rw [List.map_map]; rfl
      rw [e, sum_sgn, parts_sum A N hN1, ← hcA]
    have hsz : m_laws_a2Size 2000000 c.Amount = some (A : Int) := by rw [hcA]; exact p_size 2000000 _ A (by omega)
    have hlen : ((List.range N).map (fun i => sgn c.Amount (partF A N i))).length = N := by simp
    have hNS : (N - 1) * S ≤ 60 := by omega
    have w2 : wI64 (wI64 ((N : Int) - 1) * (S : Int)) = (((N - 1) * S : Nat) : Int) := by
      rw [wI64_eq (x := (N : Int) - 1) (by omega) (by omega), show (N : Int) - 1 = ((N - 1 : Nat) : Int) by omega, ← Int.natCast_mul, wI64_eq (by omega) (by omega)]
    have d1 : decide ((N : Int) < 1) = false := decide_eq_false (by omega)
    have d2 : decide ((((N - 1) * S : Nat) : Int) ≥ (A : Int)) = false := decide_eq_false (by omega)
    simp only [e1, e2', w1, hfit, hsum, hlen, hsz, w2, d1, d2, Option.bind_some, bne_self_eq_false, Bool.false_eq_true, if_false]
    have loop1 : loopN (m_laws_FnFittings_l1 2000000 s ((List.range N).map (fun i => sgn c.Amount (partF A N i)), 0)) 2000000 0 = some (.inl ()) := by
      refine loopN_run (body := m_laws_FnFittings_l1 2000000 s ((List.range N).map (fun i => sgn c.Amount (partF A N i)), 0)) (fun i => (i : Int)) (.inl ()) N (fun i hi => ?_) ?_ 2000000 (by omega)
      · obtain ⟨p1, p2, p3, p4⟩ := hpart i
        have p0 := hpart 0
        unfold m_laws_FnFittings_l1
        have z0 : idx ((List.range N).map (fun i => sgn c.Amount (partF A N i))) 0 = some (sgn c.Amount (partF A N 0)) := by rw [idx_zero, range_map_get _ (by omega)]
        have dd1 : decide (((partF A N i : Nat) : Int) > (S : Int)) = false := decide_eq_false (by omega)
        have dd2 : (sgn c.Amount (partF A N i) == 0) = false := by
          rw [beq_eq_false_iff_ne]; unfold sgn; split <;> omega
        have dd3 : wI64 (((partF A N 0 : Nat) : Int) - ((partF A N i : Nat) : Int)) = ((partF A N 0 : Nat) : Int) - ((partF A N i : Nat) : Int) := wI64_eq (by omega) (by omega)
        have dd4 : decide (((partF A N 0 : Nat) : Int) - ((partF A N i : Nat) : Int) > 1) = false := decide_eq_false (by omega)
        have dd5 : decide (((partF A N 0 : Nat) : Int) < ((partF A N i : Nat) : Int)) = false := decide_eq_false (by omega)
        simp only [hlen, ltB hi, if_true, idx_nat, range_map_get _ hi, z0, Option.bind_some, p_size 2000000 _ _ (by omega : partF A N i ≤ 1000), p_size 2000000 _ _ (by omega : partF A N 0 ≤ 1000), w1, dd1, dd2, dd3, dd4, dd5, Bool.false_eq_true, if_false, succ64 hi (by omega)]
      · unfold m_laws_FnFittings_l1; simp [hlen]
    rw [loop1]
    simp only [Option.bind_some]
    obtain ⟨l, e3, hl5, hlv⟩ := p_A2Changes 2000000 (by omega) hm
    simp only [e3, p_implClash 2000000 l (by omega) hlv (by omega), p_ownClash 2000000 l (by omega) (by omega), Option.bind_some]
    obtain ⟨a, ea, a0, a1⟩ := p_a2At 2000000 hm 1 200 (by omega)
    obtain ⟨b, eb, b0, b1⟩ := p_a2At 2000000 hm 2 90 (by omega)
    obtain ⟨h, eh, h0, h1⟩ := p_a2At 2000000 hm 3 90 (by omega)
    obtain ⟨q, eq, q0, q1⟩ := p_a2At 2000000 hm 4 90 (by omega)
    have ea' : m_laws_a2At 2000000 more 1 200 = some a := ea
    have eb' : m_laws_a2At 2000000 more 2 90 = some b := eb
    have eh' : m_laws_a2At 2000000 more 3 90 = some h := eh
    have eq' : m_laws_a2At 2000000 more 4 90 = some q := eq
    have hrest : (Option.bind (m_laws_a2At 2000000 more 1 200) fun x1397 =>
      Option.bind (m_laws_a2At 2000000 more 2 90) fun x1406 =>
      Option.bind (m_laws_a2At 2000000 more 3 90) fun x1415 =>
      Option.bind (m_laws_a2At 2000000 more 4 90) fun x1424 =>
      Option.bind (m_impl_RaiseFor 2000000 x1397 x1406 x1415 x1424) fun x1433 =>
      if (x1433.2 != 0) then
      Option.bind (if (x1433.2 == 10) then some (decide ((wI64 ((wI64 (x1406 + x1415)) + x1424)) < x1397)) else some false) fun x1449 => some x1449
      else
      Option.bind (if ((x1433.1.length : Int) == 3) then
      Option.bind (idx x1433.1 0) fun x1553 =>
      if (decide (x1553 ≥ 0)) then
      Option.bind (idx x1433.1 0) fun x1556 =>
      if (decide (x1556 ≤ x1406)) then
      Option.bind (idx x1433.1 2) fun x1559 =>
      if (decide (x1559 ≥ 0)) then
      Option.bind (idx x1433.1 2) fun x1562 =>
      if (decide (x1562 ≤ x1424)) then
      Option.bind (idx x1433.1 1) fun x1565 =>
      Option.bind (idx x1433.1 2) fun x1567 =>
      if (decide (x1565 ≥ x1567)) then
      Option.bind (idx x1433.1 1) fun x1570 =>
      Option.bind (idx x1433.1 2) fun x1572 =>
      if (decide ((wI64 (x1570 - x1572)) ≤ x1415)) then
      Option.bind (idx x1433.1 0) fun x1575 =>
      Option.bind (idx x1433.1 1) fun x1577 =>
      if ((wI64 (x1575 + x1577)) == x1397) then
      Option.bind (idx x1433.1 2) fun x1580 =>
      if (x1580 == 0) then some true
      else
      Option.bind (idx x1433.1 0) fun x1588 =>
      if (x1588 == x1406) then
      Option.bind (idx x1433.1 1) fun x1591 =>
      Option.bind (idx x1433.1 2) fun x1593 => some ((wI64 (x1591 - x1593)) == x1415)
      else some false
      else some false
      else some false
      else some false
      else some false
      else some false
      else some false
      else some false
      else some false) fun x1550 => some x1550) = some true := by
      rw [ea', eb', eh', eq']
      simp only [Option.bind_some]
      rw [p_raise 2000000 a b h q (by omega) (by omega) (by omega) (by omega) (by omega)]
      simp only [Option.bind_some]
      by_cases hlt : min a b + min (a - min a b) h + min (a - min a b - min (a - min a b) h) q < a
      · rw [if_pos hlt]
        have ww1 : wI64 (b + h) = b + h := wI64_eq (by omega) (by omega)
        have ww2 : wI64 (b + h + q) = b + h + q := wI64_eq (by omega) (by omega)
        have dd : decide (b + h + q < a) = true := decide_eq_true (by omega)
        have n10 : ((10 : Int) != 0) = true := rfl
        have n11 : ((10 : Int) == 10) = true := rfl
        simp only [n10, n11, if_true, ww1, ww2, dd, Option.bind_some]
      · rw [if_neg hlt]
        obtain ⟨p0, hp0⟩ : ∃ p0, p0 = min a b := ⟨_, rfl⟩
        obtain ⟨p2, hp2⟩ : ∃ p2, p2 = min (a - min a b - min (a - min a b) h) q := ⟨_, rfl⟩
        obtain ⟨m1, hm1⟩ : ∃ m1, m1 = min (a - min a b) h := ⟨_, rfl⟩
        rw [← hp2, ← hm1, ← hp0]
        have n0 : ((0 : Int) != 0) = false := rfl
        have i0 : idx [p0, m1 + p2, p2] 0 = some p0 := rfl
        have i1 : idx [p0, m1 + p2, p2] 1 = some (m1 + p2) := rfl
        have i2 : idx [p0, m1 + p2, p2] 2 = some p2 := rfl
        have hl3 : ((([p0, m1 + p2, p2] : List Int).length : Int) == 3) = true := rfl
        have d0 : decide (p0 ≥ 0) = true := decide_eq_true (by omega)
        have d1 : decide (p0 ≤ b) = true := decide_eq_true (by omega)
        have d2 : decide (p2 ≥ 0) = true := decide_eq_true (by omega)
        have d3 : decide (p2 ≤ q) = true := decide_eq_true (by omega)
        have d4 : decide (m1 + p2 ≥ p2) = true := decide_eq_true (by omega)
        have w5 : wI64 (m1 + p2 - p2) = m1 := by rw [wI64_eq (by omega) (by omega)]; omega
        have d5 : decide (m1 ≤ h) = true := decide_eq_true (by omega)
        have w6 : wI64 (p0 + (m1 + p2)) = a := by rw [wI64_eq (by omega) (by omega)]; omega
        have d6 : (a == a) = true := by simp
        simp only [n0, Bool.false_eq_true, if_false, hl3, if_true, i0, i1, i2, Option.bind_some, d0, d1, d2, d3, d4, w5, d5, w6, d6]
        by_cases hz : p2 = 0
        · have : (p2 == 0) = true := by simp [hz]
          simp only [this, if_true, Option.bind_some]
        · have : (p2 == 0) = false := by simp [hz]
          have d7 : (p0 == b) = true := by rw [beq_iff_eq]; omega
          have d8 : (m1 == h) = true := by rw [beq_iff_eq]; omega
          simp only [this, Bool.false_eq_true, if_false, d7, d8, if_true, Option.bind_some]
    cases hca : clashAt l 0 l with
    | none =>
      have n1 : decide ((-1 : Int) < 0) = true := rfl
      have n2 : ((3 : Int) != 3) = false := rfl
      have n3 : decide ((-1 : Int) ≥ 0) = false := rfl
      simp only [n1, n2, n3, if_true, Bool.false_eq_true, if_false, Option.bind_some]
      exact hrest
    | some p =>
      have n1 : decide ((p.1 : Int) < 0) = false := decide_eq_false (by omega)
      have n2 : ((0 : Int) != 0) = false := rfl
      have n3 : decide ((p.1 : Int) ≥ 0) = true := decide_eq_true (by omega)
      simp only [n1, n2, n3, if_true, Bool.false_eq_true, if_false, Option.bind_some, bne_self_eq_false]
      exact hrest

end Go.Gv
