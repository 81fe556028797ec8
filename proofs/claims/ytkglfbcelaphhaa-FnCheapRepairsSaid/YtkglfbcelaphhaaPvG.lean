/- Plain laws of repairs: hopeless faults, needless repairs. -/
import Derived.Test.YtkglfbcelaphhaaPvF
namespace Go.Gv
open Go Go.RowKit

/-- What is deleted from a row in place. -/
theorem delete_loop {α : Type} {body : Int × Int × List α → Option (Step (Int × Int × List α) (Int × List α))} (p : α → Bool) (s : List α)
    (hb : ∀ (i j : Nat) (l : List α) x y, i < j → j < s.length → l.length = s.length → s[j]? = some x → l[j]? = some x → l[i]? = some y →
      body ((i : Int), (j : Int), l) = some (.next (if p x then ((i : Int), ((j + 1 : Nat) : Int), l) else (((i + 1 : Nat) : Int), ((j + 1 : Nat) : Int), l.set i x))))
    (hend : ∀ (i : Nat) (l : List α), l.length = s.length → body ((i : Int), (s.length : Int), l) = some (.done ((i : Int), l))) :
    ∀ (d i j : Nat) (l : List α) (f : Nat), j + d = s.length → i < j → l.length = s.length → l.take i = (s.take j).filter (fun x => !p x) → i = ((s.take j).filter (fun x => !p x)).length → l.drop j = s.drop j → d < f →
      ∃ (i' : Nat) (l' : List α), loopN body f ((i : Int), (j : Int), l) = some ((i' : Int), l') ∧ i' ≤ s.length ∧ l'.length = s.length ∧ l'.take i' = s.filter (fun x => !p x) := by
  intro d
  induction d with
  | zero =>
    intro i j l f hj hij hl ht hi _ hf
    obtain ⟨f, rfl⟩ : ∃ g, f = g + 1 := ⟨f - 1, by omega⟩
    have e : j = s.length := by omega
    subst e
    refine ⟨i, l, ?_, by omega, hl, by rw [ht, List.take_length]⟩
    unfold loopN; rw [hend i l hl]; rfl
  | succ d ih =>
    intro i j l f hj hij hl ht hi hd hf
    obtain ⟨f, rfl⟩ : ∃ g, f = g + 1 := ⟨f - 1, by omega⟩
    have hjs : j < s.length := by omega
    have hx : s[j]? = some s[j] := List.getElem?_eq_getElem hjs
    have hlx : l[j]? = some s[j] := by
      have := congrArg (fun t => t[0]?) hd
      simp only [List.getElem?_drop, Nat.add_zero] at this
      rw [this, hx]
    have hly : l[i]? = some (l[i]'(by omega)) := List.getElem?_eq_getElem (by omega)
    have hstep := hb i j l _ _ hij hjs hl hx hlx hly
    have hd2 : l.drop (j + 1) = s.drop (j + 1) := by rw [← List.drop_drop, ← List.drop_drop, hd]
    have hft : (s.take (j + 1)).filter (fun x => !p x) = (s.take j).filter (fun x => !p x) ++ (if p s[j] then [] else [s[j]]) := by
      rw [List.take_add_one, hx, List.filter_append]
      cases hp : p s[j] <;> simp [hp]
    unfold loopN
    rw [hstep]
    cases hp : p s[j] with
    | true =>
      rw [hp] at hft
      simp only [if_true, List.append_nil] at hft
      exact ih i (j + 1) l f (by omega) (by omega) hl (by rw [hft]; exact ht) (by rw [hft]; exact hi) hd2 (by omega)
    | false =>
      rw [hp] at hft
      simp only [Bool.false_eq_true, if_false] at hft
      refine ih (i + 1) (j + 1) (l.set i s[j]) f (by omega) (by omega) (by simpa using hl) ?_ (by rw [hft, List.length_append, ← hi]; rfl) (by rw [List.drop_set_of_lt (by omega)]; exact hd2) (by omega)
      rw [hft, ← ht]
      have : (l.set i s[j]).take (i + 1) = l.take i ++ [s[j]] := by
        rw [List.take_add_one, List.getElem?_set_self (by omega), List.take_set_of_le (Nat.le_refl _)]; rfl
      exact this

theorem sub_cut {α : Type} (l : List α) (i : Nat) (z : α) (hi : i ≤ l.length) : ∃ x, sub l (i : Int) (l.length : Int) = some x ∧ sub (l.take (i : Int).toNat ++ List.replicate (l.length - (i : Int).toNat) z) 0 (i : Int) = some (l.take i) := by
  unfold sub
  rw [if_pos ⟨by omega, by omega, by omega⟩, if_pos ⟨by omega, by omega, by simp; omega⟩]
  refine ⟨_, rfl, ?_⟩
  simp only [Int.toNat_natCast, Int.toNat_zero, List.drop_zero]
  congr 1
  have e : (l.take i).length = i := by simp; omega
  conv => lhs; rw [← e]
  rw [e]
  conv => lhs; lhs; rw [← e]
  exact List.take_left

def anyMends (l : List SRepair) (f : Int) : Bool := l.any fun r => r.Mends.contains f

theorem p_f90 (n : Nat) (l : List SRepair) (f : Int) (hl : Vr l) (hn : 1048576 < n) : m_slices_ContainsFunc_impl_Repair_impl_Repair_f90 n l f = some (anyMends l f) := by
  have hll := hl.len
  unfold m_slices_ContainsFunc_impl_Repair_impl_Repair_f90 m_slices_IndexFunc_impl_Repair_impl_Repair_f90
  exact contains_loop n (m_slices_IndexFunc_impl_Repair_impl_Repair_f90_l1 n l f) l (fun r => r.Mends.contains f)
    (fun i r hr => by
      have hlt := lt_of_get hr
      unfold m_slices_IndexFunc_impl_Repair_impl_Repair_f90_l1 m_impl_HopelessFaults_1_1
      simp only [ltB hlt, if_true, idx_nat, hr, Option.bind_some, p_Contains n _ _ (Nat.le_trans (mends_len hl (List.mem_of_getElem? hr)) (by omega)) hn, succ64 hlt (by omega)]
      cases r.Mends.contains f <;> rfl)
    (by unfold m_slices_IndexFunc_impl_Repair_impl_Repair_f90_l1; simp) (by omega)

theorem p_hope1 (n : Nat) (l : List SRepair) (f : Int) (hl : Vr l) (hn : 1048576 < n) : m_impl_HopelessFaults_1 n f l = some (anyMends l f) := by
  unfold m_impl_HopelessFaults_1; rw [p_f90 n l f hl hn]; rfl

theorem p_f89 (n : Nat) (l : List SRepair) (f : List Int) (hl : Vr l) (hf : f.length ≤ 1048576) (hn : 1048576 < n) : m_slices_IndexFunc_int64_int64_f89 n f l = some (match f.findIdx? (anyMends l) with | some i => (i : Int) | none => -1) := by
  unfold m_slices_IndexFunc_int64_int64_f89
  have key := loopN_index (body := m_slices_IndexFunc_int64_int64_f89_l1 n f l) f (anyMends l)
    (fun i x hx => by
      have hlt := lt_of_get hx
      unfold m_slices_IndexFunc_int64_int64_f89_l1
      simp only [ltB hlt, if_true, idx_nat, hx, Option.bind_some, p_hope1 n l x hl hn, succ64 hlt (by omega)]
      cases anyMends l x <;> rfl)
    (by unfold m_slices_IndexFunc_int64_int64_f89_l1; simp) n (by omega)
  rw [key]
  cases f.findIdx? (anyMends l) <;> rfl

theorem p_Delete (n : Nat) (l : List SRepair) (f : List Int) (hl : Vr l) (hf : f.length ≤ 1048576) (hn : 1048577 < n) : m_slices_DeleteFunc_int64_int64_f89_o1 n f l = some (f.filter fun x => !anyMends l x) := by
  unfold m_slices_DeleteFunc_int64_int64_f89_o1
  rw [p_f89 n l f hl hf (by omega)]
  cases h : f.findIdx? (anyMends l) with
  | none =>
    rw [List.findIdx?_eq_none_iff] at h
    have : f.filter (fun x => !anyMends l x) = f := by rw [List.filter_eq_self]; intro x hx; simp [h x hx]
    rw [this]; rfl
  | some i =>
    rw [List.findIdx?_eq_some_iff_getElem] at h
    obtain ⟨hi, hp, hlt⟩ := h
    have hne : ((i : Int) == -1) = false := beq_eq_false_iff_ne.2 (by omega)
    have hft : (f.take (i + 1)).filter (fun x => !anyMends l x) = f.take i := by
      rw [List.take_add_one, List.getElem?_eq_getElem hi, List.filter_append]
      have h1 : (f.take i).filter (fun x => !anyMends l x) = f.take i := by
        rw [List.filter_eq_self]
        intro x hx
        obtain ⟨j, hj, rfl⟩ := List.getElem_of_mem hx
        rw [List.getElem_take]
        have := hlt j (by simp at hj; omega)
        simpa using this
      rw [h1]; simp [hp]
    obtain ⟨i', l', h1, h2, h3, h4⟩ := delete_loop (body := m_slices_DeleteFunc_int64_int64_f89_o1_l1 n l) (anyMends l) f
      (fun i j q x y hij hj hq hx hqx hqy => by
        have hb : decide ((j : Int) < (q.length : Int)) = true := decide_eq_true (by omega)
        unfold m_slices_DeleteFunc_int64_int64_f89_o1_l1
        simp only [hb, if_true, idx_nat, hqx, hqy, Option.bind_some, p_hope1 n l x hl (by omega), succ64 (show j < 1048577 by omega) (by omega), succ64 (show i < 1048577 by omega) (by omega), Int.toNat_natCast]
        cases anyMends l x <;> rfl)
      (fun i q hq => by unfold m_slices_DeleteFunc_int64_int64_f89_o1_l1; simp [hq])
      (f.length - (i + 1)) i (i + 1) f n (by omega) (by omega) rfl hft.symm (by rw [hft]; simp; omega) rfl (by omega)
    simp only [Option.bind_some, hne, Bool.false_eq_true, if_false, succ64 hi (by omega), h1]
    obtain ⟨x, g1, g2⟩ := sub_cut l' i' 0 (by omega)
    rw [g1]
    simp only [Option.bind_some]
    rw [g2, h4]; rfl

theorem code0_faults {l : List SRepair} {s f : List Int} (h : codeB l s f = 0) : f.length ≤ 10 := by
  obtain ⟨-, -, h1, h2⟩ := code0 h
  have := inc_len f 0 10 (fun k hk => by have := h1 k hk; omega) h2
  omega

def hopeB (l : List SRepair) (f : List Int) : List Int × Int := if codeB l [] f = 0 then (f.filter fun x => !anyMends l x, 0) else ([], codeB l [] f)

theorem p_implHopeless (n : Nat) (l : List SRepair) (f : List Int) (hl : smallR l) (hf : f.length ≤ 1048576) (hn : 1048577 < n) : m_impl_HopelessFaults n l f = some (hopeB l f) := by
  unfold m_impl_HopelessFaults hopeB
  simp only [p_someCode n l [] f hl (by simp) hf (by omega), Option.bind_some]
  by_cases h : codeB l [] f = 0
  · obtain ⟨h1, -, -⟩ := code0 h
    have hc : m_slices_Clone_int64_int64 n f = some f := by unfold m_slices_Clone_int64_int64; rw [app_eq (by simp; omega)]; rfl
    simp only [h, bne_self_eq_false, Bool.false_eq_true, if_false, hc, Option.bind_some, p_Delete n l f h1 hf hn, if_true]
  · have hb : (codeB l [] f != 0) = true := by simp [bne, h]
    simp only [hb, h, if_true, if_false]

def allI (N : Nat) : List Int := (List.range N).map (fun i : Nat => (i : Int))

theorem allI_sm (l : List SRepair) : Sm l (allI l.length) := by
  refine ⟨fun k hk => ?_, ?_⟩
  · unfold allI at hk
    rw [List.mem_map] at hk
    obtain ⟨i, hi, rfl⟩ := hk
    rw [List.mem_range] at hi
    omega
  · unfold allI
    rw [List.pairwise_map]
    exact List.pairwise_lt_range.imp (fun h => by omega)

theorem mendB_all (l : List SRepair) (f : Int) : mendB l (allI l.length) f = anyMends l f := by
  unfold mendB anyMends allI
  rw [Bool.eq_iff_iff, List.any_eq_true, List.any_eq_true]
  constructor
  · rintro ⟨k, hk, h⟩
    rw [List.mem_map] at hk
    obtain ⟨i, hi, rfl⟩ := hk
    rw [List.mem_range] at hi
    exact ⟨_, List.mem_of_getElem? (getD_of hi rD), by simpa using h⟩
  · rintro ⟨r, hr, h⟩
    obtain ⟨i, hi⟩ := List.getElem?_of_mem hr
    refine ⟨(i : Int), by rw [List.mem_map]; exact ⟨i, by rw [List.mem_range]; exact lt_of_get hi, rfl⟩, ?_⟩
    rw [Int.toNat_natCast, List.getD_eq_getElem?_getD, hi]; exact h

theorem p_specHopeless (n : Nat) (l : List SRepair) (f : List Int) (hl : smallR l) (hf : f.length ≤ 1048576) (hn : 1048577 < n) : m_spec_HopelessFaults n l f = some (hopeB l f) := by
  unfold m_spec_HopelessFaults hopeB
  simp only [p_l21Faults n l [] f hl (by simp) hf (by omega), Option.bind_some]
  by_cases h : codeB l [] f = 0
  · obtain ⟨h1, -, -⟩ := code0 h
    have hll := h1.len
    have k1 := loopN_collect (body := m_spec_HopelessFaults_l1 n l) l.length (fun i : Nat => (i : Int)) id
      (fun i o hi ho => by
        unfold m_spec_HopelessFaults_l1
        simp only [ltB hi, if_true, succ64 hi (by omega)]
        rw [app_eq (by simp; omega)]; rfl)
      (fun o _ => by unfold m_spec_HopelessFaults_l1; simp) n (by omega)
    have k2 := loopN_fold (body := m_spec_HopelessFaults_l3 n l f (allI l.length)) f (fun b x => if !anyMends l x then b ++ [x] else b) ([] : List Int) (fun i b => (b, (i : Int))) id (fun i b => b.length ≤ i) (by simp)
      (fun i x b hx hb => by
        have hlt := lt_of_get hx
        refine ⟨?_, ?_⟩
        · unfold m_spec_HopelessFaults_l3
          simp only [ltB hlt, if_true, idx_nat, hx, Option.bind_some, p_l21Mended n l _ x h1 (allI_sm l) (by omega), mendB_all, succ64 hlt (by omega)]
          rw [app_eq (by simp; omega)]
          cases anyMends l x <;> rfl
        · cases anyMends l x <;> simp <;> omega)
      (fun b _ => by unfold m_spec_HopelessFaults_l3; simp) n (by omega)
    have k1' : loopN (m_spec_HopelessFaults_l1 n l) n (([] : List Int), 0) = some (allI l.length) := k1
    have k2' : loopN (m_spec_HopelessFaults_l3 n l f (allI l.length)) n (([] : List Int), 0) = _ := k2.1
    have hfold : ∀ (xs : List Int) (b : List Int), xs.foldl (fun b x => if !anyMends l x then b ++ [x] else b) b = b ++ xs.filter (fun x => !anyMends l x) := by
      intro xs
      induction xs with
      | nil => intro b; simp
      | cons x xs ih =>
        intro b
        rw [List.foldl_cons, ih]
        cases hp : anyMends l x <;> simp [hp]
    simp only [h, bne_self_eq_false, Bool.false_eq_true, if_false, k1', Option.bind_some, k2', if_true, hfold, List.nil_append, id]
  · have hb : (codeB l [] f != 0) = true := by simp [bne, h]
    simp only [hb, h, if_true, if_false]

theorem hopeB_len (l : List SRepair) (f : List Int) : (hopeB l f).1.length ≤ 10 := by
  unfold hopeB
  by_cases h : codeB l [] f = 0
  · rw [if_pos h]
    have := List.length_filter_le (fun x => !anyMends l x) f
    have := code0_faults h
    simp only; omega
  · rw [if_neg h]; simp

theorem law_HopelessFaults (a : List SRepair) (f : List Int) (ha : a.length ≤ 9223372036854775807) (oa : ∀ x ∈ a, okRepair x) (_hf : f.length ≤ 9223372036854775807) (_of : ∀ x ∈ f, i64ok x) : m_laws_FnExactHopelessFaults 2000000 a f = some true := by
  unfold m_laws_FnExactHopelessFaults
  cases hbig : decide ((f.length : Int) > 1048576) with
  | true => rfl
  | false =>
    have hfl := big_len hbig
    simp only [Bool.false_eq_true, if_false]
    obtain ⟨v, hv, h⟩ := p_szRepairS 2000000 a 1048576 (by omega) (by omega) ha oa (by omega)
    rw [hv]
    simp only [Option.bind_some]
    rcases h with h | ⟨h0, h1⟩
    · simp [h]
    · have hnv : ¬ v < 0 := by omega
      have sa := smallR_of h1 h0 (by omega) oa
      have hr : (hopeB a f).1.length ≤ 1048576 := by have := hopeB_len a f; omega
      obtain ⟨K, rows, hK, hK0, hK1⟩ := p_markRepairS 2000000 a sa (by omega)
      have hnK : ¬ K < 0 := by omega
      have hm : ¬ (1 + ((hopeB a f).1.length : Int)) < 0 := by omega
      have hm2 : ¬ (K + (f.length : Int)) < 0 := by omega
      simp only [hnv, decide_false, Bool.false_eq_true, if_false, p_toRepairS 2000000 a sa (by omega), p_toInt64S 2000000 f hfl (by omega), Option.bind_some, p_specHopeless 2000000 a f sa hfl (by omega), p_implHopeless 2000000 a f sa hfl (by omega),
        p_eqRepairS 2000000 a sa (by omega), p_eqInt64S 2000000 f hfl (by omega), p_eqInt64S 2000000 _ hr (by omega), bne_self_eq_false, Bool.not_true, hK, hnK, p_markInt64S 2000000 _ hr (by omega), p_heldInt64S 2000000 _ hr (by omega), hm, w64_Name 2000000 K f hK0 hfl (by omega) (by omega), hm2]

/-! ### Needless repairs -/

theorem p_Concat2 (n : Nat) (A B : List Int) (h : A.length + B.length ≤ 1048576) (hn : 1048577 < n) : m_slices_Concat_int64_int64 n [A, B] = some (A ++ B) := by
  have hm : ∀ (i : Nat) (x : List Int), [A, B][i]? = some x → x.length ≤ 1048576 ∧ i < 2 := by
    intro i x hx
    have hlt := lt_of_get hx
    have hmem := List.mem_of_getElem? hx
    simp only [List.mem_cons, List.not_mem_nil, or_false] at hmem
    simp only [List.length_cons, List.length_nil] at hlt
    rcases hmem with rfl | rfl <;> exact ⟨by omega, by omega⟩
  have k1 := loopN_fold (body := m_slices_Concat_int64_int64_l1 n [A, B]) [A, B] (fun (b : Int) x => b + x.length) 0 (fun i b => (b, (i : Int))) id (fun i b => 0 ≤ b ∧ b ≤ 1048576 * (i : Int)) (by simp)
    (fun i x b hx hb => by
      have hlt := lt_of_get hx
      obtain ⟨g1, g2⟩ := hm i x hx
      have w1 : wI64 (b + (x.length : Int)) = b + (x.length : Int) := wI64_eq (by omega) (by omega)
      have n1 : ¬ (b + (x.length : Int) < 0) := by omega
      unfold m_slices_Concat_int64_int64_l1
      simp only [ltB hlt, if_true, idx_nat, hx, Option.bind_some, w1, n1, decide_false, Bool.false_eq_true, if_false, succ64 hlt (by simp), true_and]
      omega)
    (fun b _ => by unfold m_slices_Concat_int64_int64_l1; simp) n (by simp; omega)
  have k1' : loopN (m_slices_Concat_int64_int64_l1 n [A, B]) n (0, 0) = some ((A.length + B.length : Nat) : Int) := by
    have := k1.1
    rw [show (((0 : Nat) : Int)) = 0 from rfl] at this
    rw [this]; simp
  have n2 : ¬ (((A.length + B.length : Nat) : Int) < 0) := by omega
  have kG : m_slices_Grow_int64_int64 n ((A.length + B.length : Nat) : Int) = some [] := by
    unfold m_slices_Grow_int64_int64
    have e0 : wI64 ((0 : Int) - 0) = 0 := by decide
    have e1 : wI64 (((A.length + B.length : Nat) : Int) - 0) = ((A.length + B.length : Nat) : Int) := by rw [wI64_eq (by omega) (by omega)]; omega
    simp only [e0, e1, n2, decide_false, Bool.false_eq_true, if_false, Option.bind_some]
    by_cases hp : ((A.length + B.length : Nat) : Int) > 0
    · simp only [hp, decide_true, if_true, mk_nat _ _ (show A.length + B.length ≤ 4294967296 by omega), Option.bind_some]
      unfold sub
      rw [if_pos ⟨by omega, by omega, by omega⟩]; rfl
    · simp only [hp, decide_false, Bool.false_eq_true, if_false, Option.bind_some]
  have k3 := loopN_fold (body := m_slices_Concat_int64_int64_l3 n [A, B]) [A, B] (fun b x => b ++ x) ([] : List Int) (fun i b => (b, (i : Int))) id (fun i b => b.length ≤ 1048576 * i) (by simp)
    (fun i x b hx hb => by
      have hlt := lt_of_get hx
      obtain ⟨g1, g2⟩ := hm i x hx
      unfold m_slices_Concat_int64_int64_l3
      simp only [ltB hlt, if_true, idx_nat, hx, Option.bind_some, succ64 hlt (by simp), app_eq (show b.length + x.length ≤ 4294967296 by omega), true_and, List.length_append]
      omega)
    (fun b _ => by unfold m_slices_Concat_int64_int64_l3; simp) n (by simp; omega)
  have k3' : loopN (m_slices_Concat_int64_int64_l3 n [A, B]) n ([], 0) = some (A ++ B) := by
    have := k3.1
    rw [show (((0 : Nat) : Int)) = 0 from rfl] at this
    rw [this]; simp
  unfold m_slices_Concat_int64_int64
  rw [k1']
  simp only [Option.bind_some, kG, k3']

def restL (s : List Int) (i : Nat) : List Int := s.take i ++ s.drop (i + 1)

theorem restL_sm {l : List SRepair} {s : List Int} (h : Sm l s) (i : Nat) : Sm l (restL s i) := by
  have hsub : (restL s i).Sublist s := by
    unfold restL
    conv => rhs; rw [← List.take_append_drop i s]
    exact List.Sublist.append (List.Sublist.refl _) (by rw [← List.drop_drop]; exact List.drop_sublist 1 _)
  exact ⟨fun k hk => h.mem k (hsub.subset hk), h.inc.sublist hsub⟩

def needL (l : List SRepair) (s f : List Int) : List Int := ((List.range s.length).filter (fun i => allB l (restL s i) f)).map (fun i => s.getD i 0)
def needB (l : List SRepair) (s f : List Int) : List Int × Int := if codeB l s f = 0 then (if allB l s f then (needL l s f, 0) else ([], 6)) else ([], codeB l s f)

theorem sub_take (s : List Int) {i : Nat} (h : i ≤ s.length) : sub s 0 (i : Int) = some (s.take i) := by
  unfold sub; rw [if_pos ⟨by omega, by omega, by omega⟩]; simp
theorem sub_drop (s : List Int) {i : Nat} (h : i ≤ s.length) : sub s (i : Int) (s.length : Int) = some (s.drop i) := by
  unfold sub; rw [if_pos ⟨by omega, by omega, by omega⟩]; simp

theorem p_implNeed (n : Nat) (l : List SRepair) (s f : List Int) (hl : smallR l) (hs : s.length ≤ 1048576) (hf : f.length ≤ 1048576) (hn : 1048577 < n) : m_impl_NeedlessRepairs n l s f = some (needB l s f) := by
  unfold m_impl_NeedlessRepairs needB
  simp only [p_someCode n l s f hl hs hf (by omega), Option.bind_some]
  by_cases h : codeB l s f = 0
  · obtain ⟨h1, h2, -⟩ := code0 h
    have hsh := h2.short h1
    have k := loopN_keep (body := m_impl_NeedlessRepairs_l1 n l s f) s.length (fun i => allB l (restL s i) f) (fun i => s.getD i 0) id
      (fun i o hi ho => by
        have hg : s[i]? = some (s.getD i 0) := getD_of hi 0
        unfold m_impl_NeedlessRepairs_l1
        simp only [ltB hi, if_true, idx_nat, hg, Option.bind_some, sub_take s (show i ≤ s.length by omega), succ64 hi (by omega), sub_drop s (show i + 1 ≤ s.length by omega), p_Concat2 n (s.take i) (s.drop (i + 1)) (by simp; omega) hn]
        have e : s.take i ++ s.drop (i + 1) = restL s i := rfl
        rw [e, p_mendsAll n l _ f h1 (restL_sm h2 i) hf (by omega), app_eq (by simp; omega)]
        cases allB l (restL s i) f <;> rfl)
      (fun o _ => by unfold m_impl_NeedlessRepairs_l1; simp) n (by omega)
    have k' : loopN (m_impl_NeedlessRepairs_l1 n l s f) n (([] : List Int), 0) = some (needL l s f) := k
    simp only [h, bne_self_eq_false, Bool.false_eq_true, if_false, p_mendsAll n l s f h1 h2 hf (by omega), Option.bind_some, if_true, k']
    cases allB l s f <;> rfl
  · have hb : (codeB l s f != 0) = true := by simp [bne, h]
    simp only [hb, h, if_true, if_false]

theorem p_specNeed (n : Nat) (l : List SRepair) (s f : List Int) (hl : smallR l) (hs : s.length ≤ 1048576) (hf : f.length ≤ 1048576) (hn : 1048577 < n) : m_spec_NeedlessRepairs n l s f = some (needB l s f) := by
  unfold m_spec_NeedlessRepairs needB
  simp only [p_l21Faults n l s f hl hs hf (by omega), Option.bind_some]
  by_cases h : codeB l s f = 0
  · obtain ⟨h1, h2, -⟩ := code0 h
    have hsh := h2.short h1
    have k := loopN_keep (body := m_spec_NeedlessRepairs_l1 n l s f) s.length (fun i => allB l (restL s i) f) (fun i => s.getD i 0) id
      (fun i o hi ho => by
        have hg : s[i]? = some (s.getD i 0) := getD_of hi 0
        have o1 : m_spec_l00Own n (s.take i) = some (s.take i) := by unfold m_spec_l00Own; rw [app_eq (by simp; omega)]; rfl
        have o2 : app (s.take i) (s.drop (i + 1)) = some (restL s i) := app_eq (by simp; omega)
        unfold m_spec_NeedlessRepairs_l1
        simp only [ltB hi, if_true, idx_nat, hg, Option.bind_some, sub_take s (show i ≤ s.length by omega), succ64 hi (by omega), sub_drop s (show i + 1 ≤ s.length by omega), o1, o2, p_l21All n l _ f h1 (restL_sm h2 i) hf (by omega)]
        rw [app_eq (by simp; omega)]
        cases allB l (restL s i) f <;> rfl)
      (fun o _ => by unfold m_spec_NeedlessRepairs_l1; simp) n (by omega)
    have k' : loopN (m_spec_NeedlessRepairs_l1 n l s f) n (([] : List Int), 0) = some (needL l s f) := k
    simp only [h, beq_self_eq_true, if_true, p_l21All n l s f h1 h2 hf (by omega), Option.bind_some, k']
    cases allB l s f <;> rfl
  · have hb : (codeB l s f == 0) = false := by simp [h]
    have hb2 : (codeB l s f != 0) = true := by simp [bne, h]
    simp only [hb, h, if_false, Bool.false_eq_true, Option.bind_some, hb2, if_true]

theorem needB_len (l : List SRepair) (s f : List Int) : (needB l s f).1.length ≤ 10 := by
  unfold needB
  by_cases h : codeB l s f = 0
  · obtain ⟨h1, h2, -⟩ := code0 h
    rw [if_pos h]
    cases allB l s f with
    | false => simp
    | true =>
      simp only [if_true]
      unfold needL
      rw [List.length_map]
      have := List.length_filter_le (fun i => allB l (restL s i) f) (List.range s.length)
      have := h2.short h1
      rw [List.length_range] at *
      omega
  · rw [if_neg h]; simp

theorem law_NeedlessRepairs (a : List SRepair) (s f : List Int) (ha : a.length ≤ 9223372036854775807) (oa : ∀ x ∈ a, okRepair x) (_hs : s.length ≤ 9223372036854775807) (_os : ∀ x ∈ s, i64ok x) (_hf : f.length ≤ 9223372036854775807) (_of : ∀ x ∈ f, i64ok x) :
    m_laws_FnExactNeedlessRepairs 2000000 a s f = some true := by
  unfold m_laws_FnExactNeedlessRepairs
  cases hbig : decide ((s.length : Int) > 1048576) with
  | true => rfl
  | false =>
    have hsl := big_len hbig
    simp only [Bool.false_eq_true, if_false]
    cases hbig2 : decide ((f.length : Int) > 1048576) with
    | true => rfl
    | false =>
      have hfl := big_len hbig2
      simp only [Bool.false_eq_true, if_false]
      obtain ⟨v, hv, h⟩ := p_szRepairS 2000000 a 1048576 (by omega) (by omega) ha oa (by omega)
      rw [hv]
      simp only [Option.bind_some]
      rcases h with h | ⟨h0, h1⟩
      · simp [h]
      · have hnv : ¬ v < 0 := by omega
        have sa := smallR_of h1 h0 (by omega) oa
        have hr : (needB a s f).1.length ≤ 1048576 := by have := needB_len a s f; omega
        obtain ⟨K, rows, hK, hK0, hK1⟩ := p_markRepairS 2000000 a sa (by omega)
        have hm : ¬ (1 + ((needB a s f).1.length : Int)) < 0 := by omega
        have hm2 : ¬ (K + (s.length : Int) + (f.length : Int)) < 0 := by omega
        simp only [hnv, decide_false, Bool.false_eq_true, if_false, p_toRepairS 2000000 a sa (by omega), p_toInt64S 2000000 s hsl (by omega), p_toInt64S 2000000 f hfl (by omega), Option.bind_some, p_specNeed 2000000 a s f sa hsl hfl (by omega), p_implNeed 2000000 a s f sa hsl hfl (by omega),
          p_eqRepairS 2000000 a sa (by omega), p_eqInt64S 2000000 s hsl (by omega), p_eqInt64S 2000000 f hfl (by omega), p_eqInt64S 2000000 _ hr (by omega), bne_self_eq_false, Bool.not_true, hK, p_markInt64S 2000000 _ hr (by omega), p_heldInt64S 2000000 _ hr (by omega), hm,
          w64_Name 2000000 K s hK0 hsl (by omega) (by omega), w64_Name 2000000 (K + (s.length : Int)) f (by omega) hfl (by omega) (by omega), hm2]

end Go.Gv
