/- Plain laws of stock: what can be made, and what is reserved and used. -/
import Derived.Test.YtkpdicajinionaaPgF
namespace Go.Gv
open Go Go.RowKit

theorem sumK_scale (l : List SGood) (k : Nat) (m : Int) : ∀ ts : List STake, sumK l k (ts.map fun t => (⟨t.Name, -m * t.Many⟩ : STake)) = -m * sumK l k ts
  | [] => by simp [sumK]
  | t :: ts => by
    have ih := sumK_scale l k m ts
    have h1 : sumK l k ((t :: ts).map fun t => (⟨t.Name, -m * t.Many⟩ : STake)) = (if findZ l t.Name = (k : Int) then -m * t.Many else 0) + sumK l k (ts.map fun t => (⟨t.Name, -m * t.Many⟩ : STake)) := by simp [sumK]
    have h2 : sumK l k (t :: ts) = (if findZ l t.Name = (k : Int) then t.Many else 0) + sumK l k ts := by simp [sumK]
    rw [h1, h2, ih, Int.mul_add]
    split <;> simp

theorem getD_names {l l' : List SGood} (h : namesG l = namesG l') : l.length = l'.length := by
  have := congrArg List.length h; simpa [namesG] using this

/-- As often as can be made: it can be taken, and then nothing more can be made. -/
theorem can_after (c : List SGood) (ts : List STake) (hv : goodsB c = true) (h60 : ts.length ≤ 60) (hm : ∀ t ∈ ts, 1 ≤ t.Many ∧ t.Many ≤ 1000000) (h0 : ts ≠ []) (hf : ∀ t ∈ ts, 0 ≤ findZ c t.Name) (l0 : List SGood) (hpos : 0 ≤ (freeL c ts).foldl minF (-1)) :
    ∃ left, runL (roundG l0) 0 (ts.map fun t => (⟨t.Name, -((freeL c ts).foldl minF (-1)) * t.Many⟩ : STake)) c = .ok left ∧ canR left ts = (0, 0) ∧ left.length = c.length ∧ namesG left = namesG c := by
  have hS := stock_of hv
  obtain ⟨M, hM⟩ : ∃ M, M = (freeL c ts).foldl minF (-1) := ⟨_, rfl⟩
  rw [← hM] at hpos ⊢
  have rng : ∀ k, k < c.length → 0 ≤ (c.getD k gD).OnHand ∧ (c.getD k gD).OnHand ≤ 1000000 ∧ 0 ≤ (c.getD k gD).Reserved ∧ (c.getD k gD).Reserved ≤ (c.getD k gD).OnHand := fun k hk => by
    have := goodB_range (hS.good _ (List.mem_of_getElem? (getD_of hk gD))); omega
  have sb : ∀ k, 0 ≤ sumK c k ts ∧ (∀ t ∈ ts, findZ c t.Name = (k : Int) → 1 ≤ sumK c k ts) ∧ (sumK c k ts ≠ 0 → ∃ t ∈ ts, findZ c t.Name = (k : Int)) := fun k => by
    have := sums_bound (fun u => decide (findZ c u.Name = (k : Int))) ts hm
    simp only [decide_eq_true_eq] at this
    exact ⟨this.1, this.2.2.1, this.2.2.2⟩
  have kq : ∀ t ∈ ts, ∃ k : Nat, findZ c t.Name = (k : Int) ∧ k < c.length := fun t ht => by
    rcases find_cases c t.Name with h | h
    · have := hf t ht; omega
    · exact h
  have q0 : ∀ x ∈ freeL c ts, 0 ≤ x := fun x hx => by
    unfold freeL at hx
    rw [List.mem_map] at hx
    obtain ⟨t, ht, rfl⟩ := hx
    obtain ⟨k, h1, h2⟩ := kq t ht
    rw [h1, Int.toNat_natCast]
    have := rng k h2
    exact Int.tdiv_nonneg (by omega) (sb k).1
  have hne : freeL c ts ≠ [] := by unfold freeL; simpa using h0
  obtain ⟨min1, min2⟩ := minF_first hne q0
  rw [← hM] at min1 min2
  -- what is taken of each is there
  have fit : ∀ k, k < c.length → M * sumK c k ts ≤ (c.getD k gD).OnHand - (c.getD k gD).Reserved := fun k hk => by
    have hr := rng k hk
    by_cases hz : sumK c k ts = 0
    · rw [hz, Int.mul_zero]; omega
    · obtain ⟨t, ht, hk1⟩ := (sb k).2.2 hz
      have hp := (sb k).2.1 t ht hk1
      have hq := min2 (freeQ c ts k) (by unfold freeL; rw [List.mem_map]; exact ⟨t, ht, by rw [hk1, Int.toNat_natCast]⟩)
      unfold freeQ at hq
      rw [Int.tdiv_eq_ediv_of_nonneg (by omega)] at hq
      have h1 := Int.mul_le_mul_of_nonneg_right hq (show 0 ≤ sumK c k ts by omega)
      have h2 := Int.ediv_mul_le ((c.getD k gD).OnHand - (c.getD k gD).Reserved) hz
      exact Int.le_trans h1 h2
  obtain ⟨left, hrun⟩ := run_down l0 (ts.map fun t => (⟨t.Name, -M * t.Many⟩ : STake)) 0 c (fun u hu => by
    rw [List.mem_map] at hu
    obtain ⟨t, ht, rfl⟩ := hu
    refine ⟨?_, hf t ht⟩
    show -M * t.Many ≤ 0
    have := Int.mul_nonneg hpos (show 0 ≤ t.Many by have := hm t ht; omega)
    rw [Int.neg_mul]; omega) (fun k hk => by
    rw [sumK_scale, Int.neg_mul]
    have := fit k hk
    have := rng k hk
    omega)
  obtain ⟨e1, e2, e3⟩ := run_sum l0 _ _ _ _ hrun
  have hg := goodsB_run l0 _ _ _ _ hv hrun
  refine ⟨left, hrun, ?_, e1, e2⟩
  have fq : ∀ k, k < c.length → freeQ left ts k = Int.tdiv ((c.getD k gD).OnHand - (c.getD k gD).Reserved - M * sumK c k ts) (sumK c k ts) := fun k hk => by
    unfold freeQ
    rw [e3 k hk, sumK_names e2, sumK_scale]
    unfold addG
    simp only
    congr 1
    rw [Int.neg_mul]; omega
  have l1 : ∀ t ∈ ts, findZ left t.Name = findZ c t.Name := fun t _ => find_names e2 t.Name
  have q1 : ∀ x ∈ freeL left ts, 0 ≤ x := fun x hx => by
    unfold freeL at hx
    rw [List.mem_map] at hx
    obtain ⟨t, ht, rfl⟩ := hx
    obtain ⟨k, h1, h2⟩ := kq t ht
    rw [l1 t ht, h1, Int.toNat_natCast, fq k h2]
    have := fit k h2
    exact Int.tdiv_nonneg (by omega) (sb k).1
  have zero : (0 : Int) ∈ freeL left ts := by
    unfold freeL at min1
    rw [List.mem_map] at min1
    obtain ⟨t, ht, hq⟩ := min1
    obtain ⟨k, h1, h2⟩ := kq t ht
    rw [h1, Int.toNat_natCast] at hq
    have hp := (sb k).2.1 t ht h1
    have hr := rng k h2
    unfold freeL
    rw [List.mem_map]
    refine ⟨t, ht, ?_⟩
    rw [l1 t ht, h1, Int.toNat_natCast, fq k h2]
    unfold freeQ at hq
    rw [Int.tdiv_eq_ediv_of_nonneg (by omega)] at hq
    have hmod : (c.getD k gD).OnHand - (c.getD k gD).Reserved - M * sumK c k ts = ((c.getD k gD).OnHand - (c.getD k gD).Reserved) % sumK c k ts := by
      rw [Int.emod_def, hq, Int.mul_comm]
    rw [hmod]
    have m0 := Int.emod_nonneg ((c.getD k gD).OnHand - (c.getD k gD).Reserved) (show sumK c k ts ≠ 0 by omega)
    have m1 := Int.emod_lt_of_pos ((c.getD k gD).OnHand - (c.getD k gD).Reserved) (show 0 < sumK c k ts by omega)
    rw [Int.tdiv_eq_ediv_of_nonneg m0]
    exact Int.ediv_eq_zero_of_lt m0 m1
  have hne2 : freeL left ts ≠ [] := by unfold freeL; simpa using h0
  obtain ⟨n1, n2⟩ := minF_first hne2 q1
  have hfin : (freeL left ts).foldl minF (-1) = 0 := by
    have := n2 0 zero
    have := q1 _ n1
    omega
  unfold canR
  rw [if_pos hg, if_neg (by omega), if_pos (by rw [List.all_eq_true]; intro t ht; have := hm t ht; unfold inRB; simp; omega), if_neg (by simpa using h0), if_pos (by
    rw [List.all_eq_true]; intro t ht; rw [l1 t ht]; exact decide_eq_true (hf t ht)), hfin]

/-- What was reserved is used: as if it had been taken. -/
theorem reserve_use {l : List SGood} {name : List UInt8} {many : Int} {k : Nat} {g : SGood} (hv : goodsB l = true) (hg : l[k]? = some g) (hn : g.Name = name) (h1 : 1 ≤ many) (h2 : many ≤ 1000000) (hk : findZ l name = (k : Int)) (hr : ¬ g.OnHand - g.Reserved < many) :
    codeG (l.set k ⟨g.Name, g.OnHand, g.Reserved + many, g.Least⟩) name many = ((k : Int), 0) ∧ (l.set k ⟨g.Name, g.OnHand, g.Reserved + many, g.Least⟩)[k]? = some ⟨g.Name, g.OnHand, g.Reserved + many, g.Least⟩ ∧
    useAt (l.set k ⟨g.Name, g.OnHand, g.Reserved + many, g.Least⟩) many k ⟨g.Name, g.OnHand, g.Reserved + many, g.Least⟩ = (l.set k ⟨g.Name, g.OnHand - many, g.Reserved, g.Least⟩, 0) ∧
    changeR l ⟨name, -many⟩ = (l.set k ⟨g.Name, g.OnHand - many, g.Reserved, g.Least⟩, 0) := by
  have hlt := lt_of_get hg
  have hgood := (stock_of hv).good g (List.mem_of_getElem? hg)
  obtain ⟨r1, r2, r3, r4, r5, r6⟩ := goodB_range hgood
  have hb : goodB ⟨g.Name, g.OnHand, g.Reserved + many, g.Least⟩ = true := by
    unfold goodB inRB at hgood ⊢
    simp only [Bool.and_eq_true, decide_eq_true_eq] at hgood ⊢
    refine ⟨hgood.1, ?_, ?_, ?_⟩ <;> omega
  have hv2 := goodsB_set hv hg (g' := ⟨g.Name, g.OnHand, g.Reserved + many, g.Least⟩) rfl hb
  have hnm := names_at (l := l) (g' := ⟨g.Name, g.OnHand, g.Reserved + many, g.Least⟩) hg rfl
  have hin : inRB 1 1000000 many = true := by unfold inRB; simp; omega
  have hin2 : inRB (-1000000) 1000000 (-many) = true := by unfold inRB; simp; omega
  refine ⟨?_, by simp [hlt], ?_, ?_⟩
  · unfold codeG
    rw [if_pos hv2, if_pos hin, find_names hnm, hk, if_neg (by omega)]
  · unfold useAt
    simp only
    rw [if_neg (by omega), List.set_set]
    congr 3
    omega
  · have hgd : l.getD k gD = g := by rw [List.getD_eq_getElem?_getD, hg]; rfl
    have ht : takeR l ⟨name, -many⟩ = (l.set k ⟨g.Name, g.OnHand - many, g.Reserved, g.Least⟩, 0) := by
      unfold takeR
      simp only
      rw [hk, if_neg (by omega), Int.toNat_natCast, hgd]
      unfold takeAt
      rw [if_neg (by omega), if_neg (by omega)]
      rfl
    unfold changeR
    simp only
    rw [if_pos hv, if_pos hin2, ht]
    simp

end Go.Gv
