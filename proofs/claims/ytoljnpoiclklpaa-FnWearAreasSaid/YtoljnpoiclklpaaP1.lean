/- Plain laws of wear: the patch. -/
import Derived.Test.YtoljnpoiclklpaaPz
namespace Go.Gv
open Go Go.RowKit

/-- The patch as the reference gathers it. -/
def patS (least : Int) (b : Int × Int × Int × Int) (t : Int × Nat × Nat) : Int × Int × Int × Int :=
  if t.1 < least then b else ((if b.1 < 0 then (t.2.1 : Int) else b.1), min b.2.1 (t.2.2 : Int), (t.2.1 : Int), max b.2.2.2 (t.2.2 : Int))
/-- .. and as the program does. -/
def patI (least : Int) (b : Int × Int × Int × Int) (t : Int × Nat × Nat) : Int × Int × Int × Int :=
  if t.1 ≥ least then (imin b.1 (t.2.1 : Int), imin b.2.1 (t.2.2 : Int), imax b.2.2.1 (t.2.1 : Int), imax b.2.2.2 (t.2.2 : Int)) else b

/-- How the two stand to one another. -/
def patR (H W : Nat) (i : Nat) (b c : Int × Int × Int × Int) : Prop :=
  (b = (-1, 8, -1, -1) ∧ c = ((H : Int), (W : Int), -1, -1)) ∨
  (b = c ∧ 0 ≤ b.1 ∧ b.1 ≤ b.2.2.1 ∧ b.2.2.1 * W < (i : Int) ∧ b.2.2.1 < H ∧ 0 ≤ b.2.1 ∧ b.2.1 < W ∧ 0 ≤ b.2.2.2 ∧ b.2.2.2 < W)

theorem pat_rel (least : Int) {rows : List (List UInt8)} {W : Nat} (hW : 0 < W) (hW8 : W ≤ 8) (h : ∀ r ∈ rows, r.length = W) :
    patR rows.length W (tri 0 rows).length ((tri 0 rows).foldl (patS least) (-1, 8, -1, -1)) ((tri 0 rows).foldl (patI least) ((rows.length : Int), (W : Int), -1, -1)) := by
  refine foldl_rel (tri 0 rows) (patS least) (patI least) (patR rows.length W) _ _ (.inl ⟨rfl, rfl⟩) ?_
  intro i t b c ht hR
  obtain ⟨h1, h2, h3, h4⟩ := tri_get hW h ht
  have hi : i < rows.length * W := by rw [← flat_uniform h]; exact lt_of_get h4
  have hy : t.2.1 < rows.length := by rw [h1]; exact Nat.div_lt_of_lt_mul (by rw [Nat.mul_comm]; exact hi)
  have hyi : t.2.1 * W ≤ i := by rw [h1]; exact Nat.div_mul_le_self i W
  have hyi2 : i < t.2.1 * W + W := by
    rw [h1]
    have e := Nat.div_add_mod i W
    have m := Nat.mod_lt i hW
    rw [Nat.mul_comm] at e; omega
  unfold patS patI
  by_cases hd : t.1 < least
  · have hd2 : ¬ t.1 ≥ least := by omega
    rw [if_pos hd, if_neg hd2]
    rcases hR with hR | ⟨r1, r2, r3, r4, r5⟩
    · exact .inl hR
    · exact .inr ⟨r1, r2, r3, Int.lt_of_lt_of_le r4 (by omega), r5⟩
  · have hd2 : t.1 ≥ least := by omega
    rw [if_neg hd, if_pos hd2]
    right
    rcases hR with ⟨rfl, rfl⟩ | ⟨rfl, r2, r3, r4, r5, r6, r7, r8, r9⟩
    · have e1 : imin (rows.length : Int) (t.2.1 : Int) = (t.2.1 : Int) := by unfold imin; rw [if_pos (by omega)]
      have e2 : imin (W : Int) (t.2.2 : Int) = (t.2.2 : Int) := by unfold imin; rw [if_pos (by omega)]
      have e3 : imax (-1) (t.2.1 : Int) = (t.2.1 : Int) := by unfold imax; rw [if_pos (by omega)]
      have e4 : imax (-1) (t.2.2 : Int) = (t.2.2 : Int) := by unfold imax; rw [if_pos (by omega)]
      have e5 : min (8 : Int) (t.2.2 : Int) = (t.2.2 : Int) := by omega
      have e6 : max (-1 : Int) (t.2.2 : Int) = (t.2.2 : Int) := by omega
      simp only [e1, e2, e3, e4, e5, e6]
      refine ⟨by simp, by simp, by simp, ?_, by omega, by omega, by omega, by omega, by omega⟩
      have : ((t.2.1 * W : Nat) : Int) ≤ (i : Int) := by omega
      rw [Int.natCast_mul] at this
      show (t.2.1 : Int) * W < _
      omega
    · have hb : b.2.2.1 ≤ (t.2.1 : Int) := by
        have h5 : b.2.2.1 * W < ((t.2.1 : Int) + 1) * W := by
          have : ((t.2.1 * W + W : Nat) : Int) = ((t.2.1 : Int) + 1) * W := by rw [Int.add_mul, Int.one_mul, Int.natCast_add, Int.natCast_mul]
          rw [← this]; omega
        have := Int.lt_of_mul_lt_mul_right h5 (by omega)
        omega
      have e0 : ¬ b.1 < 0 := by omega
      have e1 : imin b.1 (t.2.1 : Int) = b.1 := by unfold imin; split <;> omega
      have e2 : imin b.2.1 (t.2.2 : Int) = min b.2.1 (t.2.2 : Int) := by unfold imin; split <;> omega
      have e3 : imax b.2.2.1 (t.2.1 : Int) = (t.2.1 : Int) := by unfold imax; split <;> omega
      have e4 : imax b.2.2.2 (t.2.2 : Int) = max b.2.2.2 (t.2.2 : Int) := by unfold imax; split <;> omega
      simp only [e0, e1, e2, e3, e4, if_false]
      refine ⟨trivial, r2, by show b.1 ≤ (t.2.1 : Int); omega, ?_, by show (t.2.1 : Int) < _; omega, by omega, by omega, by omega, by omega⟩
      have : ((t.2.1 * W : Nat) : Int) ≤ (i : Int) := by omega
      rw [Int.natCast_mul] at this
      show (t.2.1 : Int) * W < _
      omega

theorem zip_get {α : Type} {xs : List α} {i k : Nat} {p : α × Nat} (h : (xs.zipIdx k)[i]? = some p) : xs[i]? = some p.1 ∧ p.2 = k + i := by
  rw [List.getElem?_zipIdx] at h
  cases hx : xs[i]? with
  | none => simp [hx] at h
  | some x => simp [hx] at h; subst h; exact ⟨rfl, rfl⟩

theorem p_PatchFor (n : Nat) (rows : List (List UInt8)) (least : Int) (hr : rows.length ≤ 1048576) (ht : total rows ≤ 1048576) (hn : 1048576 < n) : ∃ l e, l.length ≤ 400 ∧ m_spec_PatchFor n rows least = some (l, e) ∧ m_impl_PatchFor n rows least = some (l, e) := by
  have hs : ∀ r ∈ rows, r.length ≤ 1048576 := fun r hr => by have := mem_le_total hr; omega
  unfold m_spec_PatchFor m_impl_PatchFor
  obtain ⟨c1, c2⟩ := p_wearCode n rows least hr hs hn
  rw [c1, c2]
  simp only [Option.bind_some]
  by_cases hw : wearB rows = true
  · by_cases hl : 1 ≤ least ∧ least ≤ 9
    · simp only [hw, hl, and_self, if_true, bne_self_eq_false, Bool.false_eq_true, if_false]
      obtain ⟨w1, w2⟩ := wear_total hw
      have l2 : 2 ≤ rows.length := by unfold wearB at hw; simp at hw; omega
      obtain ⟨r0, h0⟩ : ∃ r0, rows[0]? = some r0 := ⟨_, List.getElem?_eq_getElem (by omega)⟩
      obtain ⟨W, hWd⟩ : ∃ W, W = r0.length := ⟨_, rfl⟩
      have hh : (rows.headD []).length = W := by
        cases rows with
        | nil => simp at l2
        | cons a b => simp at h0; subst h0; exact hWd.symm
      have hu : ∀ r ∈ rows, r.length = W := fun r hr => by rw [(w2 r hr).1, hh]
      obtain ⟨_, b2, b3, _⟩ := w2 r0 (List.mem_of_getElem? h0)
      have hW : 0 < W := by omega
      simp only [idx_zero, h0, Option.bind_some, p_digits n rows hr ht hn]
      obtain ⟨ds, hds⟩ : ∃ ds, ds = rows.flatMap (·.map dv) := ⟨_, rfl⟩
      have hdl : ds.length ≤ 96 := by
        rw [hds, flat_uniform hu]
        have : rows.length * W ≤ 12 * 8 := Nat.mul_le_mul w1 (by omega)
        omega
      rw [← hds, ← hWd]
      have etri : tri 0 rows = (ds.zipIdx 0).map fun p => (p.1, p.2 / W, p.2 % W) := by rw [tri_flat W hW rows 0 hu, hds, Nat.zero_mul]
      have hi := loopN_fold (body := m_impl_PatchFor_l1 n least r0 ds) (tri 0 rows) (patI least) ((rows.length : Int), (W : Int), -1, -1) (fun i b => (b.1, b.2.1, b.2.2.1, b.2.2.2, (i : Int))) id (fun _ _ => True) trivial
        (fun i t b htr _ => by
          obtain ⟨g1, g2, g3, g4⟩ := tri_get hW hu htr
          rw [← hds] at g4
          have hlt := lt_of_get g4
          have hne : ¬ ((W : Int) = 0) := by omega
          have q1 : IntKind.i64.wrap (Int.tdiv (i : Int) (W : Int)) = (t.2.1 : Int) := by
            have : Int.tdiv (i : Int) (W : Int) = ((i / W : Nat) : Int) := rfl
            rw [this, ← g1]
            have hb : t.2.1 ≤ i := by rw [g1]; exact Nat.div_le_self _ _
            have := wI64_eq (x := (t.2.1 : Int)) (by omega) (by omega)
            simpa [wI64] using this
          have q2 : Int.tmod (i : Int) (W : Int) = (t.2.2 : Int) := by
            have : Int.tmod (i : Int) (W : Int) = ((i % W : Nat) : Int) := rfl
            rw [this, ← g2]
          refine ⟨?_, trivial⟩
          unfold m_impl_PatchFor_l1 patI
          simp only [ltB hlt, if_true, idx_nat, g4, Option.bind_some, succ64 hlt (by omega), quo, rem, ← hWd, hne, if_false, q1, q2]
          by_cases h : t.1 ≥ least <;> simp [h])
        (fun b _ => by
          have : (tri 0 rows).length = ds.length := by rw [etri]; simp
          unfold m_impl_PatchFor_l1; simp [this]) n (by rw [etri]; simp; omega)
      have hi' : loopN (m_impl_PatchFor_l1 n least r0 ds) n ((rows.length : Int), (W : Int), -1, -1, 0) = _ := hi.1
      have hsp := loopN_fold (body := m_spec_PatchFor_l1 n rows least) (rows.zipIdx 0) (fun b p => (p.1.zipIdx.map fun q => (dv q.1, p.2, q.2)).foldl (patS least) b) ((-1, 8, -1, -1) : Int × Int × Int × Int) (fun i b => (b.1, b.2.1, b.2.2.1, b.2.2.2, (i : Int))) id (fun _ _ => True) trivial
        (fun i p b hp _ => by
          obtain ⟨g1, g2⟩ := zip_get hp
          rw [Nat.zero_add] at g2
          have hlt := lt_of_get g1
          have inner := loopN_fold (body := m_spec_PatchFor_l2 n rows least (b.1, b.2.1, b.2.2.1, b.2.2.2, (i : Int))) (p.1.zipIdx.map fun q => (dv q.1, p.2, q.2)) (patS least) b (fun j b => (b.1, b.2.1, b.2.2.1, b.2.2.2, (j : Int))) id (fun _ _ => True) trivial
            (fun j t b' hq _ => by
              rw [List.getElem?_map] at hq
              cases hz : (p.1.zipIdx)[j]? with
              | none => simp [hz] at hq
              | some q =>
                simp [hz] at hq
                obtain ⟨k1, k2⟩ := zip_get hz
                rw [Nat.zero_add] at k2
                have hj := lt_of_get k1
                have hpl := hs p.1 (List.mem_of_getElem? g1)
                refine ⟨?_, trivial⟩
                unfold m_spec_PatchFor_l2 patS
                subst hq
                simp only [idx_nat, g1, Option.bind_some, ltB hj, if_true, p_l20At n rows g1 k1, succ64 hj (by omega), g2, k2, p_l00Min, p_l00Max]
                by_cases h1 : dv q.1 < least
                · simp [h1]
                · by_cases h2 : b'.1 < 0 <;> simp [h1, h2])
            (fun b' _ => by unfold m_spec_PatchFor_l2; simp [idx_nat, g1]) n (by have := hs p.1 (List.mem_of_getElem? g1); simp; omega)
          have inner' : loopN (m_spec_PatchFor_l2 n rows least (b.1, b.2.1, b.2.2.1, b.2.2.2, (i : Int))) n (b.1, b.2.1, b.2.2.1, b.2.2.2, 0) = _ := inner.1
          refine ⟨?_, trivial⟩
          unfold m_spec_PatchFor_l1
          simp only [ltB hlt, if_true, inner', Option.bind_some, succ64 hlt (by omega), id])
        (fun b _ => by unfold m_spec_PatchFor_l1; simp) n (by simp; omega)
      have hsp' : loopN (m_spec_PatchFor_l1 n rows least) n ((-1), 8, (-1), (-1), 0) = _ := hsp.1
      rw [hi', hsp']
      have efold : (rows.zipIdx 0).foldl (fun b p => (p.1.zipIdx.map fun q => (dv q.1, p.2, q.2)).foldl (patS least) b) ((-1, 8, -1, -1) : Int × Int × Int × Int) = (tri 0 rows).foldl (patS least) (-1, 8, -1, -1) := by
        unfold tri; rw [List.foldl_flatMap]
      rw [efold]
      have hR := pat_rel least hW (by omega) hu
      simp only [Option.bind_some, id]
      rcases hR with ⟨e1, e2⟩ | ⟨e1, e2, e3, e4⟩
      · rw [e1, e2]; exact ⟨[], 3, by simp, rfl, rfl⟩
      · rw [← e1]
        have k1 : ¬ ((tri 0 rows).foldl (patS least) (-1, 8, -1, -1)).1 < 0 := by omega
        have k2 : ¬ ((tri 0 rows).foldl (patS least) (-1, 8, -1, -1)).2.2.1 < 0 := by omega
        simp only [k1, k2, decide_false, Bool.false_eq_true, if_false]
        exact ⟨_, 0, by simp, rfl, rfl⟩
    · simp only [hw, hl, if_true, if_false]
      exact ⟨[], 2, by simp, rfl, rfl⟩
  · simp only [hw]
    exact ⟨[], 1, by simp, rfl, rfl⟩

/-- The statement on PatchFor. -/
theorem law_PatchFor (rows : List (List UInt8)) (least : Int) (hl : rows.length ≤ 9223372036854775807) (hs : ∀ r ∈ rows, strok r) (_ : i64ok least) : m_laws_FnExactPatchFor 2000000 rows least = some true := by
  unfold m_laws_FnExactPatchFor
  obtain ⟨v, hv, hc⟩ := sz_cases rows hl hs 1048576 (by omega) (by omega)
  rw [hv]
  simp only [Option.bind_some]
  rcases hc with h | ⟨h, _, _, h1, h2, h3⟩
  · simp [h]
  · obtain ⟨l, e, hll, e1, e2⟩ := p_PatchFor 2000000 rows least h1 h2 (by omega)
    have hne : ¬ (1 + (rows.length : Int) < 0) := by omega
    have hne2 : ¬ (1 + (l.length : Int) < 0) := by omega
    simp [h, p_toStringS 2000000 rows h1, e1, e2, p_eqStringS 2000000 rows h1, p_eqInt64S 2000000 l (by omega), p_markStringS 2000000 rows h1, p_markInt64S 2000000 l (by omega), p_heldInt64S 2000000 l.length (by omega), hne, hne2]

end Go.Gv
