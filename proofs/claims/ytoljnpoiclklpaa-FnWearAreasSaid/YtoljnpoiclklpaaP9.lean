/- Plain laws of wear: areas, the patch, the other shoe, sums: the statement. -/
import Derived.Test.YtoljnpoiclklpaaP8
import Derived.Test.YtoljnpoiclklpaaP1
import Derived.Test.YtoljnpoiclklpaaPx
namespace Go.Gv
open Go Go.RowKit

def wornT (least : Int) (t : Int × Nat × Nat) : Bool := decide (t.1 ≥ least)

theorem cnt_map {α : Type} (f : α → Bool) : ∀ (l : List α), cnt (l.map f) = l.countP f
  | [] => rfl
  | a :: l => by
    rw [List.map_cons, List.countP_cons]
    simp only [cnt, cnt_map f l]
    cases f a <;> simp <;> omega

theorem tri_fst {W : Nat} (hW : 0 < W) {rows : List (List UInt8)} (h : ∀ r ∈ rows, r.length = W) : (tri 0 rows).map (·.1) = rows.flatMap (·.map dv) := by
  rw [tri_flat W hW rows 0 h, List.map_map]
  have : ((fun x : Int × Nat × Nat => x.1) ∘ fun p : Int × Nat => (p.1, p.2 / W, p.2 % W)) = fun p => p.1 := rfl
  rw [this, List.zipIdx_map_fst]

theorem worn_count {W : Nat} (hW : 0 < W) {rows : List (List UInt8)} (h : ∀ r ∈ rows, r.length = W) (least : Int) : cnt (wornS least rows) = (tri 0 rows).countP (wornT least) := by
  unfold wornS
  rw [← tri_fst hW h, List.map_map, cnt_map]; rfl

theorem tri_mem {rows : List (List UInt8)} {y x : Nat} {r : List UInt8} {c : UInt8} (hr : rows[y]? = some r) (hc : r[x]? = some c) : (dv c, y, x) ∈ tri 0 rows := by
  unfold tri
  rw [List.mem_flatMap]
  refine ⟨(r, y), ?_, ?_⟩
  · apply List.mem_of_getElem? (i := y)
    rw [List.getElem?_zipIdx, hr]; simp
  · rw [List.mem_map]
    refine ⟨(c, x), ?_, rfl⟩
    apply List.mem_of_getElem? (i := x)
    rw [List.getElem?_zipIdx, hc]; simp

/-! ### Worn fields, told -/

theorem p_wornC (n : Nat) (rows : List (List UInt8)) (least : Int) {W : Nat} {r0 : List UInt8} (h : Wear rows W r0) (hw : wearB rows = true) (hl : 1 ≤ least ∧ least ≤ 9) (hr : rows.length ≤ 1048576) (ht : total rows ≤ 1048576) (hn : 1048576 < n) :
    m_impl_WornFields n rows least = some ((cnt (wornS least rows) : Int), 0) := by
  have hs : ∀ r ∈ rows, r.length ≤ 1048576 := fun r hr => by have := mem_le_total hr; omega
  have hc := h.cells; have hfl := h.flat
  unfold m_impl_WornFields
  rw [(p_wearCode n rows least hr hs hn).2]
  simp only [hw, hl, and_self, if_true, Option.bind_some, bne_self_eq_false, Bool.false_eq_true, if_false, p_digits n rows hr ht hn]
  obtain ⟨ds, hds⟩ : ∃ ds, ds = rows.flatMap (·.map dv) := ⟨_, rfl⟩
  have hdl : ds.length ≤ 96 := by rw [hds, hfl]; exact hc
  unfold wornS
  rw [← hds]
  have hi := loopN_fold (body := m_impl_WornFields_l1 n least ds) ds (fun (b : Int) x => if x ≥ least then b + 1 else b) 0 (fun i b => (b, (i : Int))) id (fun i b => 0 ≤ b ∧ b ≤ (i : Int)) ⟨by omega, by omega⟩
    (fun i x b hx hb => by
      have hlt := lt_of_get hx
      have hw1 : wI64 (b + 1) = b + 1 := wI64_eq (by omega) (by omega)
      refine ⟨?_, by split <;> omega⟩
      unfold m_impl_WornFields_l1
      simp only [ltB hlt, if_true, idx_nat, hx, Option.bind_some, hw1, succ64 hlt (by omega)]
      by_cases h : x ≥ least
      · simp only [h, decide_true, if_true, Option.bind_some]
      · simp only [h, decide_false, Bool.false_eq_true, if_false, Option.bind_some])
    (fun b _ => by unfold m_impl_WornFields_l1; simp) n (by omega)
  have hi' : loopN (m_impl_WornFields_l1 n least ds) n (0, 0) = _ := hi.1
  rw [hi']
  have key : ∀ (l : List Int) (b : Int), l.foldl (fun (b : Int) x => if x ≥ least then b + 1 else b) b = b + (cnt (l.map fun d => decide (d ≥ least)) : Int) := by
    intro l
    induction l with
    | nil => intro b; simp [cnt]
    | cons x l ih =>
      intro b
      rw [List.foldl_cons, ih, List.map_cons]
      simp only [cnt]
      by_cases h : x ≥ least
      · simp [h]; omega
      · simp [h]
  simp only [Option.bind_some, id]
  rw [key]; simp

/-! ### The patch, told -/

def patV (b : Int × Int × Int × Int) : List Int × Int := if b.2.2.1 < 0 then ([], 3) else ([b.1, b.2.1, b.2.2.1 - b.1 + 1, b.2.2.2 - b.2.1 + 1], 0)

/-- What the gathered patch is. -/
structure PatC (least : Int) (H W : Nat) (l : List (Int × Nat × Nat)) (b : Int × Int × Int × Int) : Prop where
  none : (∀ t ∈ l, wornT least t = false) → b = ((H : Int), (W : Int), -1, -1)
  some : (∃ t ∈ l, wornT least t = true) → 0 ≤ b.1 ∧ b.1 ≤ b.2.2.1 ∧ b.2.2.1 < H ∧ 0 ≤ b.2.1 ∧ b.2.1 ≤ b.2.2.2 ∧ b.2.2.2 < W ∧ (∃ t ∈ l, wornT least t = true ∧ (t.2.1 : Int) = b.1)
  all : ∀ t ∈ l, wornT least t = true → b.1 ≤ t.2.1 ∧ (t.2.1 : Int) ≤ b.2.2.1 ∧ b.2.1 ≤ t.2.2 ∧ (t.2.2 : Int) ≤ b.2.2.2

theorem pat_char (least : Int) (H W : Nat) (l : List (Int × Nat × Nat)) (hl : ∀ t ∈ l, t.2.1 < H ∧ t.2.2 < W) : PatC least H W l (l.foldl (patI least) ((H : Int), (W : Int), -1, -1)) := by
  have key : ∀ i, i ≤ l.length → PatC least H W (l.take i) ((l.take i).foldl (patI least) ((H : Int), (W : Int), -1, -1)) := by
    intro i
    induction i with
    | zero => intro _; exact ⟨fun _ => rfl, fun ⟨t, ht, _⟩ => by simp at ht, fun t ht => by simp at ht⟩
    | succ i ih =>
      intro hi
      have ih := ih (by omega)
      have hx : l[i]? = some l[i] := List.getElem?_eq_getElem (by omega)
      obtain ⟨t, ht⟩ : ∃ t, t = l[i] := ⟨_, rfl⟩
      rw [← ht] at hx
      have hb := hl t (List.mem_of_getElem? hx)
      have e : l.take (i + 1) = l.take i ++ [t] := by rw [List.take_add_one, hx]; rfl
      rw [e, List.foldl_append, List.foldl_cons, List.foldl_nil]
      generalize (l.take i).foldl (patI least) ((H : Int), (W : Int), -1, -1) = b at ih
      cases hwt : wornT least t with
      | false =>
        have hlt : ¬ t.1 ≥ least := by simpa [wornT] using hwt
        have eb : patI least b t = b := by unfold patI; rw [if_neg hlt]
        rw [eb]
        have hmem : ∀ q ∈ l.take i ++ [t], wornT least q = true → q ∈ l.take i := by
          intro q hq hwq
          rw [List.mem_append, List.mem_singleton] at hq
          rcases hq with hq | rfl
          · exact hq
          · rw [hwt] at hwq; cases hwq
        refine ⟨fun h => ih.none fun q hq => h q (by simp [hq]), fun ⟨q, hq, hwq⟩ => ?_, fun q hq hwq => ih.all q (hmem q hq hwq) hwq⟩
        obtain ⟨c1, c2, c3, c4, c5, c6, p, hp, hp2⟩ := ih.some ⟨q, hmem q hq hwq, hwq⟩
        exact ⟨c1, c2, c3, c4, c5, c6, p, by simp [hp], hp2⟩
      | true =>
        have hge : t.1 ≥ least := by simpa [wornT] using hwt
        have eb : patI least b t = (imin b.1 (t.2.1 : Int), imin b.2.1 (t.2.2 : Int), imax b.2.2.1 (t.2.1 : Int), imax b.2.2.2 (t.2.2 : Int)) := by unfold patI; rw [if_pos hge]
        rw [eb]
        by_cases hex : ∃ q ∈ l.take i, wornT least q = true
        · obtain ⟨c1, c2, c3, c4, c5, c6, p, hp, hp2, hp3⟩ := ih.some hex
          have m1 : imin b.1 (t.2.1 : Int) = min b.1 (t.2.1 : Int) := by unfold imin; split <;> omega
          have m2 : imin b.2.1 (t.2.2 : Int) = min b.2.1 (t.2.2 : Int) := by unfold imin; split <;> omega
          have m3 : imax b.2.2.1 (t.2.1 : Int) = max b.2.2.1 (t.2.1 : Int) := by unfold imax; split <;> omega
          have m4 : imax b.2.2.2 (t.2.2 : Int) = max b.2.2.2 (t.2.2 : Int) := by unfold imax; split <;> omega
          rw [m1, m2, m3, m4]
          refine ⟨fun h => ?_, fun _ => ⟨by show 0 ≤ min b.1 (t.2.1 : Int); omega, by show min b.1 (t.2.1 : Int) ≤ max b.2.2.1 (t.2.1 : Int); omega, by show max b.2.2.1 (t.2.1 : Int) < H; omega, by show 0 ≤ min b.2.1 (t.2.2 : Int); omega, by show min b.2.1 (t.2.2 : Int) ≤ max b.2.2.2 (t.2.2 : Int); omega, by show max b.2.2.2 (t.2.2 : Int) < W; omega, ?_⟩, fun q hq hwq => ?_⟩
          · have := h t (by simp); rw [hwt] at this; cases this
          · show ∃ q ∈ l.take i ++ [t], wornT least q = true ∧ (q.2.1 : Int) = min b.1 (t.2.1 : Int)
            by_cases hlt : (t.2.1 : Int) < b.1
            · exact ⟨t, by simp, hwt, by omega⟩
            · exact ⟨p, by simp [hp], hp2, by omega⟩
          · show min b.1 (t.2.1 : Int) ≤ q.2.1 ∧ (q.2.1 : Int) ≤ max b.2.2.1 (t.2.1 : Int) ∧ min b.2.1 (t.2.2 : Int) ≤ q.2.2 ∧ (q.2.2 : Int) ≤ max b.2.2.2 (t.2.2 : Int)
            rw [List.mem_append, List.mem_singleton] at hq
            rcases hq with hq | rfl
            · have := ih.all q hq hwq; omega
            · omega
        · have hno : ∀ q ∈ l.take i, wornT least q = false := by
            intro q hq
            cases hq2 : wornT least q with
            | false => rfl
            | true => exact absurd ⟨q, hq, hq2⟩ hex
          have hb0 := ih.none hno
          subst hb0
          have m1 : imin (H : Int) (t.2.1 : Int) = (t.2.1 : Int) := by unfold imin; rw [if_pos (by omega)]
          have m2 : imin (W : Int) (t.2.2 : Int) = (t.2.2 : Int) := by unfold imin; rw [if_pos (by omega)]
          have m3 : imax (-1) (t.2.1 : Int) = (t.2.1 : Int) := by unfold imax; rw [if_pos (by omega)]
          have m4 : imax (-1) (t.2.2 : Int) = (t.2.2 : Int) := by unfold imax; rw [if_pos (by omega)]
          simp only [m1, m2, m3, m4]
          refine ⟨fun h => ?_, fun _ => ⟨by show (0 : Int) ≤ (t.2.1 : Int); omega, by show (t.2.1 : Int) ≤ (t.2.1 : Int); omega, by show (t.2.1 : Int) < H; omega, by show (0 : Int) ≤ (t.2.2 : Int); omega, by show (t.2.2 : Int) ≤ (t.2.2 : Int); omega, by show (t.2.2 : Int) < W; omega, t, by simp, hwt, rfl⟩, fun q hq hwq => ?_⟩
          · have := h t (by simp); rw [hwt] at this; cases this
          · rw [List.mem_append, List.mem_singleton] at hq
            rcases hq with hq | rfl
            · have := hno q hq; rw [this] at hwq; cases hwq
            · exact ⟨Int.le_refl _, Int.le_refl _, Int.le_refl _, Int.le_refl _⟩
  have := key l.length (Nat.le_refl _)
  rwa [List.take_length] at this

theorem p_patchC (n : Nat) (rows : List (List UInt8)) (least : Int) {W : Nat} {r0 : List UInt8} (h : Wear rows W r0) (hw : wearB rows = true) (hl : 1 ≤ least ∧ least ≤ 9) (hr : rows.length ≤ 1048576) (ht : total rows ≤ 1048576) (hn : 1048576 < n) :
    m_impl_PatchFor n rows least = some (patV ((tri 0 rows).foldl (patI least) ((rows.length : Int), (W : Int), -1, -1))) := by
  have hs : ∀ r ∈ rows, r.length ≤ 1048576 := fun r hr => by have := mem_le_total hr; omega
  have hc := h.cells; have hfl := h.flat; have hW := h.hW
  unfold m_impl_PatchFor
  rw [(p_wearCode n rows least hr hs hn).2]
  simp only [hw, hl, and_self, if_true, Option.bind_some, bne_self_eq_false, Bool.false_eq_true, if_false, p_digits n rows hr ht hn, idx_zero, h.h0, h.hr0]
  have him : loopN (m_impl_PatchFor_l1 n least r0 (rows.flatMap (·.map dv))) n ((rows.length : Int), (W : Int), (-1), (-1), 0) = some ((tri 0 rows).foldl (patI least) ((rows.length : Int), (W : Int), -1, -1)) := by
    refine flat_fold (body := m_impl_PatchFor_l1 n least r0 (rows.flatMap (·.map dv))) rows W (by omega) h.hu (patI least) ((rows.length : Int), (W : Int), -1, -1) (fun i b => (b.1, b.2.1, b.2.2.1, b.2.2.2, (i : Int))) id (fun _ => True) trivial (fun _ _ _ => trivial) (fun i d b hd _ => ?_) (fun b => ?_) n (by omega)
    · have hlt := lt_of_get hd
      unfold m_impl_PatchFor_l1 patI
      simp only [ltB hlt, if_true, idx_nat, hd, Option.bind_some, h.hr0, quo_div (i := i) (W := W) (by omega) (by omega), rem_mod (i := i) (W := W) (by omega), succ64 hlt (by omega)]
      by_cases hq : d ≥ least
      · simp only [hq, decide_true, if_true, Option.bind_some]
      · simp only [hq, decide_false, Bool.false_eq_true, if_false, Option.bind_some]
    · unfold m_impl_PatchFor_l1; simp [h.flat]
  rw [him]
  have hch := pat_char least rows.length W (tri 0 rows) (fun t ht => by
    obtain ⟨i, hi⟩ := List.getElem?_of_mem ht
    have := h.tri hi; exact ⟨this.2.2.1, this.2.2.2.1⟩)
  generalize (tri 0 rows).foldl (patI least) ((rows.length : Int), (W : Int), -1, -1) = b at hch
  simp only [Option.bind_some]
  unfold patV
  have hH := h.hH2; have hW2 := h.hW2
  by_cases hex : ∃ t ∈ tri 0 rows, wornT least t = true
  · obtain ⟨c1, c2, c3, c4, c5, c6, _⟩ := hch.some hex
    have hn0 : ¬ b.2.2.1 < 0 := by omega
    rw [wI64_eq (x := b.2.2.1 - b.1) (by omega) (by omega), wI64_eq (x := b.2.2.1 - b.1 + 1) (by omega) (by omega), wI64_eq (x := b.2.2.2 - b.2.1) (by omega) (by omega), wI64_eq (x := b.2.2.2 - b.2.1 + 1) (by omega) (by omega)]
    simp only [hn0, decide_false, Bool.false_eq_true, if_false]
  · have hno : ∀ t ∈ tri 0 rows, wornT least t = false := fun t ht => by
      cases hq : wornT least t with
      | false => rfl
      | true => exact absurd ⟨t, ht, hq⟩ hex
    have hb := hch.none hno
    subst hb
    rfl

/-! ### How many worn fields a patch can hold -/

theorem row_count (least : Int) (y lo hi : Nat) : ∀ (r : List UInt8) (j : Nat), (∀ q ∈ r.zipIdx j, wornT least (dv q.1, y, q.2) = true → lo ≤ q.2 ∧ q.2 ≤ hi) → ((r.zipIdx j).map fun q => (dv q.1, y, q.2)).countP (wornT least) ≤ hi + 1 - max lo j
  | [], j, _ => by simp
  | c :: r, j, h => by
    have ih := row_count least y lo hi r (j + 1) (fun q hq => h q (by rw [List.zipIdx_cons]; simp [hq]))
    rw [List.zipIdx_cons, List.map_cons, List.countP_cons]
    cases hq : wornT least (dv c, y, j) with
    | true =>
      have := h (c, j) (by rw [List.zipIdx_cons]; simp) hq
      simp only [if_true]
      omega
    | false => simp only [Bool.false_eq_true, if_false]; omega

theorem rows_count (least : Int) (top bot lo hi : Nat) : ∀ (rows : List (List UInt8)) (k : Nat), (∀ t ∈ tri k rows, wornT least t = true → top ≤ t.2.1 ∧ t.2.1 ≤ bot ∧ lo ≤ t.2.2 ∧ t.2.2 ≤ hi) → (tri k rows).countP (wornT least) ≤ (bot + 1 - max top k) * (hi + 1 - lo)
  | [], k, _ => by simp [tri]
  | r :: rows, k, h => by
    have e : tri k (r :: rows) = ((r.zipIdx 0).map fun q => (dv q.1, k, q.2)) ++ tri (k + 1) rows := by simp [tri, List.zipIdx_cons]
    rw [e] at h ⊢
    have ih := rows_count least top bot lo hi rows (k + 1) (fun t ht => h t (by simp [ht]))
    have hrow := row_count least k lo hi r 0 (fun q hq hw => by
      have := h (dv q.1, k, q.2) (by rw [List.mem_append]; left; rw [List.mem_map]; exact ⟨q, hq, rfl⟩) hw
      exact this.2.2)
    rw [List.countP_append]
    by_cases h0 : ((r.zipIdx 0).map fun q => (dv q.1, k, q.2)).countP (wornT least) = 0
    · rw [h0, Nat.zero_add]
      exact Nat.le_trans ih (Nat.mul_le_mul (by omega) (Nat.le_refl _))
    · have hpos : 0 < ((r.zipIdx 0).map fun q => (dv q.1, k, q.2)).countP (wornT least) := by omega
      rw [List.countP_pos_iff] at hpos
      obtain ⟨t, ht, hwt⟩ := hpos
      have hk := h t (by rw [List.mem_append]; exact .inl ht) hwt
      rw [List.mem_map] at ht
      obtain ⟨q, _, rfl⟩ := ht
      simp only at hk
      have e2 : bot + 1 - max top k = (bot + 1 - max top (k + 1)) + 1 := by omega
      rw [e2, Nat.add_mul, Nat.one_mul]
      have : hi + 1 - max lo 0 = hi + 1 - lo := by omega
      omega

/-! ### The highest worn row -/

def topF (least : Int) (b : Int) (t : Int × Nat × Nat) : Int := if t.1 < least then b else imin b (t.2.1 : Int)

theorem top_fold (least : Int) : ∀ (l : List (Int × Nat × Nat)) (b : Int), l.foldl (topF least) b ≤ b ∧ (∀ t ∈ l, wornT least t = true → l.foldl (topF least) b ≤ (t.2.1 : Int)) ∧ (l.foldl (topF least) b = b ∨ ∃ t ∈ l, wornT least t = true ∧ l.foldl (topF least) b = (t.2.1 : Int))
  | [], b => ⟨Int.le_refl _, by simp, .inl rfl⟩
  | t :: l, b => by
    obtain ⟨h1, h2, h3⟩ := top_fold least l (topF least b t)
    rw [List.foldl_cons]
    cases hwt : wornT least t with
    | false =>
      have hlt : t.1 < least := by
        have : ¬ t.1 ≥ least := by simpa [wornT] using hwt
        omega
      have e : topF least b t = b := by unfold topF; rw [if_pos hlt]
      rw [e] at h1 h2 h3 ⊢
      refine ⟨h1, fun q hq hwq => ?_, ?_⟩
      · simp only [List.mem_cons] at hq
        rcases hq with rfl | hq
        · rw [hwt] at hwq; cases hwq
        · exact h2 q hq hwq
      · rcases h3 with h3 | ⟨q, hq, h4⟩
        · exact .inl h3
        · exact .inr ⟨q, by simp [hq], h4⟩
    | true =>
      have hge : ¬ t.1 < least := by
        have : t.1 ≥ least := by simpa [wornT] using hwt
        omega
      have e : topF least b t = min b (t.2.1 : Int) := by unfold topF imin; rw [if_neg hge]; split <;> omega
      rw [e] at h1 h2 h3 ⊢
      refine ⟨by omega, fun q hq hwq => ?_, ?_⟩
      · simp only [List.mem_cons] at hq
        rcases hq with rfl | hq
        · omega
        · exact h2 q hq hwq
      · rcases h3 with h3 | ⟨q, hq, h4⟩
        · by_cases hb : b ≤ (t.2.1 : Int)
          · left; omega
          · right; exact ⟨t, by simp, hwt, by omega⟩
        · exact .inr ⟨q, by simp [hq], h4⟩

/-! ### Sums of maps, told -/

theorem p_addW (n : Nat) (a b : List (List UInt8)) {W : Nat} {r0 s0 : List UInt8} (ha : Wear a W r0) (hb : Wear b W s0) (hlen : a.length = b.length) (hwa : wearB a = true) (hwb : wearB b = true) (hn : 1048576 < n) :
    ∃ l, m_impl_AddWear n a b = some (l, 0) ∧ l.length = a.length ∧ ∀ (y : Nat) r q, a[y]? = some r → b[y]? = some q → ∃ s, l[y]? = some s ∧ s.length = r.length ∧ ∀ (x : Nat) c d, r[x]? = some c → q[x]? = some d → ∃ e, s[x]? = some e ∧ dv e = imin 9 (wI64 (dv c + dv d)) := by
  have hH := ha.hH2; have hW := ha.hW2
  have hsa : ∀ r ∈ a, r.length ≤ 1048576 := fun r hr => by have := ha.hu r hr; omega
  have hsb : ∀ r ∈ b, r.length ≤ 1048576 := fun r hr => by have := hb.hu r hr; omega
  have hsd : sameDim a b = true := by
    have e1 : a.headD [] = r0 := by
      have := ha.h0; cases a with
      | nil => simp at this
      | cons x y => simpa using this
    have e2 : b.headD [] = s0 := by
      have := hb.h0; cases b with
      | nil => simp at this
      | cons x y => simpa using this
    unfold sameDim; rw [e1, e2, ha.hr0, hb.hr0]; simp [hlen]
  unfold m_impl_AddWear
  rw [(p_two n a b (by omega) hsa (by omega) hsb hn).2]
  simp only [hwa, hwb, hsd, Bool.and_self, if_true, Option.bind_some, bne_self_eq_false, Bool.false_eq_true, if_false]
  let cell (y x : Nat) : Int := match a[y]? with
    | some r => match r[x]?, (b[y]?).bind (·[x]?) with
      | some c, some d => addC c d
      | _, _ => 0
    | none => 0
  let row (y : Nat) : List UInt8 := ofBytes ((List.range ((a[y]?).getD []).length).map (cell y))
  have at2 : ∀ {y x : Nat} {r : List UInt8} {c : UInt8}, a[y]? = some r → r[x]? = some c → ∃ q d, b[y]? = some q ∧ q[x]? = some d ∧ dig c = true ∧ dig d = true := by
    intro y x r c hr hc
    have hy := lt_of_get hr
    have hx := lt_of_get hc
    have hrl := ha.hu r (List.mem_of_getElem? hr)
    obtain ⟨q, hq⟩ : ∃ q, b[y]? = some q := ⟨_, List.getElem?_eq_getElem (by omega)⟩
    have hql := hb.hu q (List.mem_of_getElem? hq)
    obtain ⟨d, hd⟩ : ∃ d, q[x]? = some d := ⟨_, List.getElem?_eq_getElem (by omega)⟩
    exact ⟨q, d, hq, hd, ha.hd r (List.mem_of_getElem? hr) c (List.mem_of_getElem? hc), hb.hd q (List.mem_of_getElem? hq) d (List.mem_of_getElem? hd)⟩
  have hloop := loopN_collect (body := m_impl_AddWear_l1 n a b) a.length row id
    (fun y l hy hl => by
      obtain ⟨r, hr⟩ : ∃ r, a[y]? = some r := ⟨_, List.getElem?_eq_getElem hy⟩
      have hrl := ha.hu r (List.mem_of_getElem? hr)
      have inner := loopN_collect (body := m_impl_AddWear_l2 n a b (l, (y : Int)) r) r.length (cell y) id
        (fun x l2 hx hl2 => by
          obtain ⟨c, hc⟩ : ∃ c, r[x]? = some c := ⟨_, List.getElem?_eq_getElem hx⟩
          obtain ⟨q, d, hq, hd, gc, gd⟩ := at2 hr hc
          have ec : cell y x = addC c d := by simp only [cell, hr, hc, hq, Option.bind_some, hd]
          unfold m_impl_AddWear_l2
          simp only [ltB hx, if_true, idx_nat, hr, hq, hc, hd, Option.bind_some, succ64 hx (by omega), addC_impl gc gd]
          rw [app_eq (by simp; omega), ec]; rfl)
        (fun l2 _ => by unfold m_impl_AddWear_l2; simp) n (by omega)
      have inner' : loopN (m_impl_AddWear_l2 n a b (l, (y : Int)) r) n ([], 0) = _ := inner
      unfold m_impl_AddWear_l1
      simp only [ltB hy, if_true, idx_nat, hr, Option.bind_some, inner', succ64 hy (by omega)]
      rw [app_eq (by simp; omega)]
      simp only [Option.bind_some, row, hr, Option.getD_some, id])
    (fun l _ => by unfold m_impl_AddWear_l1; simp) n (by omega)
  have h2 : loopN (m_impl_AddWear_l1 n a b) n ([], 0) = _ := hloop
  rw [h2]
  refine ⟨(List.range a.length).map row, rfl, by simp, ?_⟩
  intro y r q hr hq
  have hy := lt_of_get hr
  refine ⟨row y, range_map_get _ hy, by simp [row, hr, ofBytes], ?_⟩
  intro x c d hc hd
  have hx := lt_of_get hc
  have gc := ha.hd r (List.mem_of_getElem? hr) c (List.mem_of_getElem? hc)
  have gd := hb.hd q (List.mem_of_getElem? hq) d (List.mem_of_getElem? hd)
  have ec : cell y x = addC c d := by simp only [cell, hr, hc, hq, Option.bind_some, hd]
  refine ⟨UInt8.ofNat (addC c d).toNat, ?_, ?_⟩
  · simp only [row, hr, Option.getD_some, ofBytes]
    rw [List.getElem?_map, range_map_get _ hx, ec]; rfl
  · obtain ⟨e1, e2, e3⟩ := dv_dig gc
    obtain ⟨f1, f2, f3⟩ := dv_dig gd
    have hw : wI64 (dv c + dv d) = dv c + dv d := wI64_eq (by omega) (by omega)
    have hm : imin 9 (dv c + dv d) = min 9 (dv c + dv d) := by unfold imin; split <;> omega
    unfold addC
    rw [hw, hm, wI64_eq (x := 48 + min 9 (dv c + dv d)) (by omega) (by omega), wU8_eq (by omega) (by omega)]
    unfold dv
    have e : (UInt8.ofNat (48 + min 9 (wI64 (IntKind.u8.wrap ((c.toNat : Int) - 48)) + wI64 (IntKind.u8.wrap ((d.toNat : Int) - 48)))).toNat).toNat = (48 + min 9 (wI64 (IntKind.u8.wrap ((c.toNat : Int) - 48)) + wI64 (IntKind.u8.wrap ((d.toNat : Int) - 48)))).toNat := by
      rw [UInt8.toNat_ofNat']
      apply Nat.mod_eq_of_lt
      have : wI64 (IntKind.u8.wrap ((c.toNat : Int) - 48)) = dv c := rfl
      have : wI64 (IntKind.u8.wrap ((d.toNat : Int) - 48)) = dv d := rfl
      omega
    have g1 : wI64 (IntKind.u8.wrap ((c.toNat : Int) - 48)) = dv c := rfl
    have g2 : wI64 (IntKind.u8.wrap ((d.toNat : Int) - 48)) = dv d := rfl
    rw [g1, g2] at e ⊢
    rw [e, wU8_eq (by omega) (by omega), wI64_eq (by omega) (by omega)]
    omega

end Go.Gv
