/- Plain laws of wear: the centre, the quarters, what is diagnosed, strange fields. -/
import Derived.Test.YtoljnpoiclklpaaPz
namespace Go.Gv
open Go Go.RowKit

theorem foldl_inv {α β : Type} (xs : List α) (f : β → α → β) (I : Nat → β → Prop) (b : β) (h0 : I 0 b) (hs : ∀ i x b, xs[i]? = some x → I i b → I (i + 1) (f b x)) : I xs.length (xs.foldl f b) :=
  foldl_rel xs f (fun (c : Unit) _ => c) (fun i b _ => I i b) b () h0 (fun i x b _ hx h => hs i x b hx h)

theorem zip_get' {α : Type} {xs : List α} {i k : Nat} {p : α × Nat} (h : (xs.zipIdx k)[i]? = some p) : xs[i]? = some p.1 ∧ p.2 = k + i := by
  rw [List.getElem?_zipIdx] at h
  cases hx : xs[i]? with
  | none => simp [hx] at h
  | some x => simp [hx] at h; subst h; exact ⟨rfl, rfl⟩

/-- One row's fields, with their places. -/
def rowT (y : Nat) (r : List UInt8) : List (Int × Nat × Nat) := r.zipIdx.map fun q => (dv q.1, y, q.2)

theorem rowT_get {y i : Nat} {r : List UInt8} {t : Int × Nat × Nat} (h : (rowT y r)[i]? = some t) : ∃ c, r[i]? = some c ∧ t = (dv c, y, i) := by
  unfold rowT at h
  rw [List.getElem?_map] at h
  cases hz : (r.zipIdx)[i]? with
  | none => simp [hz] at h
  | some q =>
    simp [hz] at h
    obtain ⟨k1, k2⟩ := zip_get' hz
    rw [Nat.zero_add] at k2
    exact ⟨q.1, k1, by rw [← h, k2]⟩

/-- A row, field by field. -/
theorem row_foldI {β σ τ : Type} {body : σ → Option (Step σ τ)} (y : Nat) (r : List UInt8) (f : β → Int × Nat × Nat → β) (b0 : β) (st : Nat → β → σ) (out : β → τ) (I : Nat → β → Prop) (h0 : I 0 b0) (hI : ∀ x c b, r[x]? = some c → I x b → I (x + 1) (f b (dv c, y, x)))
    (hstep : ∀ x c b, r[x]? = some c → I x b → body (st x b) = some (.next (st (x + 1) (f b (dv c, y, x)))))
    (hend : ∀ b, body (st r.length b) = some (.done (out b))) (n : Nat) (hn : r.length < n) : loopN body n (st 0 b0) = some (out ((rowT y r).foldl f b0)) ∧ I r.length ((rowT y r).foldl f b0) := by
  have hl : (rowT y r).length = r.length := by simp [rowT]
  have := loopN_fold (body := body) (rowT y r) f b0 st out I h0 (fun i t b ht hb => by
    obtain ⟨c, hc, rfl⟩ := rowT_get ht
    exact ⟨hstep i c b hc hb, hI i c b hc hb⟩) (fun b _ => by rw [hl]; exact hend b) n (by omega)
  rwa [hl] at this

/-- All rows, one by one. -/
theorem rows_foldI {β σ τ : Type} {body : σ → Option (Step σ τ)} (rows : List (List UInt8)) (f : β → Int × Nat × Nat → β) (b0 : β) (st : Nat → β → σ) (out : β → τ) (I : Nat → β → Prop) (h0 : I 0 b0)
    (hstep : ∀ y r b, rows[y]? = some r → I y b → body (st y b) = some (.next (st (y + 1) ((rowT y r).foldl f b))) ∧ I (y + 1) ((rowT y r).foldl f b))
    (hend : ∀ b, body (st rows.length b) = some (.done (out b))) (n : Nat) (hn : rows.length < n) : loopN body n (st 0 b0) = some (out ((tri 0 rows).foldl f b0)) ∧ I rows.length ((tri 0 rows).foldl f b0) := by
  have hsp := loopN_fold (body := body) (rows.zipIdx 0) (fun b p => (rowT p.2 p.1).foldl f b) b0 st out I h0 (fun i p b hp hb => by
    obtain ⟨g1, g2⟩ := zip_get' hp
    rw [Nat.zero_add] at g2
    rw [g2]; exact hstep i p.1 b g1 hb) (fun b _ => by simpa using hend b) n (by simp; omega)
  have efold : (rows.zipIdx 0).foldl (fun b p => (rowT p.2 p.1).foldl f b) b0 = (tri 0 rows).foldl f b0 := by
    unfold tri; rw [List.foldl_flatMap]; rfl
  rw [efold] at hsp
  simpa using hsp

/-- All fields in one row. -/
theorem flat_foldI {β σ τ : Type} {body : σ → Option (Step σ τ)} (rows : List (List UInt8)) (W : Nat) (hW : 0 < W) (hu : ∀ r ∈ rows, r.length = W) (f : β → Int × Nat × Nat → β) (b0 : β) (st : Nat → β → σ) (out : β → τ) (I : Nat → β → Prop) (h0 : I 0 b0)
    (hstep : ∀ i d b, (rows.flatMap (·.map dv))[i]? = some d → I i b → body (st i b) = some (.next (st (i + 1) (f b (d, i / W, i % W)))) ∧ I (i + 1) (f b (d, i / W, i % W)))
    (hend : ∀ b, body (st (rows.length * W) b) = some (.done (out b))) (n : Nat) (hn : rows.length * W < n) : loopN body n (st 0 b0) = some (out ((tri 0 rows).foldl f b0)) := by
  have hl : (tri 0 rows).length = rows.length * W := by rw [tri_flat W hW rows 0 hu]; simp [flat_uniform hu]
  refine (loopN_fold (body := body) (tri 0 rows) f b0 st out I h0 (fun i t b ht hb => ?_) (fun b _ => by rw [hl]; exact hend b) n (by omega)).1
  obtain ⟨g1, g2, g3, g4⟩ := tri_get hW hu ht
  have := hstep i t.1 b g4 hb
  rw [← g1, ← g2] at this
  exact this

theorem foldl_keeps {α β : Type} {f : β → α → β} {I : β → Prop} (hI : ∀ b t, I b → I (f b t)) : ∀ (xs : List α) (b : β), I b → I (xs.foldl f b)
  | [], _, h => h
  | x :: xs, b, h => foldl_keeps hI xs (f b x) (hI b x h)

theorem row_fold {β σ τ : Type} {body : σ → Option (Step σ τ)} (y : Nat) (r : List UInt8) (f : β → Int × Nat × Nat → β) (b0 : β) (st : Nat → β → σ) (out : β → τ) (I : β → Prop) (h0 : I b0) (hI : ∀ b t, I b → I (f b t))
    (hstep : ∀ x c b, r[x]? = some c → I b → body (st x b) = some (.next (st (x + 1) (f b (dv c, y, x)))))
    (hend : ∀ b, body (st r.length b) = some (.done (out b))) (n : Nat) (hn : r.length < n) : loopN body n (st 0 b0) = some (out ((rowT y r).foldl f b0)) :=
  (row_foldI y r f b0 st out (fun _ => I) h0 (fun _ _ b _ hb => hI b _ hb) hstep hend n hn).1

theorem rows_fold {β σ τ : Type} {body : σ → Option (Step σ τ)} (rows : List (List UInt8)) (f : β → Int × Nat × Nat → β) (b0 : β) (st : Nat → β → σ) (out : β → τ) (I : β → Prop) (h0 : I b0) (hI : ∀ b t, I b → I (f b t))
    (hstep : ∀ y r b, rows[y]? = some r → I b → body (st y b) = some (.next (st (y + 1) ((rowT y r).foldl f b))))
    (hend : ∀ b, body (st rows.length b) = some (.done (out b))) (n : Nat) (hn : rows.length < n) : loopN body n (st 0 b0) = some (out ((tri 0 rows).foldl f b0)) :=
  (rows_foldI rows f b0 st out (fun _ => I) h0 (fun y r b hy hb => ⟨hstep y r b hy hb, foldl_keeps hI _ _ hb⟩) hend n hn).1

theorem flat_fold {β σ τ : Type} {body : σ → Option (Step σ τ)} (rows : List (List UInt8)) (W : Nat) (hW : 0 < W) (hu : ∀ r ∈ rows, r.length = W) (f : β → Int × Nat × Nat → β) (b0 : β) (st : Nat → β → σ) (out : β → τ) (I : β → Prop) (h0 : I b0) (hI : ∀ b t, I b → I (f b t))
    (hstep : ∀ i d b, (rows.flatMap (·.map dv))[i]? = some d → I b → body (st i b) = some (.next (st (i + 1) (f b (d, i / W, i % W)))))
    (hend : ∀ b, body (st (rows.length * W) b) = some (.done (out b))) (n : Nat) (hn : rows.length * W < n) : loopN body n (st 0 b0) = some (out ((tri 0 rows).foldl f b0)) :=
  flat_foldI rows W hW hu f b0 st out (fun _ => I) h0 (fun i d b hd hb => ⟨hstep i d b hd hb, hI _ _ hb⟩) hend n hn

theorem quo_div {i W : Nat} (hW : 0 < W) (hi : i ≤ 1048576) : quo .i64 (i : Int) (W : Int) = some ((i / W : Nat) : Int) := by
  have hne : ¬ ((W : Int) = 0) := by omega
  have h1 : Int.tdiv (i : Int) (W : Int) = ((i / W : Nat) : Int) := rfl
  have hb : i / W ≤ i := Nat.div_le_self _ _
  have h0 : (0 : Int) ≤ ((i / W : Nat) : Int) := Int.natCast_nonneg _
  have := wI64_eq (x := ((i / W : Nat) : Int)) (by omega) (by omega)
  unfold quo; rw [if_neg hne, h1]; exact congrArg some this

theorem rem_mod {i W : Nat} (hW : 0 < W) : rem (i : Int) (W : Int) = some ((i % W : Nat) : Int) := by
  have hne : ¬ ((W : Int) = 0) := by omega
  unfold rem; rw [if_neg hne]; rfl

/-! ### A valid map, in short -/

/-- What is known of a valid map. -/
structure Wear (rows : List (List UInt8)) (W : Nat) (r0 : List UInt8) : Prop where
  hH : 2 ≤ rows.length
  hH2 : rows.length ≤ 12
  hW : 2 ≤ W
  hW2 : W ≤ 8
  h0 : rows[0]? = some r0
  hr0 : r0.length = W
  hu : ∀ r ∈ rows, r.length = W
  hd : ∀ r ∈ rows, ∀ c ∈ r, dig c = true

theorem wear_of {rows : List (List UInt8)} (hw : wearB rows = true) : ∃ W r0, Wear rows W r0 := by
  obtain ⟨w1, w2⟩ := wear_total hw
  have l2 : 2 ≤ rows.length := by unfold wearB at hw; simp at hw; omega
  obtain ⟨r0, h0⟩ : ∃ r0, rows[0]? = some r0 := ⟨_, List.getElem?_eq_getElem (by omega)⟩
  have hh : (rows.headD []).length = r0.length := by
    cases rows with
    | nil => simp at l2
    | cons a b => simp at h0; subst h0; rfl
  have hu : ∀ r ∈ rows, r.length = r0.length := fun r hr => by rw [(w2 r hr).1, hh]
  obtain ⟨_, b2, b3, _⟩ := w2 r0 (List.mem_of_getElem? h0)
  exact ⟨r0.length, r0, l2, w1, b2, b3, h0, rfl, hu, fun r hr => (w2 r hr).2.2.2⟩

theorem Wear.cells {rows : List (List UInt8)} {W : Nat} {r0 : List UInt8} (h : Wear rows W r0) : rows.length * W ≤ 96 :=
  Nat.le_trans (Nat.mul_le_mul h.hH2 h.hW2) (by decide)

theorem Wear.flat {rows : List (List UInt8)} {W : Nat} {r0 : List UInt8} (h : Wear rows W r0) : (rows.flatMap (·.map dv)).length = rows.length * W := flat_uniform h.hu

theorem Wear.digit {rows : List (List UInt8)} {W : Nat} {r0 : List UInt8} (h : Wear rows W r0) {i : Nat} {d : Int} (hd : (rows.flatMap (·.map dv))[i]? = some d) : 0 ≤ d ∧ d ≤ 9 := by
  have hm := List.mem_of_getElem? hd
  rw [List.mem_flatMap] at hm
  obtain ⟨r, hr, hm⟩ := hm
  rw [List.mem_map] at hm
  obtain ⟨c, hc, rfl⟩ := hm
  have := dv_dig (h.hd r hr c hc)
  omega

theorem Wear.tri {rows : List (List UInt8)} {W : Nat} {r0 : List UInt8} (h : Wear rows W r0) {i : Nat} {t : Int × Nat × Nat} (ht : (tri 0 rows)[i]? = some t) :
    0 ≤ t.1 ∧ t.1 ≤ 9 ∧ t.2.1 < rows.length ∧ t.2.2 < W ∧ i < rows.length * W := by
  have hW := h.hW
  obtain ⟨g1, g2, g3, g4⟩ := tri_get (by omega) h.hu ht
  have hi : i < rows.length * W := by rw [← h.flat]; exact lt_of_get g4
  have := h.digit g4
  refine ⟨this.1, this.2, ?_, g3, hi⟩
  rw [g1]; exact Nat.div_lt_of_lt_mul (by rw [Nat.mul_comm]; exact hi)

theorem Wear.trilen {rows : List (List UInt8)} {W : Nat} {r0 : List UInt8} (h : Wear rows W r0) : (Gv.tri 0 rows).length = rows.length * W := by
  have hW := h.hW
  rw [tri_flat W (by omega) rows 0 h.hu]; simp [flat_uniform h.hu]

/-! ### Fractions -/

theorem gcd_loop (n : Nat) : ∀ (m a b : Nat), b < m → loopN (m_spec_l02Gcd_l1 n) m ((a : Int), (b : Int)) = some ((Nat.gcd a b : Nat) : Int) := by
  intro m
  induction m with
  | zero => intro a b h; omega
  | succ m ih =>
    intro a b h
    by_cases hb : b = 0
    · subst hb; simp [loopN, m_spec_l02Gcd_l1]
    · have hne : ((b : Int) != 0) = true := by simp [hb]
      have h2 := ih b (a % b) (by have := Nat.mod_lt a (Nat.pos_of_ne_zero hb); omega)
      have e : Nat.gcd b (a % b) = Nat.gcd a b := by
        rw [Nat.gcd_comm a b, Nat.gcd_rec b a, Nat.gcd_comm]
      simp only [loopN, m_spec_l02Gcd_l1, hne, if_true, rem_mod (Nat.pos_of_ne_zero hb), Option.bind_some]
      rw [h2, e]

def mkF (num den : Nat) : SFraction := ⟨((num / Nat.gcd num den : Nat) : Int), ((den / Nat.gcd num den : Nat) : Int)⟩

theorem p_make (n num den : Nat) (h1 : 0 < den) (h2 : den < n) (h3 : den ≤ 1048576) (h4 : num ≤ 1048576) :
    m_spec_l02Make n (num : Int) (den : Int) = some (mkF num den) ∧ m_impl_lowest n (num : Int) (den : Int) = some (mkF num den) := by
  have hg := gcd_loop n n num den h2
  have hg2 : loopN (m_impl_gcd_l1 n) n ((num : Int), (den : Int)) = some ((Nat.gcd num den : Nat) : Int) := hg
  have hpos : 0 < Nat.gcd num den := Nat.gcd_pos_of_pos_right _ h1
  have hle : Nat.gcd num den ≤ den := Nat.gcd_le_right _ h1
  have hs : decide ((num : Int) < 0) = false := by simp
  have hd : decide ((den : Int) < 0) = false := by simp
  have hm : imax ((Nat.gcd num den : Nat) : Int) (wI64 (0 - ((Nat.gcd num den : Nat) : Int))) = ((Nat.gcd num den : Nat) : Int) := by
    rw [wI64_eq (by omega) (by omega)]; unfold imax; rw [if_neg (by omega)]
  unfold m_spec_l02Make m_impl_lowest m_spec_l02Size m_spec_l02Gcd m_impl_gcd mkF
  simp only [hs, hd, Bool.false_eq_true, if_false, Option.bind_some, hg, hg2, hm, quo_div hpos h3, quo_div hpos h4, and_self]

/-! ### The centre -/

def cenF (b : Int × Int × Int) (t : Int × Nat × Nat) : Int × Int × Int := (wI64 (b.1 + t.1), wI64 (b.2.1 + wI64 (t.1 * (t.2.1 : Int))), wI64 (b.2.2 + wI64 (t.1 * (t.2.2 : Int))))

theorem cen_bound {rows : List (List UInt8)} {W : Nat} {r0 : List UInt8} (h : Wear rows W r0) :
    ∃ s r c : Nat, (tri 0 rows).foldl cenF (0, 0, 0) = ((s : Int), (r : Int), (c : Int)) ∧ (s : Int) = ((tri 0 rows).map (·.1)).sum ∧ s ≤ 9 * (rows.length * W) ∧ r ≤ (rows.length - 1) * s ∧ c ≤ (W - 1) * s := by
  have := foldl_inv (tri 0 rows) cenF (fun i b => ∃ s r c : Nat, b = ((s : Int), (r : Int), (c : Int)) ∧ (s : Int) = (((tri 0 rows).take i).map (·.1)).sum ∧ s ≤ 9 * i ∧ r ≤ (rows.length - 1) * s ∧ c ≤ (W - 1) * s) (0, 0, 0) ⟨0, 0, 0, rfl, by simp, by omega, by omega, by omega⟩ (fun i t b ht ⟨s, r, c, hb, h0, h1, h2, h3⟩ => by
    obtain ⟨d0, d9, hy, hx, hi⟩ := h.tri ht
    have h4 := h.cells; have h5 := h.hH2; have h6 := h.hW2
    obtain ⟨d, hd⟩ : ∃ d : Nat, t.1 = (d : Int) := ⟨t.1.toNat, by omega⟩
    have p1 : d * t.2.1 ≤ d * (rows.length - 1) := Nat.mul_le_mul (Nat.le_refl _) (by omega)
    have p2 : d * t.2.2 ≤ d * (W - 1) := Nat.mul_le_mul (Nat.le_refl _) (by omega)
    have p3 : d * t.2.1 ≤ 9 * 12 := Nat.mul_le_mul (by omega) (by omega)
    have p4 : d * t.2.2 ≤ 9 * 8 := Nat.mul_le_mul (by omega) (by omega)
    have q1 : (rows.length - 1) * s ≤ 11 * (9 * 96) := Nat.mul_le_mul (by omega) (by omega)
    have q2 : (W - 1) * s ≤ 7 * (9 * 96) := Nat.mul_le_mul (by omega) (by omega)
    refine ⟨s + d, r + d * t.2.1, c + d * t.2.2, ?_, ?_, by omega, by rw [Nat.mul_add, Nat.mul_comm (rows.length - 1) d]; omega, by rw [Nat.mul_add, Nat.mul_comm (W - 1) d]; omega⟩
    · subst hb
      unfold cenF
      simp only [hd]
      rw [← Int.natCast_mul, ← Int.natCast_mul, wI64_eq (x := ((d * t.2.1 : Nat) : Int)) (by omega) (by omega), wI64_eq (x := ((d * t.2.2 : Nat) : Int)) (by omega) (by omega),
        wI64_eq (by omega) (by omega), wI64_eq (by omega) (by omega), wI64_eq (by omega) (by omega)]
      simp only [Int.natCast_add]
    · rw [List.take_add_one, ht, List.map_append, List.sum_append, ← h0]
      simp [hd])
  obtain ⟨s, r, c, h1, h0, h2, h3, h4⟩ := this
  have h5 := h.trilen
  rw [List.take_length] at h0
  exact ⟨s, r, c, h1, h0, by omega, h3, h4⟩

def cenV (s r c : Nat) : SFraction × SFraction × Int := if s = 0 then (SFraction.mk 0 0, SFraction.mk 0 0, 3) else (mkF r s, mkF c s, 0)

theorem p_centre (n : Nat) (rows : List (List UInt8)) {W : Nat} {r0 : List UInt8} (h : Wear rows W r0) (hw : wearB rows = true) (hr : rows.length ≤ 1048576) (ht : total rows ≤ 1048576) (hn : 1048576 < n) :
    ∃ s r c : Nat, (s : Int) = ((tri 0 rows).map (·.1)).sum ∧ s ≤ 9 * (rows.length * W) ∧ r ≤ (rows.length - 1) * s ∧ c ≤ (W - 1) * s ∧ m_spec_CentreOfWear n rows = some (cenV s r c) ∧ m_impl_CentreOfWear n rows = some (cenV s r c) := by
  have hs : ∀ r ∈ rows, r.length ≤ 1048576 := fun r hr => by have := mem_le_total hr; omega
  unfold m_spec_CentreOfWear m_impl_CentreOfWear
  rw [p_l20Ok n rows hr hs hn, p_implValidWear n rows hr hs hn]
  have hW := h.hW; have hc := h.cells
  simp only [hw, Bool.not_true, Bool.false_eq_true, if_false, idx_zero, h.h0, Option.bind_some, p_digits n rows hr ht hn]
  have hsp : loopN (m_spec_CentreOfWear_l1 n rows) n (0, 0, 0, 0) = some ((tri 0 rows).foldl cenF (0, 0, 0)) := by
    refine rows_fold (body := m_spec_CentreOfWear_l1 n rows) rows cenF ((0, 0, 0) : Int × Int × Int) (fun i b => (b.1, b.2.1, b.2.2, (i : Int))) id (fun _ => True) trivial (fun _ _ _ => trivial) (fun y r b hy _ => ?_) (fun b => ?_) n (by omega)
    · have hlt := lt_of_get hy
      have inner : loopN (m_spec_CentreOfWear_l2 n rows (b.1, b.2.1, b.2.2, (y : Int))) n (b.1, b.2.1, b.2.2, 0) = some ((rowT y r).foldl cenF b) := by
        refine row_fold (body := m_spec_CentreOfWear_l2 n rows (b.1, b.2.1, b.2.2, (y : Int))) y r cenF b (fun i b => (b.1, b.2.1, b.2.2, (i : Int))) id (fun _ => True) trivial (fun _ _ _ => trivial) (fun x c b' hx _ => ?_) (fun b' => ?_) n (by have := hs r (List.mem_of_getElem? hy); omega)
        · have hx2 := lt_of_get hx
          have := hs r (List.mem_of_getElem? hy)
          unfold m_spec_CentreOfWear_l2 cenF
          simp only [idx_nat, hy, Option.bind_some, ltB hx2, if_true, p_l20At n rows hy hx, succ64 hx2 (by omega)]
        · unfold m_spec_CentreOfWear_l2; simp [idx_nat, hy]
      unfold m_spec_CentreOfWear_l1
      simp only [ltB hlt, if_true, inner, Option.bind_some, succ64 hlt (by omega)]
    · unfold m_spec_CentreOfWear_l1; simp
  have him : loopN (m_impl_CentreOfWear_l1 n r0 (rows.flatMap (·.map dv))) n (0, 0, 0, 0) = some ((tri 0 rows).foldl cenF (0, 0, 0)) := by
    refine flat_fold (body := m_impl_CentreOfWear_l1 n r0 (rows.flatMap (·.map dv))) rows W (by omega) h.hu cenF ((0, 0, 0) : Int × Int × Int) (fun i b => (b.1, b.2.1, b.2.2, (i : Int))) id (fun _ => True) trivial (fun _ _ _ => trivial) (fun i d b hd _ => ?_) (fun b => ?_) n (by omega)
    · have hlt := lt_of_get hd
      have hl2 := h.flat
      unfold m_impl_CentreOfWear_l1 cenF
      simp only [ltB hlt, if_true, idx_nat, hd, Option.bind_some, h.hr0, quo_div (i := i) (W := W) (by omega) (by omega), rem_mod (i := i) (W := W) (by omega), succ64 hlt (by omega)]
    · unfold m_impl_CentreOfWear_l1; simp [h.flat]
  rw [hsp, him]
  obtain ⟨s, r, c, e, e0, h1, h2, h3⟩ := cen_bound h
  refine ⟨s, r, c, e0, h1, h2, h3, ?_⟩
  rw [e]
  simp only [Option.bind_some]
  have h5 := h.hH2; have h6 := h.hW2
  have q1 : (rows.length - 1) * s ≤ 11 * (9 * 96) := Nat.mul_le_mul (by omega) (by omega)
  have q2 : (W - 1) * s ≤ 7 * (9 * 96) := Nat.mul_le_mul (by omega) (by omega)
  unfold cenV
  by_cases h0 : s = 0
  · subst h0; exact ⟨rfl, rfl⟩
  · have hne : ((s : Int) == 0) = false := by simp [h0]
    obtain ⟨f1, f2⟩ := p_make n r s (by omega) (by omega) (by omega) (by omega)
    obtain ⟨g1, g2⟩ := p_make n c s (by omega) (by omega) (by omega) (by omega)
    simp only [hne, Bool.false_eq_true, if_false, f1, f2, g1, g2, Option.bind_some, h0, and_self]

theorem p_CentreOfWear (n : Nat) (rows : List (List UInt8)) (hr : rows.length ≤ 1048576) (ht : total rows ≤ 1048576) (hn : 1048576 < n) : ∃ f g e, m_spec_CentreOfWear n rows = some (f, g, e) ∧ m_impl_CentreOfWear n rows = some (f, g, e) := by
  have hs : ∀ r ∈ rows, r.length ≤ 1048576 := fun r hr => by have := mem_le_total hr; omega
  by_cases hw : wearB rows = true
  · obtain ⟨W, r0, h⟩ := wear_of hw
    obtain ⟨s, r, c, _, _, _, _, h1, h2⟩ := p_centre n rows h hw hr ht hn
    exact ⟨_, _, _, h1, h2⟩
  · unfold m_spec_CentreOfWear m_impl_CentreOfWear
    rw [p_l20Ok n rows hr hs hn, p_implValidWear n rows hr hs hn]
    simp only [hw, Option.bind_some]
    exact ⟨_, _, _, rfl, rfl⟩

theorem p_eqFraction (n : Nat) (f : SFraction) : m_laws_eqFraction n f f = some true := by
  unfold m_laws_eqFraction; simp

/-- The statement on CentreOfWear. -/
theorem law_CentreOfWear (rows : List (List UInt8)) (hl : rows.length ≤ 9223372036854775807) (hs : ∀ r ∈ rows, strok r) : m_laws_FnExactCentreOfWear 2000000 rows = some true := by
  unfold m_laws_FnExactCentreOfWear
  obtain ⟨v, hv, hc⟩ := sz_cases rows hl hs 1048576 (by omega) (by omega)
  rw [hv]
  simp only [Option.bind_some]
  rcases hc with h | ⟨h, _, _, h1, h2, h3⟩
  · simp [h]
  · obtain ⟨f, g, e, e1, e2⟩ := p_CentreOfWear 2000000 rows h1 h2 (by omega)
    simp [h, p_toStringS 2000000 rows h1, e1, e2, p_eqStringS 2000000 rows h1, p_eqFraction]

/-! ### The quarters -/

def halfZ (a m : Nat) : Int := if a < m / 2 then 0 else if m - m / 2 ≤ a then 1 else -1

theorem p_half (n a m : Nat) (hm : m ≤ 1048576) : m_spec_l20Half n (a : Int) (m : Int) = some (halfZ a m) ∧ m_impl_half n (a : Int) (m : Int) = some (halfZ a m) := by
  have e : Int.tdiv (m : Int) 2 = ((m / 2 : Nat) : Int) := rfl
  have hle : m / 2 ≤ m := Nat.div_le_self _ _
  have w1 : wI64 ((m / 2 : Nat) : Int) = ((m / 2 : Nat) : Int) := wI64_eq (by omega) (by omega)
  have w2 : wI64 ((m : Int) - ((m / 2 : Nat) : Int)) = ((m - m / 2 : Nat) : Int) := by rw [wI64_eq (by omega) (by omega)]; omega
  unfold m_spec_l20Half m_impl_half halfZ
  rw [e, w1, w2]
  by_cases h1 : a < m / 2
  · have : decide ((a : Int) < ((m / 2 : Nat) : Int)) = true := decide_eq_true (by omega)
    simp only [this, h1, if_true, and_self]
  · have g1 : decide ((a : Int) < ((m / 2 : Nat) : Int)) = false := decide_eq_false (by omega)
    by_cases h2 : m - m / 2 ≤ a
    · have g2 : decide ((a : Int) ≥ ((m - m / 2 : Nat) : Int)) = true := decide_eq_true (by omega)
      simp only [g1, g2, h1, h2, Bool.false_eq_true, if_true, if_false, and_self]
    · have g2 : decide ((a : Int) ≥ ((m - m / 2 : Nat) : Int)) = false := decide_eq_false (by omega)
      simp only [g1, g2, h1, h2, Bool.false_eq_true, if_false, and_self]

theorem halfZ_cases (a m : Nat) : halfZ a m = 0 ∨ halfZ a m = 1 ∨ halfZ a m = -1 := by
  unfold halfZ; split
  · exact .inl rfl
  · split
    · exact .inr (.inl rfl)
    · exact .inr (.inr rfl)

def quaF (H W : Nat) (out : List Int) (t : Int × Nat × Nat) : List Int :=
  if halfZ t.2.1 H ≥ 0 ∧ halfZ t.2.2 W ≥ 0 then out.set (wI64 (wI64 (2 * halfZ t.2.1 H) + halfZ t.2.2 W)).toNat (wI64 (out.getD (wI64 (wI64 (2 * halfZ t.2.1 H) + halfZ t.2.2 W)).toNat 0 + t.1)) else out

theorem quaF_len (H W : Nat) (out : List Int) (t : Int × Nat × Nat) (h : out.length = 4) : (quaF H W out t).length = 4 := by
  unfold quaF; split
  · simpa using h
  · exact h

theorem half_place {a b : Int} (ha : a = 0 ∨ a = 1 ∨ a = -1) (hb : b = 0 ∨ b = 1 ∨ b = -1) (h : a ≥ 0 ∧ b ≥ 0) : ∃ k : Nat, k < 4 ∧ wI64 (wI64 (2 * a) + b) = (k : Int) := by
  refine ⟨(2 * a + b).toNat, by omega, ?_⟩
  rw [wI64_eq (x := 2 * a) (by omega) (by omega), wI64_eq (by omega) (by omega)]; omega

theorem p_quarters (n : Nat) (rows : List (List UInt8)) {W : Nat} {r0 : List UInt8} (h : Wear rows W r0) (hr : rows.length ≤ 1048576) (ht : total rows ≤ 1048576) (hn : 1048576 < n) :
    m_spec_l20Quarters n rows = some ((tri 0 rows).foldl (quaF rows.length W) [0, 0, 0, 0]) ∧ m_impl_quarterSums n rows = some ((tri 0 rows).foldl (quaF rows.length W) [0, 0, 0, 0]) := by
  have hs : ∀ r ∈ rows, r.length ≤ 1048576 := fun r hr => by have := mem_le_total hr; omega
  have hW := h.hW; have hW2 := h.hW2; have hc := h.cells; have hH := h.hH2
  have hmk : mk (0 : Int) 4 = some [0, 0, 0, 0] := rfl
  constructor
  · unfold m_spec_l20Quarters
    rw [hmk]
    simp only [Option.bind_some]
    have hsp : loopN (m_spec_l20Quarters_l1 n rows) n (0, [0, 0, 0, 0]) = some ((tri 0 rows).foldl (quaF rows.length W) [0, 0, 0, 0]) := by
      refine rows_fold (body := m_spec_l20Quarters_l1 n rows) rows (quaF rows.length W) ([0, 0, 0, 0] : List Int) (fun i b => ((i : Int), b)) id (fun b => b.length = 4) rfl (fun b t hb => quaF_len _ _ b t hb) (fun y r b hy hb => ?_) (fun b => ?_) n (by omega)
      · have hlt := lt_of_get hy
        have hrl := h.hu r (List.mem_of_getElem? hy)
        have inner : loopN (m_spec_l20Quarters_l3 n rows ((y : Int), b)) n (0, b) = some ((rowT y r).foldl (quaF rows.length W) b) := by
          refine row_fold (body := m_spec_l20Quarters_l3 n rows ((y : Int), b)) y r (quaF rows.length W) b (fun i b => ((i : Int), b)) id (fun b => b.length = 4) hb (fun b t hb => quaF_len _ _ b t hb) (fun x c b' hx hb' => ?_) (fun b' => ?_) n (by omega)
          · have hx2 := lt_of_get hx
            have hx3 : x < W := by omega
            unfold m_spec_l20Quarters_l3 quaF
            simp only [idx_nat, hy, Option.bind_some, hrl, ltB hx3, if_true, (p_half n y rows.length hr).1, (p_half n x W (by omega)).1, p_l20At n rows hy hx, succ64 hx3 (by omega)]
            by_cases h1 : halfZ y rows.length ≥ 0
            · by_cases h2 : halfZ x W ≥ 0
              · obtain ⟨k, hk, hk2⟩ := half_place (halfZ_cases y rows.length) (halfZ_cases x W) ⟨h1, h2⟩
                have hg : b'[k]? = some (b'.getD k 0) := getD_of (by omega) 0
                simp only [h1, h2, decide_true, if_true, Option.bind_some, hk2, idx_nat, hg, and_self, Int.toNat_natCast]
              · have : decide (halfZ x W ≥ 0) = false := by simpa using h2
                simp only [h1, h2, decide_true, decide_false, if_true, if_false, Bool.false_eq_true, Option.bind_some, and_false]
            · have : decide (halfZ y rows.length ≥ 0) = false := by simpa using h1
              simp only [h1, decide_false, if_false, Bool.false_eq_true, Option.bind_some, false_and]
          · unfold m_spec_l20Quarters_l3; simp [idx_nat, hy]
        unfold m_spec_l20Quarters_l1
        simp only [ltB hlt, if_true, inner, Option.bind_some, succ64 hlt (by omega)]
      · unfold m_spec_l20Quarters_l1; simp
    rw [hsp]; rfl
  · unfold m_impl_quarterSums
    rw [hmk]
    simp only [Option.bind_some, idx_zero, h.h0, p_digits n rows hr ht hn]
    have him : loopN (m_impl_quarterSums_l1 n rows r0 (rows.flatMap (·.map dv))) n (0, [0, 0, 0, 0]) = some ((tri 0 rows).foldl (quaF rows.length W) [0, 0, 0, 0]) := by
      refine flat_fold (body := m_impl_quarterSums_l1 n rows r0 (rows.flatMap (·.map dv))) rows W (by omega) h.hu (quaF rows.length W) ([0, 0, 0, 0] : List Int) (fun i b => ((i : Int), b)) id (fun b => b.length = 4) rfl (fun b t hb => quaF_len _ _ b t hb) (fun i d b hd hb => ?_) (fun b => ?_) n (by omega)
      · have hlt := lt_of_get hd
        have hl2 := h.flat
        unfold m_impl_quarterSums_l1 quaF
        simp only [ltB hlt, if_true, idx_nat, hd, Option.bind_some, h.hr0, quo_div (i := i) (W := W) (by omega) (by omega), rem_mod (i := i) (W := W) (by omega), succ64 hlt (by omega), (p_half n (i / W) rows.length hr).2, (p_half n (i % W) W (by omega)).2]
        by_cases h1 : halfZ (i / W) rows.length ≥ 0
        · by_cases h2 : halfZ (i % W) W ≥ 0
          · obtain ⟨k, hk, hk2⟩ := half_place (halfZ_cases (i / W) rows.length) (halfZ_cases (i % W) W) ⟨h1, h2⟩
            have hg : b[k]? = some (b.getD k 0) := getD_of (by omega) 0
            simp only [h1, h2, decide_true, if_true, Option.bind_some, hk2, idx_nat, hg, and_self, Int.toNat_natCast]
          · have : decide (halfZ (i % W) W ≥ 0) = false := by simpa using h2
            simp only [h1, h2, decide_true, decide_false, if_true, if_false, Bool.false_eq_true, Option.bind_some, and_false]
        · have : decide (halfZ (i / W) rows.length ≥ 0) = false := by simpa using h1
          simp only [h1, decide_false, if_false, Bool.false_eq_true, Option.bind_some, false_and]
      · unfold m_impl_quarterSums_l1; simp [h.flat]
    rw [him]; rfl

theorem qua_len (H W : Nat) (l : List (Int × Nat × Nat)) : (l.foldl (quaF H W) [0, 0, 0, 0]).length = 4 :=
  foldl_keeps (I := fun b : List Int => b.length = 4) (fun b t hb => quaF_len H W b t hb) l _ rfl

theorem p_QuarterSums (n : Nat) (rows : List (List UInt8)) (hr : rows.length ≤ 1048576) (ht : total rows ≤ 1048576) (hn : 1048576 < n) : ∃ l e, l.length ≤ 400 ∧ m_spec_QuarterSums n rows = some (l, e) ∧ m_impl_QuarterSums n rows = some (l, e) := by
  have hs : ∀ r ∈ rows, r.length ≤ 1048576 := fun r hr => by have := mem_le_total hr; omega
  unfold m_spec_QuarterSums m_impl_QuarterSums
  rw [p_l20Ok n rows hr hs hn, p_implValidWear n rows hr hs hn]
  simp only [Option.bind_some]
  by_cases hw : wearB rows = true
  · obtain ⟨W, r0, h⟩ := wear_of hw
    obtain ⟨q1, q2⟩ := p_quarters n rows h hr ht hn
    simp only [hw, Bool.not_true, Bool.false_eq_true, if_false, q1, q2, Option.bind_some]
    exact ⟨_, _, by rw [qua_len]; omega, rfl, rfl⟩
  · simp only [hw]
    exact ⟨_, _, by simp, rfl, rfl⟩

/-- The statement on QuarterSums. -/
theorem law_QuarterSums (rows : List (List UInt8)) (hl : rows.length ≤ 9223372036854775807) (hs : ∀ r ∈ rows, strok r) : m_laws_FnExactQuarterSums 2000000 rows = some true := by
  unfold m_laws_FnExactQuarterSums
  obtain ⟨v, hv, hc⟩ := sz_cases rows hl hs 1048576 (by omega) (by omega)
  rw [hv]
  simp only [Option.bind_some]
  rcases hc with h | ⟨h, _, _, h1, h2, h3⟩
  · simp [h]
  · obtain ⟨l, e, hll, e1, e2⟩ := p_QuarterSums 2000000 rows h1 h2 (by omega)
    have hne : ¬ (1 + (rows.length : Int) < 0) := by omega
    have hne2 : ¬ (1 + (l.length : Int) < 0) := by omega
    simp [h, p_toStringS 2000000 rows h1, e1, e2, p_eqStringS 2000000 rows h1, p_eqInt64S 2000000 l (by omega), p_markStringS 2000000 rows h1, p_markInt64S 2000000 l (by omega), p_heldInt64S 2000000 l.length (by omega), hne, hne2]

/-! ### What is diagnosed -/

theorem p_DiagnoseWear (n : Nat) (rows : List (List UInt8)) (hr : rows.length ≤ 1048576) (ht : total rows ≤ 1048576) (hn : 1048576 < n) : ∃ r, m_spec_DiagnoseWear n rows = some r ∧ m_impl_DiagnoseWear n rows = some r := by
  have hs : ∀ r ∈ rows, r.length ≤ 1048576 := fun r hr => by have := mem_le_total hr; omega
  unfold m_spec_DiagnoseWear m_impl_DiagnoseWear
  rw [p_l20Ok n rows hr hs hn, p_implValidWear n rows hr hs hn]
  simp only [Option.bind_some]
  by_cases hw : wearB rows = true
  · obtain ⟨W, r0, h⟩ := wear_of hw
    obtain ⟨q1, q2⟩ := p_quarters n rows h hr ht hn
    obtain ⟨L, hL⟩ : ∃ L, L = (tri 0 rows).foldl (quaF rows.length W) [0, 0, 0, 0] := ⟨_, rfl⟩
    have hlen : L.length = 4 := by rw [hL]; exact qua_len _ _ _
    simp only [hw, Bool.not_true, Bool.false_eq_true, if_false, q1, q2, Option.bind_some]
    rw [← hL]
    obtain ⟨S, hS⟩ : ∃ S, S = L.foldl (fun b x => wI64 (b + x)) 0 := ⟨_, rfl⟩
    have s1 : m_spec_l02Sum n L = some S := by
      unfold m_spec_l02Sum
      have := (loopN_fold (body := m_spec_l02Sum_l1 n L) L (fun b x => wI64 (b + x)) (0 : Int) (fun i b => (b, (i : Int))) id (fun _ _ => True) trivial (fun i x b hx _ => by
        have hlt := lt_of_get hx
        refine ⟨?_, trivial⟩
        unfold m_spec_l02Sum_l1
        simp only [ltB hlt, if_true, idx_nat, hx, Option.bind_some, succ64 hlt (by omega)]) (fun b _ => by unfold m_spec_l02Sum_l1; simp) n (by omega)).1
      have h2 : loopN (m_spec_l02Sum_l1 n L) n (0, 0) = _ := this
      rw [h2, hS]; rfl
    have s2 : m_impl_sumOf n L = some S := s1
    rw [s1]
    simp only [Option.bind_some]
    have e : m_impl_DiagnoseWear_l1 n L = m_spec_DiagnoseWear_l1 n L S := by
      funext i
      unfold m_impl_DiagnoseWear_l1 m_spec_DiagnoseWear_l1
      have h4 : (L.length : Int) = 4 := by omega
      rw [h4, s2]
      by_cases hi : i < 4
      · simp only [hi, decide_true, if_true, Option.bind_some]
        by_cases h0 : 0 ≤ i
        · have hcases : i = 0 ∨ i = 1 ∨ i = 2 ∨ i = 3 := by omega
          cases hx : idx L i with
          | none =>
            rcases hcases with rfl | rfl | rfl | rfl <;> simp [idx]
          | some x =>
            rcases hcases with rfl | rfl | rfl | rfl <;> simp [idx]
        · simp [idx, h0]
      · simp only [hi, decide_false, Bool.false_eq_true, if_false]
    rw [e]
    cases hl : loopN (m_spec_DiagnoseWear_l1 n L S) n 0 with
    | none =>
      exfalso
      have : ∃ t, loopN (m_spec_DiagnoseWear_l1 n L S) n 0 = some t := by
        have := loopN_runL (body := m_spec_DiagnoseWear_l1 n L S) (L.zip ([[105, 110, 110, 101, 114, 45, 116, 111, 101], [111, 117, 116, 101, 114, 45, 116, 111, 101], [105, 110, 110, 101, 114, 45, 104, 101, 101, 108], [111, 117, 116, 101, 114, 45, 104, 101, 101, 108]] : List (List UInt8)))
          (fun _ (b : Unit) x => if decide (wI64 (2 * x.1) > S) then .error (.inr (x.2, 0)) else .ok b) () (fun i _ => (i : Int)) (fun _ => .inl ()) (fun _ _ => True) trivial
          (fun i x b hx _ => by
            rw [List.getElem?_zip_eq_some] at hx
            have hlt := lt_of_get hx.1
            by_cases hc : decide (wI64 (2 * x.1) > S) = true
            · simp only [hc, if_true]
              unfold m_spec_DiagnoseWear_l1
              simp only [ltB hlt, if_true, idx_nat, hx.1, hx.2, Option.bind_some, hc]
            · simp only [hc]
              unfold m_spec_DiagnoseWear_l1
              simp only [ltB hlt, if_true, idx_nat, hx.1, Option.bind_some, hc, succ64 hlt (by omega)]
              simp)
          (fun b _ => by unfold m_spec_DiagnoseWear_l1; simp [hlen]) n (by simp; omega)
        exact ⟨_, this.1⟩
      obtain ⟨t, ht⟩ := this
      rw [hl] at ht; cases ht
    | some t =>
      cases t with
      | inl u => exact ⟨_, rfl, rfl⟩
      | inr r => exact ⟨_, rfl, rfl⟩
  · simp only [hw]
    exact ⟨_, rfl, rfl⟩

/-- The statement on DiagnoseWear. -/
theorem law_DiagnoseWear (rows : List (List UInt8)) (hl : rows.length ≤ 9223372036854775807) (hs : ∀ r ∈ rows, strok r) : m_laws_FnExactDiagnoseWear 2000000 rows = some true := by
  unfold m_laws_FnExactDiagnoseWear
  obtain ⟨v, hv, hc⟩ := sz_cases rows hl hs 1048576 (by omega) (by omega)
  rw [hv]
  simp only [Option.bind_some]
  rcases hc with h | ⟨h, _, _, h1, h2, h3⟩
  · simp [h]
  · obtain ⟨r, e1, e2⟩ := p_DiagnoseWear 2000000 rows h1 h2 (by omega)
    simp [h, p_toStringS 2000000 rows h1, e1, e2, p_eqStringS 2000000 rows h1]

end Go.Gv
