/- Plain laws of wear: areas: the statement. -/
import Derived.Test.YtoljnpoiclklpaaP9
namespace Go.Gv
open Go Go.RowKit

theorem p_sumL (n : Nat) (l : List Int) (hl : l.length ≤ 1000) (hb : ∀ x ∈ l, -1000 ≤ x ∧ x ≤ 1000) (hn : 1048576 < n) : m_laws_a2Sum n l = some l.sum := by
  unfold m_laws_a2Sum
  have key := loopN_fold (body := m_laws_a2Sum_l1 n l) l (fun (b x : Int) => b + x) 0 (fun i b => (b, (i : Int))) id (fun i b => -(1000 * (i : Int)) ≤ b ∧ b ≤ 1000 * (i : Int)) ⟨by omega, by omega⟩
    (fun i x b hx hI => by
      have hlt := lt_of_get hx
      have := hb x (List.mem_of_getElem? hx)
      refine ⟨?_, by omega, by omega⟩
      unfold m_laws_a2Sum_l1
      have hw : wI64 (b + x) = b + x := wI64_eq (by omega) (by omega)
      simp only [ltB hlt, if_true, idx_nat, hx, Option.bind_some, hw, succ64 hlt (by omega)])
    (fun b _ => by unfold m_laws_a2Sum_l1; simp) n (by omega)
  have k1 : loopN (m_laws_a2Sum_l1 n l) n (0, 0) = _ := key.1
  rw [k1]
  simp only [Option.bind_some, id]
  congr 1
  have : ∀ (us : List Int) (b : Int), us.foldl (fun (b x : Int) => b + x) b = b + us.sum := by
    intro us
    induction us with
    | nil => intro b; simp
    | cons u us ih => intro b; rw [List.foldl_cons, ih, List.sum_cons]; omega
  rw [this]; simp

theorem sum_le {l : List Int} (h : ∀ x ∈ l, 1 ≤ x) : (∀ x ∈ l, x ≤ l.sum) ∧ (l.length : Int) ≤ l.sum ∧ 0 ≤ l.sum := by
  induction l with
  | nil => simp
  | cons a l ih =>
    obtain ⟨h1, h2, h3⟩ := ih (fun x hx => h x (by simp [hx]))
    have ha := h a (by simp)
    simp only [List.sum_cons, List.length_cons]
    refine ⟨fun x hx => ?_, by omega, by omega⟩
    simp only [List.mem_cons] at hx
    rcases hx with rfl | hx
    · omega
    · have := h1 x hx; omega

/-- A worn field lies in the patch. -/
def InPatch (patch : List Int × Int) (t : Int × Nat × Nat) : Prop := patch.2 = 0 ∧ ∃ p0 p1 p2 p3, patch.1 = [p0, p1, p2, p3] ∧ 0 ≤ p0 ∧ p0 ≤ 100 ∧ 0 ≤ p1 ∧ p1 ≤ 100 ∧ 0 ≤ p2 ∧ p2 ≤ 100 ∧ 0 ≤ p3 ∧ p3 ≤ 100 ∧ p0 ≤ (t.2.1 : Int) ∧ (t.2.1 : Int) < p0 + p2 ∧ p1 ≤ (t.2.2 : Int) ∧ (t.2.2 : Int) < p1 + p3

theorem wear_loop (n : Nat) {rows : List (List UInt8)} {W : Nat} {r0 : List UInt8} (h : Wear rows W r0) (s : Int) (hs : 0 ≤ s ∧ s ≤ 8) (patch : List Int × Int) (hp : ∀ t ∈ tri 0 rows, wornT (1 + s) t = true → InPatch patch t) (hn : 1048576 < n) :
    loopN (m_laws_FnWearAreas_l1 n rows s patch) n (100, 0) = some (.inl ((tri 0 rows).foldl (topF (1 + s)) 100)) := by
  have hW := h.hW; have hW2 := h.hW2; have hH := h.hH2
  have hw1 : wI64 (1 + s) = 1 + s := wI64_eq (by omega) (by omega)
  refine rows_fold (body := m_laws_FnWearAreas_l1 n rows s patch) rows (topF (1 + s)) (100 : Int) (fun i b => (b, (i : Int))) .inl (fun _ => True) trivial (fun _ _ _ => trivial) (fun y r b hy _ => ?_) (fun b => ?_) n (by omega)
  · have hlt := lt_of_get hy
    have hrl := h.hu r (List.mem_of_getElem? hy)
    have inner : loopN (m_laws_FnWearAreas_l2 n rows s patch (b, (y : Int))) n (b, 0) = some (.inl ((rowT y r).foldl (topF (1 + s)) b)) := by
      refine row_fold (body := m_laws_FnWearAreas_l2 n rows s patch (b, (y : Int))) y r (topF (1 + s)) b (fun i b => (b, (i : Int))) .inl (fun _ => True) trivial (fun _ _ _ => trivial) (fun x c b' hx _ => ?_) (fun b' => ?_) n (by omega)
      · have hx2 := lt_of_get hx
        have hx3 : x < W := by omega
        have hmem := tri_mem hy hx
        have edv : wI64 (IntKind.u8.wrap ((c.toNat : Int) - 48)) = dv c := rfl
        unfold m_laws_FnWearAreas_l2 topF
        simp only [idx_zero, h.h0, h.hr0, idx_nat, hy, hx, Option.bind_some, ltB hx3, if_true, edv, hw1, succ64 hx3 (by omega)]
        by_cases hq : dv c < 1 + s
        · simp only [hq, decide_true, if_true]
        · simp only [hq, decide_false, Bool.false_eq_true, if_false]
          obtain ⟨q0, p0, p1, p2, p3, e1, b1, b2, b3, b4, b5, b6, b7, b8, b9, b10, b11, b12⟩ := hp _ hmem (by unfold wornT; simp; omega)
          simp only at b9 b10 b11 b12
          have i0 : patch.1[0]? = some p0 := by rw [e1]; rfl
          have i1 : patch.1[1]? = some p1 := by rw [e1]; rfl
          have i2 : patch.1[2]? = some p2 := by rw [e1]; rfl
          have i3 : patch.1[3]? = some p3 := by rw [e1]; rfl
          have j0 : idx patch.1 0 = some p0 := by rw [idx_zero, i0]
          have j1 : idx patch.1 1 = some p1 := (idx_of (xs := patch.1) (i := 1) (k := 1) rfl).trans i1
          have j2 : idx patch.1 2 = some p2 := (idx_of (xs := patch.1) (i := 2) (k := 2) rfl).trans i2
          have j3 : idx patch.1 3 = some p3 := (idx_of (xs := patch.1) (i := 3) (k := 3) rfl).trans i3
          have n0 : (patch.2 != 0) = false := by rw [q0]; rfl
          have d1 : decide ((y : Int) < p0) = false := decide_eq_false (by omega)
          have d2 : decide ((y : Int) ≥ p0 + p2) = false := decide_eq_false (by omega)
          have d3 : decide ((x : Int) < p1) = false := decide_eq_false (by omega)
          have d4 : decide ((x : Int) ≥ p1 + p3) = false := decide_eq_false (by omega)
          have w1 : wI64 (p0 + p2) = p0 + p2 := wI64_eq (by omega) (by omega)
          have w2 : wI64 (p1 + p3) = p1 + p3 := wI64_eq (by omega) (by omega)
          have j0' : patch.1[0]? = some p0 := i0
          simp only [n0, Bool.false_eq_true, if_false, j0, j0', j1, j2, j3, Option.bind_some, d1, d2, d3, d4, w1, w2]
      · unfold m_laws_FnWearAreas_l2; simp [idx_zero, h.h0, h.hr0, hrl]
    unfold m_laws_FnWearAreas_l1
    simp only [ltB hlt, if_true, inner, Option.bind_some, succ64 hlt (by omega)]
  · unfold m_laws_FnWearAreas_l1; simp

theorem sum_loop (n : Nat) {a b l : List (List UInt8)} {W : Nat} {r0 s0 : List UInt8} {e : Int} (ha : Wear a W r0) (hb : Wear b W s0) (hlen : a.length = b.length) (hl : l.length = a.length)
    (hrow : ∀ (y : Nat) r q, a[y]? = some r → b[y]? = some q → ∃ s, l[y]? = some s ∧ s.length = r.length ∧ ∀ (x : Nat) c d, r[x]? = some c → q[x]? = some d → ∃ e, s[x]? = some e ∧ dv e = imin 9 (wI64 (dv c + dv d))) (hn : 1048576 < n) :
    loopN (m_laws_FnWearAreas_l5 n a b (l, e)) n 0 = some (.inl ()) := by
  have hW := ha.hW2; have hH := ha.hH2
  refine loopN_run (body := m_laws_FnWearAreas_l5 n a b (l, e)) (fun i => (i : Int)) (.inl ()) a.length (fun y hy => ?_) ?_ n (by omega)
  · obtain ⟨r, hr⟩ : ∃ r, a[y]? = some r := ⟨_, List.getElem?_eq_getElem hy⟩
    obtain ⟨q, hq⟩ : ∃ q, b[y]? = some q := ⟨_, List.getElem?_eq_getElem (by omega)⟩
    have hrl := ha.hu r (List.mem_of_getElem? hr)
    have hql := hb.hu q (List.mem_of_getElem? hq)
    obtain ⟨s, h1, h2, h3⟩ := hrow y r q hr hq
    have inner : loopN (m_laws_FnWearAreas_l6 n a b (l, e) (y : Int)) n 0 = some (.inl ()) := by
      refine loopN_run (body := m_laws_FnWearAreas_l6 n a b (l, e) (y : Int)) (fun i => (i : Int)) (.inl ()) r.length (fun x hx => ?_) ?_ n (by omega)
      · obtain ⟨c, hc⟩ : ∃ c, r[x]? = some c := ⟨_, List.getElem?_eq_getElem hx⟩
        obtain ⟨d, hd⟩ : ∃ d, q[x]? = some d := ⟨_, List.getElem?_eq_getElem (by omega)⟩
        obtain ⟨g, h4, h5⟩ := h3 x c d hc hd
        have e1 : wI64 (IntKind.u8.wrap ((c.toNat : Int) - 48)) = dv c := rfl
        have e2 : wI64 (IntKind.u8.wrap ((d.toNat : Int) - 48)) = dv d := rfl
        have e3 : wI64 (IntKind.u8.wrap ((g.toNat : Int) - 48)) = dv g := rfl
        unfold m_laws_FnWearAreas_l6
        simp only [idx_nat, hr, hq, h1, hc, hd, h4, Option.bind_some, ltB hx, if_true, e1, e2, e3, h5, bne_self_eq_false, Bool.false_eq_true, if_false, succ64 hx (by omega)]
      · unfold m_laws_FnWearAreas_l6; simp [idx_nat, hr]
    unfold m_laws_FnWearAreas_l5
    simp only [ltB hy, if_true, idx_nat, h1, hr, Option.bind_some, h2, bne_self_eq_false, Bool.false_eq_true, if_false, inner, succ64 hy (by omega)]
  · unfold m_laws_FnWearAreas_l5; simp

theorem total_wear {rows : List (List UInt8)} {W : Nat} {r0 : List UInt8} (h : Wear rows W r0) : total rows ≤ 1048576 := by
  have hc := h.cells
  have h1 := flat_uniform h.hu
  have h2 : ∀ (l : List (List UInt8)), (l.flatMap (·.map dv)).length = total l := by
    intro l
    induction l with
    | nil => rfl
    | cons a l ih => simp [total, ih] at *
  rw [← h2, h1]; omega

/-- The statement on areas. -/
theorem law_WearAreas (code more : List Int) (_ : code.length ≤ 9223372036854775807) (hc : ∀ c ∈ code, u8ok c) (_ : more.length ≤ 9223372036854775807) (hm : ∀ c ∈ more, u8ok c) : m_laws_FnWearAreas 2000000 code more = some true := by
  unfold m_laws_FnWearAreas m_laws_a2Long
  by_cases hlong : (code.length : Int) > 3000 ∨ (more.length : Int) > 3000
  · have : Option.bind (if (decide ((code.length : Int) > 3000)) then some true else some (decide ((more.length : Int) > 3000))) (fun x4 => some x4) = some true := by
      by_cases h1 : (code.length : Int) > 3000
      · rw [decide_eq_true h1]; rfl
      · rw [decide_eq_false h1, decide_eq_true (hlong.resolve_left h1)]; rfl
    rw [this]; rfl
  · have hl1 : decide ((code.length : Int) > 3000) = false := decide_eq_false (fun h => hlong (.inl h))
    have hl2 : decide ((more.length : Int) > 3000) = false := decide_eq_false (fun h => hlong (.inr h))
    simp only [hl1, hl2, Bool.false_eq_true, if_false, Option.bind_some]
    obtain ⟨rows, W, r0, e0, hw, h, hH7, hC⟩ := p_A2Wear 2000000 (by omega) hc
    have hat : ∃ s, m_laws_a2At 2000000 more 0 9 = some s ∧ 0 ≤ s ∧ s < 9 := by
      unfold m_laws_a2At
      have h1 : decide ((9 : Int) < 1) = false := rfl
      by_cases h : 0 < more.length
      · have h0 : decide ((0 : Int) ≥ (more.length : Int)) = false := decide_eq_false (by omega)
        obtain ⟨c, hg⟩ : ∃ c, more[0]? = some c := ⟨_, List.getElem?_eq_getElem h⟩
        have hb := hm c (List.mem_of_getElem? hg)
        unfold u8ok at hb
        have w : wI64 c = c := wI64_eq (by omega) (by omega)
        simp only [h0, h1, Bool.false_eq_true, if_false, Option.bind_some, idx_zero, hg, w, rem, show ¬ ((9 : Int) = 0) by decide]
        exact ⟨_, rfl, Int.tmod_nonneg _ (by omega), Int.tmod_lt_of_pos _ (by omega)⟩
      · have h0 : decide ((0 : Int) ≥ (more.length : Int)) = true := decide_eq_true (by omega)
        simp only [h0, if_true, Option.bind_some]
        exact ⟨0, rfl, by omega, by omega⟩
    obtain ⟨s, es, s0, s1⟩ := hat
    have ws : wI64 (1 + s) = 1 + s := wI64_eq (by omega) (by omega)
    have hW := h.hW; have hW2 := h.hW2; have hcells := h.cells
    have hM := mirror_wear h
    have hml : (rows.map mirR).length = rows.length := by simp
    have ht := total_wear h
    have hmt := total_wear hM
    have hs : ∀ r ∈ rows, r.length ≤ 1048576 := fun r hr => by have := h.hu r hr; omega
    have hsm : ∀ r ∈ rows.map mirR, r.length ≤ 1048576 := fun r hr => by have := hM.hu r hr; omega
    have hwm : wearB (rows.map mirR) = true := (wear_mk (R := rows.length) (C := W) hml (fun r hr => ⟨hM.hu r hr, hM.hd r hr⟩) h.hH h.hH2 (by omega) (by omega)).1
    have hle : 1 ≤ 1 + s ∧ 1 + s ≤ 9 := by omega
    have f1 := p_wornC 2000000 rows (1 + s) h hw hle (by have := h.hH2; omega) ht (by omega)
    have f2 := p_wornC 2000000 (rows.map mirR) (1 + s) hM hwm hle (by have := hM.hH2; omega) hmt (by omega)
    obtain ⟨l, e, hl4, _, a1, a2⟩ := p_WornAreas 2000000 rows (1 + s) (by have := h.hH2; omega) ht (by omega)
    obtain ⟨rfl, S', hA, hE⟩ := a2 hle W r0 h
    obtain ⟨m, e2, hm4, _, b1, b2⟩ := p_WornAreas 2000000 (rows.map mirR) (1 + s) (by have := hM.hH2; omega) hmt (by omega)
    obtain ⟨rfl, T', hB, hE2⟩ := b2 hle W (mirR r0) hM
    have hSl : (wornS (1 + s) rows).length = rows.length * W := by simp only [wornS, List.length_map]; exact h.flat
    have hwm2 := worn_mir (1 + s) (by omega : 0 < W) rows h.hu
    have hcnt : cnt (wornS (1 + s) (rows.map mirR)) = cnt (wornS (1 + s) rows) := by rw [hwm2]; exact cnt_mirS (by omega) rows.length _ hSl
    have hS'l : S'.length = rows.length * W := by
      have : ∀ {S S' : List Bool} {l : List Int}, Areas W S l S' → S'.length = S.length := by
        intro S S' l hh
        induction hh with
        | nil S => rfl
        | cons _ h1 _ ih => rw [ih, h1.len]
      rw [this hA, hSl]
    have hlen : m.length = l.length := by
      have hA2 := areas_mir (by omega : 0 < W) hA hSl
      rw [← hwm2] at hA2
      exact areas_len hW hW2 _ _ (Nat.le_refl _) (by rw [hwm2, mirS_len, hSl]; omega) m T' l (mirS W S') hB hE2 hA2 (empty_mir (by omega) hS'l hE)
    obtain ⟨hsum, hpos⟩ := areas_sum hA
    rw [cnt_empty hE] at hsum
    have hsl := sum_le hpos
    have hcl := cnt_le (wornS (1 + s) rows)
    have hsum2 : m_laws_a2Sum 2000000 l = some ((cnt (wornS (1 + s) rows) : Int)) := by
      rw [p_sumL 2000000 l (by omega) (fun x hx => by have := hsl.1 x hx; have := hpos x hx; omega) (by omega)]
      congr 1; omega
    have hpat := p_patchC 2000000 rows (1 + s) h hw hle (by have := h.hH2; omega) ht (by omega)
    have hch := pat_char (1 + s) rows.length W (tri 0 rows) (fun t ht => by
      obtain ⟨i, hi⟩ := List.getElem?_of_mem ht
      have := h.tri hi; exact ⟨this.2.2.1, this.2.2.2.1⟩)
    obtain ⟨b, hb⟩ : ∃ b, b = (tri 0 rows).foldl (patI (1 + s)) ((rows.length : Int), (W : Int), -1, -1) := ⟨_, rfl⟩
    rw [← hb] at hpat hch
    have v1 := p_implValidWear 2000000 rows (by have := h.hH2; omega) hs (by omega)
    rw [hw] at v1
    have m1 : m_impl_MirrorWear 2000000 rows = some (rows.map mirR, 0) := by
      unfold m_impl_MirrorWear; rw [v1, p_implMirror 2000000 rows (by have := h.hH2; omega) hs (by omega)]; rfl
    have v2 : m_spec_ValidWear 2000000 (rows.map mirR) = some true := by
      unfold m_spec_ValidWear; rw [p_l20Ok 2000000 (rows.map mirR) (by have := hM.hH2; omega) hsm (by omega), hwm]; rfl
    have hcount := worn_count (by omega : 0 < W) h.hu (1 + s)
    have other : ∃ o s0, m_spec_A2Like 2000000 more rows = some o ∧ wearB o = true ∧ Wear o W s0 ∧ o.length = rows.length := by
      unfold m_spec_A2Like m_spec_l00From
      simp only [Option.bind_some, idx_zero, h.h0, h.hr0]
      obtain ⟨o, a3, s3, e3, r1, r2⟩ := p_draw 2000000 (by omega) hm 0 (by omega) 0 rows.length W (by have := h.hH2; omega) (by omega)
      have e3' : m_spec_l20Draw 2000000 more 0 0 (rows.length : Int) (W : Int) = some (o, (a3 : Int), s3) := e3
      rw [e3']
      obtain ⟨g1, q0, g2⟩ := wear_mk r1 r2 h.hH h.hH2 hW hW2
      exact ⟨o, q0, rfl, g1, g2, r1⟩
    obtain ⟨o, q0, eo, hwo, ho, hol⟩ := other
    obtain ⟨t, et, htl, htr⟩ := p_addW 2000000 rows o h ho hol.symm hw hwo (by omega)
    have hsl5 := sum_loop 2000000 (e := 0) h ho hol.symm htl htr (by omega)
    have tail : (Option.bind (m_spec_A2Like 2000000 more rows) fun x547 =>
        Option.bind (m_impl_AddWear 2000000 rows x547) fun x559 =>
        Option.bind (if (x559.2 != 0) then some true else some ((x559.1.length : Int) != (rows.length : Int))) fun x573 =>
        if x573 then some false
        else
        Option.bind (loopN (m_laws_FnWearAreas_l5 2000000 rows x547 x559) 2000000 0) fun t595 =>
        match t595 with
        | .inl q656 => some true
        | .inr r => some r) = some true := by
      have n0 : ((0 : Int) != 0) = false := rfl
      have n1 : ((t.length : Int) != (rows.length : Int)) = false := by rw [htl]; simp
      simp only [eo, et, Option.bind_some, n0, n1, Bool.false_eq_true, if_false, hsl5]
    have n0 : ((0 : Int) != 0) = false := rfl
    simp only [e0, es, ws, f1, a1, hpat, m1, Option.bind_some, n0, Bool.false_eq_true, if_false, hsum2, bne_self_eq_false, v2, Bool.not_true, f2, b1, hcnt, hlen]
    by_cases hex : ∃ t ∈ tri 0 rows, wornT (1 + s) t = true
    · obtain ⟨c1, c2, c3, c4, c5, c6, tm, htm, htw, hty⟩ := hch.some hex
      have hn0 : ¬ b.2.2.1 < 0 := by omega
      have hpv : patV b = ([b.1, b.2.1, b.2.2.1 - b.1 + 1, b.2.2.2 - b.2.1 + 1], 0) := by unfold patV; rw [if_neg hn0]
      have hpos2 : 0 < cnt (wornS (1 + s) rows) := by rw [hcount, List.countP_pos_iff]; exact ⟨tm, htm, htw⟩
      have z1 : (((cnt (wornS (1 + s) rows) : Nat) : Int) == 0) = false := by rw [beq_eq_false_iff_ne]; omega
      have hin : ∀ t ∈ tri 0 rows, wornT (1 + s) t = true → InPatch ([b.1, b.2.1, b.2.2.1 - b.1 + 1, b.2.2.2 - b.2.1 + 1], 0) t := by
        intro t ht2 hwt
        obtain ⟨i1, i2, i3, i4⟩ := hch.all t ht2 hwt
        have := h.hH2
        exact ⟨rfl, _, _, _, _, rfl, by omega, by omega, by omega, by omega, by omega, by omega, by omega, by omega, by omega, by omega, by omega, by omega⟩
      have hloop := wear_loop 2000000 h s (by omega) _ hin (by omega)
      obtain ⟨t1, t2, t3⟩ := top_fold (1 + s) (tri 0 rows) 100
      have htop : (tri 0 rows).foldl (topF (1 + s)) 100 = b.1 := by
        have hu := t2 tm htm htw
        rcases t3 with t3 | ⟨q, hq, hwq, t3⟩
        · have := h.hH2; omega
        · have := (hch.all q hq hwq).1; omega
      obtain ⟨B1, hB1⟩ : ∃ B1 : Nat, b.1 = (B1 : Int) := ⟨b.1.toNat, by omega⟩
      obtain ⟨B2, hB2⟩ : ∃ B2 : Nat, b.2.1 = (B2 : Int) := ⟨b.2.1.toNat, by omega⟩
      obtain ⟨B3, hB3⟩ : ∃ B3 : Nat, b.2.2.1 = (B3 : Int) := ⟨b.2.2.1.toNat, by omega⟩
      obtain ⟨B4, hB4⟩ : ∃ B4 : Nat, b.2.2.2 = (B4 : Int) := ⟨b.2.2.2.toNat, by omega⟩
      have harea := rows_count (1 + s) B1 B3 B2 B4 rows 0 (fun t ht2 hwt => by
        have := hch.all t ht2 hwt; omega)
      rw [← hcount] at harea
      have hm0 : max B1 0 = B1 := by omega
      rw [hm0] at harea
      have harea2 : ((cnt (wornS (1 + s) rows) : Nat) : Int) ≤ (b.2.2.1 - b.1 + 1) * (b.2.2.2 - b.2.1 + 1) := by
        have e1 : b.2.2.1 - b.1 + 1 = ((B3 + 1 - B1 : Nat) : Int) := by omega
        have e2 : b.2.2.2 - b.2.1 + 1 = ((B4 + 1 - B2 : Nat) : Int) := by omega
        rw [e1, e2, ← Int.natCast_mul]
        exact Int.ofNat_le.2 harea
      have hmulb : (b.2.2.1 - b.1 + 1) * (b.2.2.2 - b.2.1 + 1) ≤ 100 * 100 := by
        have := h.hH2
        exact Int.mul_le_mul (by omega) (by omega) (by omega) (by omega)
      have wA : wI64 ((b.2.2.1 - b.1 + 1) * (b.2.2.2 - b.2.1 + 1)) = (b.2.2.1 - b.1 + 1) * (b.2.2.2 - b.2.1 + 1) := wI64_eq (by omega) (by omega)
      have dA : decide ((b.2.2.1 - b.1 + 1) * (b.2.2.2 - b.2.1 + 1) < ((cnt (wornS (1 + s) rows) : Nat) : Int)) = false := decide_eq_false (by omega)
      have k0 : ((0 : Int) == 3) = false := rfl
      have k1 : ((0 : Int) == 0) = true := rfl
      have k4 : ((([b.1, b.2.1, b.2.2.1 - b.1 + 1, b.2.2.2 - b.2.1 + 1] : List Int).length : Int) != 4) = false := rfl
      have j0 : idx [b.1, b.2.1, b.2.2.1 - b.1 + 1, b.2.2.2 - b.2.1 + 1] 0 = some b.1 := rfl
      have j2 : idx [b.1, b.2.1, b.2.2.1 - b.1 + 1, b.2.2.2 - b.2.1 + 1] 2 = some (b.2.2.1 - b.1 + 1) := rfl
      have j3 : idx [b.1, b.2.1, b.2.2.1 - b.1 + 1, b.2.2.2 - b.2.1 + 1] 3 = some (b.2.2.2 - b.2.1 + 1) := rfl
      rw [hpv]
      simp only [z1, k0, BEq.rfl, Bool.not_true, Bool.false_eq_true, if_false, Option.bind_some, k1, if_true, k4, hloop, htop, j0, j2, j3, bne_self_eq_false, wA, dA]
      exact tail
    · have hno : ∀ t ∈ tri 0 rows, wornT (1 + s) t = false := fun t ht2 => by
        cases hq : wornT (1 + s) t with
        | false => rfl
        | true => exact absurd ⟨t, ht2, hq⟩ hex
      have hb0 := hch.none hno
      have hpv : patV b = ([], 3) := by rw [hb0]; rfl
      have hc0 : cnt (wornS (1 + s) rows) = 0 := by
        rw [hcount, List.countP_eq_zero]
        intro t ht2 hw2
        have := hno t ht2; rw [this] at hw2; cases hw2
      have hloop := wear_loop 2000000 h s (by omega) ([], 3) (fun t ht2 hwt => by have := hno t ht2; rw [this] at hwt; cases hwt) (by omega)
      have k0 : (((0 : Nat) : Int) == 0) = true := rfl
      have k3 : ((3 : Int) == 3) = true := rfl
      have k30 : ((3 : Int) == 0) = false := rfl
      rw [hpv, hc0]
      simp only [k0, k3, BEq.rfl, Bool.not_true, Bool.false_eq_true, if_false, Option.bind_some, k30, hloop]
      exact tail

end Go.Gv
