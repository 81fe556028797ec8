/- Plain laws of wear: strange fields. -/
import Derived.Test.YtoljnpoiclklpaaP2
import Derived.Test.YtoljnpoiclklpaaPy
namespace Go.Gv
open Go Go.RowKit

theorem dflat_get {W : Nat} : ∀ {rows : List (List UInt8)} {y x : Nat} {r : List UInt8} {c : UInt8}, (∀ r ∈ rows, r.length = W) → rows[y]? = some r → r[x]? = some c → (rows.flatMap (·.map dv))[y * W + x]? = some (dv c)
  | [], y, x, r, c, _, h, _ => by simp at h
  | q :: rows, 0, x, r, c, hu, h, hc => by
    simp at h; subst h
    have hx := lt_of_get hc
    rw [List.flatMap_cons, List.getElem?_append_left (by simp; omega)]
    simp [hc]
  | q :: rows, y + 1, x, r, c, hu, h, hc => by
    simp at h
    have hq := hu q (by simp)
    have := dflat_get (fun r hr => hu r (by simp [hr])) h hc
    rw [List.flatMap_cons, List.getElem?_append_right (by simp [hq, Nat.add_mul]; omega)]
    rw [← this]
    congr 1
    simp [hq, Nat.add_mul]; omega

theorem mirR_len (r : List UInt8) : (mirR r).length = r.length := by simp [mirR, ofBytes, toBytes]

theorem mirR_dig {r : List UInt8} (h : ∀ c ∈ r, dig c = true) : ∀ c ∈ mirR r, dig c = true := by
  intro c hc
  unfold mirR ofBytes toBytes at hc
  simp only [List.mem_map, List.mem_reverse] at hc
  obtain ⟨z, ⟨b, hb, rfl⟩, rfl⟩ := hc
  have : UInt8.ofNat ((b.toNat : Int)).toNat = b := by simp
  rw [this]; exact h b hb

theorem mirror_wear {rows : List (List UInt8)} {W : Nat} {r0 : List UInt8} (h : Wear rows W r0) : Wear (rows.map mirR) W (mirR r0) := by
  refine ⟨by simpa using h.hH, by simpa using h.hH2, h.hW, h.hW2, ?_, by rw [mirR_len, h.hr0], ?_, ?_⟩
  · rw [List.getElem?_map, h.h0]; rfl
  · intro r hr
    rw [List.mem_map] at hr
    obtain ⟨q, hq, rfl⟩ := hr
    rw [mirR_len, h.hu q hq]
  · intro r hr
    rw [List.mem_map] at hr
    obtain ⟨q, hq, rfl⟩ := hr
    exact mirR_dig (h.hd q hq)

def apartZ (a b : Int) : Int := if a < b then b - a else a - b

def strF (O : List Int) (W : Nat) (most : Int) (b : List Int) (t : Int × Nat × Nat) : List Int :=
  if apartZ t.1 (O.getD (t.2.1 * W + t.2.2) 0) > most then b ++ [((t.2.1 * W + t.2.2 : Nat) : Int)] else b

theorem strF_len (O : List Int) (W : Nat) (most : Int) (b : List Int) (t : Int × Nat × Nat) : (strF O W most b t).length ≤ b.length + 1 := by
  unfold strF; split <;> simp

theorem strF_all (O : List Int) (W : Nat) (most : Int) (l : List (Int × Nat × Nat)) (b : List Int) : (l.foldl (strF O W most) b).length ≤ b.length + l.length := by
  induction l generalizing b with
  | nil => simp
  | cons t l ih =>
    have := ih (strF O W most b t); have := strF_len O W most b t
    simp only [List.foldl_cons, List.length_cons]; omega

theorem apart_both (n : Nat) {a b : Int} (ha : 0 ≤ a ∧ a ≤ 9) (hb : 0 ≤ b ∧ b ≤ 9) : m_impl_apart n a b = some (apartZ a b) ∧ m_spec_l02Size n (wI64 (a - b)) = some (apartZ a b) := by
  unfold m_impl_apart m_spec_l02Size apartZ imax
  rw [wI64_eq (x := a - b) (by omega) (by omega), wI64_eq (x := b - a) (by omega) (by omega)]
  rw [wI64_eq (x := 0 - (a - b)) (by omega) (by omega)]
  by_cases h : a < b
  · have : decide (a - b < 0) = true := by simp; omega
    rw [this]; simp [h]; constructor <;> omega
  · have : decide (a - b < 0) = false := by simp; omega
    rw [this]; simp [h]; omega

theorem p_StrangeFields (n : Nat) (a b : List (List UInt8)) (most : Int) (ha : a.length ≤ 1048576) (hta : total a ≤ 1048576) (hb : b.length ≤ 1048576) (htb : total b ≤ 1048576) (hn : 1048576 < n) :
    ∃ l e, l.length ≤ 400 ∧ m_spec_StrangeFields n a b most = some (l, e) ∧ m_impl_StrangeFields n a b most = some (l, e) ∧
      (∀ W r0, Wear a W r0 → wearB a = true → wearB b = true → sameDim a b = true → 0 ≤ most ∧ most ≤ 9 → e = 0 ∧ l = (tri 0 a).foldl (strF ((b.map mirR).flatMap (·.map dv)) W most) []) := by
  have hsa : ∀ r ∈ a, r.length ≤ 1048576 := fun r hr => by have := mem_le_total hr; omega
  have hsb : ∀ r ∈ b, r.length ≤ 1048576 := fun r hr => by have := mem_le_total hr; omega
  unfold m_spec_StrangeFields m_impl_StrangeFields
  obtain ⟨t1, t2⟩ := p_two n a b ha hsa hb hsb hn
  rw [t1, t2, p_implValidWear n a ha hsa hn, p_implValidWear n b hb hsb hn]
  simp only [Option.bind_some, p_l00In, p_within]
  by_cases hwa : wearB a = true
  · by_cases hwb : wearB b = true
    · by_cases hm : 0 ≤ most ∧ most ≤ 9
      · by_cases hd : sameDim a b = true
        · simp only [hwa, hwb, hd, hm, Bool.and_self, decide_true, Bool.not_true, Bool.false_eq_true, if_true, if_false, bne_self_eq_false, Option.bind_some, Int.reduceBEq, beq_iff_eq, Int.zero_ne_one]
          obtain ⟨W, r0, h⟩ := wear_of hwa
          obtain ⟨W', s0, h'⟩ := wear_of hwb
          have hdim : a.length = b.length ∧ W = W' := by
            unfold sameDim at hd
            simp only [Bool.and_eq_true, decide_eq_true_eq] at hd
            refine ⟨hd.1, ?_⟩
            have e1 : a.headD [] = r0 := by
              have := h.h0; cases a with
              | nil => simp at this
              | cons x y => simpa using this
            have e2 : b.headD [] = s0 := by
              have := h'.h0; cases b with
              | nil => simp at this
              | cons x y => simpa using this
            rw [e1, e2, h.hr0, h'.hr0] at hd; exact hd.2
          obtain ⟨hlen, rfl⟩ := hdim
          have hM := mirror_wear h'
          have hml : (b.map mirR).length = a.length := by simp [hlen]
          have hmt : total (b.map mirR) ≤ 1048576 := by
            have : total (b.map mirR) = total b := by
              unfold total; congr 1; rw [List.map_map]; apply List.map_congr_left; intro r _; simp [mirR_len]
            omega
          have hW := h.hW; have hW2 := h.hW2; have hc := h.cells; have hH := h.hH2
          rw [p_specMirror n b hb hsb hn, p_implMirror n b hb hsb hn]
          simp only [Option.bind_some, p_digits n a ha hta hn, p_digits n (b.map mirR) (by omega) hmt hn]
          obtain ⟨O, hO⟩ : ∃ O, O = (b.map mirR).flatMap (·.map dv) := ⟨_, rfl⟩
          have hOl : O.length = a.length * W := by rw [hO, hM.flat, hml]
          have hOd : ∀ i, 0 ≤ O.getD i 0 ∧ O.getD i 0 ≤ 9 := fun i => by
            rw [List.getD_eq_getElem?_getD]
            cases hg : O[i]? with
            | none => simp
            | some d => rw [hO] at hg; exact hM.digit hg
          rw [← hO]
          have hsp : loopN (m_spec_StrangeFields_l1 n a most (b.map mirR)) n (([] : List Int), 0) = some ((tri 0 a).foldl (strF O W most) []) := by
            refine (rows_foldI (body := m_spec_StrangeFields_l1 n a most (b.map mirR)) a (strF O W most) ([] : List Int) (fun i b => (b, (i : Int))) id (fun y b => b.length ≤ y * W) (by simp) (fun y r bb hy hbb => ?_) (fun bb => ?_) n (by omega)).1
            · have hlt := lt_of_get hy
              have hrl := h.hu r (List.mem_of_getElem? hy)
              have hyW : y * W ≤ 96 := Nat.le_trans (Nat.mul_le_mul (Nat.le_of_lt hlt) (Nat.le_refl _)) hc
              have inner : loopN (m_spec_StrangeFields_l2 n a most (b.map mirR) (bb, (y : Int))) n (bb, 0) = some ((rowT y r).foldl (strF O W most) bb) := by
                refine (row_foldI (body := m_spec_StrangeFields_l2 n a most (b.map mirR) (bb, (y : Int))) y r (strF O W most) bb (fun i b => (b, (i : Int))) id (fun x b => b.length ≤ y * W + x) (by simpa using hbb) (fun x c b' hx hb' => ?_) (fun x c b' hx hb' => ?_) (fun b' => ?_) n (by omega)).1
                · have := strF_len O W most b' (dv c, y, x); omega
                · have hx2 := lt_of_get hx
                  obtain ⟨s, hs⟩ : ∃ s, (b.map mirR)[y]? = some s := ⟨_, List.getElem?_eq_getElem (by omega)⟩
                  have hsl := hM.hu s (List.mem_of_getElem? hs)
                  obtain ⟨c2, hc2⟩ : ∃ c2, s[x]? = some c2 := ⟨_, List.getElem?_eq_getElem (by omega)⟩
                  have hOg := dflat_get hM.hu hs hc2
                  rw [← hO] at hOg
                  have hOv : O.getD (y * W + x) 0 = dv c2 := by rw [List.getD_eq_getElem?_getD, hOg]; rfl
                  have hdc := dv_dig (h.hd r (List.mem_of_getElem? hy) c (List.mem_of_getElem? hx))
                  have hap := (apart_both n (a := dv c) (b := dv c2) (by omega) (by have := hOd (y * W + x); rw [hOv] at this; exact this)).2
                  have e1 : wI64 (wI64 ((y : Int) * (r.length : Int)) + (x : Int)) = ((y * W + x : Nat) : Int) := by
                    rw [hrl, ← Int.natCast_mul, wI64_eq (x := ((y * W : Nat) : Int)) (by omega) (by omega), wI64_eq (by omega) (by omega), Int.natCast_add]
                  unfold m_spec_StrangeFields_l2 strF
                  simp only [idx_nat, hy, Option.bind_some, ltB hx2, if_true, p_l20At n a hy hx, p_l20At n _ hs hc2, hap, succ64 hx2 (by omega), hOv, e1]
                  by_cases hq : apartZ (dv c) (dv c2) > most
                  · simp only [hq, decide_true, if_true]
                    rw [app_eq (by simp; omega)]; rfl
                  · simp only [hq, decide_false, Bool.false_eq_true, if_false, Option.bind_some]
                · unfold m_spec_StrangeFields_l2; simp [idx_nat, hy]
              refine ⟨?_, ?_⟩
              · unfold m_spec_StrangeFields_l1
                simp only [ltB hlt, if_true, inner, Option.bind_some, succ64 hlt (by omega)]
              · have := strF_all O W most (rowT y r) bb
                have e : (rowT y r).length = W := by simp [rowT, hrl]
                rw [e] at this
                have e2 : (y + 1) * W = y * W + W := by rw [Nat.add_mul, Nat.one_mul]
                omega
            · unfold m_spec_StrangeFields_l1; simp
          have him : loopN (m_impl_StrangeFields_l1 n most O (a.flatMap (·.map dv))) n (([] : List Int), 0) = some ((tri 0 a).foldl (strF O W most) []) := by
            refine flat_foldI (body := m_impl_StrangeFields_l1 n most O (a.flatMap (·.map dv))) a W (by omega) h.hu (strF O W most) ([] : List Int) (fun i b => (b, (i : Int))) id (fun i b => b.length ≤ i) (by simp) (fun i d bb hd hbb => ?_) (fun bb => ?_) n (by omega)
            · have hlt := lt_of_get hd
              have hl2 := h.flat
              have e : i / W * W + i % W = i := by rw [Nat.mul_comm]; exact Nat.div_add_mod i W
              have hg : O[i]? = some (O.getD i 0) := getD_of (by omega) 0
              have hap := (apart_both n (a := d) (b := O.getD i 0) (h.digit hd) (hOd i)).1
              refine ⟨?_, ?_⟩
              · unfold m_impl_StrangeFields_l1 strF
                simp only [ltB hlt, if_true, idx_nat, hd, hg, Option.bind_some, hap, e, succ64 hlt (by omega)]
                by_cases hq : apartZ d (O.getD i 0) > most
                · simp only [hq, decide_true, if_true]
                  rw [app_eq (by simp; omega)]; rfl
                · simp only [hq, decide_false, Bool.false_eq_true, if_false, Option.bind_some]
              · have := strF_len O W most bb (d, i / W, i % W); omega
            · unfold m_impl_StrangeFields_l1; simp [h.flat]
          rw [hsp, him]
          have hfl := strF_all O W most (tri 0 a) []
          rw [h.trilen] at hfl
          refine ⟨_, _, by simp at hfl; omega, rfl, rfl, fun W2 r2 h2 _ _ _ _ => ?_⟩
          have : W2 = W := by
            have e1 := h.h0; have e2 := h2.h0
            rw [e1] at e2; cases e2
            rw [← h.hr0, ← h2.hr0]
          subst this
          exact ⟨rfl, rfl⟩
        · simp only [hwa, hwb, hd, hm, Bool.and_self, decide_true, Bool.not_true, Bool.false_eq_true, if_true, if_false, Option.bind_some, bne, Int.reduceBEq, Bool.not_false]
          exact ⟨[], 9, by simp, rfl, rfl, fun _ _ _ _ _ h => by first | exact h.elim | exact absurd h hd⟩
      · have hmb : (decide (0 ≤ most) && decide (most ≤ 9)) = false := by
          rw [Bool.eq_false_iff]; intro h; simp at h; exact hm h
        by_cases hd : sameDim a b = true <;> simp only [hwa, hwb, hmb, hd, Bool.and_self, Bool.not_true, Bool.not_false, Bool.false_eq_true, if_true, if_false, Option.bind_some, Int.reduceBEq]
        · exact ⟨[], 2, by simp, rfl, rfl, fun _ _ _ _ _ _ h => by first | exact h.elim | exact absurd h hm⟩
        · exact ⟨[], 2, by simp, rfl, rfl, fun _ _ _ _ _ _ h => by first | exact h.elim | exact absurd h hm⟩
    · simp only [hwa, hwb, Bool.true_and, Bool.not_true, Bool.false_eq_true, if_true, if_false, Option.bind_some]
      exact ⟨[], 1, by simp, rfl, rfl, fun _ _ _ _ h => by first | exact h.elim | exact absurd h hwb⟩
  · simp only [hwa, Bool.false_and, Bool.false_eq_true, if_false, Option.bind_some]
    exact ⟨[], 1, by simp, rfl, rfl, fun _ _ _ h => by first | exact h.elim | exact absurd h hwa⟩

/-- The statement on StrangeFields. -/
theorem law_StrangeFields (a b : List (List UInt8)) (most : Int) (hla : a.length ≤ 9223372036854775807) (hsa : ∀ r ∈ a, strok r) (hlb : b.length ≤ 9223372036854775807) (hsb : ∀ r ∈ b, strok r) (_ : i64ok most) : m_laws_FnExactStrangeFields 2000000 a b most = some true := by
  unfold m_laws_FnExactStrangeFields
  obtain ⟨v, hv, hc⟩ := sz_cases a hla hsa 1048576 (by omega) (by omega)
  rw [hv]
  simp only [Option.bind_some]
  rcases hc with h | ⟨h, v0, v1, h1, h2, h3⟩
  · simp [h]
  · obtain ⟨u, hu, hc2⟩ := sz_cases b hlb hsb v (by omega) (by omega)
    simp only [h, Bool.false_eq_true, if_false, hu, Option.bind_some]
    rcases hc2 with g | ⟨g, u0, u1, g1, g2, g3⟩
    · simp [g]
    · obtain ⟨l, e, hll, e1, e2, _⟩ := p_StrangeFields 2000000 a b most h1 h2 g1 g2 (by omega)
      have hab : (a.length : Int) + b.length ≤ 1048576 := by
        obtain ⟨v', hv', hcase⟩ := p_szStringS 2000000 a 1048576 (by omega) (by omega) hla hsa (by omega)
        obtain ⟨u', hu', hcase2⟩ := p_szStringS 2000000 b v v0 v1 hlb hsb (by omega)
        rw [hv] at hv'; cases hv'
        rw [hu] at hu'; cases hu'
        omega
      have hne : ¬ (1 + (a.length : Int) + (b.length : Int) < 0) := by omega
      have hne2 : ¬ (1 + (l.length : Int) < 0) := by omega
      simp [g, p_toStringS 2000000 a h1, p_toStringS 2000000 b g1, e1, e2, p_eqStringS 2000000 a h1, p_eqStringS 2000000 b g1, p_eqInt64S 2000000 l (by omega), p_markStringS 2000000 a h1, p_markStringK 2000000 (1 + (a.length : Int)) b (by omega) (by omega),
        p_markInt64S 2000000 l (by omega), p_heldInt64S 2000000 l.length (by omega), hne, hne2]

end Go.Gv
