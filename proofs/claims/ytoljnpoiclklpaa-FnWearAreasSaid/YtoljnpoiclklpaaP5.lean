/- Plain laws of wear: worn areas, breadth first, and the statement. -/
import Derived.Test.YtoljnpoiclklpaaP4
namespace Go.Gv
open Go Go.RowKit

/-- What is worn and not seen yet. -/
def rest (least : Int) (ds : List Int) (s : List Bool) : List Bool := List.zipWith (fun d b => decide (d ≥ least) && !b) ds s

theorem rest_set (least : Int) : ∀ (ds : List Int) (s : List Bool) (k : Nat), rest least ds (s.set k true) = (rest least ds s).set k false
  | [], s, k => by simp [rest]
  | d :: ds, [], k => by simp [rest]
  | d :: ds, b :: s, 0 => by simp [rest]
  | d :: ds, b :: s, k + 1 => by
    have := rest_set least ds s k
    unfold rest at this ⊢
    simp [this]

theorem rest_len {least : Int} {ds : List Int} {s : List Bool} {N : Nat} (h1 : ds.length = N) (h2 : s.length = N) : (rest least ds s).length = N := by simp [rest, h1, h2]

theorem rest_get {least : Int} {ds : List Int} {s : List Bool} {k : Nat} {d : Int} {b : Bool} (h1 : ds[k]? = some d) (h2 : s[k]? = some b) : (rest least ds s)[k]? = some (decide (d ≥ least) && !b) := by
  unfold rest; rw [List.getElem?_zipWith, h1, h2]

theorem Wear.at_ {rows : List (List UInt8)} {W : Nat} {r0 : List UInt8} (h : Wear rows W r0) (n k : Nat) (hk : k < rows.length * W) :
    ∃ d, (rows.flatMap (·.map dv))[k]? = some d ∧ m_spec_l20At n rows ((k / W : Nat) : Int) ((k % W : Nat) : Int) = some d := by
  have hW := h.hW
  have hy : k / W < rows.length := Nat.div_lt_of_lt_mul (by rw [Nat.mul_comm]; exact hk)
  obtain ⟨r, hr⟩ : ∃ r, rows[k / W]? = some r := ⟨_, List.getElem?_eq_getElem hy⟩
  have hx : k % W < r.length := by rw [h.hu r (List.mem_of_getElem? hr)]; exact Nat.mod_lt _ (by omega)
  obtain ⟨c, hc⟩ : ∃ c, r[k % W]? = some c := ⟨_, List.getElem?_eq_getElem hx⟩
  have := dflat_get h.hu hr hc
  have e : k / W * W + k % W = k := by rw [Nat.mul_comm]; exact Nat.div_add_mod k W
  rw [e] at this
  exact ⟨_, this, p_l20At n rows hr hc⟩

def nearL (H W k : Nat) : List Int :=
  (((if 0 < k / W then [(k : Int) - W] else []) ++ (if k / W + 1 < H then [(k : Int) + W] else [])) ++ (if 0 < k % W then [(k : Int) - 1] else [])) ++ (if k % W + 1 < W then [(k : Int) + 1] else [])

theorem tmod_nat (k W : Nat) : Int.tmod (k : Int) (W : Int) = ((k % W : Nat) : Int) := rfl

theorem near_in {H W k : Nat} (hW : 0 < W) (hk : k < H * W) {j : Int} (h : j ∈ nearL H W k) : Adj W (k : Int) j ∧ ∃ q : Nat, j = (q : Int) ∧ q < H * W := by
  have e := Nat.div_add_mod k W
  have m := Nat.mod_lt k hW
  unfold nearL at h
  simp only [List.mem_append] at h
  rcases h with ((h | h) | h) | h
  · split at h
    · rename_i hc
      simp at h; subst h
      have : W ≤ k := by
        have := Nat.mul_le_mul (Nat.le_refl W) hc
        omega
      exact ⟨.inl rfl, k - W, by omega, by omega⟩
    · simp at h
  · split at h
    · rename_i hc
      simp at h; subst h
      have h2 : (k / W + 1 + 1) * W ≤ H * W := Nat.mul_le_mul hc (Nat.le_refl W)
      rw [Nat.add_mul, Nat.add_mul, Nat.one_mul, Nat.mul_comm (k / W) W] at h2
      exact ⟨.inr (.inl rfl), k + W, by omega, by omega⟩
    · simp at h
  · split at h
    · rename_i hc
      simp at h; subst h
      have : k % W ≤ k := Nat.mod_le _ _
      exact ⟨.inr (.inr (.inl ⟨by rw [tmod_nat]; omega, rfl⟩)), k - 1, by omega, by omega⟩
    · simp at h
  · split at h
    · rename_i hc
      simp at h; subst h
      have hq : k / W < H := Nat.div_lt_of_lt_mul (by rw [Nat.mul_comm]; exact hk)
      have h2 : (k / W + 1) * W ≤ H * W := Nat.mul_le_mul hq (Nat.le_refl W)
      rw [Nat.add_mul, Nat.one_mul, Nat.mul_comm (k / W) W] at h2
      exact ⟨.inr (.inr (.inr ⟨by rw [tmod_nat]; omega, rfl⟩)), k + 1, by omega, by omega⟩
    · simp at h

theorem in_near {H W k : Nat} (hW : 0 < W) {j : Int} (h : Adj W (k : Int) j) (h0 : 0 ≤ j) (h1 : j < ((H * W : Nat) : Int)) : j ∈ nearL H W k := by
  have e := Nat.div_add_mod k W
  have m := Nat.mod_lt k hW
  unfold nearL
  simp only [List.mem_append]
  rcases h with rfl | rfl | ⟨h, rfl⟩ | ⟨h, rfl⟩
  · have : 0 < k / W := Nat.div_pos (by omega) hW
    exact .inl (.inl (.inl (by simp [this])))
  · have : k / W + 1 < H := by
      have : (k + W) / W < H := Nat.div_lt_of_lt_mul (by rw [Nat.mul_comm]; omega)
      rwa [Nat.add_div_right _ hW] at this
    exact .inl (.inl (.inr (by simp [this])))
  · rw [tmod_nat] at h
    have : 0 < k % W := by omega
    exact .inl (.inr (by simp [this]))
  · rw [tmod_nat] at h
    have : k % W + 1 < W := by omega
    exact .inr (by simp [this])

/-- What holds of the list and of what has been seen. -/
structure Inv (W : Nat) (least : Int) (ds : List Int) (S0 : List Bool) (f : Int) (l : List Int) (s : List Bool) : Prop where
  len : s.length = ds.length
  sum : (l.length : Int) + (cnt (rest least ds s) : Int) = (cnt S0 : Int)
  sub : ∀ i, Mem (rest least ds s) i → Mem S0 i
  mem : ∀ i, Mem S0 i → ¬ Mem (rest least ds s) i → i ∈ l
  mem2 : ∀ i ∈ l, Mem S0 i ∧ ¬ Mem (rest least ds s) i
  least : ∀ T : Int → Prop, T f → Closed W S0 T → ∀ i ∈ l, T i

def bfsF (least : Int) (ds : List Int) (b : List Int × List Bool) (j : Int) : List Int × List Bool :=
  if (rest least ds b.2).getD j.toNat false then (b.1 ++ [j], b.2.set j.toNat true) else b

theorem Inv.step {W : Nat} {least : Int} {ds : List Int} {S0 : List Bool} {f : Int} {l : List Int} {s : List Bool} (h : Inv W least ds S0 f l s) {k j : Int} (hk : k ∈ l) (ha : Adj W k j) {q : Nat} (hj : j = (q : Int)) :
    Inv W least ds S0 f (bfsF least ds (l, s) j).1 (bfsF least ds (l, s) j).2 ∧ ¬ Mem (rest least ds (bfsF least ds (l, s) j).2) j ∧ (∀ i, Mem (rest least ds (bfsF least ds (l, s) j).2) i → Mem (rest least ds s) i) := by
  subst hj
  unfold bfsF
  simp only [Int.toNat_natCast]
  by_cases hc : (rest least ds s).getD q false = true
  · have hq : (rest least ds s)[q]? = some true := by
      rw [List.getD_eq_getElem?_getD] at hc
      cases hg : (rest least ds s)[q]? with
      | none => simp [hg] at hc
      | some b => simp [hg] at hc; rw [hc]
    have hlt := lt_of_get hq
    have hm : Mem (rest least ds s) (q : Int) := mem_nat.2 hq
    simp only [hc, if_true]
    rw [rest_set]
    have hsub : ∀ i, Mem ((rest least ds s).set q false) i → Mem (rest least ds s) i := fun i hi => ((mem_set_false hlt i).1 hi).1
    refine ⟨⟨by simpa using h.len, ?_, ?_, ?_, ?_, ?_⟩, fun hh => ((mem_set_false hlt _).1 hh).2 rfl, hsub⟩
    · rw [rest_set]
      have := cnt_set _ q hq
      have := h.sum
      simp only [List.length_append, List.length_singleton]; omega
    · rw [rest_set]; exact fun i hi => h.sub i (hsub i hi)
    · rw [rest_set]
      intro i hS hn
      by_cases e : i = (q : Int)
      · simp [e]
      · have : ¬ Mem (rest least ds s) i := fun hm => hn ((mem_set_false hlt i).2 ⟨hm, e⟩)
        simp [h.mem i hS this]
    · rw [rest_set]
      intro i hi
      simp only [List.mem_append, List.mem_singleton] at hi
      rcases hi with hi | rfl
      · exact ⟨(h.mem2 i hi).1, fun hh => (h.mem2 i hi).2 (hsub i hh)⟩
      · exact ⟨h.sub _ hm, fun hh => ((mem_set_false hlt _).1 hh).2 rfl⟩
    · intro T hT hcl i hi
      simp only [List.mem_append, List.mem_singleton] at hi
      rcases hi with hi | rfl
      · exact h.least T hT hcl i hi
      · exact hcl k _ (h.least T hT hcl k hk) (h.mem2 k hk).1 ha (h.sub _ hm)
  · simp only [hc, Bool.false_eq_true, if_false]
    refine ⟨h, fun hm => ?_, fun _ h => h⟩
    have := mem_nat.1 hm
    rw [List.getD_eq_getElem?_getD, this] at hc
    simp at hc

theorem bfs_all {W : Nat} {least : Int} {ds : List Int} {S0 : List Bool} {f k : Int} : ∀ (js : List Int) {l : List Int} {s : List Bool}, Inv W least ds S0 f l s → k ∈ l → (∀ j ∈ js, Adj W k j ∧ ∃ q : Nat, j = (q : Int)) →
    Inv W least ds S0 f (js.foldl (bfsF least ds) (l, s)).1 (js.foldl (bfsF least ds) (l, s)).2 ∧ (∀ j ∈ js, ¬ Mem (rest least ds (js.foldl (bfsF least ds) (l, s)).2) j) ∧ (∀ i, Mem (rest least ds (js.foldl (bfsF least ds) (l, s)).2) i → Mem (rest least ds s) i) ∧ ∃ t, (js.foldl (bfsF least ds) (l, s)).1 = l ++ t
  | [], l, s, h, _, _ => ⟨h, fun j hj => by simp at hj, fun _ h => h, [], by simp⟩
  | j :: js, l, s, h, hk, hj => by
    obtain ⟨ha, q, hq⟩ := hj j (by simp)
    obtain ⟨h1, h2, h3⟩ := h.step hk ha hq
    have hp : ∃ t, (bfsF least ds (l, s) j).1 = l ++ t := by
      unfold bfsF; split
      · exact ⟨_, rfl⟩
      · exact ⟨[], by simp⟩
    obtain ⟨t, ht⟩ := hp
    obtain ⟨g1, g2, g3, u, g4⟩ := bfs_all js h1 (by rw [ht]; simp [hk]) (fun i hi => hj i (by simp [hi]))
    simp only [List.foldl_cons]
    refine ⟨g1, fun i hi => ?_, fun i hi => h3 i (g3 i hi), t ++ u, by rw [g4, ht, List.append_assoc]⟩
    simp only [List.mem_cons] at hi
    rcases hi with rfl | hi
    · exact fun hm => h2 (g3 _ hm)
    · exact g2 i hi

section
variable {rows : List (List UInt8)} {W : Nat} {r0 : List UInt8} (h : Wear rows W r0)
include h

theorem cond_eval (n : Nat) (least : Int) (s : List Bool) (hs : s.length = rows.length * W) (k : Nat) (hk : k < rows.length * W) :
    (Option.bind (idx s (k : Int)) fun x1167 =>
      if (!x1167) then
      Option.bind (quo .i64 (k : Int) (r0.length : Int)) fun x1170 =>
      Option.bind (rem (k : Int) (r0.length : Int)) fun x1172 =>
      Option.bind (m_spec_l20At n rows x1170 x1172) fun x1174 =>
      some (decide (x1174 ≥ least))
      else
      some false) = some ((rest least (rows.flatMap (·.map dv)) s).getD k false) := by
  have hW := h.hW; have hc := h.cells
  obtain ⟨d, hd, hat⟩ := h.at_ n k hk
  obtain ⟨b, hb⟩ : ∃ b, s[k]? = some b := ⟨_, List.getElem?_eq_getElem (by omega)⟩
  have hg := rest_get (least := least) hd hb
  rw [List.getD_eq_getElem?_getD, hg, h.hr0, idx_nat, hb]
  simp only [Option.bind_some, quo_div (i := k) (W := W) (by omega) (by omega), rem_mod (i := k) (W := W) (by omega), hat]
  cases b <;> simp

theorem inner_bfs (n : Nat) (hn : 1048576 < n) (least : Int) {S0 : List Bool} {f : Int} {l : List Int} {s : List Bool} (hI : Inv W least (rows.flatMap (·.map dv)) S0 f l s) (hS0 : S0.length ≤ 96) {k : Nat} (hkl : (k : Int) ∈ l) (hk : k < rows.length * W) :
    loopN (m_spec_l20Area_l3 n rows least r0 (nearL rows.length W k)) n (l, 0, s) = some ((nearL rows.length W k).foldl (bfsF least (rows.flatMap (·.map dv))) (l, s)) := by
  have hW := h.hW; have hc := h.cells; have hf := h.flat
  have hnl : (nearL rows.length W k).length ≤ 4 := by
    unfold nearL; simp only [List.length_append]; repeat' split
    all_goals simp
  refine (loopN_fold (body := m_spec_l20Area_l3 n rows least r0 (nearL rows.length W k)) (nearL rows.length W k) (bfsF least (rows.flatMap (·.map dv))) (l, s) (fun i b => (b.1, (i : Int), b.2)) id (fun i b => Inv W least (rows.flatMap (·.map dv)) S0 f b.1 b.2 ∧ (k : Int) ∈ b.1) ⟨hI, hkl⟩ (fun i j b hj hb => ?_) (fun b _ => ?_) n (by omega)).1
  · have hlt := lt_of_get hj
    obtain ⟨ha, q, rfl, hq⟩ := near_in (by omega) hk (List.mem_of_getElem? hj)
    obtain ⟨hb1, hb2⟩ := hb
    obtain ⟨s1, s2, s3⟩ := hb1.step hb2 ha rfl
    have hbl : b.1.length ≤ 96 := by have := hb1.sum; have := cnt_le S0; omega
    have hsl : b.2.length = rows.length * W := by rw [hb1.len, hf]
    refine ⟨?_, s1, ?_⟩
    · unfold m_spec_l20Area_l3 bfsF
      simp only [ltB hlt, if_true, idx_nat, hj, Option.bind_some, succ64 hlt (by omega)]
      have := cond_eval h n least b.2 hsl q hq
      simp only [idx_nat] at this
      rw [this]
      simp only [Option.bind_some, Int.toNat_natCast]
      by_cases hg : (rest least (rows.flatMap (·.map dv)) b.2).getD q false = true
      · obtain ⟨v, hv⟩ : ∃ v, b.2[q]? = some v := ⟨_, List.getElem?_eq_getElem (by omega)⟩
        simp only [hg, if_true, hv, Option.bind_some]
        rw [app_eq (by simp; omega)]; rfl
      · simp only [hg, Bool.false_eq_true, if_false, Option.bind_some]
    · unfold bfsF; split
      · simp [hb2]
      · exact hb2
  · unfold m_spec_l20Area_l3; simp

theorem bfs_loop (n : Nat) (hn : 1048576 < n) (least : Int) {S0 : List Bool} {f : Int} (hS0 : S0.length = rows.length * W) (hf0 : Mem S0 f) :
    ∀ (m i : Nat) (l : List Int) (s : List Bool), Inv W least (rows.flatMap (·.map dv)) S0 f l s → (f ∈ l) → (∀ i' x, i' < i → l[i']? = some x → ∀ j, Adj W x j → ¬ Mem (rest least (rows.flatMap (·.map dv)) s) j) → i ≤ l.length → 97 - i < m →
      ∃ l' s', loopN (m_spec_l20Area_l1 n rows least r0) m (l, (i : Int), s) = some (l', s') ∧ Post W S0 f (l'.length : Int) (rest least (rows.flatMap (·.map dv)) s') ∧ s'.length = rows.length * W := by
  have hW := h.hW; have hc := h.cells; have hfl := h.flat
  intro m
  induction m with
  | zero => intro i l s _ _ _ _ hm; omega
  | succ m ih =>
    intro i l s hI hfl0 hdone hil hm
    have hll : l.length ≤ 96 := by have := hI.sum; have := cnt_le S0; omega
    have hsl : s.length = rows.length * W := by rw [hI.len, hfl]
    by_cases hlt : i < l.length
    · obtain ⟨x, hx⟩ : ∃ x, l[i]? = some x := ⟨_, List.getElem?_eq_getElem hlt⟩
      have hxm := List.mem_of_getElem? hx
      obtain ⟨k, rfl, hk1, hk2⟩ := (hI.mem2 x hxm).1.nat
      rw [hS0] at hk2
      have hin := inner_bfs h n hn least hI (by omega) hxm hk2
      have hall := bfs_all (nearL rows.length W k) hI hxm (fun j hj => by
        obtain ⟨q1, q, q2, _⟩ := near_in (by omega) hk2 hj
        exact ⟨q1, q, q2⟩)
      obtain ⟨b, hb⟩ : ∃ b, b = (nearL rows.length W k).foldl (bfsF least (rows.flatMap (·.map dv))) (l, s) := ⟨_, rfl⟩
      rw [← hb] at hin hall
      obtain ⟨a1, a2, a3, t, a4⟩ := hall
      have step : m_spec_l20Area_l1 n rows least r0 (l, (i : Int), s) = some (.next (b.1, ((i + 1 : Nat) : Int), b.2)) := by
        have hkW : k / W ≤ k := Nat.div_le_self _ _
        have hkm : k % W ≤ k := Nat.mod_le _ _
        have hz1 : (0 : Int) ≤ ((k / W : Nat) : Int) := Int.natCast_nonneg _
        have hz2 : (0 : Int) ≤ ((k % W : Nat) : Int) := Int.natCast_nonneg _
        have hW2 := h.hW2
        have n1 : (if (decide (((k / W : Nat) : Int) > 0)) then Option.bind (app ([] : List Int) ([(wI64 ((k : Int) - (W : Int)))] : List Int)) fun x753 => some x753 else some ([] : List Int)) = some (if 0 < k / W then [(k : Int) - W] else []) := by
          by_cases hq : 0 < k / W
          · have : decide (((k / W : Nat) : Int) > 0) = true := decide_eq_true (by omega)
            rw [this, wI64_eq (by omega) (by omega)]; simp [hq, app, big]
          · have : decide (((k / W : Nat) : Int) > 0) = false := decide_eq_false (by omega)
            rw [this]; simp [hq]
        have w1 : wI64 (((k / W : Nat) : Int) + 1) = ((k / W + 1 : Nat) : Int) := by rw [wI64_eq (by omega) (by omega)]; omega
        have w2 : wI64 (((k % W : Nat) : Int) + 1) = ((k % W + 1 : Nat) : Int) := by rw [wI64_eq (by omega) (by omega)]; omega
        have n2 : ∀ N1 : List Int, N1.length ≤ 10 → (if (decide (((k / W + 1 : Nat) : Int) < (rows.length : Int))) then Option.bind (app N1 ([(wI64 ((k : Int) + (W : Int)))] : List Int)) fun x805 => some x805 else some N1) = some (N1 ++ if k / W + 1 < rows.length then [(k : Int) + W] else []) := by
          intro N1 hN
          by_cases hq : k / W + 1 < rows.length
          · have : decide (((k / W + 1 : Nat) : Int) < (rows.length : Int)) = true := decide_eq_true (by omega)
            rw [this, wI64_eq (by omega) (by omega), app_eq (by simp; omega)]; simp [hq]
          · have : decide (((k / W + 1 : Nat) : Int) < (rows.length : Int)) = false := decide_eq_false (by omega)
            rw [this]; simp [hq]
        have n3 : ∀ N1 : List Int, N1.length ≤ 10 → (if (decide (((k % W : Nat) : Int) > 0)) then Option.bind (app N1 ([(wI64 ((k : Int) - 1))] : List Int)) fun x857 => some x857 else some N1) = some (N1 ++ if 0 < k % W then [(k : Int) - 1] else []) := by
          intro N1 hN
          by_cases hq : 0 < k % W
          · have : decide (((k % W : Nat) : Int) > 0) = true := decide_eq_true (by omega)
            rw [this, wI64_eq (by omega) (by omega), app_eq (by simp; omega)]; simp [hq]
          · have : decide (((k % W : Nat) : Int) > 0) = false := decide_eq_false (by omega)
            rw [this]; simp [hq]
        have n4 : ∀ N1 : List Int, N1.length ≤ 10 → (if (decide (((k % W + 1 : Nat) : Int) < (W : Int))) then Option.bind (app N1 ([(wI64 ((k : Int) + 1))] : List Int)) fun x909 => some x909 else some N1) = some (N1 ++ if k % W + 1 < W then [(k : Int) + 1] else []) := by
          intro N1 hN
          by_cases hq : k % W + 1 < W
          · have : decide (((k % W + 1 : Nat) : Int) < (W : Int)) = true := decide_eq_true (by omega)
            rw [this, wI64_eq (by omega) (by omega), app_eq (by simp; omega)]; simp [hq]
          · have : decide (((k % W + 1 : Nat) : Int) < (W : Int)) = false := decide_eq_false (by omega)
            rw [this]; simp [hq]
        have l1 : ∀ (c : Prop) [Decidable c] (z : Int), (if c then [z] else []).length ≤ 1 := fun c _ z => by split <;> simp
        unfold m_spec_l20Area_l1
        simp only [ltB hlt, if_true, idx_nat, hx, Option.bind_some, h.hr0, quo_div (i := k) (W := W) (by omega) (by omega), rem_mod (i := k) (W := W) (by omega), w1, w2, succ64 hlt (by omega)]
        rw [n1]
        simp only [Option.bind_some]
        rw [n2 _ (by have := l1 (0 < k / W) ((k : Int) - W); omega)]
        simp only [Option.bind_some]
        rw [n3 _ (by have := l1 (0 < k / W) ((k : Int) - W); have := l1 (k / W + 1 < rows.length) ((k : Int) + W); simp only [List.length_append]; omega)]
        simp only [Option.bind_some]
        rw [n4 _ (by have := l1 (0 < k / W) ((k : Int) - W); have := l1 (k / W + 1 < rows.length) ((k : Int) + W); have := l1 (0 < k % W) ((k : Int) - 1); simp only [List.length_append]; omega)]
        simp only [Option.bind_some]
        have e : nearL rows.length W k = (((if 0 < k / W then [(k : Int) - W] else []) ++ (if k / W + 1 < rows.length then [(k : Int) + W] else [])) ++ (if 0 < k % W then [(k : Int) - 1] else [])) ++ (if k % W + 1 < W then [(k : Int) + 1] else []) := rfl
        rw [← e, hin]
        rfl
      obtain ⟨l', s', r1, r2, r3⟩ := ih (i + 1) b.1 b.2 a1 (by rw [a4]; simp [hfl0]) (fun i' x hi' hx' j ha hj => by
        by_cases e : i' = i
        · subst e
          rw [a4, List.getElem?_append_left hlt, hx] at hx'
          cases hx'
          have hS := a1.sub j hj
          obtain ⟨q, rfl, _, hq2⟩ := hS.nat
          exact a2 _ (in_near (by omega) ha (by omega) (by omega)) hj
        · rw [a4, List.getElem?_append_left (by omega)] at hx'
          exact hdone i' x (by omega) hx' j ha (a3 j hj)) (by rw [a4]; simp; omega) (by omega)
      refine ⟨l', s', ?_, r2, r3⟩
      simp only [loopN, step, Option.bind_some]
      exact r1
    · have hie : i = l.length := by omega
      refine ⟨l, s, ?_, ⟨by rw [rest_len hfl hsl, hS0], hI.sub, hI.sum, (hI.mem2 f hfl0).2, ?_, ?_⟩, hsl⟩
      · subst hie
        simp [loopN, m_spec_l20Area_l1]
      · intro r j hr hn ha
        have hrl := hI.mem r hr hn
        obtain ⟨i', hi'⟩ := List.getElem?_of_mem hrl
        exact hdone i' r (by have := lt_of_get hi'; omega) hi' j ha
      · intro T hT hcl r hr hn
        exact hI.least T (hT hf0) hcl r (hI.mem r hr hn)

/-- Breadth first. -/
theorem p_specArea (n : Nat) (hn : 1048576 < n) (least : Int) (s : List Bool) (hs : s.length = rows.length * W) (k : Nat) (hk : Mem (rest least (rows.flatMap (·.map dv)) s) (k : Int)) :
    ∃ c s', m_spec_l20Area n rows s (k : Int) least = some (c, s') ∧ Post W (rest least (rows.flatMap (·.map dv)) s) (k : Int) c (rest least (rows.flatMap (·.map dv)) s') ∧ s'.length = rows.length * W := by
  have hfl := h.flat; have hc := h.cells
  have hkg := mem_nat.1 hk
  have hlt := lt_of_get hkg
  have hrl := rest_len (least := least) hfl hs
  have h1 := cnt_set _ k hkg
  have hI : Inv W least (rows.flatMap (·.map dv)) (rest least (rows.flatMap (·.map dv)) s) (k : Int) [(k : Int)] (s.set k true) := by
    refine ⟨by simp [hs, hfl], ?_, ?_, ?_, ?_, ?_⟩
    · rw [rest_set]; simp only [List.length_singleton]; omega
    · rw [rest_set]; exact fun i hi => ((mem_set_false hlt i).1 hi).1
    · rw [rest_set]
      intro i hS hnn
      by_cases e : i = (k : Int)
      · simp [e]
      · exact absurd ((mem_set_false hlt i).2 ⟨hS, e⟩) hnn
    · rw [rest_set]
      intro i hi
      simp only [List.mem_singleton] at hi
      subst hi
      exact ⟨hk, fun hh => ((mem_set_false hlt _).1 hh).2 rfl⟩
    · intro T hT _ i hi
      simp only [List.mem_singleton] at hi
      subst hi; exact hT
  obtain ⟨l', s', r1, r2, r3⟩ := bfs_loop h n hn least (by rw [hrl]) hk n 0 [(k : Int)] (s.set k true) hI (by simp) (fun i' x hi => by omega) (by simp) (by omega)
  obtain ⟨v, hv⟩ : ∃ v, s[k]? = some v := ⟨_, List.getElem?_eq_getElem (by omega)⟩
  refine ⟨(l'.length : Int), s', ?_, r2, r3⟩
  unfold m_spec_l20Area
  simp only [idx_zero, h.h0, Option.bind_some, idx_nat, hv, Int.toNat_natCast]
  have r1' : loopN (m_spec_l20Area_l1 n rows least r0) n ([(k : Int)], 0, s.set k true) = some (l', s') := r1
  rw [r1']; rfl

end

/-- Areas taken one after the other. -/
inductive Areas (W : Nat) : List Bool → List Int → List Bool → Prop where
  | nil (S : List Bool) : Areas W S [] S
  | cons {S S1 S2 : List Bool} {f c : Int} {l : List Int} : Mem S f → Post W S f c S1 → Areas W S1 l S2 → Areas W S (c :: l) S2

theorem post_pos {W : Nat} {S S' : List Bool} {f c : Int} (h : Post W S f c S') : (Mem S f → 1 ≤ c) ∧ (¬ Mem S f → c = 0 ∧ S' = S) := by
  refine ⟨fun hf => ?_, fun hf => ?_⟩
  · obtain ⟨k, rfl, hk, hlt⟩ := hf.nat
    have hsub : ∀ i, Mem S' i → Mem (S.set k false) i := fun i hi => (mem_set_false hlt i).2 ⟨h.sub i hi, fun e => h.out (by rw [← e]; exact hi)⟩
    have mono : ∀ (A B : List Bool), A.length = B.length → (∀ i, Mem A i → Mem B i) → cnt A ≤ cnt B := by
      intro A
      induction A with
      | nil => intro B _ _; simp [cnt]
      | cons a A ih =>
        intro B hl hs
        cases B with
        | nil => simp at hl
        | cons b B =>
          have := ih B (by simpa using hl) (fun i hi => by
            obtain ⟨q, rfl, hq, _⟩ := hi.nat
            have := mem_nat.1 (hs ((q + 1 : Nat) : Int) (mem_nat.2 (by simpa using hq)))
            exact mem_nat.2 (by simpa using this))
          have hb : a = true → b = true := fun e => by
            subst e
            have := hs 0 (by simp [Mem, idx])
            simpa [Mem, idx] using this
          simp only [cnt]
          cases a <;> cases b <;> simp_all <;> omega
    have h1 := mono S' (S.set k false) (by simp [h.len]) hsub
    have h2 := cnt_set S k hk
    have := h.sum
    omega
  · obtain ⟨e1, e2⟩ := h.uniq (Post.none hf)
    exact ⟨e2, e1⟩

theorem p_areas {rows : List (List UInt8)} {W : Nat} {r0 : List UInt8} (h : Wear rows W r0) (n : Nat) (hn : 1048576 < n) (least : Int) (q : List Bool) (hq : q.length = rows.length * W) :
    ∀ (m i : Nat) (out : List Int) (s : List Bool), s.length = rows.length * W → i ≤ rows.length * W → out.length ≤ i → (∀ j : Nat, j < i → ¬ Mem (rest least (rows.flatMap (·.map dv)) s) (j : Int)) → rows.length * W - i < m →
      ∃ l s', loopN (m_spec_WornAreas_l1 n rows least r0) m (out, (i : Int), s) = some (out ++ l, s') ∧ loopN (m_impl_WornAreas_l3 n rows q) m (out, (i : Int), rest least (rows.flatMap (·.map dv)) s) = some (out ++ l, rest least (rows.flatMap (·.map dv)) s') ∧
        Areas W (rest least (rows.flatMap (·.map dv)) s) l (rest least (rows.flatMap (·.map dv)) s') ∧ (out ++ l).length ≤ rows.length * W ∧ (∀ j, ¬ Mem (rest least (rows.flatMap (·.map dv)) s') j) := by
  have hW := h.hW; have hc := h.cells; have hfl := h.flat
  intro m
  induction m with
  | zero => intro i out s _ _ _ _ hm; omega
  | succ m ih =>
    intro i out s hs hi ho hno hm
    have hrl := rest_len (least := least) hfl hs
    by_cases hlt : i < rows.length * W
    · obtain ⟨c, S', a1, a2⟩ := p_area W hW h.hW2 n (rest least (rows.flatMap (·.map dv)) s) (i : Int) (by omega) (by have := cnt_le (rest least (rows.flatMap (·.map dv)) s); omega) (by omega) (by omega)
      have hce := cond_eval h n least s hs i hlt
      have himp : ∀ o2 : List Int, (Option.bind (if (decide (c > 0)) then Option.bind (app out ([c] : List Int)) fun x417 => some x417 else some out) fun x403 => (some (Step.next (x403, (wI64 ((i : Int) + 1)), S')) : Option (Step (List Int × Int × List Bool) (List Int × List Bool)))) = some (.next (o2, ((i + 1 : Nat) : Int), S')) → m_impl_WornAreas_l3 n rows q (out, (i : Int), rest least (rows.flatMap (·.map dv)) s) = some (.next (o2, ((i + 1 : Nat) : Int), S')) := by
        intro o2 he
        unfold m_impl_WornAreas_l3
        have hqi : i < q.length := by omega
        simp only [ltB hqi, if_true, idx_zero, h.h0, Option.bind_some, h.hr0, a1]
        exact he
      by_cases hmem : Mem (rest least (rows.flatMap (·.map dv)) s) (i : Int)
      · obtain ⟨c2, s2, b1, b2, b3⟩ := p_specArea h n hn least s hs i hmem
        obtain ⟨rfl, rfl⟩ := a2.uniq b2
        have hpos := (post_pos a2).1 hmem
        have hg := mem_nat.1 hmem
        have happ : app out ([c] : List Int) = some (out ++ [c]) := app_eq (by simp; omega)
        have e1 : m_spec_WornAreas_l1 n rows least r0 (out, (i : Int), s) = some (.next (out ++ [c], ((i + 1 : Nat) : Int), s2)) := by
          unfold m_spec_WornAreas_l1
          have hsi : i < s.length := by omega
          simp only [ltB hsi, if_true]
          rw [hce]
          simp only [Option.bind_some, List.getD_eq_getElem?_getD, hg, Option.getD_some, if_true, b1, happ, succ64 hsi (by omega)]
        have e2 := himp (out ++ [c]) (by
          have : decide (c > 0) = true := by simp; omega
          simp only [this, if_true, happ, Option.bind_some, succ64 hlt (by omega)])
        obtain ⟨l, s', g1, g2, g3, g4, g5⟩ := ih (i + 1) (out ++ [c]) s2 b3 (by omega) (by simp; omega) (fun j hj hm2 => by
          by_cases e : j = i
          · subst e; exact a2.out hm2
          · exact hno j (by omega) (a2.sub _ hm2)) (by omega)
        refine ⟨c :: l, s', ?_, ?_, .cons hmem a2 g3, by simpa using g4, g5⟩
        · simp only [loopN, e1, Option.bind_some]
          rw [show out ++ c :: l = out ++ [c] ++ l by simp]; exact g1
        · simp only [loopN, e2, Option.bind_some]
          rw [show out ++ c :: l = out ++ [c] ++ l by simp]; exact g2
      · obtain ⟨rfl, rfl⟩ := (post_pos a2).2 hmem
        have hg : (rest least (rows.flatMap (·.map dv)) s).getD i false = false := by
          cases hb : (rest least (rows.flatMap (·.map dv)) s).getD i false with
          | false => rfl
          | true =>
            exfalso; apply hmem; rw [mem_nat]
            rw [List.getD_eq_getElem?_getD, List.getElem?_eq_getElem (by omega)] at hb
            rw [List.getElem?_eq_getElem (by omega)]
            simpa using hb
        have e1 : m_spec_WornAreas_l1 n rows least r0 (out, (i : Int), s) = some (.next (out, ((i + 1 : Nat) : Int), s)) := by
          unfold m_spec_WornAreas_l1
          have hsi : i < s.length := by omega
          simp only [ltB hsi, if_true]
          rw [hce]
          simp only [Option.bind_some, hg, Bool.false_eq_true, if_false, succ64 hsi (by omega)]
        have e2 := himp out (by
          simp only [Int.lt_irrefl, gt_iff_lt, decide_false, Bool.false_eq_true, if_false, Option.bind_some, succ64 hlt (by omega)])
        obtain ⟨l, s', g1, g2, g3, g4, g5⟩ := ih (i + 1) out s hs (by omega) (by omega) (fun j hj hm2 => by
          by_cases e : j = i
          · subst e; exact hmem hm2
          · exact hno j (by omega) hm2) (by omega)
        refine ⟨l, s', ?_, ?_, g3, g4, g5⟩
        · simp only [loopN, e1, Option.bind_some]; exact g1
        · simp only [loopN, e2, Option.bind_some]; exact g2
    · have hie : i = rows.length * W := by omega
      refine ⟨[], s, ?_, ?_, .nil _, by simpa using Nat.le_trans ho hi, fun j hj => ?_⟩
      · subst hie; simp [loopN, m_spec_WornAreas_l1, hs]
      · subst hie; simp [loopN, m_impl_WornAreas_l3, hq]
      · obtain ⟨k, rfl, _, hk⟩ := hj.nat
        exact hno k (by omega) hj

/-- What is worn at first. -/
def wornS (least : Int) (rows : List (List UInt8)) : List Bool := (rows.flatMap (·.map dv)).map fun d => decide (d ≥ least)

theorem rest_first (least : Int) : ∀ (ds : List Int), rest least ds (List.replicate ds.length false) = ds.map fun d => decide (d ≥ least)
  | [] => rfl
  | d :: ds => by
    have := rest_first least ds
    unfold rest at this ⊢
    simp [List.replicate_succ, this]

theorem p_WornAreas (n : Nat) (rows : List (List UInt8)) (least : Int) (hr : rows.length ≤ 1048576) (ht : total rows ≤ 1048576) (hn : 1048576 < n) :
    ∃ l e, l.length ≤ 400 ∧ m_spec_WornAreas n rows least = some (l, e) ∧ m_impl_WornAreas n rows least = some (l, e) ∧
      ((1 ≤ least ∧ least ≤ 9) → ∀ W r0, Wear rows W r0 → e = 0 ∧ ∃ S', Areas W (wornS least rows) l S' ∧ ∀ j, ¬ Mem S' j) := by
  have hs : ∀ r ∈ rows, r.length ≤ 1048576 := fun r hr => by have := mem_le_total hr; omega
  unfold m_spec_WornAreas m_impl_WornAreas
  obtain ⟨c1, c2⟩ := p_wearCode n rows least hr hs hn
  rw [c1, c2]
  simp only [Option.bind_some]
  have noWear : ¬ wearB rows = true → ∀ W r0, ¬ Wear rows W r0 := by
    intro hw W r0 h
    apply hw
    unfold wearB
    have hh : rows.headD [] = r0 := by
      have := h.h0; cases rows with
      | nil => simp at this
      | cons a b => simpa using this
    have h1 := h.hH; have h2 := h.hH2; have h3 := h.hW; have h4 := h.hW2
    simp only [Bool.and_eq_true, decide_eq_true_eq, List.all_eq_true]
    refine ⟨⟨h1, h2⟩, fun r hr => ?_⟩
    unfold rowB
    have := h.hu r hr
    simp only [Bool.and_eq_true, beq_iff_eq, decide_eq_true_eq, List.all_eq_true, hh, h.hr0]
    exact ⟨⟨this, by omega, by omega⟩, h.hd r hr⟩
  by_cases hw : wearB rows = true
  · by_cases hl : 1 ≤ least ∧ least ≤ 9
    · obtain ⟨W, r0, h⟩ := wear_of hw
      have hW := h.hW; have hc := h.cells; have hfl := h.flat
      simp only [hw, hl, and_self, if_true, bne_self_eq_false, Bool.false_eq_true, if_false, idx_zero, h.h0, Option.bind_some, h.hr0, p_digits n rows hr ht hn]
      have hmk : mk (false : Bool) (wI64 ((W : Int) * (rows.length : Int))) = some (List.replicate (rows.length * W) false) := by
        rw [← Int.natCast_mul, Nat.mul_comm W, wI64_eq (by omega) (by omega), mk_nat _ _ (by omega)]
      have hw1 : loopN (m_impl_WornAreas_l1 n least (rows.flatMap (·.map dv))) n (([] : List Bool), 0) = some (wornS least rows) := by
        have := loopN_collect (body := m_impl_WornAreas_l1 n least (rows.flatMap (·.map dv))) (rows.length * W) (fun i => decide ((rows.flatMap (·.map dv)).getD i 0 ≥ least)) id
          (fun i l hi hl => by
            have hg : (rows.flatMap (·.map dv))[i]? = some _ := getD_of (by omega) 0
            have hlt := lt_of_get hg
            unfold m_impl_WornAreas_l1
            simp only [ltB hlt, if_true, idx_nat, hg, Option.bind_some, succ64 hlt (by omega)]
            rw [app_eq (by simp; omega)]; rfl)
          (fun l hl => by unfold m_impl_WornAreas_l1; simp [hfl]) n (by omega)
        rw [this]
        unfold wornS
        congr 1
        show (List.range (rows.length * W)).map _ = _
        rw [← hfl]
        have := range_map_getD (rows.flatMap (·.map dv)) 0
        conv => rhs; rw [← this]
        rw [List.map_map]; rfl
      rw [hmk, hw1]
      simp only [Option.bind_some]
      have hq : (wornS least rows).length = rows.length * W := by simp only [wornS, List.length_map]; exact hfl
      obtain ⟨l, s', g1, g2, g3, g4, g5⟩ := p_areas h n hn least (wornS least rows) hq n 0 [] (List.replicate (rows.length * W) false) (by simp) (by omega) (by simp) (fun j hj => by omega) (by omega)
      have e0 : rest least (rows.flatMap (·.map dv)) (List.replicate (rows.length * W) false) = wornS least rows := by
        rw [← hfl]; exact rest_first least _
      rw [e0] at g2 g3
      simp only [List.nil_append] at g1 g2 g4
      have g1' : loopN (m_spec_WornAreas_l1 n rows least r0) n (([] : List Int), 0, List.replicate (rows.length * W) false) = some (l, s') := g1
      have g2' : loopN (m_impl_WornAreas_l3 n rows (wornS least rows)) n (([] : List Int), 0, wornS least rows) = some (l, _) := g2
      rw [g1', g2']
      refine ⟨l, 0, by omega, rfl, rfl, fun _ W2 r2 h2 => ?_⟩
      have : W2 = W := by
        have e1 := h.h0; have e2 := h2.h0
        rw [e1] at e2; cases e2
        rw [← h.hr0, ← h2.hr0]
      subst this
      exact ⟨rfl, _, g3, g5⟩
    · have h0 : ((2 : Int) != 0) = true := rfl
      simp only [hw, hl, if_true, if_false, h0]
      exact ⟨[], 2, by simp, rfl, rfl, fun h => absurd h (by simp)⟩
  · have h0 : ((1 : Int) != 0) = true := rfl
    simp only [hw, if_false, Bool.false_eq_true, h0, if_true]
    exact ⟨[], 1, by simp, rfl, rfl, fun _ W r0 h => absurd h (noWear hw W r0)⟩

/-- The statement on WornAreas. -/
theorem law_WornAreas (rows : List (List UInt8)) (least : Int) (hl : rows.length ≤ 9223372036854775807) (hs : ∀ r ∈ rows, strok r) (_ : i64ok least) : m_laws_FnExactWornAreas 2000000 rows least = some true := by
  unfold m_laws_FnExactWornAreas
  obtain ⟨v, hv, hc⟩ := sz_cases rows hl hs 1048576 (by omega) (by omega)
  rw [hv]
  simp only [Option.bind_some]
  rcases hc with h | ⟨h, _, _, h1, h2, h3⟩
  · simp [h]
  · obtain ⟨l, e, hll, e1, e2, _⟩ := p_WornAreas 2000000 rows least h1 h2 (by omega)
    have hne : ¬ (1 + (rows.length : Int) < 0) := by omega
    have hne2 : ¬ (1 + (l.length : Int) < 0) := by omega
    simp [h, p_toStringS 2000000 rows h1, e1, e2, p_eqStringS 2000000 rows h1, p_eqInt64S 2000000 l (by omega), p_markStringS 2000000 rows h1, p_markInt64S 2000000 l (by omega), p_heldInt64S 2000000 l.length (by omega), hne, hne2]

end Go.Gv
