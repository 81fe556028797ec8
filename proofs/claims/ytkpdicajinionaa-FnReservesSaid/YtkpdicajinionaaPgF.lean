/- Plain laws of stock: what many takes leave. -/
import Derived.Test.YtkpdicajinionaaPgD
namespace Go.Gv
open Go Go.RowKit

/-- One good with another number on hand. -/
def addG (g : SGood) (m : Int) : SGood := ⟨g.Name, g.OnHand + m, g.Reserved, g.Least⟩

theorem addG_zero (g : SGood) : addG g 0 = g := by unfold addG; cases g; simp

def namesG (l : List SGood) : List (List UInt8) := l.map (·.Name)

theorem find_names {l l' : List SGood} (h : namesG l = namesG l') (name : List UInt8) : findZ l name = findZ l' name := by
  have e : ∀ l : List SGood, l.findIdx? (fun g => g.Name == name) = (namesG l).findIdx? (fun w => w == name) := by
    intro l
    induction l with
    | nil => rfl
    | cons g l ih => simp only [namesG, List.map_cons, List.findIdx?_cons] at ih ⊢; rw [ih]
  unfold findZ
  rw [e l, e l', h]

theorem sumK_names {l l' : List SGood} (h : namesG l = namesG l') (k : Nat) (ts : List STake) : sumK l k ts = sumK l' k ts := by
  unfold sumK
  congr 1
  apply List.map_congr_left
  intro t _
  rw [find_names h]

theorem names_at {l : List SGood} {k : Nat} {g g' : SGood} (hg : l[k]? = some g) (hn : g'.Name = g.Name) : namesG (l.set k g') = namesG l := by
  unfold namesG
  rw [List.map_set]
  apply List.ext_getElem?
  intro i
  rw [List.getElem?_set]
  split
  · rename_i e
    subst e
    rw [List.getElem?_map, hg]
    have hk := lt_of_get hg
    simp [hk, hn]
  · rfl

theorem takeR_ok {b : List SGood} {t : STake} (h : (takeR b t).2 = 0) : ∃ (k : Nat) (g : SGood), findZ b t.Name = (k : Int) ∧ b[k]? = some g ∧ (takeR b t).1 = b.set k (addG g t.Many) ∧ g.Reserved ≤ g.OnHand + t.Many ∧ g.OnHand + t.Many ≤ 1000000 := by
  unfold takeR at h ⊢
  rcases find_cases b t.Name with h1 | ⟨k, h1, h2⟩
  · rw [if_pos (by omega)] at h; simp at h
  · rw [if_neg (by omega), h1, Int.toNat_natCast] at h ⊢
    obtain ⟨g, hg, _⟩ := find_get h1
    have hgd : b.getD k gD = g := by rw [List.getD_eq_getElem?_getD, hg]; rfl
    rw [hgd] at h ⊢
    unfold takeAt at h ⊢
    by_cases c1 : g.OnHand + t.Many < g.Reserved
    · rw [if_pos c1] at h; simp at h
    · by_cases c2 : g.OnHand + t.Many > 1000000
      · rw [if_neg c1, if_pos c2] at h; simp at h
      · rw [if_neg c1, if_neg c2]
        exact ⟨k, g, rfl, hg, rfl, by omega, by omega⟩

theorem set_getG {b : List SGood} {k q : Nat} {g : SGood} (hk : k < b.length) : (b.set k g).getD q gD = if k = q then g else b.getD q gD := by
  rw [List.getD_eq_getElem?_getD, List.getElem?_set]
  split
  · rename_i e; subst e; simp [hk]
  · rw [← List.getD_eq_getElem?_getD]

/-- What all takes leave, if all are made. -/
theorem run_sum (l0 : List SGood) : ∀ (ts : List STake) (i : Nat) (b b' : List SGood), runL (roundG l0) i ts b = .ok b' → b'.length = b.length ∧ namesG b' = namesG b ∧ ∀ k, k < b.length → b'.getD k gD = addG (b.getD k gD) (sumK b k ts)
  | [], i, b, b', h => by
    simp only [runL, Except.ok.injEq] at h
    subst h
    refine ⟨rfl, rfl, fun k _ => ?_⟩
    have : sumK b k [] = 0 := by simp [sumK]
    rw [this, addG_zero]
  | t :: ts, i, b, b', h => by
    by_cases hc : (takeR b t).2 = 0
    · have hr : roundG l0 i b t = .ok (takeR b t).1 := by unfold roundG; rw [if_pos hc]
      rw [runL, hr] at h
      simp only at h
      obtain ⟨q, g, h1, h2, h3, _, _⟩ := takeR_ok hc
      have hq := lt_of_get h2
      have hgd : b.getD q gD = g := by rw [List.getD_eq_getElem?_getD, h2]; rfl
      rw [h3] at h
      obtain ⟨i1, i2, i3⟩ := run_sum l0 ts _ _ _ h
      have hn := names_at (g' := addG g t.Many) h2 rfl
      refine ⟨by rw [i1]; simp, i2.trans hn, fun k hk => ?_⟩
      rw [i3 k (by simpa using hk), set_getG hq, sumK_names hn]
      have hs : sumK b k (t :: ts) = (if findZ b t.Name = (k : Int) then t.Many else 0) + sumK b k ts := by simp [sumK]
      rw [hs, h1]
      by_cases e : q = k
      · subst e
        rw [if_pos rfl, if_pos rfl, hgd]
        unfold addG; simp; omega
      · rw [if_neg e, if_neg (by omega), Int.zero_add]
    · have hr : roundG l0 i b t = .error (.inr (l0, (i : Int), 0)) := by unfold roundG; rw [if_neg hc]
      rw [runL, hr] at h
      simp at h

/-- Takes that only take away, and leave enough of all, are all made. -/
theorem run_down (l0 : List SGood) : ∀ (ts : List STake) (i : Nat) (b : List SGood), (∀ t ∈ ts, t.Many ≤ 0 ∧ 0 ≤ findZ b t.Name) →
    (∀ k, k < b.length → (b.getD k gD).Reserved ≤ (b.getD k gD).OnHand + sumK b k ts ∧ (b.getD k gD).OnHand ≤ 1000000) → ∃ b', runL (roundG l0) i ts b = .ok b'
  | [], i, b, _, _ => ⟨b, rfl⟩
  | t :: ts, i, b, ht, hb => by
    obtain ⟨t1, t2⟩ := ht t (by simp)
    have neg : ∀ (k : Nat) (us : List STake), (∀ u ∈ us, u.Many ≤ 0) → sumK b k us ≤ 0 := by
      intro k us
      induction us with
      | nil => intro _; simp [sumK]
      | cons u us ih =>
        intro hu
        have h1 := ih fun v hv => hu v (by simp [hv])
        have h2 := hu u (by simp)
        have : sumK b k (u :: us) = (if findZ b u.Name = (k : Int) then u.Many else 0) + sumK b k us := by simp [sumK]
        rw [this]; split <;> omega
    rcases find_cases b t.Name with h | ⟨q, h1, h2⟩
    · omega
    · obtain ⟨g, hg, _⟩ := find_get h1
      have hgd : b.getD q gD = g := by rw [List.getD_eq_getElem?_getD, hg]; rfl
      have hs : ∀ k, sumK b k (t :: ts) = (if findZ b t.Name = (k : Int) then t.Many else 0) + sumK b k ts := fun k => by simp [sumK]
      have hbq := hb q h2
      rw [hs q, if_pos h1, hgd] at hbq
      have hneg := neg q ts fun u hu => (ht u (by simp [hu])).1
      have hc : takeR b t = (b.set q (addG g t.Many), 0) := by
        unfold takeR
        rw [if_neg (by omega), h1, Int.toNat_natCast, hgd]
        unfold takeAt
        rw [if_neg (by omega), if_neg (by omega)]; rfl
      have hr : roundG l0 i b t = .ok (b.set q (addG g t.Many)) := by unfold roundG; rw [hc]; rfl
      rw [runL, hr]
      have hn := names_at (g' := addG g t.Many) hg rfl
      refine run_down l0 ts _ _ (fun u hu => ⟨(ht u (by simp [hu])).1, by rw [find_names hn]; exact (ht u (by simp [hu])).2⟩) fun k hk => ?_
      rw [List.length_set] at hk
      have hbk := hb k hk
      rw [sumK_names hn, set_getG h2]
      rw [hs k, h1] at hbk
      by_cases e : q = k
      · subst e
        rw [if_pos rfl] at hbk ⊢
        rw [hgd] at hbk
        exact ⟨by show g.Reserved ≤ g.OnHand + t.Many + _; omega, by show g.OnHand + t.Many ≤ _; omega⟩
      · rw [if_neg e]
        rw [if_neg (by omega)] at hbk
        exact ⟨by omega, hbk.2⟩

theorem goodsB_run (l0 : List SGood) : ∀ (ts : List STake) (i : Nat) (b b' : List SGood), goodsB b = true → runL (roundG l0) i ts b = .ok b' → goodsB b' = true
  | [], i, b, b', hb, h => by simp only [runL, Except.ok.injEq] at h; subst h; exact hb
  | t :: ts, i, b, b', hb, h => by
    by_cases hc : (takeR b t).2 = 0
    · have hr : roundG l0 i b t = .ok (takeR b t).1 := by unfold roundG; rw [if_pos hc]
      rw [runL, hr] at h
      obtain ⟨q, g, h1, h2, h3, h4, h5⟩ := takeR_ok hc
      simp only at h
      rw [h3] at h
      have hg := (stock_of hb).good g (List.mem_of_getElem? h2)
      obtain ⟨r1, r2, r3, r4, r5, r6⟩ := goodB_range hg
      refine goodsB_run l0 ts _ _ _ (goodsB_set hb h2 (g' := addG g t.Many) rfl ?_) h
      unfold goodB inRB at hg ⊢
      simp only [Bool.and_eq_true, decide_eq_true_eq] at hg ⊢
      refine ⟨hg.1, ?_, ?_, ?_⟩
      · show 0 ≤ g.OnHand + t.Many ∧ g.OnHand + t.Many ≤ 1000000; omega
      · show 0 ≤ g.Reserved ∧ g.Reserved ≤ g.OnHand + t.Many; omega
      · exact hg.2.2.2
    · have hr : roundG l0 i b t = .error (.inr (l0, (i : Int), 0)) := by unfold roundG; rw [if_neg hc]
      rw [runL, hr] at h
      simp at h

/-! ### What is missing -/

def missG (g : SGood) : Int := g.Least - (g.OnHand - g.Reserved)

theorem sum_single {α : Type} (h : α → Int) (d : α) : ∀ (l : List α) (k : Nat), k < l.length → (∀ j, j < l.length → j ≠ k → h (l.getD j d) = 0) → (l.map h).sum = h (l.getD k d)
  | [], k, hk, _ => by simp at hk
  | x :: l, 0, _, hz => by
    have : (l.map h).sum = 0 := by
      have key : ∀ (m : List α), (∀ y ∈ m, h y = 0) → (m.map h).sum = 0 := by
        intro m
        induction m with
        | nil => intro _; rfl
        | cons y m ih => intro hy; simp [hy y (by simp), ih fun z hz => hy z (by simp [hz])]
      refine key l fun y hy => ?_
      obtain ⟨j, hj⟩ := List.getElem?_of_mem hy
      have := hz (j + 1) (by simp; exact lt_of_get hj) (by omega)
      simpa [hj] using this
    simp [this]
  | x :: l, k + 1, hk, hz => by
    have h0 : h x = 0 := by simpa using hz 0 (by simp) (by omega)
    have ih := sum_single h d l k (by simpa using hk) (fun j hj hjk => by simpa using hz (j + 1) (by simpa using hj) (by omega))
    simp only [List.map_cons, List.sum_cons, h0, Int.zero_add, ih]
    simp

theorem find_self {l : List SGood} (hS : Stock l) {k : Nat} {g : SGood} (hg : l[k]? = some g) : findZ l g.Name = (k : Int) := by
  unfold findZ
  cases hf : l.findIdx? (fun h => h.Name == g.Name) with
  | none =>
    rw [List.findIdx?_eq_none_iff] at hf
    have := hf g (List.mem_of_getElem? hg)
    simp at this
  | some i =>
    rw [List.findIdx?_eq_some_iff_getElem] at hf
    obtain ⟨hi, he, hlt⟩ := hf
    have hgi : l[i]? = some l[i] := List.getElem?_eq_getElem hi
    have hne : l[i].Name = g.Name := by simpa using he
    have : i = k := by
      rcases Nat.lt_trichotomy i k with h1 | h1 | h1
      · have := hS.less i k _ _ h1 hgi hg
        rw [hne, sl_irr] at this; cases this
      · exact h1
      · have := hS.less k i _ _ h1 hg hgi
        rw [hne, sl_irr] at this; cases this
    subst this; rfl

theorem sum_short (b : List SGood) (k : Nat) : ∀ (l : List SGood) (acc : List STake), sumK b k (l.foldl shortF acc) = sumK b k acc + (l.map fun g => if missG g > 0 then (if findZ b g.Name = (k : Int) then missG g else 0) else 0).sum
  | [], acc => by simp
  | g :: l, acc => by
    rw [List.foldl_cons, sum_short b k l]
    have e : sumK b k (shortF acc g) = sumK b k acc + (if missG g > 0 then (if findZ b g.Name = (k : Int) then missG g else 0) else 0) := by
      unfold shortF missG
      by_cases h : g.Least - (g.OnHand - g.Reserved) > 0
      · rw [if_pos h, if_pos h]; simp [sumK]
      · rw [if_neg h, if_neg h]; simp
    rw [e]
    simp only [List.map_cons, List.sum_cons]; omega

theorem short_sum {b : List SGood} (hS : Stock b) {k : Nat} (hk : k < b.length) : sumK b k (b.foldl shortF []) = if missG (b.getD k gD) > 0 then missG (b.getD k gD) else 0 := by
  rw [sum_short]
  have h0 : sumK b k [] = 0 := by simp [sumK]
  rw [h0, Int.zero_add]
  have hat : ∀ j, j < b.length → findZ b (b.getD j gD).Name = (j : Int) := fun j hj => find_self hS (getD_of hj gD)
  rw [sum_single (fun g => if missG g > 0 then (if findZ b g.Name = (k : Int) then missG g else 0) else 0) gD b k hk (fun j hj hjk => by
    rw [hat j hj]
    split
    · rw [if_neg (by omega)]
    · rfl)]
  rw [hat k hk, if_pos rfl]

theorem short_mem : ∀ (l : List SGood) (acc : List STake) (t : STake), t ∈ l.foldl shortF acc → t ∈ acc ∨ ∃ g ∈ l, t = ⟨g.Name, missG g⟩ ∧ missG g > 0
  | [], acc, t, h => .inl h
  | g :: l, acc, t, h => by
    rw [List.foldl_cons] at h
    rcases short_mem l _ t h with h | ⟨g', h1, h2⟩
    · unfold shortF at h
      split at h
      · rename_i hp
        rcases List.mem_append.1 h with h | h
        · exact .inl h
        · simp at h; exact .inr ⟨g, by simp, h, hp⟩
      · exact .inl h
    · exact .inr ⟨g', by simp [h1], h2⟩

theorem short_nil : ∀ (l : List SGood) (acc : List STake), (∀ g ∈ l, ¬ missG g > 0) → l.foldl shortF acc = acc
  | [], _, _ => rfl
  | g :: l, acc, h => by
    rw [List.foldl_cons]
    have : shortF acc g = acc := by have hg := h g (by simp); unfold missG at hg; unfold shortF; rw [if_neg hg]
    rw [this]
    exact short_nil l acc fun g' hg => h g' (by simp [hg])

/-- Where all that is missing has come, nothing is missing. -/
theorem filled_none {b f : List SGood} (hv : goodsB b = true) (l0 : List SGood) (h : runL (roundG l0) 0 (b.foldl shortF []) b = .ok f) : shortR f = ([], 0) := by
  have hS := stock_of hv
  obtain ⟨h1, h2, h3⟩ := run_sum l0 _ _ _ _ h
  have hf := goodsB_run l0 _ _ _ _ hv h
  unfold shortR
  rw [if_pos hf, short_nil]
  intro g hg
  obtain ⟨k, hk⟩ := List.getElem?_of_mem hg
  have hlt := lt_of_get hk
  have hgd : f.getD k gD = g := by rw [List.getD_eq_getElem?_getD, hk]; rfl
  have := h3 k (by omega)
  rw [hgd, short_sum hS (by omega)] at this
  rw [this]
  unfold missG addG
  simp only
  split <;> omega

end Go.Gv
