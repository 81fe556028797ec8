/- Plain laws of prescriptions: changes, then those that lead back; merged changes. -/
import Derived.Test.YtlplbjeegkkilaaDoorPcU
import Derived.Test.YtlplbjeegkkilaaDoorPkb
namespace Go.Gv
open Go Go.RowKit

/-! ### What is drawn -/

theorem p_l22New (n : Nat) {code : List Int} (hc : bytesok code) (a : Nat) (ha : a ≤ 800000000) (seed : Int) :
    ∃ (c : SChange) (a' : Nat) (s' : Int), m_spec_l22New n code (a : Int) seed = some (c, (a' : Int), s') ∧ a' ≤ a + 6 ∧ vch c = true ∧ -60 ≤ c.Amount ∧ c.Amount ≤ 60 ∧ c.Amount ≠ 0 := by
  unfold m_spec_l22New
  obtain ⟨x, a1, s1, e1, x0, x1, h1⟩ := p_pick n hc a (by omega) seed 5 (by omega)
  rw [e1]; simp only [Option.bind_some]
  obtain ⟨y, a2, s2, e2, y0, y1, h2⟩ := p_pick n hc a1 (by omega) s1 60 (by omega)
  rw [e2]; simp only [Option.bind_some]
  obtain ⟨b, a3, s3, e3, h3⟩ := p_one n hc a2 (by omega) s2 2 (by omega)
  rw [e3]; simp only [Option.bind_some]
  have x2 := x1 (by omega); have y2 := y1 (by omega)
  have w1 : wI64 (1 + x) = 1 + x := wI64_eq (by omega) (by omega)
  have w2 : wI64 (1 + y) = 1 + y := wI64_eq (by omega) (by omega)
  have w3 : wI64 (0 - (1 + y)) = 0 - (1 + y) := wI64_eq (by omega) (by omega)
  have hv : ∀ am : Int, am ≠ 0 → -60 ≤ am → am ≤ 60 → vch ⟨1 + x, am⟩ = true := by
    intro am h0 hlo hhi
    have hmost : 150 ≤ mostC (1 + x) := by
      unfold mostC
      repeat' split
      all_goals omega
    unfold vch
    simp only [Bool.and_eq_true, decide_eq_true_eq]
    omega
  cases b with
  | true =>
    simp only [if_true, w1, w2, w3, Option.bind_some]
    exact ⟨_, a3, s3, rfl, by omega, hv _ (by omega) (by omega) (by omega), by show -60 ≤ 0 - (1 + y); omega, by show 0 - (1 + y) ≤ 60; omega, by show 0 - (1 + y) ≠ 0; omega⟩
  | false =>
    simp only [Bool.false_eq_true, if_false, w1, w2, Option.bind_some]
    exact ⟨_, a3, s3, rfl, by omega, hv _ (by omega) (by omega) (by omega), by show -60 ≤ 1 + y; omega, by show 1 + y ≤ 60; omega, by show 1 + y ≠ 0; omega⟩

theorem p_A2Changes (n : Nat) (hn : 1048576 < n) {code : List Int} (hc : bytesok code) : ∃ l, m_spec_A2Changes n code = some l ∧ l.length ≤ 5 ∧ ∀ c ∈ l, vch c = true := by
  unfold m_spec_A2Changes m_spec_l00From m_spec_l22Draw
  simp only [Option.bind_some]
  obtain ⟨x, a1, s1, e1, x0, x1, h1⟩ := p_pick n hc 0 (by omega) 0 6 (by omega)
  have e1' : m_spec_l00Src_pick n code 0 0 6 = some (x, (a1 : Int), s1) := e1
  rw [e1']; simp only [Option.bind_some]
  have x2 := x1 (by omega)
  obtain ⟨N, rfl⟩ : ∃ N : Nat, x = (N : Int) := ⟨x.toNat, by omega⟩
  have := loopN_count (body := m_spec_l22Draw_l1 n code) (fun i (s : List SChange × Int × Int × Int) => s.1.length = i ∧ s.2.1 = (N : Int) - (i : Int) ∧ (∀ c ∈ s.1, vch c = true) ∧ ∃ A : Nat, s.2.2.1 = (A : Int) ∧ A ≤ a1 + 6 * i) N
    (fun t => t.1.length ≤ 5 ∧ ∀ c ∈ t.1, vch c = true) (fun i s hi hJ => by
      obtain ⟨j1, j2, j3, A, j4, j5⟩ := hJ
      obtain ⟨c, A', S', e, h2, h3, _⟩ := p_l22New n hc A (by omega) s.2.2.2
      unfold m_spec_l22Draw_l1
      have hgt : decide (s.2.1 > 0) = true := decide_eq_true (by omega)
      have hw : wI64 (s.2.1 - 1) = (N : Int) - ((i + 1 : Nat) : Int) := by rw [wI64_eq (by omega) (by omega)]; omega
      simp only [hgt, if_true, j4, e, Option.bind_some, hw]
      rw [app_eq (by simp; omega)]
      simp only [Option.bind_some]
      refine ⟨_, rfl, by simp [j1], rfl, fun q hq => ?_, A', rfl, by omega⟩
      simp only [List.mem_append, List.mem_singleton] at hq
      rcases hq with hq | rfl
      · exact j3 q hq
      · exact h3)
    (fun s hJ => by
      obtain ⟨j1, j2, j3, A, j4, j5⟩ := hJ
      unfold m_spec_l22Draw_l1
      have hgt : decide (s.2.1 > 0) = false := decide_eq_false (by omega)
      simp only [hgt, Bool.false_eq_true, if_false]
      exact ⟨_, rfl, by show s.1.length ≤ 5; omega, j3⟩) n (by omega) (([] : List SChange), (N : Int), (a1 : Int), s1) ⟨rfl, by simp, by simp, a1, rfl, by omega⟩
  obtain ⟨t, h2, h3, h4⟩ := this
  rw [h2]
  exact ⟨t.1, rfl, h3, h4⟩

theorem p_A2Last (n : Nat) {code : List Int} (hc : bytesok code) : ∃ x, m_spec_A2Last n code = some x ∧ lastB x = true ∧ strok x.Name := by
  unfold m_spec_A2Last m_spec_l00From m_spec_l02Draw
  simp only [Option.bind_some]
  obtain ⟨v1, a1, s1, e1, l1, u1, b1⟩ := p_pick n hc 0 (by omega) 0 130 (by omega)
  have e1' : m_spec_l00Src_pick n code 0 0 130 = some (v1, (a1 : Int), s1) := e1
  rw [e1']; simp only [Option.bind_some]
  obtain ⟨v2, a2, s2, e2, l2, u2, b2⟩ := p_pick n hc a1 (by omega) s1 100 (by omega)
  rw [e2]; simp only [Option.bind_some]
  obtain ⟨v3, a3, s3, e3, l3, u3, b3⟩ := p_pick n hc a2 (by omega) s2 100 (by omega)
  rw [e3]; simp only [Option.bind_some]
  obtain ⟨v4, a4, s4, e4, l4, u4, b4⟩ := p_pick n hc a3 (by omega) s3 100 (by omega)
  rw [e4]; simp only [Option.bind_some]
  have w1 : ∀ {v : Int}, 0 ≤ v → v < 200 → wI64 (5 * v) = 5 * v := fun h h' => wI64_eq (by omega) (by omega)
  have u1' := u1 (by omega); have u2' := u2 (by omega); have u3' := u3 (by omega); have u4' := u4 (by omega)
  have q1 : wI64 (2200 + 5 * v1) = 2200 + 5 * v1 := wI64_eq (by omega) (by omega)
  have q2 : wI64 (2100 + 5 * v2) = 2100 + 5 * v2 := wI64_eq (by omega) (by omega)
  have q3 : wI64 (2200 + 5 * v3) = 2200 + 5 * v3 := wI64_eq (by omega) (by omega)
  have q4 : wI64 (3000 + 5 * v4) = 3000 + 5 * v4 := wI64_eq (by omega) (by omega)
  rw [w1 l1 (by omega), w1 l2 (by omega), w1 l3 (by omega), w1 l4 (by omega), q1, q2, q3, q4]
  unfold m_spec_l04New
  simp only [p_l00Min, p_l00Max]
  obtain ⟨t1, c1, d1, g1, m1, n1, o1⟩ := p_pick n hc a4 (by omega) s4 40 (by omega)
  rw [g1]; simp only [Option.bind_some]
  obtain ⟨t2, c2, d2, g2, m2, n2, o2⟩ := p_pick n hc c1 (by omega) d1 40 (by omega)
  rw [g2]; simp only [Option.bind_some]
  obtain ⟨t3, c3, d3, g3, m3, n3, o3⟩ := p_pick n hc c2 (by omega) d2 40 (by omega)
  rw [g3]; simp only [Option.bind_some]
  obtain ⟨t4, c4, d4, g4, m4, n4, o4⟩ := p_pick n hc c3 (by omega) d3 40 (by omega)
  rw [g4]; simp only [Option.bind_some]
  obtain ⟨t5, c5, d5, g5, m5, n5, o5⟩ := p_pick n hc c4 (by omega) d4 60 (by omega)
  rw [g5]; simp only [Option.bind_some]
  have n1' := n1 (by omega); have n2' := n2 (by omega); have n3' := n3 (by omega); have n4' := n4 (by omega); have n5' := n5 (by omega)
  have r1 : wI64 (2200 + 5 * v1 + 5 * t1) = 2200 + 5 * v1 + 5 * t1 := wI64_eq (by omega) (by omega)
  have r2 : wI64 (2100 + 5 * v2 + 5 * t2) = 2100 + 5 * v2 + 5 * t2 := wI64_eq (by omega) (by omega)
  have r3 : wI64 (2200 + 5 * v3 + 5 * t3) = 2200 + 5 * v3 + 5 * t3 := wI64_eq (by omega) (by omega)
  have r4 : wI64 (3000 + 5 * v4 + 5 * t4) = 3000 + 5 * v4 + 5 * t4 := wI64_eq (by omega) (by omega)
  have y2 : wI64 (2100 + 5 * v2 + 5 * t2 - 100) = 2100 + 5 * v2 + 5 * t2 - 100 := wI64_eq (by omega) (by omega)
  have y3 : wI64 (2200 + 5 * v3 + 5 * t3 - 100) = 2200 + 5 * v3 + 5 * t3 - 100 := wI64_eq (by omega) (by omega)
  have y4 : wI64 (3000 + 5 * v4 + 5 * t4 - 100) = 3000 + 5 * v4 + 5 * t4 - 100 := wI64_eq (by omega) (by omega)
  have y5 : wI64 (10 * t5) = 10 * t5 := wI64_eq (by omega) (by omega)
  rw [w1 m1 (by omega), w1 m2 (by omega), w1 m3 (by omega), w1 m4 (by omega), r1, r2, r3, r4, y2, y3, y4, y5]
  refine ⟨_, rfl, ?_, by show strok [100, 101, 114, 98, 121]; unfold strok; simp⟩
  have hN : nameB [100, 101, 114, 98, 121] = true := by decide
  unfold lastB inR
  simp only [hN, Bool.true_and, Bool.and_eq_true, decide_eq_true_eq]
  omega

/-! ### Lasts by their measures -/

def getK (y : SLast) (k : Nat) : Int := (fiveL y).getD k 0

theorem last_ext {x y : SLast} (hn : x.Name = y.Name) (h : ∀ k, k < 5 → getK x k = getK y k) : x = y := by
  have h0 := h 0 (by omega); have h1 := h 1 (by omega); have h2 := h 2 (by omega); have h3 := h 3 (by omega); have h4 := h 4 (by omega)
  cases x; cases y
  simp only [getK, fiveL] at h0 h1 h2 h3 h4
  simp only [SLast.mk.injEq]
  exact ⟨hn, h0, h1, h2, h3, h4⟩

def okK (k : Nat) (v : Int) : Prop := if k < 4 then 500 ≤ v ∧ v ≤ 5000 else 0 ≤ v ∧ v ≤ 1000

theorem okK_bd {k : Nat} {v : Int} (h : okK k v) : 0 ≤ v ∧ v ≤ 5000 := by unfold okK at h; split at h <;> omega

theorem lastB_iff (y : SLast) : lastB y = true ↔ nameB y.Name = true ∧ ∀ k, k < 5 → okK k (getK y k) := by
  unfold lastB inR
  simp only [Bool.and_eq_true, decide_eq_true_eq]
  constructor
  · rintro ⟨⟨h, ⟨⟨⟨h0, h1⟩, h2⟩, h3⟩⟩, h4⟩
    refine ⟨h, fun k hk => ?_⟩
    have : k = 0 ∨ k = 1 ∨ k = 2 ∨ k = 3 ∨ k = 4 := by omega
    rcases this with rfl | rfl | rfl | rfl | rfl
    · exact h0
    · exact h1
    · exact h2
    · exact h3
    · exact h4
  · rintro ⟨h, hk⟩
    exact ⟨⟨h, ⟨⟨⟨hk 0 (by omega), hk 1 (by omega)⟩, hk 2 (by omega)⟩, hk 3 (by omega)⟩⟩, hk 4 (by omega)⟩

theorem getD_set' {l : List Int} {k j : Nat} {v : Int} (hk : k < l.length) : (l.set k v).getD j 0 = if j = k then v else l.getD j 0 := by
  rw [List.getD_eq_getElem?_getD, List.getElem?_set, List.getD_eq_getElem?_getD]
  by_cases h : k = j
  · subst h; simp [hk]
  · have h2 : ¬ j = k := fun e => h e.symm
    simp [h, h2]

/-- The place of a change's kind. -/
theorem vch_place {c : SChange} (h : vch c = true) : ∃ k : Nat, k < 5 ∧ c.Kind = ((k + 1 : Nat) : Int) ∧ wI64 (c.Kind - 1) = (k : Int) ∧ -300 ≤ c.Amount ∧ c.Amount ≤ 300 := by
  obtain ⟨k, k1, k5, hk, _, al, ah⟩ := vch_facts h
  refine ⟨k - 1, by omega, by omega, ?_, al, ah⟩
  rw [wI64_eq (by omega) (by omega)]; omega

theorem merF_get {b : List Int} {c : SChange} {k : Nat} (hb : b.length = 5) (hk : k < 5) (hw : wI64 (c.Kind - 1) = (k : Int)) (h1 : -100000 ≤ b.getD k 0) (h2 : b.getD k 0 ≤ 100000) (a1 : -100000 ≤ c.Amount) (a2 : c.Amount ≤ 100000) (j : Nat) :
    (merF b c).getD j 0 = if j = k then b.getD k 0 + c.Amount else b.getD j 0 := by
  unfold merF
  rw [hw, Int.toNat_natCast, getD_set' (by omega), wI64_eq (by omega) (by omega)]

theorem appF_name (y : SLast) (c : SChange) : (appF y c).Name = y.Name := rfl

theorem appF_get {y : SLast} {c : SChange} {k : Nat} (hk : k < 5) (hw : wI64 (c.Kind - 1) = (k : Int)) (h1 : -100000 ≤ getK y k) (h2 : getK y k ≤ 100000) (a1 : -100000 ≤ c.Amount) (a2 : c.Amount ≤ 100000) (j : Nat) :
    getK (appF y c) j = if j = k then getK y k + c.Amount else getK y j := by
  unfold getK appF
  rw [five_of y (by rw [merF_len]; rfl)]
  exact merF_get rfl hk hw h1 h2 a1 a2 j

/-! ### Applied, and back -/

def runA : List SChange → SLast → Option SLast
  | [], y => some y
  | c :: l, y => if lastB (appF y c) then runA l (appF y c) else none

theorem runA_append : ∀ (a b : List SChange) (y : SLast), runA (a ++ b) y = (runA a y).bind (runA b)
  | [], b, y => rfl
  | c :: a, b, y => by
    show (if lastB (appF y c) then runA (a ++ b) (appF y c) else none) = ((if lastB (appF y c) then runA a (appF y c) else none) : Option SLast).bind (runA b)
    cases lastB (appF y c)
    · rfl
    · exact runA_append a b (appF y c)

theorem runA_valid : ∀ (l : List SChange) (y z : SLast), lastB y = true → runA l y = some z → lastB z = true ∧ z.Name = y.Name
  | [], y, z, hy, h => by cases h; exact ⟨hy, rfl⟩
  | c :: l, y, z, hy, h => by
    unfold runA at h
    cases hb : lastB (appF y c) with
    | false => rw [hb] at h; cases h
    | true =>
      rw [hb, if_pos rfl] at h
      obtain ⟨h1, h2⟩ := runA_valid l _ z hb h
      exact ⟨h1, h2.trans (appF_name y c)⟩

theorem p_implApply (n : Nat) (x : SLast) (a : List SChange) (hx : strok x.Name) (hL : lastB x = true) (ha : a.length ≤ 20) (hall : ∀ c ∈ a, vch c = true) (hn : 1048576 < n) :
    m_impl_ApplyChanges n x a = some (match runA a x with | some y => (y, 0) | none => ((SLast.mk [] 0 0 0 0 0), 10)) := by
  unfold m_impl_ApplyChanges
  have hv : (decide (a.length ≤ 20) && a.all vch) = true := by
    simp only [Bool.and_eq_true, decide_eq_true_eq, List.all_eq_true]; exact ⟨ha, hall⟩
  rw [p_implLast n x hx hn, p_implValidChanges n a (by omega) hn]
  simp only [Option.bind_some, hL, hv, Bool.not_true, Bool.false_eq_true, if_false]
  have im := loopN_runL (body := m_impl_ApplyChanges_l1 n a) a (fun _ (y : SLast) c => if lastB (appF y c) then .ok (appF y c) else .error (.inr ((SLast.mk [] 0 0 0 0 0), (10 : Int)))) x (fun i y => ((i : Int), y.Name, y.Length, y.Ball, y.Instep, y.Heel, y.Pitch)) (fun y => .inl (y.Name, y.Length, y.Ball, y.Instep, y.Heel, y.Pitch)) (fun _ y => y.Name = x.Name) rfl
    (fun i c y hc hy => by
      have hlt := lt_of_get hc
      obtain ⟨k, hk, hk2⟩ := kind_place (hall c (List.mem_of_getElem? hc))
      have hlen : (merF (fiveL y) c).length = 5 := by rw [merF_len]; rfl
      have hg : (fiveL y)[k]? = some ((fiveL y).getD k 0) := getD_of (by show k < 5; exact hk) 0
      have hm : (fiveL y).set k (wI64 ((fiveL y).getD k 0 + c.Amount)) = merF (fiveL y) c := by unfold merF; rw [hk2]; rfl
      obtain ⟨g0, g1, g2, g3, g4⟩ := get5 hlen
      have hch : m_impl_Last_changed n y c = some (appF y c) := by
        unfold m_impl_Last_changed m_impl_Last_numbers
        have e5 : ([y.Length, y.Ball, y.Instep, y.Heel, y.Pitch] : List Int) = fiveL y := rfl
        simp only [Option.bind_some, e5, hk2, idx_nat, hg, Int.toNat_natCast, hm, g0, g1, g2, g3, g4]
        rfl
      have hp := p_implLast n (appF y c) (by show strok y.Name; rw [hy]; exact hx) hn
      have hbody : m_impl_ApplyChanges_l1 n a ((i : Int), y.Name, y.Length, y.Ball, y.Instep, y.Heel, y.Pitch) = if lastB (appF y c) then some (.next (((i + 1 : Nat) : Int), (appF y c).Name, (appF y c).Length, (appF y c).Ball, (appF y c).Instep, (appF y c).Heel, (appF y c).Pitch)) else some (.done (.inr ((SLast.mk [] 0 0 0 0 0), (10 : Int)))) := by
        unfold m_impl_ApplyChanges_l1
        have ey : SLast.mk y.Name y.Length y.Ball y.Instep y.Heel y.Pitch = y := rfl
        simp only [ltB hlt, if_true, idx_nat, hc, Option.bind_some, ey, hch, hp, succ64 hlt (by omega)]
        cases lastB (appF y c) <;> rfl
      cases hb : lastB (appF y c) with
      | true =>
        simp only [if_true]
        rw [hbody, hb]
        exact ⟨rfl, hy⟩
      | false =>
        simp only [Bool.false_eq_true, if_false]
        rw [hbody, hb]; rfl)
    (fun y _ => by unfold m_impl_ApplyChanges_l1; simp) n (by omega)
  have im1 : loopN (m_impl_ApplyChanges_l1 n a) n (0, x.Name, x.Length, x.Ball, x.Instep, x.Heel, x.Pitch) = _ := im.1
  rw [im1]
  have same : ∀ (l : List SChange) (i : Nat) (y : SLast), runL (τ := (List UInt8 × Int × Int × Int × Int × Int) ⊕ (SLast × Int)) (fun _ (y : SLast) c => if lastB (appF y c) then .ok (appF y c) else .error (.inr ((SLast.mk [] 0 0 0 0 0), (10 : Int)))) i l y =
      match runA l y with | some z => .ok z | none => .error (.inr ((SLast.mk [] 0 0 0 0 0), 10)) := by
    intro l
    induction l with
    | nil => intro i y; rfl
    | cons c l ih =>
      intro i y
      unfold runL runA
      cases hb : lastB (appF y c) with
      | true => simp only [if_true]; exact ih (i + 1) (appF y c)
      | false => rfl
  rw [same a 0 x]
  cases runA a x <;> rfl

theorem negC_vch {c : SChange} (h : vch c = true) : vch (negC c) = true ∧ (negC c).Amount = -c.Amount ∧ (negC c).Kind = c.Kind := by
  obtain ⟨k, hk, _, _, al, ah⟩ := vch_place h
  have e : (negC c).Amount = -c.Amount := by show wI64 (0 - c.Amount) = _; rw [wI64_eq (by omega) (by omega)]; omega
  refine ⟨?_, e, rfl⟩
  unfold vch at h ⊢
  simp only [Bool.and_eq_true, decide_eq_true_eq] at h ⊢
  rw [e]
  show -c.Amount ≠ 0 ∧ -(mostC c.Kind) ≤ -c.Amount ∧ -c.Amount ≤ mostC c.Kind
  omega

theorem appF_back {y : SLast} {c : SChange} (hy : lastB y = true) (hc : vch c = true) (hy2 : lastB (appF y c) = true) : appF (appF y c) (negC c) = y := by
  obtain ⟨k, hk, _, hw, al, ah⟩ := vch_place hc
  obtain ⟨_, ea, ek⟩ := negC_vch hc
  have b1 := okK_bd (((lastB_iff y).1 hy).2 k hk)
  have b2 := okK_bd (((lastB_iff _).1 hy2).2 k hk)
  refine last_ext rfl fun j hj => ?_
  rw [appF_get hk (by rw [ek]; exact hw) (by omega) (by omega) (by omega) (by omega), appF_get hk hw (by omega) (by omega) (by omega) (by omega), appF_get hk hw (by omega) (by omega) (by omega) (by omega), ea]
  by_cases h : j = k
  · subst h; simp; omega
  · simp [h]

theorem run_back : ∀ (l : List SChange) (x y : SLast), lastB x = true → (∀ c ∈ l, vch c = true) → runA l x = some y → runA (l.reverse.map negC) y = some x
  | [], x, y, _, _, h => by cases h; rfl
  | c :: l, x, y, hx, hl, h => by
    unfold runA at h
    cases hb : lastB (appF x c) with
    | false => rw [hb] at h; cases h
    | true =>
      rw [hb, if_pos rfl] at h
      have ih := run_back l (appF x c) y hb (fun d hd => hl d (by simp [hd])) h
      rw [List.reverse_cons, List.map_append, runA_append, ih]
      show (if lastB (appF (appF x c) (negC c)) then runA [] (appF (appF x c) (negC c)) else none) = some x
      rw [appF_back hx (hl c (by simp)) hb, hx]; rfl

/-! ### Sums -/

def sumA (k : Nat) (l : List SChange) : Int := (l.map fun c => if c.Kind = ((k + 1 : Nat) : Int) then c.Amount else 0).sum

theorem sumA_cons (k : Nat) (c : SChange) (l : List SChange) : sumA k (c :: l) = (if c.Kind = ((k + 1 : Nat) : Int) then c.Amount else 0) + sumA k l := by simp [sumA]

theorem run_sumA : ∀ (l : List SChange) (x y : SLast), lastB x = true → (∀ c ∈ l, vch c = true) → runA l x = some y → ∀ j, j < 5 → getK y j = getK x j + sumA j l
  | [], x, y, _, _, h, j, _ => by cases h; simp [sumA]
  | c :: l, x, y, hx, hl, h, j, hj => by
    unfold runA at h
    cases hb : lastB (appF x c) with
    | false => rw [hb] at h; cases h
    | true =>
      rw [hb, if_pos rfl] at h
      have ih := run_sumA l (appF x c) y hb (fun d hd => hl d (by simp [hd])) h j hj
      obtain ⟨k, hk, hkd, hw, al, ah⟩ := vch_place (hl c (by simp))
      have b1 := okK_bd (((lastB_iff x).1 hx).2 k hk)
      rw [ih, appF_get hk hw (by omega) (by omega) (by omega) (by omega), sumA_cons]
      by_cases h : j = k
      · subst h; rw [if_pos rfl, if_pos hkd]; omega
      · rw [if_neg h, if_neg (by rw [hkd]; omega)]; omega

theorem mer_sumA : ∀ (l : List SChange) (b : List Int) (B : Int), b.length = 5 → (∀ k, k < 5 → -B ≤ b.getD k 0 ∧ b.getD k 0 ≤ B) → 0 ≤ B → B + 300 * (l.length : Int) ≤ 100000 → (∀ c ∈ l, vch c = true) →
    (l.foldl merF b).length = 5 ∧ ∀ j, j < 5 → (l.foldl merF b).getD j 0 = b.getD j 0 + sumA j l
  | [], b, _, hb, _, _, _, _ => ⟨hb, fun j _ => by simp [sumA]⟩
  | c :: l, b, B, hb, hB, h0, hl, hv => by
    obtain ⟨k, hk, hkd, hw, al, ah⟩ := vch_place (hv c (by simp))
    have bk := hB k hk
    simp only [List.length_cons] at hl
    have hg := merF_get hb hk hw (by omega) (by omega) (by omega) (by omega)
    obtain ⟨r1, r2⟩ := mer_sumA l (merF b c) (B + 300) (by rw [merF_len]; exact hb) (fun j hj => by
      rw [hg j]
      have := hB j hj
      split <;> omega) (by omega) (by omega) (fun d hd => hv d (by simp [hd]))
    refine ⟨r1, fun j hj => ?_⟩
    rw [List.foldl_cons, r2 j hj, hg j, sumA_cons]
    by_cases h : j = k
    · subst h; rw [if_pos rfl, if_pos hkd]; omega
    · rw [if_neg h, if_neg (by rw [hkd]; omega)]; omega

theorem list5_ext {a b : List Int} (ha : a.length = 5) (hb : b.length = 5) (h : ∀ j, j < 5 → a.getD j 0 = b.getD j 0) : a = b := by
  apply List.ext_getElem?
  intro i
  by_cases hi : i < 5
  · rw [getD_of (by omega : i < a.length) 0, getD_of (by omega : i < b.length) 0, h i hi]
  · rw [List.getElem?_eq_none (by omega), List.getElem?_eq_none (by omega)]

/-- Merged changes lead to the same last. -/
theorem run_of (x y : SLast) (hx : lastB x = true) (hy : lastB y = true) (hn : y.Name = x.Name) : ∀ (ms : List Int) (j : Nat) (st : SLast), j + ms.length = 5 → st.Name = x.Name → (∀ i, i < 5 → getK st i = if i < j then getK y i else getK x i) →
    (∀ i, i < ms.length → ms.getD i 0 = getK y (j + i) - getK x (j + i)) → runA (ofF j ms) st = some y
  | [], j, st, hj, hs, hst, _ => by
    simp only [List.length_nil] at hj
    show some st = some y
    congr 1
    refine last_ext (hs.trans hn.symm) fun i hi => ?_
    rw [hst i hi, if_pos (by omega)]
  | m :: ms, j, st, hj, hs, hst, hm => by
    simp only [List.length_cons] at hj
    have hm0 : m = getK y j - getK x j := by have := hm 0 (by simp); simpa using this
    have hms : ∀ i, i < ms.length → ms.getD i 0 = getK y (j + 1 + i) - getK x (j + 1 + i) := fun i hi => by
      have := hm (i + 1) (by simp; omega)
      rw [show j + (i + 1) = j + 1 + i by omega] at this
      simpa using this
    obtain ⟨nx, kx⟩ := (lastB_iff x).1 hx
    obtain ⟨ny, ky⟩ := (lastB_iff y).1 hy
    have bx := okK_bd (kx j (by omega))
    have by_ := okK_bd (ky j (by omega))
    have hsj : getK st j = getK x j := by rw [hst j (by omega), if_neg (by omega)]
    unfold ofF
    by_cases h0 : m = 0
    · rw [if_pos h0]
      refine run_of x y hx hy hn ms (j + 1) st (by omega) hs (fun i hi => ?_) hms
      rw [hst i hi]
      by_cases h1 : i < j
      · rw [if_pos h1, if_pos (by omega)]
      · rw [if_neg h1]
        by_cases h2 : i = j
        · subst h2; rw [if_pos (by omega)]; omega
        · rw [if_neg (by omega)]
    · rw [if_neg h0]
      have hw : wI64 ((SChange.mk ((j + 1 : Nat) : Int) m).Kind - 1) = (j : Int) := by
        show wI64 (((j + 1 : Nat) : Int) - 1) = _
        rw [wI64_eq (by omega) (by omega)]; omega
      have hg := appF_get (y := st) (c := SChange.mk ((j + 1 : Nat) : Int) m) (k := j) (by omega) hw (by omega) (by omega) (by show -100000 ≤ m; omega) (by show m ≤ 100000; omega)
      have hst2 : ∀ i, i < 5 → getK (appF st (SChange.mk ((j + 1 : Nat) : Int) m)) i = if i < j + 1 then getK y i else getK x i := fun i hi => by
        rw [hg i]
        by_cases h2 : i = j
        · subst h2
          rw [if_pos rfl, if_pos (by omega)]
          show getK st i + m = _
          omega
        · rw [if_neg h2, hst i hi]
          by_cases h1 : i < j
          · rw [if_pos h1, if_pos (by omega)]
          · rw [if_neg h1, if_neg (by omega)]
      have hval : lastB (appF st (SChange.mk ((j + 1 : Nat) : Int) m)) = true := by
        refine (lastB_iff _).2 ⟨by rw [appF_name, hs]; exact nx, fun i hi => ?_⟩
        rw [hst2 i hi]
        split
        · exact ky i hi
        · exact kx i hi
      show (if lastB (appF st (SChange.mk ((j + 1 : Nat) : Int) m)) then runA (ofF (j + 1) ms) (appF st (SChange.mk ((j + 1 : Nat) : Int) m)) else none) = some y
      rw [hval, if_pos rfl]
      exact run_of x y hx hy hn ms (j + 1) _ (by omega) hs hst2 hms

/-! ### The statement -/

def outM (M : List Int) : List SChange × Int := if (ofF 0 M).all vch then (ofF 0 M, 0) else ([], 5)

theorem p_implMerge (n : Nat) (a : List SChange) (ha : a.length ≤ 20) (hall : ∀ c ∈ a, vch c = true) (hn : 1048576 < n) : m_impl_MergeChanges n a = some (outM (a.foldl merF [0, 0, 0, 0, 0])) := by
  have hv : (decide (a.length ≤ 20) && a.all vch) = true := by
    simp only [Bool.and_eq_true, decide_eq_true_eq, List.all_eq_true]; exact ⟨ha, hall⟩
  unfold m_impl_MergeChanges outM
  rw [p_implValidChanges n a (by omega) hn]
  obtain ⟨m1, m2, m3⟩ := p_merge n a (by omega) hall hn
  have hmk : mk (0 : Int) 5 = some [0, 0, 0, 0, 0] := rfl
  simp only [Option.bind_some, hv, Bool.not_true, Bool.false_eq_true, if_false, hmk, m2, p_implOf n _ (by omega : (a.foldl merF [0, 0, 0, 0, 0]).length ≤ 20) hn]

theorem p_implBetween (n : Nat) (a b : SLast) (ha : strok a.Name) (hb : strok b.Name) (va : lastB a = true) (vb : lastB b = true) (hn : 1048576 < n) :
    m_impl_ChangesBetween n a b = some (outM [wI64 (b.Length - a.Length), wI64 (b.Ball - a.Ball), wI64 (b.Instep - a.Instep), wI64 (b.Heel - a.Heel), wI64 (b.Pitch - a.Pitch)]) := by
  unfold m_impl_ChangesBetween m_impl_Last_numbers outM
  rw [p_implLast n a ha hn, p_implLast n b hb hn]
  obtain ⟨h1, h2⟩ := p_btw n a.Length a.Ball a.Instep a.Heel a.Pitch b.Length b.Ball b.Instep b.Heel b.Pitch hn
  simp only [Option.bind_some, va, vb, Bool.not_true, Bool.false_eq_true, if_false, h2]
  rw [p_implOf n _ (by simp) hn]
  rfl

theorem p_roundC (n : Nat) (l : List SChange) (hl : l.length ≤ 20) (hv : ∀ c ∈ l, vch c = true) (hn : 1048576 < n) : loopN (m_laws_FnChanges_l1 n l (l.reverse.map negC, 0)) n 0 = some (.inl ()) := by
  refine loopN_run (body := m_laws_FnChanges_l1 n l (l.reverse.map negC, 0)) (fun i => (i : Int)) (.inl ()) l.length (fun i hi => ?_) ?_ n (by omega)
  · obtain ⟨c, hc⟩ : ∃ c, l[i]? = some c := ⟨_, List.getElem?_eq_getElem hi⟩
    have hvc := hv c (List.mem_of_getElem? hc)
    have hw : wI64 (wI64 ((l.length : Int) - 1) - (i : Int)) = ((l.length - 1 - i : Nat) : Int) := by
      rw [wI64_eq (x := (l.length : Int) - 1) (by omega) (by omega), wI64_eq (by omega) (by omega)]; omega
    have hr : (l.reverse.map negC)[l.length - 1 - i]? = some (negC c) := by
      rw [List.getElem?_map, List.getElem?_reverse (by omega), show l.length - 1 - (l.length - 1 - i) = i by omega, hc]; rfl
    have hkk : (negC c).Kind = c.Kind := rfl
    have haa : (negC c).Amount = wI64 (0 - c.Amount) := rfl
    unfold m_laws_FnChanges_l1
    simp only [ltB hi, if_true, hw, idx_nat, hr, hc, Option.bind_some, p_implText, hvc, p_implRead_yes n c hvc hn, hkk, haa, bne_self_eq_false, Bool.false_eq_true, if_false, Bool.not_true, decide_true, succ64 hi (by omega)]
  · unfold m_laws_FnChanges_l1; simp

theorem law_Changes (code more : List Int) (_ : code.length ≤ 9223372036854775807) (hc : ∀ c ∈ code, u8ok c) (_ : more.length ≤ 9223372036854775807) (hm : ∀ c ∈ more, u8ok c) : m_laws_FnChanges 2000000 code more = some true := by
  unfold m_laws_FnChanges
  have hl : ∃ b, m_laws_a2Long 2000000 code more = some b := by unfold m_laws_a2Long; split <;> exact ⟨_, rfl⟩
  obtain ⟨b, hb⟩ := hl
  rw [hb]
  simp only [Option.bind_some]
  cases b with
  | true => rfl
  | false =>
    simp only [Bool.false_eq_true, if_false]
    obtain ⟨x, ex, vx, sx⟩ := p_A2Last 2000000 (code := code) hc
    obtain ⟨l, el, l5, hv⟩ := p_A2Changes 2000000 (by omega) (code := more) hm
    have hall : (decide (l.length ≤ 20) && l.all vch) = true := by
      simp only [Bool.and_eq_true, decide_eq_true_eq, List.all_eq_true]; exact ⟨by omega, hv⟩
    have hundo : m_impl_UndoChanges 2000000 l = some (l.reverse.map negC, 0) := by rw [p_implUndo 2000000 l (by omega) (by omega), hall]; rfl
    have hul : ((l.reverse.map negC).length : Int) = (l.length : Int) := by simp
    rw [ex, el]
    simp only [Option.bind_some, p_implApply 2000000 x l sx vx (by omega) hv (by omega), hundo, p_implMerge 2000000 l (by omega) hv (by omega), hul, bne_self_eq_false, Bool.false_eq_true, if_false, p_roundC 2000000 l (by omega) hv (by omega)]
    obtain ⟨M, hM⟩ : ∃ M, M = l.foldl merF [0, 0, 0, 0, 0] := ⟨_, rfl⟩
    rw [← hM]
    obtain ⟨m5, mj⟩ := mer_sumA l [0, 0, 0, 0, 0] 0 rfl (fun k hk => by
      have : k = 0 ∨ k = 1 ∨ k = 2 ∨ k = 3 ∨ k = 4 := by omega
      rcases this with rfl | rfl | rfl | rfl | rfl <;> decide) (by omega) (by omega) hv
    rw [← hM] at m5 mj
    have hz : ∀ j, j < 5 → ([0, 0, 0, 0, 0] : List Int).getD j 0 = 0 := fun j hj => by
      have : j = 0 ∨ j = 1 ∨ j = 2 ∨ j = 3 ∨ j = 4 := by omega
      rcases this with rfl | rfl | rfl | rfl | rfl <;> rfl
    cases hr : runA l x with
    | none =>
      have q : (10 : Int) != 0 := by decide
      have q2 : ((10 : Int) != 10) = false := rfl
      unfold outM
      by_cases hf : (ofF 0 M).all vch = true
      · simp [hf]
      · simp [hf]
    | some y =>
      obtain ⟨vy, ny⟩ := runA_valid l x y vx hr
      have sy : strok y.Name := by rw [ny]; exact sx
      have hback := run_back l x y vx hv hr
      have hsum := run_sumA l x y vx hv hr
      have hneg : ∀ c ∈ l.reverse.map negC, vch c = true := fun c hcm => by
        obtain ⟨d, hd, rfl⟩ := List.mem_map.1 hcm
        exact (negC_vch (hv d (by simpa using hd))).1
      have e1 := p_implApply 2000000 y (l.reverse.map negC) sy vy (by simp; omega) hneg (by omega)
      rw [hback] at e1
      have e2 := p_implBetween 2000000 x y sx sy vx vy (by omega)
      have hD : [wI64 (y.Length - x.Length), wI64 (y.Ball - x.Ball), wI64 (y.Instep - x.Instep), wI64 (y.Heel - x.Heel), wI64 (y.Pitch - x.Pitch)] = M := by
        refine list5_ext rfl m5 fun j hj => ?_
        have h1 := hsum j hj
        rw [mj j hj, hz j hj]
        have bx := okK_bd (((lastB_iff x).1 vx).2 j hj)
        have by_ := okK_bd (((lastB_iff y).1 vy).2 j hj)
        have hw : wI64 (getK y j - getK x j) = getK y j - getK x j := wI64_eq (by omega) (by omega)
        have : j = 0 ∨ j = 1 ∨ j = 2 ∨ j = 3 ∨ j = 4 := by omega
        rcases this with rfl | rfl | rfl | rfl | rfl <;> (refine Eq.trans hw ?_; omega)
      rw [hD] at e2
      have hM2 : ∀ i, i < M.length → M.getD i 0 = getK y (0 + i) - getK x (0 + i) := fun i hi => by
        rw [m5] at hi
        rw [mj i hi, hz i hi, Nat.zero_add, hsum i hi]; omega
      have hrun := run_of x y vx vy ny M 0 x (by omega) rfl (fun i hi => by rw [if_neg (by omega)]) hM2
      have hofl := ofF_len M 0
      simp only [e1, e2, Option.bind_some]
      unfold outM
      by_cases hf : (ofF 0 M).all vch = true
      · have e3 := p_implApply 2000000 x (ofF 0 M) sx vx (by omega) (fun c hcm => List.all_eq_true.1 hf c hcm) (by omega)
        rw [hrun] at e3
        have e4 := p_specSameChanges 2000000 (ofF 0 M) (ofF 0 M) (by omega) (by omega)
        simp [hf, e3, e4]
      · simp [hf]

end Go.Gv
