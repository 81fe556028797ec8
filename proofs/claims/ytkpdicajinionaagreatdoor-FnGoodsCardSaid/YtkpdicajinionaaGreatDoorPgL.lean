/- Plain laws of stock: what is promised of goods. -/
import Derived.Test.YtkpdicajinionaaGreatDoorQgC
namespace Go.Gv
open Go Go.RowKit

/-! ### What is drawn -/

theorem d_spoil (n : Nat) {code : List Int} (hc : bytesok code) (A : Nat) (hA : A ≤ 800000000) (seed : Int) (nm : List UInt8) (o r l : Int) (hg : nm.length ≤ 12) :
    ∃ (a : Nat) (s : Int) (nm' : List UInt8) (o' r' l' : Int), m_spec_l23Spoil n code (A : Int) seed nm o r l = some ((a : Int), s, nm', o', r', l') ∧ nm'.length ≤ 12 ∧ a ≤ A + 4 := by
  unfold m_spec_l23Spoil
  obtain ⟨p, a1, s1, e1, _, _, h1⟩ := p_pick n hc A (by omega) seed 4 (by omega)
  simp only [e1, Option.bind_some]
  cases p == 0 with
  | true =>
    obtain ⟨v, a2, s2, e2, hv, h2⟩ := p_text n hc a1 (by omega) s1 [[], [67, 97, 108, 102], [122, 122]] (by simp) (by simp)
    simp only [if_true, e2, Option.bind_some]
    have : ∀ v ∈ ([[], [67, 97, 108, 102], [122, 122]] : List (List UInt8)), v.length ≤ 12 := by decide
    exact ⟨a2, s2, v, o, r, l, rfl, this v hv, by omega⟩
  | false =>
    simp only [Bool.false_eq_true, if_false]
    cases p == 1 with
    | true =>
      obtain ⟨v, a2, s2, e2, hv, h2⟩ := p_among n hc a1 (by omega) s1 [(-1), 0, 1000000, 1000001] (by simp) (by simp)
      simp only [if_true, e2, Option.bind_some]
      exact ⟨a2, s2, nm, v, r, l, rfl, hg, by omega⟩
    | false =>
      simp only [Bool.false_eq_true, if_false]
      cases p == 2 with
      | true =>
        obtain ⟨v, a2, s2, e2, hv, h2⟩ := p_among n hc a1 (by omega) s1 [(-1), o, (wI64 (o + 1)), (-9223372036854775808)] (by simp) (by simp)
        simp only [if_true, e2, Option.bind_some]
        exact ⟨a2, s2, nm, o, v, l, rfl, hg, by omega⟩
      | false =>
        simp only [Bool.false_eq_true, if_false]
        cases p == 3 with
        | true =>
          obtain ⟨v, a2, s2, e2, hv, h2⟩ := p_among n hc a1 (by omega) s1 [(-1), 0, 1000000, 1000001] (by simp) (by simp)
          simp only [if_true, e2, Option.bind_some]
          exact ⟨a2, s2, nm, o, r, v, rfl, hg, by omega⟩
        | false =>
          simp only [Bool.false_eq_true, if_false, Option.bind_some]
          exact ⟨a1, s1, nm, o, r, l, rfl, hg, by omega⟩

theorem d_take (n : Nat) {code : List Int} (hc : bytesok code) (A : Nat) (hA : A ≤ 700000000) (seed : Int) (l : List SGood) (hl : DG l) :
    ∃ (t : STake) (a : Nat) (s : Int), m_spec_l23DrawTake_o1 n code (A : Int) seed l = some (t, (a : Int), s) ∧ a ≤ A + 20 := by
  unfold m_spec_l23DrawTake_o1
  obtain ⟨w, a1, s1, e1, _, h1⟩ := p_l23Name n hc A (by omega) seed l hl
  obtain ⟨p, a2, s2, e2, _, _, h2⟩ := p_pick n hc a1 (by omega) s1 90 (by omega)
  obtain ⟨b, a3, s3, e3, h3⟩ := p_one n hc a2 (by omega) s2 12 (by omega)
  simp only [e1, Option.bind_some, e2, e3]
  cases b with
  | true =>
    obtain ⟨v, a4, s4, e4, _, h4⟩ := p_among n hc a3 (by omega) s3 [(-1000001), (-1000000), 0, 1000000, 1000001, (-9223372036854775808)] (by simp) (by simp)
    simp only [if_true, e4, Option.bind_some]
    exact ⟨_, a4, s4, rfl, by omega⟩
  | false =>
    simp only [Bool.false_eq_true, if_false, Option.bind_some]
    exact ⟨_, a3, s3, rfl, by omega⟩

theorem d_changes (n : Nat) {code : List Int} (hc : bytesok code) (x14 : List SGood × Int × Int) (hl : DG x14.1) (K : Nat) (hK : K ≤ 7) (A : Nat) (hA : A ≤ 600000000) (seed : Int) (hn : 100 < n) :
    ∃ q : List STake × Int × Int, loopN (m_spec_DrawChangeGoods_l1 n code x14) n (([] : List STake), (K : Int), (A : Int), seed) = some q ∧ q.1.length ≤ 7 ∧ ∃ a : Nat, q.2.1 = (a : Int) ∧ a ≤ A + 350 :=
  loopN_count (body := m_spec_DrawChangeGoods_l1 n code x14) (fun i s => s.1.length = i ∧ s.2.1 = ((K - i : Nat) : Int) ∧ ∃ a : Nat, s.2.2.1 = (a : Int) ∧ a ≤ A + 50 * i) K
    (fun q => q.1.length ≤ 7 ∧ ∃ a : Nat, q.2.1 = (a : Int) ∧ a ≤ A + 350)
    (fun i s hi hJ => by
      obtain ⟨o, k, t, sd⟩ := s
      obtain ⟨h1, h2, a, h4, h5⟩ := hJ
      simp only at h1 h2 h4
      subst h2 h4
      have hgt : decide (((K - i : Nat) : Int) > 0) = true := decide_eq_true (by omega)
      have w : wI64 (((K - i : Nat) : Int) - 1) = ((K - (i + 1) : Nat) : Int) := by rw [wI64_eq (by omega) (by omega)]; omega
      obtain ⟨t, a1, s1, e1, g1⟩ := d_take n hc a (by omega) sd x14.1 hl
      obtain ⟨b, a2, s2, e2, g2⟩ := p_one n hc a1 (by omega) s1 2 (by omega)
      unfold m_spec_DrawChangeGoods_l1
      simp only [hgt, if_true, e1, Option.bind_some, e2, w]
      cases b with
      | true =>
        obtain ⟨p, a3, s3, e3, _, _, g3⟩ := p_pick n hc a2 (by omega) s2 9 (by omega)
        simp only [if_true, e3, Option.bind_some]
        rw [app_eq (by simp; omega)]
        exact ⟨_, rfl, by simp [h1], rfl, a3, rfl, by omega⟩
      | false =>
        simp only [Bool.false_eq_true, if_false, Option.bind_some]
        rw [app_eq (by simp; omega)]
        exact ⟨_, rfl, by simp [h1], rfl, a2, rfl, by omega⟩)
    (fun s hJ => by
      obtain ⟨o, k, t, sd⟩ := s
      obtain ⟨h1, h2, a, h4, h5⟩ := hJ
      simp only at h1 h2 h4
      rw [Nat.sub_self] at h2
      subst h2 h4
      exact ⟨_, rfl, by show o.length ≤ 7; omega, a, rfl, by omega⟩) n (by omega) _ ⟨rfl, by simp, A, rfl, by omega⟩

theorem p_DrawChangeGoods (n : Nat) {code : List Int} (hc : bytesok code) (hn : 100 < n) : ∃ (l : List SGood) (ts : List STake), m_spec_DrawChangeGoods n code = some (l, ts) ∧ DG l ∧ ts.length ≤ 100 := by
  unfold m_spec_DrawChangeGoods
  rw [p_l00From]
  obtain ⟨l, a1, s1, e1, h1, h2⟩ := p_l23Bent n hc 0 (by omega) 0 hn
  have e1' : m_spec_l23Bent n code 0 0 = some (l, (a1 : Int), s1) := e1
  obtain ⟨p, a2, s2, e2, p0, p1, h3⟩ := p_pick n hc a1 (by omega) s1 7 (by omega)
  have p1' := p1 (by omega)
  obtain ⟨K, rfl⟩ : ∃ K : Nat, p = (K : Int) := ⟨p.toNat, by omega⟩
  obtain ⟨⟨q, t, s⟩, e3, h4, a3, h5, h6⟩ := d_changes n hc (l, (a1 : Int), s1) h1 K (by omega) a2 (by omega) s2 hn
  simp only at h4 h5
  subst h5
  obtain ⟨b, a4, s4, e4, h7⟩ := p_one n hc a3 (by omega) s 20 (by omega)
  simp only [Option.bind_some, e1', e2, e3, e4]
  cases b with
  | true =>
    obtain ⟨v, a5, s5, e5, v0, v1, h8⟩ := p_pick n hc a4 (by omega) s4 2 (by omega)
    have v1' := v1 (by omega)
    obtain ⟨M, hM, hM2⟩ : ∃ M : Nat, wI64 (60 + v) = (M : Int) ∧ M ≤ 61 := ⟨(60 + v).toNat, by rw [wI64_eq (by omega) (by omega)]; omega, by omega⟩
    simp only [if_true, e5, Option.bind_some, hM, mk_nat _ M (by omega)]
    exact ⟨l, _, rfl, h1, by simp; omega⟩
  | false =>
    simp only [Bool.false_eq_true, if_false, Option.bind_some]
    exact ⟨l, q, rfl, h1, by omega⟩

theorem p_DrawAddGood (n : Nat) {code : List Int} (hc : bytesok code) (hn : 100 < n) : ∃ (l : List SGood) (g : SGood), m_spec_DrawAddGood n code = some (l, g) ∧ DG l ∧ g.Name.length ≤ 12 := by
  unfold m_spec_DrawAddGood
  rw [p_l00From]
  obtain ⟨l, a1, s1, e1, h1, h2⟩ := p_l23Bent n hc 0 (by omega) 0 hn
  have e1' : m_spec_l23Bent n code 0 0 = some (l, (a1 : Int), s1) := e1
  obtain ⟨w, a2, s2, e2, hw, h3⟩ := p_text n hc a1 (by omega) s1 goodNames (by decide) (by decide)
  obtain ⟨g, a3, s3, e3, hg, h4⟩ := p_l23New n hc a2 (by omega) s2 w
  have hgl : g.Name.length ≤ 12 := by rw [hg]; exact goodNames_len w hw
  obtain ⟨b, a4, s4, e4, h5⟩ := p_one n hc a3 (by omega) s3 8 (by omega)
  simp only [Option.bind_some, e1', p_l23Names, e2, e3, e4]
  cases b with
  | true =>
    obtain ⟨a5, s5, nm, o, r, q, e5, h6, _⟩ := d_spoil n hc a4 (by omega) s4 g.Name g.OnHand g.Reserved g.Least hgl
    simp only [if_true, e5, Option.bind_some]
    exact ⟨l, _, rfl, h1, h6⟩
  | false =>
    simp only [Bool.false_eq_true, if_false, Option.bind_some]
    exact ⟨l, _, rfl, h1, hgl⟩

theorem p_DrawChangeGood (n : Nat) {code : List Int} (hc : bytesok code) (hn : 100 < n) : ∃ (l : List SGood) (t : STake), m_spec_DrawChangeGood n code = some (l, t) ∧ DG l := by
  unfold m_spec_DrawChangeGood
  rw [p_l00From]
  obtain ⟨l, a1, s1, e1, h1, h2⟩ := p_l23Bent n hc 0 (by omega) 0 hn
  have e1' : m_spec_l23Bent n code 0 0 = some (l, (a1 : Int), s1) := e1
  obtain ⟨t, a2, s2, e2, h3⟩ := d_take n hc a1 (by omega) s1 l h1
  simp only [Option.bind_some, e1', e2]
  exact ⟨l, t, rfl, h1⟩

theorem p_DrawGoodText (n : Nat) {code : List Int} (hc : bytesok code) : ∃ g : SGood, m_spec_DrawGoodText n code = some g ∧ g.Name.length ≤ 12 := by
  unfold m_spec_DrawGoodText
  rw [p_l00From]
  obtain ⟨g, a1, s1, e1, hg, h1⟩ := p_l23New n hc 0 (by omega) 0 [104, 101, 101, 108, 45, 51]
  have e1' : m_spec_l23New n code 0 0 [104, 101, 101, 108, 45, 51] = some (g, (a1 : Int), s1) := e1
  have hgl : g.Name.length ≤ 12 := by rw [hg]; decide
  obtain ⟨b, a2, s2, e2, h2⟩ := p_one n hc a1 (by omega) s1 4 (by omega)
  simp only [Option.bind_some, e1', e2]
  cases b with
  | true =>
    obtain ⟨a5, s5, nm, o, r, q, e5, h6, _⟩ := d_spoil n hc a2 (by omega) s2 g.Name g.OnHand g.Reserved g.Least hgl
    simp only [if_true, e5, Option.bind_some]
    exact ⟨_, rfl, h6⟩
  | false =>
    simp only [Bool.false_eq_true, if_false, Option.bind_some]
    exact ⟨_, rfl, hgl⟩

theorem d_newB (n : Nat) {code : List Int} (hc : bytesok code) (A : Nat) (hA : A ≤ 800000000) (seed : Int) (name : List UInt8) :
    ∃ (g : SGood) (a : Nat) (s : Int), m_spec_l23New n code (A : Int) seed name = some (g, (a : Int), s) ∧ g.Name = name ∧ a ≤ A + 8 ∧ i64ok g.OnHand ∧ i64ok g.Reserved ∧ i64ok g.Least := by
  unfold m_spec_l23New i64ok
  obtain ⟨h, a1, s1, e1, h0, h1, h2⟩ := p_pick n hc A (by omega) seed 120 (by omega)
  have h1' := h1 (by omega)
  have w : wI64 (h + 1) = h + 1 := wI64_eq (by omega) (by omega)
  obtain ⟨r, a2, s2, e2, r0, r1, h3⟩ := p_pick n hc a1 (by omega) s1 (h + 1) (by omega)
  have r1' := r1 (by omega)
  obtain ⟨b, a3, s3, e3, h4⟩ := p_one n hc a2 (by omega) s2 2 (by omega)
  obtain ⟨l, a4, s4, e4, l0, l1, h5⟩ := p_pick n hc a3 (by omega) s3 60 (by omega)
  have l1' := l1 (by omega)
  simp only [e1, Option.bind_some, w, e2, e3]
  cases b <;> simp only [Bool.false_eq_true, if_false, if_true, Option.bind_some, e4] <;> exact ⟨_, a4, s4, rfl, rfl, by omega, ⟨by show _ ≤ h; omega, by show h ≤ _; omega⟩, by constructor <;> (show _ ≤ _) <;> first | omega | (simp only; omega), ⟨by show _ ≤ l; omega, by show l ≤ _; omega⟩⟩

theorem d_text (n : Nat) (g : SGood) (hl : g.Name.length ≤ 12) (h1 : i64ok g.OnHand) (h2 : i64ok g.Reserved) (h3 : i64ok g.Least) (hn : 1048576 < n) : ∃ t, m_spec_l23Text n g = some t ∧ t.length ≤ 100 := by
  have l1 := decZ_len h1; have l2 := decZ_len h2; have l3 := decZ_len h3
  unfold m_spec_l23Text
  rw [p_l01Dec n _ h1 hn, p_l01Dec n _ h2 hn, p_l01Dec n _ h3 hn]
  rw [app_eq (by simp; omega)]; simp only [Option.bind_some]
  rw [app_eq (by simp; omega)]; simp only [Option.bind_some]
  rw [app_eq (by simp; omega)]; simp only [Option.bind_some]
  rw [app_eq (by simp; omega)]; simp only [Option.bind_some]
  rw [app_eq (by simp; omega)]; simp only [Option.bind_some]
  rw [app_eq (by simp; omega)]; simp only [Option.bind_some]
  exact ⟨_, rfl, by simp; omega⟩

theorem sub_ok {α : Type} {l : List α} {i j : Nat} (h1 : i ≤ j) (h2 : j ≤ l.length) : ∃ r, sub l (i : Int) (j : Int) = some r ∧ r.length ≤ l.length := by
  unfold sub
  rw [if_pos ⟨by omega, by omega, by omega⟩]
  exact ⟨_, rfl, by simp; omega⟩

theorem d_spoilT (n : Nat) {code : List Int} (hc : bytesok code) (A : Nat) (hA : A ≤ 800000000) (seed : Int) (t : List UInt8) (ht : t.length ≤ 100) :
    ∃ (r : List UInt8) (a : Int) (s : Int), m_spec_l01Spoil n code (A : Int) seed t = some (r, a, s) ∧ r.length ≤ 1000 := by
  unfold m_spec_l01Spoil
  obtain ⟨p, a1, s1, e1, _, _, h1⟩ := p_pick n hc A (by omega) seed 5 (by omega)
  simp only [e1, Option.bind_some]
  cases p == 0 with
  | true =>
    have w : wI64 ((t.length : Int) + 1) = (t.length : Int) + 1 := wI64_eq (by omega) (by omega)
    obtain ⟨q, a2, s2, e2, q0, q1, h2⟩ := p_pick n hc a1 (by omega) s1 ((t.length : Int) + 1) (by omega)
    have q1' := q1 (by omega)
    obtain ⟨k, rfl⟩ : ∃ k : Nat, q = (k : Int) := ⟨q.toNat, by omega⟩
    obtain ⟨x, ex, hx⟩ := sub_ok (l := t) (i := 0) (j := k) (by omega) (by omega)
    obtain ⟨y, ey, hy⟩ := sub_ok (l := t) (i := k) (j := t.length) (by omega) (by omega)
    have ex' : sub t 0 (k : Int) = some x := ex
    obtain ⟨v, a3, s3, e3, hv, h3⟩ := p_text n hc a2 (by omega) s2 [[32], [48], [45], [120], [49], [57], [46]] (by simp) (by simp)
    have hv1 : ∀ v ∈ ([[32], [48], [45], [120], [49], [57], [46]] : List (List UInt8)), v.length ≤ 12 := by decide
    have hvl := hv1 v hv
    simp only [if_true, w, e2, Option.bind_some, ex', e3]
    rw [app_eq (by omega)]; simp only [Option.bind_some, ey]
    rw [app_eq (by simp; omega)]; simp only [Option.bind_some]
    exact ⟨_, _, _, rfl, by simp; omega⟩
  | false =>
    simp only [Bool.false_eq_true, if_false]
    cases p == 1 with
    | true =>
      cases hz : (t == []) with
      | true =>
        simp only [if_true, Bool.not_true, Bool.false_eq_true, if_false, Option.bind_some]
        exact ⟨_, _, _, rfl, by omega⟩
      | false =>
        have hpos : 0 < t.length := by
          cases t with
          | nil => simp at hz
          | cons _ _ => simp
        obtain ⟨q, a2, s2, e2, q0, q1, h2⟩ := p_pick n hc a1 (by omega) s1 (t.length : Int) (by omega)
        have q1' := q1 (by omega)
        obtain ⟨k, rfl⟩ : ∃ k : Nat, q = (k : Int) := ⟨q.toNat, by omega⟩
        have w : wI64 ((k : Int) + 1) = ((k + 1 : Nat) : Int) := by rw [wI64_eq (by omega) (by omega)]; omega
        obtain ⟨x, ex, hx⟩ := sub_ok (l := t) (i := 0) (j := k) (by omega) (by omega)
        obtain ⟨y, ey, hy⟩ := sub_ok (l := t) (i := k + 1) (j := t.length) (by omega) (by omega)
        have ex' : sub t 0 (k : Int) = some x := ex
        simp only [if_true, Bool.not_false, e2, Option.bind_some, ex', w, ey]
        rw [app_eq (by omega)]; simp only [Option.bind_some]
        exact ⟨_, _, _, rfl, by simp; omega⟩
    | false =>
      simp only [Bool.false_eq_true, if_false, Option.bind_some]
      exact ⟨_, _, _, rfl, by omega⟩

theorem p_DrawReadGood (n : Nat) {code : List Int} (hc : bytesok code) (hn : 1048576 < n) : ∃ s : List UInt8, m_spec_DrawReadGood n code = some s ∧ s.length ≤ 1000 := by
  unfold m_spec_DrawReadGood
  rw [p_l00From]
  obtain ⟨g, a1, s1, e1, hg, h1, b1, b2, b3⟩ := d_newB n hc 0 (by omega) 0 [99, 97, 108, 102]
  have e1' : m_spec_l23New n code 0 0 [99, 97, 108, 102] = some (g, (a1 : Int), s1) := e1
  obtain ⟨t, e2, ht⟩ := d_text n g (by rw [hg]; decide) b1 b2 b3 hn
  obtain ⟨b, a3, s3, e3, h3⟩ := p_one n hc a1 (by omega) s1 3 (by omega)
  simp only [Option.bind_some, e1', e2, e3]
  cases b with
  | true =>
    obtain ⟨r, a4, s4, e4, h4⟩ := d_spoilT n hc a3 (by omega) s3 t ht
    simp only [if_true, e4, Option.bind_some]
    exact ⟨r, rfl, h4⟩
  | false =>
    simp only [Bool.false_eq_true, if_false]
    exact ⟨t, rfl, by omega⟩

theorem p_DrawSameGoods (n : Nat) {code : List Int} (hc : bytesok code) (hn : 100 < n) : ∃ (a b : List SGood), m_spec_DrawSameGoods n code = some (a, b) ∧ a.length ≤ 100 := by
  unfold m_spec_DrawSameGoods m_spec_l23Draw
  rw [p_l00From]
  obtain ⟨⟨l, t, s⟩, e1, h1, h2, a1, h3, h4⟩ := d_l23Draw n hc 0 (by omega) 0 hn
  simp only at h1 h2 h3
  subst h3
  have e1' : loopN (m_spec_l23Draw_l1 n code goodNames) n (([] : List SGood), 0, 0, 0) = some (l, (a1 : Int), s) := e1
  simp only [Option.bind_some, p_l23Names, e1']
  rw [app_eq (by simp; omega)]
  simp only [Option.bind_some, List.nil_append]
  obtain ⟨b, a2, s2, e2, h5, h6⟩ : ∃ (b : Bool) (a2 : Nat) (s2 : Int), (if decide ((l.length : Int) > 0) = true then Option.bind (m_spec_l00Src_one n code (a1 : Int) s 2) fun x82 => some (x82.1, x82.2.1, x82.2.2) else some (false, (a1 : Int), s)) = some (b, (a2 : Int), s2) ∧ a2 ≤ a1 + 2 ∧ (b = true → 0 < l.length) := by
    cases hz : decide ((l.length : Int) > 0) with
    | false => exact ⟨false, a1, s, rfl, by omega, fun h => by cases h⟩
    | true =>
      obtain ⟨c, a2, s2, e2, h5⟩ := p_one n hc a1 (by omega) s 2 (by omega)
      simp only [if_true, e2, Option.bind_some]
      exact ⟨c, a2, s2, rfl, h5, fun _ => by have := of_decide_eq_true hz; omega⟩
  rw [e2]
  simp only [Option.bind_some]
  obtain ⟨m, a3, s3, e3, h7, h8⟩ : ∃ (m : List SGood) (a3 : Nat) (s3 : Int), (if b = true then Option.bind (idx l 0) fun x320 => Option.bind (m_spec_l00Src_pick n code (a2 : Int) s2 2) fun x346 => Option.bind (idx l 0) fun x361 =>
      some ((l.set (Int.toNat 0) (SGood.mk x361.Name x361.OnHand x361.Reserved (wI64 (x320.Least + x346.1)))), x346.2.1, x346.2.2) else some (l, (a2 : Int), s2)) = some (m, (a3 : Int), s3) ∧ m.length = l.length ∧ a3 ≤ a2 + 2 := by
    cases b with
    | false => exact ⟨l, a2, s2, rfl, rfl, by omega⟩
    | true =>
      have hpos := h6 rfl
      obtain ⟨p, a3, s3, e3, _, _, h7⟩ := p_pick n hc a2 (by omega) s2 2 (by omega)
      have hg : l[0]? = some l[0] := List.getElem?_eq_getElem hpos
      simp only [if_true, idx_zero, hg, Option.bind_some, e3]
      exact ⟨_, a3, s3, rfl, by simp, h7⟩
  rw [e3]
  simp only [Option.bind_some]
  obtain ⟨c, a4, s4, e4, h9⟩ := p_one n hc a3 (by omega) s3 5 (by omega)
  rw [e4]
  simp only [Option.bind_some]
  cases c with
  | true =>
    simp only [if_true]
    rw [app_eq (by simp; omega)]
    simp only [Option.bind_some]
    exact ⟨l, _, rfl, by omega⟩
  | false =>
    simp only [Bool.false_eq_true, if_false, Option.bind_some]
    exact ⟨l, _, rfl, by omega⟩

/-! ### Texts -/

theorem specText_any (n : Nat) (g : SGood) (hs : g.Name.length ≤ 1048576) (hn : 1048576 < n) : m_spec_GoodText n g = some (if goodB g then textG g else []) := by
  cases hg : goodB g with
  | true =>
    obtain ⟨r1, r2, r3, r4, r5, r6⟩ := goodB_range hg
    rw [p_specGoodText n g hs ⟨by omega, by omega⟩ ⟨by omega, by omega⟩ ⟨by omega, by omega⟩ hn, hg]
  | false =>
    unfold m_spec_GoodText
    rw [p_l23One n g (by unfold strok; omega) hn, hg]; rfl

theorem implText_any (n : Nat) (g : SGood) (hs : g.Name.length ≤ 1048576) (hn : 1048576 < n) : m_impl_GoodText n g = some (if goodB g then textG g else []) := by
  cases hg : goodB g with
  | true =>
    obtain ⟨r1, r2, r3, r4, r5, r6⟩ := goodB_range hg
    rw [p_implGoodText n g hs ⟨by omega, by omega⟩ ⟨by omega, by omega⟩ ⟨by omega, by omega⟩ hn, hg]
  | false =>
    unfold m_impl_GoodText
    rw [p_validGood n g (by unfold strok; omega) hn, hg]; rfl

theorem decZ_dg {z : Int} (h : 0 ≤ z) : ∀ c ∈ decZ z, dgC c = true := by
  unfold decZ; rw [if_neg (by omega)]; exact natD_dg _

theorem ne_of_dg {b : UInt8} (hb : dgC b = false) {l : List UInt8} (h : ∀ c ∈ l, dgC c = true) : ∀ c ∈ l, c ≠ b := by
  rintro c hc rfl
  rw [h c hc] at hb; cases hb

theorem readG_text {g : SGood} (hg : goodB g = true) : readG (textG g) = (g, true) := by
  obtain ⟨r1, r2, r3, r4, r5, r6⟩ := goodB_range hg
  have hnm : ∀ c ∈ g.Name, c ≠ 32 := by
    have hb := hg
    unfold goodB nameB at hb
    simp only [Bool.and_eq_true, List.all_eq_true] at hb
    rintro c hc rfl
    have := hb.1.2 _ hc
    revert this; decide
  have hd1 := decZ_dg (z := g.OnHand) (by omega)
  have hd2 := decZ_dg (z := g.Reserved) (by omega)
  have hd3 := decZ_dg (z := g.Least) (by omega)
  have ht : textG g = g.Name ++ 32 :: ((decZ g.OnHand ++ 45 :: decZ g.Reserved) ++ 32 :: (wLeast ++ 32 :: decZ g.Least)) := by
    unfold textG wLeast; simp
  have h1 : ∀ c ∈ decZ g.OnHand ++ 45 :: decZ g.Reserved, c ≠ 32 := by
    intro c hc
    rcases List.mem_append.1 hc with hc | hc
    · exact ne_of_dg (by decide) hd1 c hc
    · rcases List.mem_cons.1 hc with rfl | hc
      · decide
      · exact ne_of_dg (by decide) hd2 c hc
  have e1 : splitL 32 (textG g) = [g.Name, decZ g.OnHand ++ 45 :: decZ g.Reserved, wLeast, decZ g.Least] := by
    rw [ht, splitL_pre _ hnm, splitL_pre _ h1, splitL_pre _ (by decide), splitL_one (ne_of_dg (by decide) hd3)]
  have e2 : splitL 45 (decZ g.OnHand ++ 45 :: decZ g.Reserved) = [decZ g.OnHand, decZ g.Reserved] := by
    rw [splitL_pre _ (ne_of_dg (by decide) hd1), splitL_one (ne_of_dg (by decide) hd2)]
  have big : (10 : Nat) ^ 18 = 1000000000000000000 := by decide
  have q1 : readD (decZ g.OnHand) = (g.OnHand, true) := by rw [readD_dec, if_pos (by omega)]
  have q2 : readD (decZ g.Reserved) = (g.Reserved, true) := by rw [readD_dec, if_pos (by omega)]
  have q3 : readD (decZ g.Least) = (g.Least, true) := by rw [readD_dec, if_pos (by omega)]
  unfold readG
  rw [e1]
  simp only [e2, q1, q2, q3]
  have hgg : SGood.mk g.Name g.OnHand g.Reserved g.Least = g := by cases g; rfl
  rw [hgg]; simp [hg]

theorem textG_ne (g : SGood) : textG g ≠ [] := by unfold textG; simp

/-! ### Changes -/

theorem change_back {l : List SGood} {t : STake} (h : (changeR l t).2 = 0) : changeR (changeR l t).1 ⟨t.Name, -t.Many⟩ = (l, 0) ∧ (-1000000 ≤ t.Many ∧ t.Many ≤ 1000000) ∧ (changeR l t).1.length = l.length ∧ namesG (changeR l t).1 = namesG l := by
  unfold changeR at h
  cases hv : goodsB l with
  | false => rw [hv] at h; simp at h
  | true =>
    cases hm : inRB (-1000000) 1000000 t.Many with
    | false => rw [hv, hm] at h; simp at h
    | true =>
      rw [hv, hm] at h
      simp only [if_true] at h
      have h0 : (takeR l t).2 = 0 := by
        by_cases h1 : (takeR l t).2 ≠ 0
        · rw [if_pos h1] at h; exact h
        · simpa using h1
      have hR : changeR l t = takeR l t := by
        unfold changeR; rw [hv, hm]; simp [h0]
      obtain ⟨k, g, h1, h2, h3, h4, h5⟩ := takeR_ok h0
      have hm' := hm
      unfold inRB at hm'
      simp only [Bool.and_eq_true, decide_eq_true_eq] at hm'
      have hS := stock_of hv
      have hgg := hS.good g (List.mem_of_getElem? h2)
      obtain ⟨r1, r2, r3, r4, r5, r6⟩ := goodB_range hgg
      have hk := lt_of_get h2
      have hnm : namesG (l.set k (addG g t.Many)) = namesG l := names_at h2 rfl
      have hgb : goodB (addG g t.Many) = true := by
        have hb := hgg
        unfold goodB inRB at hb ⊢
        unfold addG
        simp only [Bool.and_eq_true, decide_eq_true_eq] at hb ⊢
        exact ⟨hb.1, by omega, by omega, by omega⟩
      have hv2 : goodsB (l.set k (addG g t.Many)) = true := goodsB_set hv h2 rfl hgb
      have hf2 : findZ (l.set k (addG g t.Many)) t.Name = (k : Int) := by rw [find_names hnm]; exact h1
      have hg2 : (l.set k (addG g t.Many)).getD k gD = addG g t.Many := by rw [set_getG hk, if_pos rfl]
      have hset : (l.set k (addG g t.Many)).set k g = l := by
        rw [List.set_set]
        apply List.ext_getElem?
        intro i
        rw [List.getElem?_set]
        split
        · rename_i e; subst e; simp [hk]; exact (List.getElem?_eq_some_iff.1 h2).2.symm
        · rfl
      refine ⟨?_, hm', by rw [hR, h3]; simp, by rw [hR, h3]; exact hnm⟩
      rw [hR, h3]
      have hm2 : inRB (-1000000) 1000000 (-t.Many) = true := by unfold inRB; simp only [Bool.and_eq_true, decide_eq_true_eq]; omega
      have ht2 : takeR (l.set k (addG g t.Many)) ⟨t.Name, -t.Many⟩ = (l, 0) := by
        unfold takeR takeAt
        simp only [hf2]
        rw [if_neg (by omega), Int.toNat_natCast, hg2]
        have w1 : ¬ (addG g t.Many).OnHand + -t.Many < (addG g t.Many).Reserved := by unfold addG; simp only; omega
        have w2 : ¬ (addG g t.Many).OnHand + -t.Many > 1000000 := by unfold addG; simp only; omega
        rw [if_neg w1, if_neg w2]
        have hgo : SGood.mk (addG g t.Many).Name ((addG g t.Many).OnHand + -t.Many) (addG g t.Many).Reserved (addG g t.Many).Least = g := by
          unfold addG; cases g; simp only [SGood.mk.injEq, true_and, and_true]; omega
        rw [hgo, hset]
      unfold changeR
      rw [hv2]
      simp only [if_true, hm2, ht2]
      simp

theorem changes_bad (n : Nat) (l : List SGood) (ts : List STake) (hl : l.length ≤ 1048576) (hs : ∀ g ∈ l, strok g.Name) (ht : ts.length ≤ 1048576) (hn : 1048577 < n) (h : ¬ (goodsB l = true ∧ ts.length ≤ 60 ∧ ∀ t ∈ ts, inRB (-1000000) 1000000 t.Many = true)) :
    ∃ e : Int, e ≠ 0 ∧ m_spec_ChangeGoods n l ts = some ([], 0, e) := by
  unfold m_spec_ChangeGoods
  rw [p_l23Takes n l ts hl hs ht (by omega)]
  simp only [Option.bind_some]
  cases hv : goodsB l with
  | false => exact ⟨1, by decide, by simp⟩
  | true =>
    cases ha : ts.all (fun t => inRB (-1000000) 1000000 t.Many) with
    | false => exact ⟨2, by decide, by simp⟩
    | true =>
      rw [List.all_eq_true] at ha
      have h60 : ts.length > 60 := by
        rcases Nat.lt_or_ge 60 ts.length with h' | h'
        · exact h'
        · exact absurd ⟨hv, h', ha⟩ h
      exact ⟨2, by decide, by simp [h60]⟩

/-- The inner loop of the statement. -/
theorem inner_sum (n : Nat) (ts : List STake) (g : SGood) (body : Int × Int → Option (Step (Int × Int) Int)) (h60 : ts.length ≤ 60) (hm : ∀ t ∈ ts, inRB (-1000000) 1000000 t.Many = true) (h0 : 0 ≤ g.OnHand) (h1 : g.OnHand ≤ 1000000) (hn : 1000 < n)
    (hb : ∀ (i : Nat) (t : STake) (s : Int), ts[i]? = some t → body (s, (i : Int)) = some (.next (if t.Name == g.Name then wI64 (s + t.Many) else s, ((i + 1 : Nat) : Int)))) (he : ∀ s : Int, body (s, (ts.length : Int)) = some (.done s)) :
    loopN body n (g.OnHand, 0) = some (g.OnHand + sumN g.Name ts) := by
  have h := loopN_run (body := body) (fun i => (g.OnHand + sumN g.Name (ts.take i), (i : Int))) (g.OnHand + sumN g.Name ts) ts.length (fun i hi => ?_) (by rw [List.take_length]; exact he _) n (by omega)
  · have e0 : g.OnHand + sumN g.Name (ts.take 0) = g.OnHand := by simp [sumN]
    simp only [e0] at h
    exact h
  · obtain ⟨t, ht⟩ : ∃ t, ts[i]? = some t := ⟨_, List.getElem?_eq_getElem hi⟩
    rw [hb i t _ ht]
    have hsum : sumN g.Name (ts.take (i + 1)) = sumN g.Name (ts.take i) + (if t.Name = g.Name then t.Many else 0) := by
      rw [List.take_add_one, ht]; simp [sumN]
    have hbd : ∀ (xs : List STake), (∀ t ∈ xs, inRB (-1000000) 1000000 t.Many = true) → -1000000 * (xs.length : Int) ≤ sumN g.Name xs ∧ sumN g.Name xs ≤ 1000000 * (xs.length : Int) := by
      intro xs
      induction xs with
      | nil => intro _; simp [sumN]
      | cons x xs ih =>
        intro hx
        have i1 := ih fun t ht => hx t (by simp [ht])
        have i2 := hx x (by simp)
        unfold inRB at i2
        simp only [Bool.and_eq_true, decide_eq_true_eq] at i2
        have e : sumN g.Name (x :: xs) = (if x.Name = g.Name then x.Many else 0) + sumN g.Name xs := by simp [sumN]
        rw [e]
        simp only [List.length_cons]
        split <;> omega
    have hb1 := hbd (ts.take i) (fun t ht => hm t (List.mem_of_mem_take ht))
    have hlen : (ts.take i).length = i := by simp; omega
    rw [hlen] at hb1
    have htm := hm t (List.mem_of_getElem? ht)
    unfold inRB at htm
    simp only [Bool.and_eq_true, decide_eq_true_eq] at htm
    rw [hsum]
    by_cases hc : t.Name = g.Name
    · have : (t.Name == g.Name) = true := by simpa using hc
      rw [this, if_pos rfl, if_pos hc, wI64_eq (by omega) (by omega)]
      congr 3; omega
    · have : (t.Name == g.Name) = false := by simpa using hc
      rw [this, if_neg hc]
      simp

/-- What all takes leave. -/
theorem outer_sum (n : Nat) (l b : List SGood) (ts : List STake) (body : Int → Option (Step Int (Unit ⊕ Bool))) (hv : goodsB l = true) (h60 : ts.length ≤ 60) (hm : ∀ t ∈ ts, inRB (-1000000) 1000000 t.Many = true) (hr : runL (roundG l) 0 ts l = .ok b) (hn : 1000 < n)
    (hb : ∀ (i : Nat) (g h : SGood), l[i]? = some g → b[i]? = some h → h.OnHand = g.OnHand + sumN g.Name ts → body (i : Int) = some (.next ((i + 1 : Nat) : Int))) (he : body (l.length : Int) = some (.done (.inl ()))) :
    loopN body n 0 = some (.inl ()) := by
  have hS := stock_of hv
  have hlen := hS.len
  obtain ⟨b1, b2, b3⟩ := run_sum l ts 0 l b hr
  refine loopN_run (body := body) (fun i => (i : Int)) (.inl ()) l.length (fun i hi => ?_) he n (by omega)
  obtain ⟨g, hg⟩ : ∃ g, l[i]? = some g := ⟨_, List.getElem?_eq_getElem hi⟩
  obtain ⟨h, hh⟩ : ∃ h, b[i]? = some h := ⟨_, List.getElem?_eq_getElem (by omega)⟩
  refine hb i g h hg hh ?_
  have h3 := b3 i hi
  rw [List.getD_eq_getElem?_getD, hh, List.getD_eq_getElem?_getD, hg] at h3
  simp only [Option.getD_some] at h3
  rw [h3, sum_same (find_self hS hg) ts]
  rfl

end Go.Gv
