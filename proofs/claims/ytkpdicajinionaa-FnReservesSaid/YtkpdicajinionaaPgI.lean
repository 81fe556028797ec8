/- Plain laws of stock: what is drawn. -/
import Derived.Test.YtkpdicajinionaaPgH
import Derived.Test.YtkpdicajinionaaPkb
namespace Go.Gv
open Go Go.RowKit

theorem p_among (n : Nat) {code : List Int} (hc : bytesok code) (a : Nat) (ha : a ≤ 900000000) (seed : Int) (xs : List Int) (h1 : 1 ≤ xs.length) (h2 : xs.length ≤ 1000) :
    ∃ x a' seed', m_spec_l00Src_among_o1 n code (a : Int) seed xs = some (x, ((a' : Nat) : Int), seed') ∧ x ∈ xs ∧ a' ≤ a + 2 := by
  unfold m_spec_l00Src_among_o1
  obtain ⟨x, a', s', e, h3, h4, h5⟩ := p_pick n hc a ha seed (xs.length : Int) (by omega)
  rw [e]
  have h6 := h4 (by omega)
  obtain ⟨k, rfl⟩ : ∃ k : Nat, x = (k : Int) := ⟨x.toNat, by omega⟩
  have hk : k < xs.length := by omega
  have hg : xs[k]? = some xs[k] := List.getElem?_eq_getElem hk
  simp only [Option.bind_some, idx_nat, hg]
  exact ⟨_, a', s', rfl, List.getElem_mem hk, h5⟩

theorem p_text (n : Nat) {code : List Int} (hc : bytesok code) (a : Nat) (ha : a ≤ 900000000) (seed : Int) (xs : List (List UInt8)) (h1 : 1 ≤ xs.length) (h2 : xs.length ≤ 1000) :
    ∃ x a' seed', m_spec_l00Src_text_o1 n code (a : Int) seed xs = some (x, ((a' : Nat) : Int), seed') ∧ x ∈ xs ∧ a' ≤ a + 2 := by
  unfold m_spec_l00Src_text_o1
  obtain ⟨x, a', s', e, h3, h4, h5⟩ := p_pick n hc a ha seed (xs.length : Int) (by omega)
  rw [e]
  have h6 := h4 (by omega)
  obtain ⟨k, rfl⟩ : ∃ k : Nat, x = (k : Int) := ⟨x.toNat, by omega⟩
  have hk : k < xs.length := by omega
  have hg : xs[k]? = some xs[k] := List.getElem?_eq_getElem hk
  simp only [Option.bind_some, idx_nat, hg]
  exact ⟨_, a', s', rfl, List.getElem_mem hk, h5⟩

theorem inc64 {i : Nat} (h : i ≤ 1000000) : wI64 ((i : Int) + 1) = ((i + 1 : Nat) : Int) := by rw [wI64_eq (by omega) (by omega)]; omega

theorem p_l00From (n : Nat) (code : List Int) : m_spec_l00From n code = some (0, 0) := rfl

/-- A stock that is drawn. -/
def DG (l : List SGood) : Prop := l.length ≤ 41 ∧ ∀ g ∈ l, g.Name.length ≤ 12

theorem DG.ok {l : List SGood} (h : DG l) : l.length ≤ 1048576 ∧ ∀ g ∈ l, strok g.Name := ⟨by have := h.1; omega, fun g hg => by have := h.2 g hg; unfold strok; omega⟩

theorem DG.snoc {l : List SGood} {k : Nat} (hl : l.length ≤ k) (hk : k < 41) (h : ∀ g ∈ l, g.Name.length ≤ 12) {g : SGood} (hg : g.Name.length ≤ 12) : (l ++ [g]).length ≤ k + 1 ∧ ∀ x ∈ l ++ [g], x.Name.length ≤ 12 := by
  refine ⟨by simp; omega, fun x hx => ?_⟩
  rcases List.mem_append.1 hx with hx | hx
  · exact h x hx
  · simp at hx; subst hx; exact hg

def goodNames : List (List UInt8) := [[99, 97, 108, 102], [99, 111, 114, 107], [101, 121, 101, 108, 101, 116], [104, 101, 101, 108, 45, 51], [108, 97, 99, 101], [110, 97, 105, 108], [116, 104, 114, 101, 97, 100], [119, 97, 120]]
theorem goodNames_len : ∀ w ∈ goodNames, w.length ≤ 12 := by decide
theorem p_l23Names (n : Nat) : m_spec_l23Names n = some goodNames := rfl

theorem p_l23New (n : Nat) {code : List Int} (hc : bytesok code) (A : Nat) (hA : A ≤ 800000000) (seed : Int) (name : List UInt8) :
    ∃ (g : SGood) (a : Nat) (s : Int), m_spec_l23New n code (A : Int) seed name = some (g, (a : Int), s) ∧ g.Name = name ∧ a ≤ A + 8 := by
  unfold m_spec_l23New
  obtain ⟨h, a1, s1, e1, h0, h1, h2⟩ := p_pick n hc A (by omega) seed 120 (by omega)
  have h1' := h1 (by omega)
  have w : wI64 (h + 1) = h + 1 := wI64_eq (by omega) (by omega)
  obtain ⟨r, a2, s2, e2, _, _, h3⟩ := p_pick n hc a1 (by omega) s1 (h + 1) (by omega)
  obtain ⟨b, a3, s3, e3, h4⟩ := p_one n hc a2 (by omega) s2 2 (by omega)
  obtain ⟨l, a4, s4, e4, _, _, h5⟩ := p_pick n hc a3 (by omega) s3 60 (by omega)
  simp only [e1, Option.bind_some, w, e2, e3]
  cases b <;> simp only [Bool.false_eq_true, if_false, if_true, Option.bind_some, e4] <;> exact ⟨_, a4, s4, rfl, rfl, by omega⟩

theorem d_l23Draw (n : Nat) {code : List Int} (hc : bytesok code) (A : Nat) (hA : A ≤ 700000000) (seed : Int) (hn : 100 < n) :
    ∃ q : List SGood × Int × Int, loopN (m_spec_l23Draw_l1 n code goodNames) n (([] : List SGood), 0, (A : Int), seed) = some q ∧ q.1.length ≤ 8 ∧ (∀ g ∈ q.1, g.Name.length ≤ 12) ∧ ∃ a : Nat, q.2.1 = (a : Int) ∧ a ≤ A + 80 :=
  loopN_count (body := m_spec_l23Draw_l1 n code goodNames) (fun i s => s.2.1 = (i : Int) ∧ s.1.length ≤ i ∧ (∀ g ∈ s.1, g.Name.length ≤ 12) ∧ ∃ a : Nat, s.2.2.1 = (a : Int) ∧ a ≤ A + 10 * i) 8
    (fun q => q.1.length ≤ 8 ∧ (∀ g ∈ q.1, g.Name.length ≤ 12) ∧ ∃ a : Nat, q.2.1 = (a : Int) ∧ a ≤ A + 80)
    (fun i s hi hJ => by
      obtain ⟨o, k, t, sd⟩ := s
      obtain ⟨h1, h2, h3, a, h4, h5⟩ := hJ
      simp only at h1 h2 h3 h4
      subst h1 h4
      have hnm : i < goodNames.length := by simp [goodNames]; omega
      have hg : goodNames[i]? = some goodNames[i] := List.getElem?_eq_getElem hnm
      obtain ⟨b, a1, s1, e1, h6⟩ := p_one n hc a (by omega) sd 2 (by omega)
      unfold m_spec_l23Draw_l1
      simp only [ltB hnm, if_true, e1, Option.bind_some, inc64 (show i ≤ 1000000 by omega)]
      cases b with
      | false => exact ⟨_, rfl, rfl, by simp only; omega, h3, a1, rfl, by omega⟩
      | true =>
        obtain ⟨g, a2, s2, e2, h7, h8⟩ := p_l23New n hc a1 (by omega) s1 goodNames[i]
        simp only [if_true, idx_nat, hg, Option.bind_some, e2, app_eq (show o.length + [g].length ≤ 4294967296 by simp; omega)]
        obtain ⟨k1, k2⟩ := DG.snoc (g := g) h2 (by omega) h3 (by rw [h7]; exact goodNames_len _ (List.getElem_mem hnm))
        exact ⟨_, rfl, rfl, k1, k2, a2, rfl, by omega⟩)
    (fun s hJ => by
      obtain ⟨o, k, t, sd⟩ := s
      obtain ⟨h1, h2, h3, a, h4, h5⟩ := hJ
      simp only at h1 h2 h3 h4
      subst h1 h4
      exact ⟨_, rfl, h2, h3, a, rfl, by omega⟩) n (by omega) _ ⟨rfl, by simp, by simp, A, rfl, by omega⟩

theorem bent_g (n : Nat) (K : Nat) (hK : K ≤ 41) (hn : 100 < n) : ∃ q : List SGood, loopN (m_spec_l23Bent_l4 n) n (([] : List SGood), (K : Int)) = some q ∧ DG q :=
  loopN_count (body := m_spec_l23Bent_l4 n) (fun i s => s.1.length ≤ i ∧ s.2 = ((K - i : Nat) : Int) ∧ ∀ g ∈ s.1, g.Name.length ≤ 12) K DG
    (fun i s hi hJ => by
      obtain ⟨o, k⟩ := s
      obtain ⟨h1, h2, h3⟩ := hJ
      simp only at h1 h2 h3
      subst h2
      have hgt : decide (((K - i : Nat) : Int) > 0) = true := decide_eq_true (by omega)
      have w : wI64 (((K - i : Nat) : Int) - 1) = ((K - (i + 1) : Nat) : Int) := by rw [wI64_eq (by omega) (by omega)]; omega
      have hl : ∀ x y : Int, (ofBytes ([x, y] : List Int)).length = 2 := fun x y => by simp [ofBytes]
      obtain ⟨nm, hnm, hnl⟩ : ∃ nm, app [103] (ofBytes ([(IntKind.u8.wrap (wI64 (97 + (wI64 (Int.tdiv (o.length : Int) 26))))), (IntKind.u8.wrap (wI64 (97 + (Int.tmod (o.length : Int) 26))))] : List Int)) = some nm ∧ nm.length ≤ 12 :=
        ⟨_, app_eq (by rw [hl]; simp), by rw [List.length_append, hl]; simp⟩
      unfold m_spec_l23Bent_l4
      simp only [hgt, if_true, hnm, w, Option.bind_some, app_eq (show o.length + [SGood.mk nm 9 0 0].length ≤ 4294967296 by simp; omega)]
      obtain ⟨k1, k2⟩ := DG.snoc (g := SGood.mk nm 9 0 0) h1 (by omega) h3 hnl
      exact ⟨_, rfl, k1, rfl, k2⟩)
    (fun s hJ => by
      obtain ⟨o, k⟩ := s
      obtain ⟨h1, h2, h3⟩ := hJ
      simp only at h1 h2 h3
      rw [Nat.sub_self] at h2
      subst h2
      exact ⟨o, rfl, by omega, h3⟩) n (by omega) _ ⟨by simp, by simp, by simp⟩

theorem DG.set {l : List SGood} {i : Nat} {g : SGood} (h : DG l) (hg : g.Name.length ≤ 12) : DG (l.set i g) := by
  refine ⟨by simpa using h.1, fun x hx => ?_⟩
  rcases List.mem_or_eq_of_mem_set hx with hx | hx
  · exact h.2 x hx
  · subst hx; exact hg

theorem p_l23Spoil (n : Nat) {code : List Int} (hc : bytesok code) (A : Nat) (hA : A ≤ 800000000) (seed : Int) (l : List SGood) (hl : DG l) (i : Int) (g : SGood) (hg : g.Name.length ≤ 12) :
    ∃ (l' : List SGood) (a : Nat) (s : Int), m_spec_l23Spoil_o1 n code (A : Int) seed l i g = some (l', (a : Int), s) ∧ DG l' ∧ a ≤ A + 4 := by
  unfold m_spec_l23Spoil_o1
  obtain ⟨p, a1, s1, e1, _, _, h1⟩ := p_pick n hc A (by omega) seed 4 (by omega)
  simp only [e1, Option.bind_some]
  cases p == 0 with
  | true =>
    obtain ⟨v, a2, s2, e2, hv, h2⟩ := p_text n hc a1 (by omega) s1 [[], [67, 97, 108, 102], [122, 122]] (by simp) (by simp)
    simp only [if_true, e2, Option.bind_some]
    have : ∀ v ∈ ([[], [67, 97, 108, 102], [122, 122]] : List (List UInt8)), v.length ≤ 12 := by decide
    exact ⟨_, a2, s2, rfl, hl.set (this v hv), by omega⟩
  | false =>
    simp only [Bool.false_eq_true, if_false]
    cases p == 1 with
    | true =>
      obtain ⟨v, a2, s2, e2, hv, h2⟩ := p_among n hc a1 (by omega) s1 [(-1), 0, 1000000, 1000001] (by simp) (by simp)
      simp only [if_true, e2, Option.bind_some]
      exact ⟨_, a2, s2, rfl, hl.set hg, by omega⟩
    | false =>
      simp only [Bool.false_eq_true, if_false]
      cases p == 2 with
      | true =>
        obtain ⟨v, a2, s2, e2, hv, h2⟩ := p_among n hc a1 (by omega) s1 [(-1), g.OnHand, (wI64 (g.OnHand + 1)), (-9223372036854775808)] (by simp) (by simp)
        simp only [if_true, e2, Option.bind_some]
        exact ⟨_, a2, s2, rfl, hl.set hg, by omega⟩
      | false =>
        simp only [Bool.false_eq_true, if_false]
        cases p == 3 with
        | true =>
          obtain ⟨v, a2, s2, e2, hv, h2⟩ := p_among n hc a1 (by omega) s1 [(-1), 0, 1000000, 1000001] (by simp) (by simp)
          simp only [if_true, e2, Option.bind_some]
          exact ⟨_, a2, s2, rfl, hl.set hg, by omega⟩
        | false =>
          simp only [Bool.false_eq_true, if_false, Option.bind_some]
          exact ⟨_, a1, s1, rfl, hl, by omega⟩

theorem p_l23Bent (n : Nat) {code : List Int} (hc : bytesok code) (A : Nat) (hA : A ≤ 500000000) (seed : Int) (hn : 100 < n) :
    ∃ (l : List SGood) (a : Nat) (s : Int), m_spec_l23Bent n code (A : Int) seed = some (l, (a : Int), s) ∧ DG l ∧ a ≤ A + 1000 := by
  unfold m_spec_l23Bent m_spec_l23Draw
  obtain ⟨⟨l, t, s⟩, e1, h1, h2, a1, h3, h4⟩ := d_l23Draw n hc A (by omega) seed hn
  simp only at h1 h2 h3
  subst h3
  obtain ⟨b, a2, s2, e2, h5⟩ := p_one n hc a1 (by omega) s 24 (by omega)
  simp only [p_l23Names, Option.bind_some, e1, e2]
  obtain ⟨l2, a3, s3, e3, h6, h7⟩ : ∃ (l2 : List SGood) (a3 : Nat) (s3 : Int), (if b = true then Option.bind (m_spec_l00Src_pick n code (a2 : Int) s2 2) fun x270 => Option.bind (loopN (m_spec_l23Bent_l4 n) n (([] : List SGood), (wI64 (40 + x270.1)))) fun q329 => some (q329, x270.2.1, x270.2.2) else some (l, (a2 : Int), s2)) = some (l2, (a3 : Int), s3) ∧ DG l2 ∧ a3 ≤ a2 + 2 := by
    cases b with
    | false => exact ⟨l, a2, s2, rfl, ⟨by omega, h2⟩, by omega⟩
    | true =>
      obtain ⟨p, a3, s3, e3, p0, p1, h6⟩ := p_pick n hc a2 (by omega) s2 2 (by omega)
      have p1' := p1 (by omega)
      obtain ⟨K, hK, hK2⟩ : ∃ K : Nat, wI64 (40 + p) = (K : Int) ∧ K ≤ 41 := ⟨(40 + p).toNat, by rw [wI64_eq (by omega) (by omega)]; omega, by omega⟩
      obtain ⟨q, e4, q1⟩ := bent_g n K hK2 hn
      simp only [if_true, e3, Option.bind_some, hK, e4]
      exact ⟨q, a3, s3, rfl, q1, h6⟩
  rw [e3]
  simp only [Option.bind_some]
  cases hz : decide ((l2.length : Int) > 0) with
  | false =>
    simp only [Bool.false_eq_true, if_false, Option.bind_some]
    exact ⟨l2, a3, s3, rfl, h6, by omega⟩
  | true =>
    have hpos : 0 < l2.length := by have := of_decide_eq_true hz; omega
    obtain ⟨c, a4, s4, e4, h8⟩ := p_one n hc a3 (by omega) s3 10 (by omega)
    simp only [if_true, e4, Option.bind_some]
    cases c with
    | false => exact ⟨l2, a4, s4, rfl, h6, by omega⟩
    | true =>
      have hll := h6.1
      obtain ⟨p, a5, s5, e5, p0, p1, h9⟩ := p_pick n hc a4 (by omega) s4 (l2.length : Int) (by omega)
      have p1' := p1 (by omega)
      obtain ⟨k, rfl⟩ : ∃ k : Nat, p = (k : Int) := ⟨p.toNat, by omega⟩
      have hk : k < l2.length := by omega
      have hg : l2[k]? = some l2[k] := List.getElem?_eq_getElem hk
      obtain ⟨l3, a6, s6, e6, h10, h11⟩ := p_l23Spoil n hc a5 (by omega) s5 l2 h6 (k : Int) l2[k] (h6.2 _ (List.getElem_mem hk))
      simp only [if_true, e5, Option.bind_some, idx_nat, hg, e6]
      exact ⟨l3, a6, s6, rfl, h10, by omega⟩

theorem p_l23Name (n : Nat) {code : List Int} (hc : bytesok code) (A : Nat) (hA : A ≤ 800000000) (seed : Int) (l : List SGood) (hl : DG l) :
    ∃ (w : List UInt8) (a : Nat) (s : Int), m_spec_l23Name_o1 n code (A : Int) seed l = some (w, (a : Int), s) ∧ w.length ≤ 12 ∧ a ≤ A + 6 := by
  unfold m_spec_l23Name_o1
  have hll := hl.1
  obtain ⟨b, a1, s1, e1, h1, h2⟩ : ∃ (b : Bool) (a1 : Nat) (s1 : Int), (if decide ((l.length : Int) > 0) = true then Option.bind (m_spec_l00Src_one n code (A : Int) seed 6) fun x39 => some ((!x39.1), x39.2.1, x39.2.2) else some (false, (A : Int), seed)) = some (b, (a1 : Int), s1) ∧ a1 ≤ A + 2 ∧ (b = true → 0 < l.length) := by
    cases hz : decide ((l.length : Int) > 0) with
    | false => exact ⟨false, A, seed, rfl, by omega, fun h => by cases h⟩
    | true =>
      obtain ⟨c, a1, s1, e1, h1⟩ := p_one n hc A (by omega) seed 6 (by omega)
      simp only [if_true, e1, Option.bind_some]
      exact ⟨!c, a1, s1, rfl, h1, fun _ => by have := of_decide_eq_true hz; omega⟩
  rw [e1]
  simp only [Option.bind_some]
  cases b with
  | true =>
    have hpos := h2 rfl
    obtain ⟨p, a2, s2, e2, p0, p1, h3⟩ := p_pick n hc a1 (by omega) s1 (l.length : Int) (by omega)
    have p1' := p1 (by omega)
    obtain ⟨k, rfl⟩ : ∃ k : Nat, p = (k : Int) := ⟨p.toNat, by omega⟩
    have hk : k < l.length := by omega
    have hg : l[k]? = some l[k] := List.getElem?_eq_getElem hk
    simp only [if_true, e2, Option.bind_some, idx_nat, hg]
    exact ⟨_, a2, s2, rfl, hl.2 _ (List.getElem_mem hk), by omega⟩
  | false =>
    obtain ⟨v, a2, s2, e2, hv, h3⟩ := p_text n hc a1 (by omega) s1 goodNames (by decide) (by decide)
    simp only [Bool.false_eq_true, if_false, p_l23Names, Option.bind_some, e2]
    exact ⟨_, a2, s2, rfl, goodNames_len v hv, by omega⟩

theorem p_l23Ask (n : Nat) {code : List Int} (hc : bytesok code) (hn : 100 < n) : ∃ (l : List SGood) (w : List UInt8) (m : Int), m_spec_l23Ask n code = some (l, w, m) ∧ DG l := by
  unfold m_spec_l23Ask
  rw [p_l00From]
  obtain ⟨l, a1, s1, e1, h1, h2⟩ := p_l23Bent n hc 0 (by omega) 0 hn
  have e1' : m_spec_l23Bent n code 0 0 = some (l, (a1 : Int), s1) := e1
  obtain ⟨w, a2, s2, e2, h3, h4⟩ := p_l23Name n hc a1 (by omega) s1 l h1
  obtain ⟨b, a3, s3, e3, h5⟩ := p_one n hc a2 (by omega) s2 8 (by omega)
  simp only [Option.bind_some, e1', e2, e3]
  cases b with
  | true =>
    obtain ⟨v, a4, s4, e4, _, _⟩ := p_among n hc a3 (by omega) s3 [(-1), 0, 1, 1000000, 1000001] (by simp) (by simp)
    simp only [if_true, e4, Option.bind_some]
    exact ⟨l, w, v, rfl, h1⟩
  | false =>
    obtain ⟨v, a4, s4, e4, _, _, _⟩ := p_pick n hc a3 (by omega) s3 60 (by omega)
    simp only [Bool.false_eq_true, if_false, e4, Option.bind_some]
    exact ⟨l, w, _, rfl, h1⟩

theorem d_can (n : Nat) {code : List Int} (hc : bytesok code) (x14 : List SGood × Int × Int) (hl : DG x14.1) (K : Nat) (hK : K ≤ 5) (A : Nat) (hA : A ≤ 700000000) (seed : Int) (hn : 100 < n) :
    ∃ q : List STake × Int × Int, loopN (m_spec_DrawCanMake_l1 n code x14) n (([] : List STake), (K : Int), (A : Int), seed) = some q ∧ q.1.length ≤ 5 ∧ ∃ a : Nat, q.2.1 = (a : Int) ∧ a ≤ A + 50 :=
  loopN_count (body := m_spec_DrawCanMake_l1 n code x14) (fun i s => s.1.length ≤ i ∧ s.2.1 = ((K - i : Nat) : Int) ∧ ∃ a : Nat, s.2.2.1 = (a : Int) ∧ a ≤ A + 10 * i) K (fun q => q.1.length ≤ 5 ∧ ∃ a : Nat, q.2.1 = (a : Int) ∧ a ≤ A + 50)
    (fun i s hi hJ => by
      obtain ⟨o, k, t, sd⟩ := s
      obtain ⟨h1, h2, a, h4, h5⟩ := hJ
      simp only at h1 h2 h4
      subst h2 h4
      have hgt : decide (((K - i : Nat) : Int) > 0) = true := decide_eq_true (by omega)
      have w : wI64 (((K - i : Nat) : Int) - 1) = ((K - (i + 1) : Nat) : Int) := by rw [wI64_eq (by omega) (by omega)]; omega
      obtain ⟨nm, a1, s1, e1, h6, h7⟩ := p_l23Name n hc a (by omega) sd x14.1 hl
      obtain ⟨p, a2, s2, e2, _, _, h8⟩ := p_pick n hc a1 (by omega) s1 9 (by omega)
      unfold m_spec_DrawCanMake_l1
      simp only [hgt, if_true, e1, e2, Option.bind_some, w, app_eq (show o.length + [STake.mk nm (wI64 (1 + p))].length ≤ 4294967296 by simp; omega)]
      exact ⟨_, rfl, by simp; omega, rfl, a2, rfl, by omega⟩)
    (fun s hJ => by
      obtain ⟨o, k, t, sd⟩ := s
      obtain ⟨h1, h2, a, h4, h5⟩ := hJ
      simp only at h1 h2 h4
      rw [Nat.sub_self] at h2
      subst h2 h4
      exact ⟨_, rfl, by simp only; omega, a, rfl, by omega⟩) n (by omega) _ ⟨by simp, by simp, A, rfl, by omega⟩

theorem p_DrawCanMake (n : Nat) {code : List Int} (hc : bytesok code) (hn : 100 < n) : ∃ (l : List SGood) (ts : List STake), m_spec_DrawCanMake n code = some (l, ts) ∧ DG l ∧ ts.length ≤ 5 := by
  unfold m_spec_DrawCanMake
  rw [p_l00From]
  obtain ⟨l, a1, s1, e1, h1, h2⟩ := p_l23Bent n hc 0 (by omega) 0 hn
  have e1' : m_spec_l23Bent n code 0 0 = some (l, (a1 : Int), s1) := e1
  obtain ⟨p, a2, s2, e2, p0, p1, h3⟩ := p_pick n hc a1 (by omega) s1 5 (by omega)
  have p1' := p1 (by omega)
  obtain ⟨K, rfl⟩ : ∃ K : Nat, p = (K : Int) := ⟨p.toNat, by omega⟩
  obtain ⟨⟨o, t, s3⟩, e3, h4, a3, h5, h6⟩ := d_can n hc (l, (a1 : Int), s1) h1 K (by omega) a2 (by omega) s2 hn
  simp only at h4 h5
  subst h5
  simp only [Option.bind_some, e1', e2, e3]
  cases hz : decide ((o.length : Int) > 0) with
  | false =>
    simp only [Bool.false_eq_true, if_false, Option.bind_some]
    exact ⟨l, o, rfl, h1, h4⟩
  | true =>
    have hpos : 0 < o.length := by have := of_decide_eq_true hz; omega
    have hg : o[0]? = some o[0] := List.getElem?_eq_getElem hpos
    obtain ⟨c, a4, s4, e4, h8⟩ := p_one n hc a3 (by omega) s3 10 (by omega)
    simp only [if_true, e4, Option.bind_some]
    cases c with
    | false => exact ⟨l, o, rfl, h1, h4⟩
    | true =>
      obtain ⟨v, a5, s5, e5, _, _⟩ := p_among n hc a4 (by omega) s4 [(-1), 0, 1, 1000000, 1000001] (by simp) (by simp)
      simp only [if_true, e5, Option.bind_some, idx_zero, hg]
      exact ⟨l, _, rfl, h1, by simp; omega⟩

end Go.Gv
