/- Plain laws of repairs: what is drawn. -/
import Derived.Test.YtkglfbcelaphhaaPvG
import Derived.Test.YtkglfbcelaphhaaPkb
namespace Go.Gv
open Go Go.RowKit

theorem p_among (n : Nat) {code : List Int} (hc : bytesok code) (a : Nat) (ha : a ≤ 900000000) (seed : Int) (xs : List Int) (h1 : 1 ≤ xs.length) (h2 : xs.length ≤ 1000) :
    ∃ x a' seed', m_spec_l00Src_among_o1 n code (a : Int) seed xs = some (x, ((a' : Nat) : Int), seed') ∧ x ∈ xs ∧ a' ≤ a + 2 := by
  unfold m_spec_l00Src_among_o1
  obtain ⟨x, a', s', e, h3, h4, h5⟩ := p_pick n hc a ha seed (xs.length : Int) (by omega)
  rw [e]
  have h6 := h4 (by omega)
  obtain ⟨k, rfl⟩ : ∃ k : Nat, x = (k : Int) := ⟨x.toNat, by omega⟩
  have hk : k < xs.length := by omega
  have hg : xs[k]? = some xs[k] := List.getElem?_eq_getElem hk
  simp only [Option.bind_some, idx_nat, hg]
  exact ⟨_, a', s', rfl, List.getElem_mem hk, h5⟩

theorem p_text (n : Nat) {code : List Int} (hc : bytesok code) (a : Nat) (ha : a ≤ 900000000) (seed : Int) (xs : List (List UInt8)) (h1 : 1 ≤ xs.length) (h2 : xs.length ≤ 1000) :
    ∃ x a' seed', m_spec_l00Src_text_o1 n code (a : Int) seed xs = some (x, ((a' : Nat) : Int), seed') ∧ x ∈ xs ∧ a' ≤ a + 2 := by
  unfold m_spec_l00Src_text_o1
  obtain ⟨x, a', s', e, h3, h4, h5⟩ := p_pick n hc a ha seed (xs.length : Int) (by omega)
  rw [e]
  have h6 := h4 (by omega)
  obtain ⟨k, rfl⟩ : ∃ k : Nat, x = (k : Int) := ⟨x.toNat, by omega⟩
  have hk : k < xs.length := by omega
  have hg : xs[k]? = some xs[k] := List.getElem?_eq_getElem hk
  simp only [Option.bind_some, idx_nat, hg]
  exact ⟨_, a', s', rfl, List.getElem_mem hk, h5⟩

/-- A repair that is drawn. -/
def DR (x : SRepair) : Prop := x.Name.length ≤ 12 ∧ x.Mends.length ≤ 20 ∧ x.First.length ≤ 20 ∧ (∀ n ∈ x.Mends, i64ok n) ∧ (∀ n ∈ x.First, i64ok n) ∧ i64ok x.Price ∧ i64ok x.Hours

theorem DR.ok {x : SRepair} (h : DR x) : okRepair x := by
  obtain ⟨h1, h2, h3, h4, h5, h6, h7⟩ := h
  refine ⟨?_, ⟨?_, h4⟩, ⟨?_, h5⟩, h6, h7⟩
  · unfold strok; omega
  · omega
  · omega

theorem small_of {l : List SRepair} (hl : l.length ≤ 1000) (h : ∀ x ∈ l, DR x) : smallR l := by
  refine ⟨?_, fun x hx => (h x hx).ok⟩
  have : ∀ l : List SRepair, (∀ x ∈ l, DR x) → totR l ≤ 60 * l.length := by
    intro l
    induction l with
    | nil => intro _; simp [totR]
    | cons x l ih =>
      intro h
      have h1 := h x (by simp)
      have h2 := ih fun y hy => h y (by simp [hy])
      have h3 : totR (x :: l) = szR x + totR l := by simp [totR]
      have h4 : szR x ≤ 60 := by unfold szR; obtain ⟨g1, g2, g3, _⟩ := h1; omega
      rw [h3, List.length_cons]; omega
  have := this l h
  omega

theorem small64 {x : Int} (h0 : -1 ≤ x) (h1 : x ≤ 1000000) : i64ok x := by unfold i64ok; omega

theorem inc64 {i : Nat} (h : i ≤ 1000000) : wI64 ((i : Int) + 1) = ((i + 1 : Nat) : Int) := by rw [wI64_eq (by omega) (by omega)]; omega

theorem mem_snoc {p : Int → Prop} {l : List Int} {v : Int} (h : ∀ x ∈ l, p x) (hv : p v) : ∀ x ∈ l ++ [v], p x := by
  intro x hx
  rcases List.mem_append.1 hx with hx | hx
  · exact h x hx
  · simp at hx; subst hx; exact hv

theorem d_l6 (n : Nat) {code : List Int} (hc : bytesok code) (A : Nat) (hA : A ≤ 800000000) (seed : Int) (hn : 100 < n) :
    ∃ q : List Int × Int × Int, loopN (m_spec_l21Draw_l6 n code) n (0, ([] : List Int), (A : Int), seed) = some q ∧ q.1.length ≤ 5 ∧ (∀ x ∈ q.1, i64ok x) ∧ ∃ a : Nat, q.2.1 = (a : Int) ∧ a ≤ A + 10 :=
  loopN_count (body := m_spec_l21Draw_l6 n code) (fun i s => s.1 = (i : Int) ∧ s.2.1.length ≤ i ∧ (∀ x ∈ s.2.1, i64ok x) ∧ ∃ a : Nat, s.2.2.1 = (a : Int) ∧ a ≤ A + 2 * i) 5
    (fun q => q.1.length ≤ 5 ∧ (∀ x ∈ q.1, i64ok x) ∧ ∃ a : Nat, q.2.1 = (a : Int) ∧ a ≤ A + 10)
    (fun i s hi hJ => by
      obtain ⟨k, o, t, sd⟩ := s
      obtain ⟨h1, h2, h3, a, h4, h5⟩ := hJ
      simp only at h1 h2 h3 h4
      subst h1 h4
      obtain ⟨b, a', s', e, h6⟩ := p_one n hc a (by omega) sd 3 (by omega)
      have hlt : decide ((i : Int) < 5) = true := decide_eq_true (by omega)
      unfold m_spec_l21Draw_l6
      simp only [hlt, if_true, e, Option.bind_some, inc64 (show i ≤ 1000000 by omega)]
      cases b with
      | false => exact ⟨_, rfl, rfl, by simp only; omega, h3, a', rfl, by omega⟩
      | true =>
        simp only [if_true, app_eq (show o.length + [(i : Int)].length ≤ 4294967296 by simp; omega), Option.bind_some]
        exact ⟨_, rfl, rfl, by simp; omega, mem_snoc h3 (small64 (by omega) (by omega)), a', rfl, by omega⟩)
    (fun s hJ => by
      obtain ⟨k, o, t, sd⟩ := s
      obtain ⟨h1, h2, h3, a, h4, h5⟩ := hJ
      simp only at h1 h2 h3 h4
      subst h1 h4
      exact ⟨_, rfl, h2, h3, a, rfl, by omega⟩) n (by omega) _ ⟨rfl, by simp, by simp, A, rfl, by omega⟩

theorem d_l9 (n : Nat) {code : List Int} (hc : bytesok code) (st : List SRepair × Int × Int × Int) (N : Nat) (hst : st.2.1 = (N : Int)) (hN : N ≤ 20) (A : Nat) (hA : A ≤ 800000000) (seed : Int) (hn : 100 < n) :
    ∃ q : List Int × Int × Int, loopN (m_spec_l21Draw_l9 n code st) n (0, ([] : List Int), (A : Int), seed) = some q ∧ q.1.length ≤ N ∧ (∀ x ∈ q.1, i64ok x) ∧ ∃ a : Nat, q.2.1 = (a : Int) ∧ a ≤ A + 2 * N :=
  loopN_count (body := m_spec_l21Draw_l9 n code st) (fun i s => s.1 = (i : Int) ∧ s.2.1.length ≤ i ∧ (∀ x ∈ s.2.1, i64ok x) ∧ ∃ a : Nat, s.2.2.1 = (a : Int) ∧ a ≤ A + 2 * i) N
    (fun q => q.1.length ≤ N ∧ (∀ x ∈ q.1, i64ok x) ∧ ∃ a : Nat, q.2.1 = (a : Int) ∧ a ≤ A + 2 * N)
    (fun i s hi hJ => by
      obtain ⟨k, o, t, sd⟩ := s
      obtain ⟨h1, h2, h3, a, h4, h5⟩ := hJ
      simp only at h1 h2 h3 h4
      subst h1 h4
      obtain ⟨b, a', s', e, h6⟩ := p_one n hc a (by omega) sd 5 (by omega)
      have hlt : decide ((i : Int) < st.2.1) = true := decide_eq_true (by omega)
      unfold m_spec_l21Draw_l9
      simp only [hlt, if_true, e, Option.bind_some, inc64 (show i ≤ 1000000 by omega)]
      cases b with
      | false => exact ⟨_, rfl, rfl, by simp only; omega, h3, a', rfl, by omega⟩
      | true =>
        simp only [if_true, app_eq (show o.length + [(i : Int)].length ≤ 4294967296 by simp; omega), Option.bind_some]
        exact ⟨_, rfl, rfl, by simp; omega, mem_snoc h3 (small64 (by omega) (by omega)), a', rfl, by omega⟩)
    (fun s hJ => by
      obtain ⟨k, o, t, sd⟩ := s
      obtain ⟨h1, h2, h3, a, h4, h5⟩ := hJ
      simp only at h1 h2 h3 h4
      subst h1 h4
      have hlt : decide ((N : Int) < st.2.1) = false := decide_eq_false (by omega)
      refine ⟨(o, (a : Int), sd), ?_, h2, h3, a, rfl, by omega⟩
      unfold m_spec_l21Draw_l9
      simp only [hlt, Bool.false_eq_true, if_false]) n (by omega) _ ⟨rfl, by simp, by simp, A, rfl, by omega⟩

def drawNames : List (List UInt8) := [[104, 101, 101, 108], [104, 97, 108, 102, 45, 115, 111, 108, 101], [119, 101, 108, 116], [108, 105, 110, 105, 110, 103], [112, 97, 116, 99, 104], [100, 121, 101], [101, 121, 101, 108, 101, 116, 45, 49], [115, 116, 114, 101, 116, 99, 104]]

theorem snocR {l : List SRepair} {v : SRepair} (h : ∀ x ∈ l, DR x) (hv : DR v) : ∀ x ∈ l ++ [v], DR x := by
  intro x hx
  rcases List.mem_append.1 hx with hx | hx
  · exact h x hx
  · simp at hx; subst hx; exact hv

theorem d_l1 (n : Nat) {code : List Int} (hc : bytesok code) (x23 : Int × Int × Int) (N : Nat) (hx : x23.1 = (N : Int)) (hN : N ≤ 8) (A : Nat) (hA : A ≤ 700000000) (seed : Int) (hn : 100 < n) :
    ∃ q : List SRepair × Int × Int, loopN (m_spec_l21Draw_l1 n code x23) n (([] : List SRepair), 0, (A : Int), seed) = some q ∧ q.1.length ≤ N ∧ (∀ x ∈ q.1, DR x) ∧ ∃ a : Nat, q.2.1 = (a : Int) ∧ a ≤ A + 50 * N :=
  loopN_count (body := m_spec_l21Draw_l1 n code x23) (fun i s => s.2.1 = (i : Int) ∧ s.1.length ≤ i ∧ (∀ x ∈ s.1, DR x) ∧ ∃ a : Nat, s.2.2.1 = (a : Int) ∧ a ≤ A + 50 * i) N
    (fun q => q.1.length ≤ N ∧ (∀ x ∈ q.1, DR x) ∧ ∃ a : Nat, q.2.1 = (a : Int) ∧ a ≤ A + 50 * N)
    (fun i s hi hJ => by
      obtain ⟨o, k, t, sd⟩ := s
      obtain ⟨h1, h2, h3, a, h4, h5⟩ := hJ
      simp only at h1 h2 h3 h4
      subst h1 h4
      have hlt : decide ((i : Int) < x23.1) = true := decide_eq_true (by omega)
      have hnm : i < drawNames.length := by simp [drawNames]; omega
      have hg : drawNames[i]? = some drawNames[i] := List.getElem?_eq_getElem hnm
      have hlen : (drawNames[i]).length ≤ 12 := (show ∀ x ∈ drawNames, x.length ≤ 12 by decide) _ (List.getElem_mem hnm)
      obtain ⟨p, a1, s1, e1, p0, p1, q1⟩ := p_pick n hc a (by omega) sd 20 (by omega)
      have p1' := p1 (by omega)
      obtain ⟨⟨M, t2, s2⟩, e2, m1, m2, a2, m3, m4⟩ := d_l6 n hc a1 (by omega) s1 hn
      simp only at m1 m2 m3
      subst m3
      obtain ⟨⟨F, t3, s3⟩, e3, f1, f2, a3, f3, f4⟩ := d_l9 n hc (o, (i : Int), (a : Int), sd) i rfl (by omega) a2 (by omega) s2 hn
      simp only at f1 f2 f3
      subst f3
      obtain ⟨h, a4, s4, e4, p2, p3, q4⟩ := p_pick n hc a3 (by omega) s3 9 (by omega)
      have p3' := p3 (by omega)
      have w : wI64 (50 * p) = 50 * p := wI64_eq (by omega) (by omega)
      have hi2 : idx ([[104, 101, 101, 108], [104, 97, 108, 102, 45, 115, 111, 108, 101], [119, 101, 108, 116], [108, 105, 110, 105, 110, 103], [112, 97, 116, 99, 104], [100, 121, 101], [101, 121, 101, 108, 101, 116, 45, 49], [115, 116, 114, 101, 116, 99, 104]] : List (List UInt8)) (i : Int) = some drawNames[i] := by rw [idx_nat]; exact hg
      refine ⟨(o ++ [SRepair.mk drawNames[i] M F (50 * p) h], ((i + 1 : Nat) : Int), (a4 : Int), s4), ?_, rfl, by simp; omega, snocR h3 ⟨hlen, by simp only; omega, by simp only; omega, m2, f2, small64 (by simp only; omega) (by simp only; omega), small64 (by simp only; omega) (by simp only; omega)⟩, a4, rfl, by omega⟩
      unfold m_spec_l21Draw_l1
      simp only [hlt, if_true, hi2, e1, e2, e3, e4, Option.bind_some, w, inc64 (show i ≤ 1000000 by omega), app_eq (show o.length + [SRepair.mk drawNames[i] M F (50 * p) h].length ≤ 4294967296 by simp; omega)])
    (fun s hJ => by
      obtain ⟨o, k, t, sd⟩ := s
      obtain ⟨h1, h2, h3, a, h4, h5⟩ := hJ
      simp only at h1 h2 h3 h4
      subst h1 h4
      have hlt : decide ((N : Int) < x23.1) = false := decide_eq_false (by omega)
      refine ⟨(o, (a : Int), sd), ?_, h2, h3, a, rfl, by omega⟩
      unfold m_spec_l21Draw_l1
      simp only [hlt, Bool.false_eq_true, if_false]) n (by omega) _ ⟨rfl, by simp, by simp, A, rfl, by omega⟩

theorem p_l21Draw (n : Nat) {code : List Int} (hc : bytesok code) (A : Nat) (hA : A ≤ 600000000) (seed : Int) (hn : 100 < n) :
    ∃ (l : List SRepair) (a : Nat) (s : Int), m_spec_l21Draw n code (A : Int) seed = some (l, (a : Int), s) ∧ l.length ≤ 8 ∧ (∀ x ∈ l, DR x) ∧ a ≤ A + 1000 := by
  unfold m_spec_l21Draw
  obtain ⟨p, a1, s1, e1, p0, p1, q1⟩ := p_pick n hc A (by omega) seed 8 (by omega)
  have p1' := p1 (by omega)
  obtain ⟨N, rfl⟩ : ∃ N : Nat, p = (N : Int) := ⟨p.toNat, by omega⟩
  obtain ⟨⟨l, t, s⟩, e2, m1, m2, a2, m3, m4⟩ := d_l1 n hc ((N : Int), (a1 : Int), s1) N rfl (by omega) a1 (by omega) s1 hn
  simp only at m1 m2 m3
  subst m3
  rw [e1]
  simp only [Option.bind_some, e2]
  exact ⟨l, a2, s, rfl, by omega, m2, by omega⟩

theorem setR {l : List SRepair} {v : SRepair} {i : Nat} (h : ∀ x ∈ l, DR x) (hv : DR v) : ∀ x ∈ l.set i v, DR x := by
  intro x hx
  rcases List.mem_or_eq_of_mem_set hx with hx | hx
  · exact h x hx
  · subst hx; exact hv

theorem bent_l1 (n : Nat) (K : Nat) (hK : K ≤ 20) (hn : 100 < n) : ∃ q : List SRepair, loopN (m_spec_l21Bent_l1 n) n (([] : List SRepair), (K : Int)) = some q ∧ q.length ≤ 20 ∧ ∀ x ∈ q, DR x :=
  loopN_count (body := m_spec_l21Bent_l1 n) (fun i s => s.1.length ≤ i ∧ s.2 = ((K - i : Nat) : Int) ∧ ∀ x ∈ s.1, DR x) K (fun q => q.length ≤ 20 ∧ ∀ x ∈ q, DR x)
    (fun i s hi hJ => by
      obtain ⟨o, k⟩ := s
      obtain ⟨h1, h2, h3⟩ := hJ
      simp only at h1 h2 h3
      subst h2
      have hgt : decide (((K - i : Nat) : Int) > 0) = true := decide_eq_true (by omega)
      have w : wI64 (((K - i : Nat) : Int) - 1) = ((K - (i + 1) : Nat) : Int) := by rw [wI64_eq (by omega) (by omega)]; omega
      have hl : (ofBytes ([(IntKind.u8.wrap (wI64 (97 + (o.length : Int))))] : List Int)).length = 1 := by simp [ofBytes]
      obtain ⟨nm, hnm, hnl⟩ : ∃ nm, app [114] (ofBytes ([(IntKind.u8.wrap (wI64 (97 + (o.length : Int))))] : List Int)) = some nm ∧ nm.length ≤ 12 := ⟨_, app_eq (by rw [hl]; simp), by rw [List.length_append, hl]; simp⟩
      unfold m_spec_l21Bent_l1
      simp only [hgt, if_true, hnm, w, Option.bind_some, app_eq (show o.length + [SRepair.mk nm ([((K - (i + 1) : Nat) : Int)] : List Int) ([] : List Int) ((K - i : Nat) : Int) 0].length ≤ 4294967296 by simp; omega)]
      refine ⟨_, rfl, by simp; omega, rfl, snocR h3 ⟨hnl, by simp, by simp, fun n hn => ?_, by simp, small64 (by simp only; omega) (by simp only; omega), small64 (by simp) (by simp)⟩⟩
      simp at hn; subst hn; exact small64 (by omega) (by omega))
    (fun s hJ => by
      obtain ⟨o, k⟩ := s
      obtain ⟨h1, h2, h3⟩ := hJ
      simp only at h1 h2 h3
      rw [Nat.sub_self] at h2
      subst h2
      exact ⟨o, rfl, by omega, h3⟩) n (by omega) _ ⟨by simp, by simp, by simp⟩


end Go.Gv
