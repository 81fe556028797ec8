/- Plain laws of repairs: what is drawn, spoilt. -/
import Derived.Test.YtkglfbcelaphhaaPvH
namespace Go.Gv
open Go Go.RowKit

/-- A repair that is drawn, and may be spoilt. -/
def DS (x : SRepair) : Prop := x.Name.length ≤ 12 ∧ x.Mends.length ≤ 21 ∧ x.First.length ≤ 21 ∧ (∀ n ∈ x.Mends, i64ok n) ∧ (∀ n ∈ x.First, i64ok n) ∧ i64ok x.Price ∧ i64ok x.Hours

theorem DR.ds {x : SRepair} (h : DR x) : DS x := ⟨h.1, Nat.le_succ_of_le h.2.1, Nat.le_succ_of_le h.2.2.1, h.2.2.2⟩

theorem DS.ok {x : SRepair} (h : DS x) : okRepair x := by
  obtain ⟨h1, h2, h3, h4, h5, h6, h7⟩ := h
  refine ⟨?_, ⟨?_, h4⟩, ⟨?_, h5⟩, h6, h7⟩
  · unfold strok; omega
  · omega
  · omega

theorem small_ds {l : List SRepair} (hl : l.length ≤ 1000) (h : ∀ x ∈ l, DS x) : smallR l := by
  refine ⟨?_, fun x hx => (h x hx).ok⟩
  have : ∀ l : List SRepair, (∀ x ∈ l, DS x) → totR l ≤ 60 * l.length := by
    intro l
    induction l with
    | nil => intro _; simp [totR]
    | cons x l ih =>
      intro h
      have h1 := h x (by simp)
      have h2 := ih fun y hy => h y (by simp [hy])
      have h3 : totR (x :: l) = szR x + totR l := by simp [totR]
      have h4 : szR x ≤ 60 := by unfold szR; obtain ⟨g1, g2, g3, _⟩ := h1; omega
      rw [h3, List.length_cons]; omega
  have := this l h
  omega

theorem setS {l : List SRepair} {v : SRepair} {i : Nat} (h : ∀ x ∈ l, DR x) (hv : DS v) : ∀ x ∈ l.set i v, DS x := by
  intro x hx
  rcases List.mem_or_eq_of_mem_set hx with hx | hx
  · exact (h x hx).ds
  · subst hx; exact hv

theorem spoil64 : ∀ x ∈ ([(-1), 0, 100000, 100001, (-9223372036854775808)] : List Int), i64ok x := by
  intro x hx; simp at hx; unfold i64ok; omega

theorem bent_pick (n : Nat) {code : List Int} (hc : bytesok code) (l : List SRepair) (hl : l.length ≤ 20) (hd : ∀ x ∈ l, DR x) (x : SRepair) (hx : DR x) (i : Nat) (c : Int) (a : Nat) (ha : a ≤ 800000000) (s : Int) :
    ∃ (l' : List SRepair) (a' : Nat) (s' : Int), (Option.bind (if (c == 0) then
      Option.bind (m_spec_l00Src_text_o1 n code (a : Int) s ([[], [72, 101, 101, 108], [104, 101, 101, 108]] : List (List UInt8))) fun y => some ((l.set i (SRepair.mk y.1 x.Mends x.First x.Price x.Hours)), y.2.1, y.2.2)
    else
      Option.bind (if (c == 1) then
        Option.bind (m_spec_l00Src_among_o1 n code (a : Int) s ([(-1), 9, 10] : List Int)) fun y => Option.bind (app x.Mends ([y.1] : List Int)) fun z => some ((l.set i (SRepair.mk x.Name z x.First x.Price x.Hours)), y.2.1, y.2.2)
      else
        Option.bind (if (c == 2) then
          Option.bind (m_spec_l00Src_among_o1 n code (a : Int) s ([(-1), 6, 7] : List Int)) fun y => Option.bind (app x.First ([y.1] : List Int)) fun z => some ((l.set i (SRepair.mk x.Name x.Mends z x.Price x.Hours)), y.2.1, y.2.2)
        else
          Option.bind (if (c == 3) then
            Option.bind (m_spec_l00Src_among_o1 n code (a : Int) s ([(-1), 0, 100000, 100001, (-9223372036854775808)] : List Int)) fun y => some ((l.set i (SRepair.mk x.Name x.Mends x.First y.1 x.Hours)), y.2.1, y.2.2)
          else
            Option.bind (if (c == 4) then
              Option.bind (m_spec_l00Src_among_o1 n code (a : Int) s ([(-1), 0, 1000, 1001] : List Int)) fun y => some ((l.set i (SRepair.mk x.Name x.Mends x.First x.Price y.1)), y.2.1, y.2.2)
            else
              some ((l.set i x), (a : Int), s)) fun y => some (y.1, y.2.1, y.2.2)) fun y => some (y.1, y.2.1, y.2.2)) fun y => some (y.1, y.2.1, y.2.2)) fun y => some (y.1, y.2.1, y.2.2)) fun y => (some (y.1, y.2.1, y.2.2) : Option (List SRepair × Int × Int))) = some (l', (a' : Int), s') ∧ l'.length ≤ 20 ∧ (∀ x ∈ l', DS x) ∧ a' ≤ a + 2 := by
  have hxs := hx.ds
  obtain ⟨g1, g2, g3, g4, g5, g6, g7⟩ := hx
  cases c == 0 with
  | true =>
    obtain ⟨v, a', s', e, hv, h⟩ := p_text n hc a (by omega) s [[], [72, 101, 101, 108], [104, 101, 101, 108]] (by simp) (by simp)
    simp only [if_true, e, Option.bind_some]
    refine ⟨_, a', s', rfl, by simp; omega, setS hd ⟨?_, hxs.2.1, hxs.2.2.1, g4, g5, g6, g7⟩, h⟩
    have : ∀ v ∈ ([[], [72, 101, 101, 108], [104, 101, 101, 108]] : List (List UInt8)), v.length ≤ 12 := by decide
    exact this v hv
  | false =>
    simp only [Bool.false_eq_true, if_false]
    cases c == 1 with
    | true =>
      obtain ⟨v, a', s', e, hv, h⟩ := p_among n hc a (by omega) s [(-1), 9, 10] (by simp) (by simp)
      simp only [if_true, e, Option.bind_some, app_eq (show x.Mends.length + [v].length ≤ 4294967296 by simp; omega)]
      refine ⟨_, a', s', rfl, by simp; omega, setS hd ⟨g1, by simp; omega, hxs.2.2.1, mem_snoc g4 ?_, g5, g6, g7⟩, h⟩
      simp at hv; exact small64 (by omega) (by omega)
    | false =>
      simp only [Bool.false_eq_true, if_false]
      cases c == 2 with
      | true =>
        obtain ⟨v, a', s', e, hv, h⟩ := p_among n hc a (by omega) s [(-1), 6, 7] (by simp) (by simp)
        simp only [if_true, e, Option.bind_some, app_eq (show x.First.length + [v].length ≤ 4294967296 by simp; omega)]
        refine ⟨_, a', s', rfl, by simp; omega, setS hd ⟨g1, hxs.2.1, by simp; omega, g4, mem_snoc g5 ?_, g6, g7⟩, h⟩
        simp at hv; exact small64 (by omega) (by omega)
      | false =>
        simp only [Bool.false_eq_true, if_false]
        cases c == 3 with
        | true =>
          obtain ⟨v, a', s', e, hv, h⟩ := p_among n hc a (by omega) s [(-1), 0, 100000, 100001, (-9223372036854775808)] (by simp) (by simp)
          simp only [if_true, e, Option.bind_some]
          exact ⟨_, a', s', rfl, by simp; omega, setS hd ⟨g1, hxs.2.1, hxs.2.2.1, g4, g5, spoil64 v hv, g7⟩, h⟩
        | false =>
          simp only [Bool.false_eq_true, if_false]
          cases c == 4 with
          | true =>
            obtain ⟨v, a', s', e, hv, h⟩ := p_among n hc a (by omega) s [(-1), 0, 1000, 1001] (by simp) (by simp)
            simp only [if_true, e, Option.bind_some]
            refine ⟨_, a', s', rfl, by simp; omega, setS hd ⟨g1, hxs.2.1, hxs.2.2.1, g4, g5, g6, ?_⟩, h⟩
            simp at hv; exact small64 (by simp only; omega) (by simp only; omega)
          | false =>
            simp only [Bool.false_eq_true, if_false, Option.bind_some]
            exact ⟨_, a, s, rfl, by simp; omega, setS hd hxs, by omega⟩

theorem p_l21Bent (n : Nat) {code : List Int} (hc : bytesok code) (A : Nat) (hA : A ≤ 500000000) (seed : Int) (hn : 100 < n) :
    ∃ (l : List SRepair) (a : Nat) (s : Int), m_spec_l21Bent n code (A : Int) seed = some (l, (a : Int), s) ∧ l.length ≤ 20 ∧ (∀ x ∈ l, DS x) ∧ a ≤ A + 2000 := by
  unfold m_spec_l21Bent
  obtain ⟨l, a1, s1, e1, h1, h2, h3⟩ := p_l21Draw n hc A (by omega) seed hn
  obtain ⟨b, a2, s2, e2, h4⟩ := p_one n hc a1 (by omega) s1 30 (by omega)
  simp only [e1, e2, Option.bind_some]
  cases b with
  | true =>
    simp only [if_true]
    obtain ⟨p, a3, s3, e3, p0, p1, h5⟩ := p_pick n hc a2 (by omega) s2 2 (by omega)
    have p1' := p1 (by omega)
    obtain ⟨K, hK⟩ : ∃ K : Nat, wI64 (10 + p) = (K : Int) ∧ K ≤ 20 := ⟨(10 + p).toNat, by rw [wI64_eq (by omega) (by omega)]; omega, by omega⟩
    obtain ⟨q, e4, q1, q2⟩ := bent_l1 n K hK.2 hn
    simp only [e3, Option.bind_some, hK.1, e4]
    exact ⟨q, a3, s3, rfl, q1, fun x hx => (q2 x hx).ds, by omega⟩
  | false =>
    simp only [Bool.false_eq_true, if_false]
    cases hz : ((l.length : Int) == 0) with
    | true =>
      simp only [if_true]
      exact ⟨l, a2, s2, rfl, by omega, fun x hx => (h2 x hx).ds, by omega⟩
    | false =>
      simp only [Bool.false_eq_true, if_false]
      have hpos : l.length ≠ 0 := fun e => by rw [e] at hz; simp at hz
      obtain ⟨p, a3, s3, e3, p0, p1, h5⟩ := p_pick n hc a2 (by omega) s2 (l.length : Int) (by omega)
      have p1' := p1 (by omega)
      obtain ⟨k, rfl⟩ : ∃ k : Nat, p = (k : Int) := ⟨p.toNat, by omega⟩
      have hk : k < l.length := by omega
      have hg : l[k]? = some l[k] := List.getElem?_eq_getElem hk
      obtain ⟨c, a4, s4, e4, -, -, h6⟩ := p_pick n hc a3 (by omega) s3 24 (by omega)
      obtain ⟨l', a5, s5, e5, m1, m2, m3⟩ := bent_pick n hc l (by omega) h2 l[k] (h2 _ (List.getElem_mem hk)) (Int.toNat (k : Int)) c a4 (by omega) s4
      simp only [e3, Option.bind_some, idx_nat, hg, e4]
      exact ⟨l', a5, s5, e5, m1, m2, by omega⟩

theorem d_faults (n : Nat) {code : List Int} (hc : bytesok code) (A : Nat) (hA : A ≤ 800000000) (seed : Int) (hn : 100 < n) :
    ∃ q : List Int × Int × Int, loopN (m_spec_l21DrawFaults_l1 n code) n (([] : List Int), 0, (A : Int), seed) = some q ∧ q.1.length ≤ 5 ∧ ∃ a : Nat, q.2.1 = (a : Int) ∧ a ≤ A + 10 :=
  loopN_count (body := m_spec_l21DrawFaults_l1 n code) (fun i s => s.2.1 = (i : Int) ∧ s.1.length ≤ i ∧ ∃ a : Nat, s.2.2.1 = (a : Int) ∧ a ≤ A + 2 * i) 5
    (fun q => q.1.length ≤ 5 ∧ ∃ a : Nat, q.2.1 = (a : Int) ∧ a ≤ A + 10)
    (fun i s hi hJ => by
      obtain ⟨o, k, t, sd⟩ := s
      obtain ⟨h1, h2, a, h4, h5⟩ := hJ
      simp only at h1 h2 h4
      subst h1 h4
      obtain ⟨b, a', s', e, h6⟩ := p_one n hc a (by omega) sd 3 (by omega)
      have hlt : decide ((i : Int) < 5) = true := decide_eq_true (by omega)
      unfold m_spec_l21DrawFaults_l1
      simp only [hlt, if_true, e, Option.bind_some, inc64 (show i ≤ 1000000 by omega)]
      cases b with
      | false => exact ⟨_, rfl, rfl, by simp only; omega, a', rfl, by omega⟩
      | true =>
        simp only [if_true, app_eq (show o.length + [(i : Int)].length ≤ 4294967296 by simp; omega), Option.bind_some]
        exact ⟨_, rfl, rfl, by simp; omega, a', rfl, by omega⟩)
    (fun s hJ => by
      obtain ⟨o, k, t, sd⟩ := s
      obtain ⟨h1, h2, a, h4, h5⟩ := hJ
      simp only at h1 h2 h4
      subst h1 h4
      exact ⟨_, rfl, h2, a, rfl, by omega⟩) n (by omega) _ ⟨rfl, by simp, A, rfl, by omega⟩

theorem p_l21DrawFaults (n : Nat) {code : List Int} (hc : bytesok code) (A : Nat) (hA : A ≤ 700000000) (seed : Int) (hn : 100 < n) :
    ∃ (f : List Int) (a : Nat) (s : Int), m_spec_l21DrawFaults n code (A : Int) seed = some (f, (a : Int), s) ∧ f.length ≤ 6 ∧ a ≤ A + 100 := by
  unfold m_spec_l21DrawFaults
  obtain ⟨⟨f, t, s⟩, e1, h1, a1, h2, h3⟩ := d_faults n hc A (by omega) seed hn
  simp only at h1 h2
  subst h2
  obtain ⟨b, a2, s2, e2, h4⟩ := p_one n hc a1 (by omega) s 12 (by omega)
  simp only [e1, e2, Option.bind_some]
  cases b with
  | false => exact ⟨f, a2, s2, rfl, by omega, by omega⟩
  | true =>
    obtain ⟨v, a3, s3, e3, _, h5⟩ := p_among n hc a2 (by omega) s2 [(-1), 4, 9, 10] (by simp) (by simp)
    simp only [if_true, e3, Option.bind_some, app_eq (show f.length + [v].length ≤ 4294967296 by simp; omega)]
    exact ⟨_, a3, s3, rfl, by simp; omega, by omega⟩

theorem d_some (n : Nat) {code : List Int} (hc : bytesok code) (x14 : List SRepair × Int × Int) (hl : x14.1.length ≤ 20) (A : Nat) (hA : A ≤ 800000000) (seed : Int) (hn : 100 < n) :
    ∃ q : List Int × Int × Int, loopN (m_spec_l21DrawSome_l1 n code x14) n (([] : List Int), 0, (A : Int), seed) = some q ∧ q.1.length ≤ 20 ∧ ∃ a : Nat, q.2.1 = (a : Int) ∧ a ≤ A + 40 :=
  loopN_count (body := m_spec_l21DrawSome_l1 n code x14) (fun i s => s.2.1 = (i : Int) ∧ s.1.length ≤ i ∧ ∃ a : Nat, s.2.2.1 = (a : Int) ∧ a ≤ A + 2 * i) x14.1.length
    (fun q => q.1.length ≤ 20 ∧ ∃ a : Nat, q.2.1 = (a : Int) ∧ a ≤ A + 40)
    (fun i s hi hJ => by
      obtain ⟨o, k, t, sd⟩ := s
      obtain ⟨h1, h2, a, h4, h5⟩ := hJ
      simp only at h1 h2 h4
      subst h1 h4
      obtain ⟨b, a', s', e, h6⟩ := p_one n hc a (by omega) sd 3 (by omega)
      unfold m_spec_l21DrawSome_l1
      simp only [ltB hi, if_true, e, Option.bind_some, inc64 (show i ≤ 1000000 by omega)]
      cases b with
      | true => exact ⟨_, rfl, rfl, by simp only; omega, a', rfl, by omega⟩
      | false =>
        simp only [Bool.not_false, if_true, app_eq (show o.length + [(i : Int)].length ≤ 4294967296 by simp; omega), Option.bind_some]
        exact ⟨_, rfl, rfl, by simp; omega, a', rfl, by omega⟩)
    (fun s hJ => by
      obtain ⟨o, k, t, sd⟩ := s
      obtain ⟨h1, h2, a, h4, h5⟩ := hJ
      simp only at h1 h2 h4
      subst h1 h4
      refine ⟨(o, (a : Int), sd), ?_, by simp only; omega, a, rfl, by omega⟩
      unfold m_spec_l21DrawSome_l1
      simp only [ltB_self, Bool.false_eq_true, if_false]) n (by omega) _ ⟨rfl, by simp, A, rfl, by omega⟩

theorem p_l00From (n : Nat) (code : List Int) : m_spec_l00From n code = some (0, 0) := rfl

theorem p_l21DrawSome (n : Nat) {code : List Int} (hc : bytesok code) (hn : 1048577 < n) : ∃ (l : List SRepair) (s f : List Int), m_spec_l21DrawSome n code = some (l, s, f) ∧ smallR l ∧ s.length ≤ 100 ∧ f.length ≤ 100 := by
  unfold m_spec_l21DrawSome
  rw [p_l00From]
  obtain ⟨l, a1, s1, e1, h1, h2, h3⟩ := p_l21Bent n hc 0 (by omega) 0 (by omega)
  obtain ⟨f, a2, s2, e2, h4, h5⟩ := p_l21DrawFaults n hc a1 (by omega) s1 (by omega)
  obtain ⟨⟨q, t, s3⟩, e3, h6, a3, h7, h8⟩ := d_some n hc (l, (a1 : Int), s1) h1 a2 (by omega) s2 (by omega)
  simp only at h6 h7
  subst h7
  have sl := small_ds (by omega) h2
  have e1' : m_spec_l21Bent n code 0 0 = some (l, (a1 : Int), s1) := e1
  simp only [Option.bind_some, e1', e2, e3, p_l21Some n l q sl (show q.length ≤ 1048576 by omega) (by omega)]
  -- those that are drawn, with those before them or not
  have two : ∃ (b : Bool) (a4 : Nat) (s4 : Int), (if (codeB l q [] == 0) then Option.bind (m_spec_l00Src_one n code (a3 : Int) s3 4) fun x => some ((!x.1), x.2.1, x.2.2) else (some (false, (a3 : Int), s3) : Option (Bool × Int × Int))) = some (b, (a4 : Int), s4) ∧ a4 ≤ a3 + 2 ∧ (b = true → codeB l q [] = 0) := by
    cases h : (codeB l q [] == 0) with
    | false => exact ⟨false, a3, s3, rfl, by omega, fun h => by cases h⟩
    | true =>
      obtain ⟨b, a4, s4, e4, h9⟩ := p_one n hc a3 (by omega) s3 4 (by omega)
      simp only [if_true, e4, Option.bind_some]
      exact ⟨!b, a4, s4, rfl, h9, fun _ => by simpa using h⟩
  obtain ⟨b, a4, s4, e4, h9, h10⟩ := two
  rw [e4]
  simp only [Option.bind_some]
  obtain ⟨u, e5, h11⟩ : ∃ u : List Int, (if b then Option.bind (m_spec_l21With n l q) fun x => some x else (some q : Option (List Int))) = some u ∧ u.length ≤ 20 := by
    cases b with
    | false => exact ⟨q, rfl, h6⟩
    | true =>
      obtain ⟨g1, g2, -⟩ := code0 (h10 rfl)
      refine ⟨withL l l.length q, ?_, ?_⟩
      · simp only [if_true, p_l21With n l q g1 g2 (by omega), Option.bind_some]
      · have := (withL_sm g1 l.length q (Nat.le_refl _) g2).short g1; omega
  rw [e5]
  simp only [Option.bind_some]
  obtain ⟨c, a5, s5, e6, h12⟩ := p_one n hc a4 (by omega) s4 16 (by omega)
  rw [e6]
  simp only [Option.bind_some]
  cases c with
  | false => exact ⟨l, u, f, rfl, sl, by omega, by omega⟩
  | true =>
    obtain ⟨v, a6, s6, e7, _, _⟩ := p_among n hc a5 (by omega) s5 [(-1), 0, (l.length : Int)] (by simp) (by simp)
    simp only [if_true, e7, Option.bind_some, app_eq (show u.length + [v].length ≤ 4294967296 by simp; omega)]
    exact ⟨l, _, f, rfl, sl, by simp; omega, by omega⟩

theorem p_DrawIsWorthwhile (n : Nat) {code : List Int} (hc : bytesok code) (hn : 1048577 < n) : ∃ (l : List SRepair) (f : List Int) (v p : Int), m_spec_DrawIsWorthwhile n code = some (l, f, v, p) ∧ smallR l ∧ f.length ≤ 100 := by
  unfold m_spec_DrawIsWorthwhile m_spec_l21Two
  obtain ⟨l, s, f, e1, h1, h2, h3⟩ := p_l21DrawSome n hc hn
  obtain ⟨v, a1, s1, e2, -, -, h4⟩ := p_pick n hc 0 (by omega) 0 60 (by omega)
  obtain ⟨c, a2, s2, e3, -, -, h5⟩ := p_pick n hc a1 (by omega) s1 12 (by omega)
  have e2' : m_spec_l00Src_pick n code 0 0 60 = some (v, (a1 : Int), s1) := e2
  simp only [e1, Option.bind_some, p_l00From, e2', e3]
  cases c == 0 with
  | true =>
    obtain ⟨u, a3, s3, e4, -, h6⟩ := p_among n hc a2 (by omega) s2 [(-1), 0, 100000, 100001] (by simp) (by simp)
    obtain ⟨p, a4, s4, e5, -, -, h7⟩ := p_pick n hc a3 (by omega) s3 11 (by omega)
    simp only [if_true, e4, e5, Option.bind_some]
    exact ⟨l, f, _, _, rfl, h1, h3⟩
  | false =>
    simp only [Bool.false_eq_true, if_false]
    cases c == 1 with
    | true =>
      obtain ⟨u, a3, s3, e4, -, h6⟩ := p_among n hc a2 (by omega) s2 [(-1), 0, 100, 101] (by simp) (by simp)
      simp only [if_true, e4, Option.bind_some]
      exact ⟨l, f, _, _, rfl, h1, h3⟩
    | false =>
      obtain ⟨p, a4, s4, e5, -, -, h7⟩ := p_pick n hc a2 (by omega) s2 11 (by omega)
      simp only [Bool.false_eq_true, if_false, e5, Option.bind_some]
      exact ⟨l, f, _, _, rfl, h1, h3⟩

end Go.Gv
