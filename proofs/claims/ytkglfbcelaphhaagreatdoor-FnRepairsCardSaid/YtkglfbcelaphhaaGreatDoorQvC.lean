/- Plain laws (those of another seat, turned to this one by tools/renum.py). -/
import Derived.Test.YtkglfbcelaphhaaGreatDoorQvB
namespace Go.Gv
open Go Go.RowKit

theorem p_specHopeless (n : Nat) (l : List SRepair) (f : List Int) (hl : smallR l) (hf : f.length ≤ 1048576) (hn : 1048577 < n) : m_spec_HopelessFaults n l f = some (hopeB l f) := by
  unfold m_spec_HopelessFaults hopeB
  simp only [p_l21Faults n l [] f hl (by simp) hf (by omega), Option.bind_some]
  by_cases h : codeB l [] f = 0
  · obtain ⟨h1, -, -⟩ := code0 h
    have hll := h1.len
    have k1 := loopN_collect (body := m_spec_HopelessFaults_l1 n l) l.length (fun i : Nat => (i : Int)) id
      (fun i o hi ho => by
        unfold m_spec_HopelessFaults_l1
        simp only [ltB hi, if_true, succ64 hi (by omega)]
        rw [app_eq (by simp; omega)]; rfl)
      (fun o _ => by unfold m_spec_HopelessFaults_l1; simp) n (by omega)
    have k2 := loopN_fold (body := m_spec_HopelessFaults_l3 n l f (allI l.length)) f (fun b x => if !anyMends l x then b ++ [x] else b) ([] : List Int) (fun i b => (b, (i : Int))) id (fun i b => b.length ≤ i) (by simp)
      (fun i x b hx hb => by
        have hlt := lt_of_get hx
        refine ⟨?_, ?_⟩
        · unfold m_spec_HopelessFaults_l3
          simp only [ltB hlt, if_true, idx_nat, hx, Option.bind_some, p_l21Mended n l _ x h1 (allI_sm l) (by omega), mendB_all, succ64 hlt (by omega)]
          rw [app_eq (by simp; omega)]
          cases anyMends l x <;> rfl
        · cases anyMends l x <;> simp <;> omega)
      (fun b _ => by unfold m_spec_HopelessFaults_l3; simp) n (by omega)
    have k1' : loopN (m_spec_HopelessFaults_l1 n l) n (([] : List Int), 0) = some (allI l.length) := k1
    have k2' : loopN (m_spec_HopelessFaults_l3 n l f (allI l.length)) n (([] : List Int), 0) = _ := k2.1
    have hfold : ∀ (xs : List Int) (b : List Int), xs.foldl (fun b x => if !anyMends l x then b ++ [x] else b) b = b ++ xs.filter (fun x => !anyMends l x) := by
      intro xs
      induction xs with
      | nil => intro b; simp
      | cons x xs ih =>
        intro b
        rw [List.foldl_cons, ih]
        cases hp : anyMends l x <;> simp [hp]
    simp only [h, bne_self_eq_false, Bool.false_eq_true, if_false, k1', Option.bind_some, k2', if_true, hfold, List.nil_append, id]
  · have hb : (codeB l [] f != 0) = true := by simp [bne, h]
    simp only [hb, h, if_true, if_false]

theorem hopeB_len (l : List SRepair) (f : List Int) : (hopeB l f).1.length ≤ 10 := by
  unfold hopeB
  by_cases h : codeB l [] f = 0
  · rw [if_pos h]
    have := List.length_filter_le (fun x => !anyMends l x) f
    have := code0_faults h
    simp only; omega
  · rw [if_neg h]; simp

def restL (s : List Int) (i : Nat) : List Int := s.take i ++ s.drop (i + 1)

theorem restL_sm {l : List SRepair} {s : List Int} (h : Sm l s) (i : Nat) : Sm l (restL s i) := by
  have hsub : (restL s i).Sublist s := by
    unfold restL
    conv => rhs; rw [← List.take_append_drop i s]
    exact List.Sublist.append (List.Sublist.refl _) (by rw [← List.drop_drop]; exact List.drop_sublist 1 _)
  exact ⟨fun k hk => h.mem k (hsub.subset hk), h.inc.sublist hsub⟩

def needL (l : List SRepair) (s f : List Int) : List Int := ((List.range s.length).filter (fun i => allB l (restL s i) f)).map (fun i => s.getD i 0)

def needB (l : List SRepair) (s f : List Int) : List Int × Int := if codeB l s f = 0 then (if allB l s f then (needL l s f, 0) else ([], 6)) else ([], codeB l s f)

theorem sub_take (s : List Int) {i : Nat} (h : i ≤ s.length) : sub s 0 (i : Int) = some (s.take i) := by
  unfold sub; rw [if_pos ⟨by omega, by omega, by omega⟩]; simp

theorem sub_drop (s : List Int) {i : Nat} (h : i ≤ s.length) : sub s (i : Int) (s.length : Int) = some (s.drop i) := by
  unfold sub; rw [if_pos ⟨by omega, by omega, by omega⟩]; simp

theorem needB_len (l : List SRepair) (s f : List Int) : (needB l s f).1.length ≤ 10 := by
  unfold needB
  by_cases h : codeB l s f = 0
  · obtain ⟨h1, h2, -⟩ := code0 h
    rw [if_pos h]
    cases allB l s f with
    | false => simp
    | true =>
      simp only [if_true]
      unfold needL
      rw [List.length_map]
      have := List.length_filter_le (fun i => allB l (restL s i) f) (List.range s.length)
      have := h2.short h1
      rw [List.length_range] at *
      omega
  · rw [if_neg h]; simp

/-- A loop that goes N rounds, each of which keeps J. -/
theorem loopN_count {σ τ : Type} {body : σ → Option (Step σ τ)} (J : Nat → σ → Prop) (N : Nat) (R : τ → Prop) (hstep : ∀ i s, i < N → J i s → ∃ s', body s = some (.next s') ∧ J (i + 1) s')
    (hend : ∀ s, J N s → ∃ t, body s = some (.done t) ∧ R t) (n : Nat) (hn : N < n) (s : σ) (h0 : J 0 s) : ∃ t, loopN body n s = some t ∧ R t := by
  have key : ∀ (j n : Nat) (s : σ), j ≤ N → j < n → J (N - j) s → ∃ t, loopN body n s = some t ∧ R t := by
    intro j
    induction j with
    | zero =>
      intro n s _ hn hJ
      obtain ⟨m, rfl⟩ : ∃ m, n = m + 1 := ⟨n - 1, by omega⟩
      obtain ⟨t, h1, h2⟩ := hend s hJ
      exact ⟨t, by simp [loopN, h1], h2⟩
    | succ j ih =>
      intro n s hj hn hJ
      obtain ⟨m, rfl⟩ : ∃ m, n = m + 1 := ⟨n - 1, by omega⟩
      obtain ⟨s', h1, h2⟩ := hstep _ s (by omega) hJ
      obtain ⟨t, h3, h4⟩ := ih m s' (by omega) (by omega) (by rw [show N - (j + 1) + 1 = N - j by omega] at h2; exact h2)
      exact ⟨t, by simp only [loopN, h1, Option.bind_some]; exact h3, h4⟩
  exact key N n s (Nat.le_refl _) hn (by rw [Nat.sub_self]; exact h0)

def bytesok (code : List Int) : Prop := ∀ c ∈ code, 0 ≤ c ∧ c ≤ 255

theorem iand_255 (x : Int) : 0 ≤ wI64 (iand .u64 x 255) ∧ wI64 (iand .u64 x 255) ≤ 255 := by
  have h : (BitVec.ofInt 64 x &&& BitVec.ofInt 64 255).toNat ≤ 255 := by
    rw [BitVec.toNat_and]
    have : (BitVec.ofInt 64 255).toNat = 255 := by decide
    rw [this]
    exact Nat.and_le_right
  have e : iand .u64 x 255 = ((BitVec.ofInt 64 x &&& BitVec.ofInt 64 255).toNat : Int) := by
    unfold iand
    exact wU64_eq (by simp [IntKind.bits]) (by simp only [IntKind.bits]; omega)
  rw [e, wI64_eq (by omega) (by omega)]
  omega

theorem p_next (n : Nat) {code : List Int} (hc : bytesok code) (a : Nat) (ha : a ≤ 1000000000) (seed : Int) : ∃ x seed', m_spec_l00Src_next n code (a : Int) seed = some (x, ((a + 1 : Nat) : Int), seed') ∧ 0 ≤ x ∧ x ≤ 255 := by
  have w : wI64 ((a : Int) + 1) = ((a + 1 : Nat) : Int) := by rw [wI64_eq (by omega) (by omega)]; omega
  unfold m_spec_l00Src_next
  rw [w]
  by_cases h : a < code.length
  · obtain ⟨c, hg⟩ : ∃ c, code[a]? = some c := ⟨_, List.getElem?_eq_getElem h⟩
    have hb := hc c (List.mem_of_getElem? hg)
    have h2 : decide (((a + 1 : Nat) : Int) ≤ (code.length : Int)) = true := by simpa using (by omega : ((a + 1 : Nat) : Int) ≤ (code.length : Int))
    have w2 : wI64 c = c := wI64_eq (by omega) (by omega)
    simp only [ltB h, if_true, idx_nat, hg, Option.bind_some, h2, w2]
    exact ⟨_, _, rfl, hb.1, hb.2⟩
  · have h1 : decide ((a : Int) < (code.length : Int)) = false := by simp; omega
    have h2 : decide (((a + 1 : Nat) : Int) ≤ (code.length : Int)) = false := by simpa using (by omega : (code.length : Int) < ((a + 1 : Nat) : Int))
    simp only [h1, h2, Bool.false_eq_true, if_false, Option.bind_some, shr, show ¬ ((40 : Int) < 0) by decide]
    exact ⟨_, _, rfl, (iand_255 _).1, (iand_255 _).2⟩

theorem p_pick (n : Nat) {code : List Int} (hc : bytesok code) (a : Nat) (ha : a ≤ 900000000) (seed m : Int) (hm : m ≤ 1048576) : ∃ x a' seed', m_spec_l00Src_pick n code (a : Int) seed m = some (x, ((a' : Nat) : Int), seed') ∧ 0 ≤ x ∧ (1 ≤ m → x < m) ∧ a' ≤ a + 2 := by
  unfold m_spec_l00Src_pick
  by_cases h : m ≤ 1
  · simp only [h, decide_true, if_true]
    exact ⟨0, a, seed, rfl, by omega, fun h => by omega, by omega⟩
  · simp only [h, decide_false, Bool.false_eq_true, if_false]
    obtain ⟨x, s1, e1, x0, x1⟩ := p_next n hc a (by omega) seed
    rw [e1]
    simp only [Option.bind_some]
    have hne : ¬ m = 0 := by omega
    by_cases h2 : m > 200
    · obtain ⟨y, s2, e2, y0, y1⟩ := p_next n hc (a + 1) (by omega) s1
      have w1 : wI64 (x * 256) = x * 256 := wI64_eq (by omega) (by omega)
      have w2 : wI64 (x * 256 + y) = x * 256 + y := wI64_eq (by omega) (by omega)
      simp only [h2, decide_true, if_true, e2, Option.bind_some, w1, w2, rem, hne, if_false]
      exact ⟨_, a + 1 + 1, s2, rfl, Int.tmod_nonneg _ (by omega), fun _ => Int.tmod_lt_of_pos _ (by omega), by omega⟩
    · simp only [h2, decide_false, Bool.false_eq_true, if_false, Option.bind_some, rem, hne]
      exact ⟨_, a + 1, s1, rfl, Int.tmod_nonneg _ (by omega), fun _ => Int.tmod_lt_of_pos _ (by omega), by omega⟩

theorem p_one (n : Nat) {code : List Int} (hc : bytesok code) (a : Nat) (ha : a ≤ 900000000) (seed m : Int) (hm : m ≤ 1048576) : ∃ (b : Bool) (a' : Nat) (seed' : Int), m_spec_l00Src_one n code (a : Int) seed m = some (b, (a' : Int), seed') ∧ a' ≤ a + 2 := by
  unfold m_spec_l00Src_one
  obtain ⟨x, a', s', e, _, _, h⟩ := p_pick n hc a ha seed m hm
  rw [e]
  exact ⟨_, a', s', rfl, h⟩

theorem p_among (n : Nat) {code : List Int} (hc : bytesok code) (a : Nat) (ha : a ≤ 900000000) (seed : Int) (xs : List Int) (h1 : 1 ≤ xs.length) (h2 : xs.length ≤ 1000) :
    ∃ x a' seed', m_spec_l00Src_among_o1 n code (a : Int) seed xs = some (x, ((a' : Nat) : Int), seed') ∧ x ∈ xs ∧ a' ≤ a + 2 := by
  unfold m_spec_l00Src_among_o1
  obtain ⟨x, a', s', e, h3, h4, h5⟩ := p_pick n hc a ha seed (xs.length : Int) (by omega)
  rw [e]
  have h6 := h4 (by omega)
  obtain ⟨k, rfl⟩ : ∃ k : Nat, x = (k : Int) := ⟨x.toNat, by omega⟩
  have hk : k < xs.length := by omega
  have hg : xs[k]? = some xs[k] := List.getElem?_eq_getElem hk
  simp only [Option.bind_some, idx_nat, hg]
  exact ⟨_, a', s', rfl, List.getElem_mem hk, h5⟩

theorem p_text (n : Nat) {code : List Int} (hc : bytesok code) (a : Nat) (ha : a ≤ 900000000) (seed : Int) (xs : List (List UInt8)) (h1 : 1 ≤ xs.length) (h2 : xs.length ≤ 1000) :
    ∃ x a' seed', m_spec_l00Src_text_o1 n code (a : Int) seed xs = some (x, ((a' : Nat) : Int), seed') ∧ x ∈ xs ∧ a' ≤ a + 2 := by
  unfold m_spec_l00Src_text_o1
  obtain ⟨x, a', s', e, h3, h4, h5⟩ := p_pick n hc a ha seed (xs.length : Int) (by omega)
  rw [e]
  have h6 := h4 (by omega)
  obtain ⟨k, rfl⟩ : ∃ k : Nat, x = (k : Int) := ⟨x.toNat, by omega⟩
  have hk : k < xs.length := by omega
  have hg : xs[k]? = some xs[k] := List.getElem?_eq_getElem hk
  simp only [Option.bind_some, idx_nat, hg]
  exact ⟨_, a', s', rfl, List.getElem_mem hk, h5⟩

/-- A repair that is drawn. -/
def DR (x : SRepair) : Prop := x.Name.length ≤ 12 ∧ x.Mends.length ≤ 20 ∧ x.First.length ≤ 20 ∧ (∀ n ∈ x.Mends, i64ok n) ∧ (∀ n ∈ x.First, i64ok n) ∧ i64ok x.Price ∧ i64ok x.Hours

theorem DR.ok {x : SRepair} (h : DR x) : okRepair x := by
  obtain ⟨h1, h2, h3, h4, h5, h6, h7⟩ := h
  refine ⟨?_, ⟨?_, h4⟩, ⟨?_, h5⟩, h6, h7⟩
  · unfold strok; omega
  · omega
  · omega

theorem small_of {l : List SRepair} (hl : l.length ≤ 1000) (h : ∀ x ∈ l, DR x) : smallR l := by
  refine ⟨?_, fun x hx => (h x hx).ok⟩
  have : ∀ l : List SRepair, (∀ x ∈ l, DR x) → totR l ≤ 60 * l.length := by
    intro l
    induction l with
    | nil => intro _; simp [totR]
    | cons x l ih =>
      intro h
      have h1 := h x (by simp)
      have h2 := ih fun y hy => h y (by simp [hy])
      have h3 : totR (x :: l) = szR x + totR l := by simp [totR]
      have h4 : szR x ≤ 60 := by unfold szR; obtain ⟨g1, g2, g3, _⟩ := h1; omega
      rw [h3, List.length_cons]; omega
  have := this l h
  omega

theorem small64 {x : Int} (h0 : -1 ≤ x) (h1 : x ≤ 1000000) : i64ok x := by unfold i64ok; omega

theorem inc64 {i : Nat} (h : i ≤ 1000000) : wI64 ((i : Int) + 1) = ((i + 1 : Nat) : Int) := by rw [wI64_eq (by omega) (by omega)]; omega

theorem mem_snoc {p : Int → Prop} {l : List Int} {v : Int} (h : ∀ x ∈ l, p x) (hv : p v) : ∀ x ∈ l ++ [v], p x := by
  intro x hx
  rcases List.mem_append.1 hx with hx | hx
  · exact h x hx
  · simp at hx; subst hx; exact hv

theorem d_l6 (n : Nat) {code : List Int} (hc : bytesok code) (A : Nat) (hA : A ≤ 800000000) (seed : Int) (hn : 100 < n) :
    ∃ q : List Int × Int × Int, loopN (m_spec_l21Draw_l6 n code) n (0, ([] : List Int), (A : Int), seed) = some q ∧ q.1.length ≤ 5 ∧ (∀ x ∈ q.1, i64ok x) ∧ ∃ a : Nat, q.2.1 = (a : Int) ∧ a ≤ A + 10 :=
  loopN_count (body := m_spec_l21Draw_l6 n code) (fun i s => s.1 = (i : Int) ∧ s.2.1.length ≤ i ∧ (∀ x ∈ s.2.1, i64ok x) ∧ ∃ a : Nat, s.2.2.1 = (a : Int) ∧ a ≤ A + 2 * i) 5
    (fun q => q.1.length ≤ 5 ∧ (∀ x ∈ q.1, i64ok x) ∧ ∃ a : Nat, q.2.1 = (a : Int) ∧ a ≤ A + 10)
    (fun i s hi hJ => by
      obtain ⟨k, o, t, sd⟩ := s
      obtain ⟨h1, h2, h3, a, h4, h5⟩ := hJ
      simp only at h1 h2 h3 h4
      subst h1 h4
      obtain ⟨b, a', s', e, h6⟩ := p_one n hc a (by omega) sd 3 (by omega)
      have hlt : decide ((i : Int) < 5) = true := decide_eq_true (by omega)
      unfold m_spec_l21Draw_l6
      simp only [hlt, if_true, e, Option.bind_some, inc64 (show i ≤ 1000000 by omega)]
      cases b with
      | false => exact ⟨_, rfl, rfl, by simp only; omega, h3, a', rfl, by omega⟩
      | true =>
        simp only [if_true, app_eq (show o.length + [(i : Int)].length ≤ 4294967296 by simp; omega), Option.bind_some]
        exact ⟨_, rfl, rfl, by simp; omega, mem_snoc h3 (small64 (by omega) (by omega)), a', rfl, by omega⟩)
    (fun s hJ => by
      obtain ⟨k, o, t, sd⟩ := s
      obtain ⟨h1, h2, h3, a, h4, h5⟩ := hJ
      simp only at h1 h2 h3 h4
      subst h1 h4
      exact ⟨_, rfl, h2, h3, a, rfl, by omega⟩) n (by omega) _ ⟨rfl, by simp, by simp, A, rfl, by omega⟩

theorem d_l9 (n : Nat) {code : List Int} (hc : bytesok code) (st : List SRepair × Int × Int × Int) (N : Nat) (hst : st.2.1 = (N : Int)) (hN : N ≤ 20) (A : Nat) (hA : A ≤ 800000000) (seed : Int) (hn : 100 < n) :
    ∃ q : List Int × Int × Int, loopN (m_spec_l21Draw_l9 n code st) n (0, ([] : List Int), (A : Int), seed) = some q ∧ q.1.length ≤ N ∧ (∀ x ∈ q.1, i64ok x) ∧ ∃ a : Nat, q.2.1 = (a : Int) ∧ a ≤ A + 2 * N :=
  loopN_count (body := m_spec_l21Draw_l9 n code st) (fun i s => s.1 = (i : Int) ∧ s.2.1.length ≤ i ∧ (∀ x ∈ s.2.1, i64ok x) ∧ ∃ a : Nat, s.2.2.1 = (a : Int) ∧ a ≤ A + 2 * i) N
    (fun q => q.1.length ≤ N ∧ (∀ x ∈ q.1, i64ok x) ∧ ∃ a : Nat, q.2.1 = (a : Int) ∧ a ≤ A + 2 * N)
    (fun i s hi hJ => by
      obtain ⟨k, o, t, sd⟩ := s
      obtain ⟨h1, h2, h3, a, h4, h5⟩ := hJ
      simp only at h1 h2 h3 h4
      subst h1 h4
      obtain ⟨b, a', s', e, h6⟩ := p_one n hc a (by omega) sd 5 (by omega)
      have hlt : decide ((i : Int) < st.2.1) = true := decide_eq_true (by omega)
      unfold m_spec_l21Draw_l9
      simp only [hlt, if_true, e, Option.bind_some, inc64 (show i ≤ 1000000 by omega)]
      cases b with
      | false => exact ⟨_, rfl, rfl, by simp only; omega, h3, a', rfl, by omega⟩
      | true =>
        simp only [if_true, app_eq (show o.length + [(i : Int)].length ≤ 4294967296 by simp; omega), Option.bind_some]
        exact ⟨_, rfl, rfl, by simp; omega, mem_snoc h3 (small64 (by omega) (by omega)), a', rfl, by omega⟩)
    (fun s hJ => by
      obtain ⟨k, o, t, sd⟩ := s
      obtain ⟨h1, h2, h3, a, h4, h5⟩ := hJ
      simp only at h1 h2 h3 h4
      subst h1 h4
      have hlt : decide ((N : Int) < st.2.1) = false := decide_eq_false (by omega)
      refine ⟨(o, (a : Int), sd), ?_, h2, h3, a, rfl, by omega⟩
      unfold m_spec_l21Draw_l9
      simp only [hlt, Bool.false_eq_true, if_false]) n (by omega) _ ⟨rfl, by simp, by simp, A, rfl, by omega⟩

def drawNames : List (List UInt8) := [[104, 101, 101, 108], [104, 97, 108, 102, 45, 115, 111, 108, 101], [119, 101, 108, 116], [108, 105, 110, 105, 110, 103], [112, 97, 116, 99, 104], [100, 121, 101], [101, 121, 101, 108, 101, 116, 45, 49], [115, 116, 114, 101, 116, 99, 104]]

theorem snocR {l : List SRepair} {v : SRepair} (h : ∀ x ∈ l, DR x) (hv : DR v) : ∀ x ∈ l ++ [v], DR x := by
  intro x hx
  rcases List.mem_append.1 hx with hx | hx
  · exact h x hx
  · simp at hx; subst hx; exact hv

theorem d_l1 (n : Nat) {code : List Int} (hc : bytesok code) (x23 : Int × Int × Int) (N : Nat) (hx : x23.1 = (N : Int)) (hN : N ≤ 8) (A : Nat) (hA : A ≤ 700000000) (seed : Int) (hn : 100 < n) :
    ∃ q : List SRepair × Int × Int, loopN (m_spec_l21Draw_l1 n code x23) n (([] : List SRepair), 0, (A : Int), seed) = some q ∧ q.1.length ≤ N ∧ (∀ x ∈ q.1, DR x) ∧ ∃ a : Nat, q.2.1 = (a : Int) ∧ a ≤ A + 50 * N :=
  loopN_count (body := m_spec_l21Draw_l1 n code x23) (fun i s => s.2.1 = (i : Int) ∧ s.1.length ≤ i ∧ (∀ x ∈ s.1, DR x) ∧ ∃ a : Nat, s.2.2.1 = (a : Int) ∧ a ≤ A + 50 * i) N
    (fun q => q.1.length ≤ N ∧ (∀ x ∈ q.1, DR x) ∧ ∃ a : Nat, q.2.1 = (a : Int) ∧ a ≤ A + 50 * N)
    (fun i s hi hJ => by
      obtain ⟨o, k, t, sd⟩ := s
      obtain ⟨h1, h2, h3, a, h4, h5⟩ := hJ
      simp only at h1 h2 h3 h4
      subst h1 h4
      have hlt : decide ((i : Int) < x23.1) = true := decide_eq_true (by omega)
      have hnm : i < drawNames.length := by simp [drawNames]; omega
      have hg : drawNames[i]? = some drawNames[i] := List.getElem?_eq_getElem hnm
      have hlen : (drawNames[i]).length ≤ 12 := (show ∀ x ∈ drawNames, x.length ≤ 12 by decide) _ (List.getElem_mem hnm)
      obtain ⟨p, a1, s1, e1, p0, p1, q1⟩ := p_pick n hc a (by omega) sd 20 (by omega)
      have p1' := p1 (by omega)
      obtain ⟨⟨M, t2, s2⟩, e2, m1, m2, a2, m3, m4⟩ := d_l6 n hc a1 (by omega) s1 hn
      simp only at m1 m2 m3
      subst m3
      obtain ⟨⟨F, t3, s3⟩, e3, f1, f2, a3, f3, f4⟩ := d_l9 n hc (o, (i : Int), (a : Int), sd) i rfl (by omega) a2 (by omega) s2 hn
      simp only at f1 f2 f3
      subst f3
      obtain ⟨h, a4, s4, e4, p2, p3, q4⟩ := p_pick n hc a3 (by omega) s3 9 (by omega)
      have p3' := p3 (by omega)
      have w : wI64 (50 * p) = 50 * p := wI64_eq (by omega) (by omega)
      have hi2 : idx ([[104, 101, 101, 108], [104, 97, 108, 102, 45, 115, 111, 108, 101], [119, 101, 108, 116], [108, 105, 110, 105, 110, 103], [112, 97, 116, 99, 104], [100, 121, 101], [101, 121, 101, 108, 101, 116, 45, 49], [115, 116, 114, 101, 116, 99, 104]] : List (List UInt8)) (i : Int) = some drawNames[i] := by rw [idx_nat]; exact hg
      refine ⟨(o ++ [SRepair.mk drawNames[i] M F (50 * p) h], ((i + 1 : Nat) : Int), (a4 : Int), s4), ?_, rfl, by simp; omega, snocR h3 ⟨hlen, by simp only; omega, by simp only; omega, m2, f2, small64 (by simp only; omega) (by simp only; omega), small64 (by simp only; omega) (by simp only; omega)⟩, a4, rfl, by omega⟩
      unfold m_spec_l21Draw_l1
      simp only [hlt, if_true, hi2, e1, e2, e3, e4, Option.bind_some, w, inc64 (show i ≤ 1000000 by omega), app_eq (show o.length + [SRepair.mk drawNames[i] M F (50 * p) h].length ≤ 4294967296 by simp; omega)])
    (fun s hJ => by
      obtain ⟨o, k, t, sd⟩ := s
      obtain ⟨h1, h2, h3, a, h4, h5⟩ := hJ
      simp only at h1 h2 h3 h4
      subst h1 h4
      have hlt : decide ((N : Int) < x23.1) = false := decide_eq_false (by omega)
      refine ⟨(o, (a : Int), sd), ?_, h2, h3, a, rfl, by omega⟩
      unfold m_spec_l21Draw_l1
      simp only [hlt, Bool.false_eq_true, if_false]) n (by omega) _ ⟨rfl, by simp, by simp, A, rfl, by omega⟩

theorem p_l21Draw (n : Nat) {code : List Int} (hc : bytesok code) (A : Nat) (hA : A ≤ 600000000) (seed : Int) (hn : 100 < n) :
    ∃ (l : List SRepair) (a : Nat) (s : Int), m_spec_l21Draw n code (A : Int) seed = some (l, (a : Int), s) ∧ l.length ≤ 8 ∧ (∀ x ∈ l, DR x) ∧ a ≤ A + 1000 := by
  unfold m_spec_l21Draw
  obtain ⟨p, a1, s1, e1, p0, p1, q1⟩ := p_pick n hc A (by omega) seed 8 (by omega)
  have p1' := p1 (by omega)
  obtain ⟨N, rfl⟩ : ∃ N : Nat, p = (N : Int) := ⟨p.toNat, by omega⟩
  obtain ⟨⟨l, t, s⟩, e2, m1, m2, a2, m3, m4⟩ := d_l1 n hc ((N : Int), (a1 : Int), s1) N rfl (by omega) a1 (by omega) s1 hn
  simp only at m1 m2 m3
  subst m3
  rw [e1]
  simp only [Option.bind_some, e2]
  exact ⟨l, a2, s, rfl, by omega, m2, by omega⟩

theorem setR {l : List SRepair} {v : SRepair} {i : Nat} (h : ∀ x ∈ l, DR x) (hv : DR v) : ∀ x ∈ l.set i v, DR x := by
  intro x hx
  rcases List.mem_or_eq_of_mem_set hx with hx | hx
  · exact h x hx
  · subst hx; exact hv

theorem bent_l1 (n : Nat) (K : Nat) (hK : K ≤ 20) (hn : 100 < n) : ∃ q : List SRepair, loopN (m_spec_l21Bent_l1 n) n (([] : List SRepair), (K : Int)) = some q ∧ q.length ≤ 20 ∧ ∀ x ∈ q, DR x :=
  loopN_count (body := m_spec_l21Bent_l1 n) (fun i s => s.1.length ≤ i ∧ s.2 = ((K - i : Nat) : Int) ∧ ∀ x ∈ s.1, DR x) K (fun q => q.length ≤ 20 ∧ ∀ x ∈ q, DR x)
    (fun i s hi hJ => by
      obtain ⟨o, k⟩ := s
      obtain ⟨h1, h2, h3⟩ := hJ
      simp only at h1 h2 h3
      subst h2
      have hgt : decide (((K - i : Nat) : Int) > 0) = true := decide_eq_true (by omega)
      have w : wI64 (((K - i : Nat) : Int) - 1) = ((K - (i + 1) : Nat) : Int) := by rw [wI64_eq (by omega) (by omega)]; omega
      have hl : (ofBytes ([(IntKind.u8.wrap (wI64 (97 + (o.length : Int))))] : List Int)).length = 1 := by simp [ofBytes]
      obtain ⟨nm, hnm, hnl⟩ : ∃ nm, app [114] (ofBytes ([(IntKind.u8.wrap (wI64 (97 + (o.length : Int))))] : List Int)) = some nm ∧ nm.length ≤ 12 := ⟨_, app_eq (by rw [hl]; simp), by rw [List.length_append, hl]; simp⟩
      unfold m_spec_l21Bent_l1
      simp only [hgt, if_true, hnm, w, Option.bind_some, app_eq (show o.length + [SRepair.mk nm ([((K - (i + 1) : Nat) : Int)] : List Int) ([] : List Int) ((K - i : Nat) : Int) 0].length ≤ 4294967296 by simp; omega)]
      refine ⟨_, rfl, by simp; omega, rfl, snocR h3 ⟨hnl, by simp, by simp, fun n hn => ?_, by simp, small64 (by simp only; omega) (by simp only; omega), small64 (by simp) (by simp)⟩⟩
      simp at hn; subst hn; exact small64 (by omega) (by omega))
    (fun s hJ => by
      obtain ⟨o, k⟩ := s
      obtain ⟨h1, h2, h3⟩ := hJ
      simp only at h1 h2 h3
      rw [Nat.sub_self] at h2
      subst h2
      exact ⟨o, rfl, by omega, h3⟩) n (by omega) _ ⟨by simp, by simp, by simp⟩

/-- A repair that is drawn, and may be spoilt. -/
def DS (x : SRepair) : Prop := x.Name.length ≤ 12 ∧ x.Mends.length ≤ 21 ∧ x.First.length ≤ 21 ∧ (∀ n ∈ x.Mends, i64ok n) ∧ (∀ n ∈ x.First, i64ok n) ∧ i64ok x.Price ∧ i64ok x.Hours

theorem DR.ds {x : SRepair} (h : DR x) : DS x := ⟨h.1, Nat.le_succ_of_le h.2.1, Nat.le_succ_of_le h.2.2.1, h.2.2.2⟩

theorem DS.ok {x : SRepair} (h : DS x) : okRepair x := by
  obtain ⟨h1, h2, h3, h4, h5, h6, h7⟩ := h
  refine ⟨?_, ⟨?_, h4⟩, ⟨?_, h5⟩, h6, h7⟩
  · unfold strok; omega
  · omega
  · omega

theorem small_ds {l : List SRepair} (hl : l.length ≤ 1000) (h : ∀ x ∈ l, DS x) : smallR l := by
  refine ⟨?_, fun x hx => (h x hx).ok⟩
  have : ∀ l : List SRepair, (∀ x ∈ l, DS x) → totR l ≤ 60 * l.length := by
    intro l
    induction l with
    | nil => intro _; simp [totR]
    | cons x l ih =>
      intro h
      have h1 := h x (by simp)
      have h2 := ih fun y hy => h y (by simp [hy])
      have h3 : totR (x :: l) = szR x + totR l := by simp [totR]
      have h4 : szR x ≤ 60 := by unfold szR; obtain ⟨g1, g2, g3, _⟩ := h1; omega
      rw [h3, List.length_cons]; omega
  have := this l h
  omega

theorem setS {l : List SRepair} {v : SRepair} {i : Nat} (h : ∀ x ∈ l, DR x) (hv : DS v) : ∀ x ∈ l.set i v, DS x := by
  intro x hx
  rcases List.mem_or_eq_of_mem_set hx with hx | hx
  · exact (h x hx).ds
  · subst hx; exact hv

theorem spoil64 : ∀ x ∈ ([(-1), 0, 100000, 100001, (-9223372036854775808)] : List Int), i64ok x := by
  intro x hx; simp at hx; unfold i64ok; omega

theorem bent_pick (n : Nat) {code : List Int} (hc : bytesok code) (l : List SRepair) (hl : l.length ≤ 20) (hd : ∀ x ∈ l, DR x) (x : SRepair) (hx : DR x) (i : Nat) (c : Int) (a : Nat) (ha : a ≤ 800000000) (s : Int) :
    ∃ (l' : List SRepair) (a' : Nat) (s' : Int), (Option.bind (if (c == 0) then
      Option.bind (m_spec_l00Src_text_o1 n code (a : Int) s ([[], [72, 101, 101, 108], [104, 101, 101, 108]] : List (List UInt8))) fun y => some ((l.set i (SRepair.mk y.1 x.Mends x.First x.Price x.Hours)), y.2.1, y.2.2)
    else
      Option.bind (if (c == 1) then
        Option.bind (m_spec_l00Src_among_o1 n code (a : Int) s ([(-1), 9, 10] : List Int)) fun y => Option.bind (app x.Mends ([y.1] : List Int)) fun z => some ((l.set i (SRepair.mk x.Name z x.First x.Price x.Hours)), y.2.1, y.2.2)
      else
        Option.bind (if (c == 2) then
          Option.bind (m_spec_l00Src_among_o1 n code (a : Int) s ([(-1), 6, 7] : List Int)) fun y => Option.bind (app x.First ([y.1] : List Int)) fun z => some ((l.set i (SRepair.mk x.Name x.Mends z x.Price x.Hours)), y.2.1, y.2.2)
        else
          Option.bind (if (c == 3) then
            Option.bind (m_spec_l00Src_among_o1 n code (a : Int) s ([(-1), 0, 100000, 100001, (-9223372036854775808)] : List Int)) fun y => some ((l.set i (SRepair.mk x.Name x.Mends x.First y.1 x.Hours)), y.2.1, y.2.2)
          else
            Option.bind (if (c == 4) then
              Option.bind (m_spec_l00Src_among_o1 n code (a : Int) s ([(-1), 0, 1000, 1001] : List Int)) fun y => some ((l.set i (SRepair.mk x.Name x.Mends x.First x.Price y.1)), y.2.1, y.2.2)
            else
              some ((l.set i x), (a : Int), s)) fun y => some (y.1, y.2.1, y.2.2)) fun y => some (y.1, y.2.1, y.2.2)) fun y => some (y.1, y.2.1, y.2.2)) fun y => some (y.1, y.2.1, y.2.2)) fun y => (some (y.1, y.2.1, y.2.2) : Option (List SRepair × Int × Int))) = some (l', (a' : Int), s') ∧ l'.length ≤ 20 ∧ (∀ x ∈ l', DS x) ∧ a' ≤ a + 2 := by
  have hxs := hx.ds
  obtain ⟨g1, g2, g3, g4, g5, g6, g7⟩ := hx
  cases c == 0 with
  | true =>
    obtain ⟨v, a', s', e, hv, h⟩ := p_text n hc a (by omega) s [[], [72, 101, 101, 108], [104, 101, 101, 108]] (by simp) (by simp)
    simp only [if_true, e, Option.bind_some]
    refine ⟨_, a', s', rfl, by simp; omega, setS hd ⟨?_, hxs.2.1, hxs.2.2.1, g4, g5, g6, g7⟩, h⟩
    have : ∀ v ∈ ([[], [72, 101, 101, 108], [104, 101, 101, 108]] : List (List UInt8)), v.length ≤ 12 := by decide
    exact this v hv
  | false =>
    simp only [Bool.false_eq_true, if_false]
    cases c == 1 with
    | true =>
      obtain ⟨v, a', s', e, hv, h⟩ := p_among n hc a (by omega) s [(-1), 9, 10] (by simp) (by simp)
      simp only [if_true, e, Option.bind_some, app_eq (show x.Mends.length + [v].length ≤ 4294967296 by simp; omega)]
      refine ⟨_, a', s', rfl, by simp; omega, setS hd ⟨g1, by simp; omega, hxs.2.2.1, mem_snoc g4 ?_, g5, g6, g7⟩, h⟩
      simp at hv; exact small64 (by omega) (by omega)
    | false =>
      simp only [Bool.false_eq_true, if_false]
      cases c == 2 with
      | true =>
        obtain ⟨v, a', s', e, hv, h⟩ := p_among n hc a (by omega) s [(-1), 6, 7] (by simp) (by simp)
        simp only [if_true, e, Option.bind_some, app_eq (show x.First.length + [v].length ≤ 4294967296 by simp; omega)]
        refine ⟨_, a', s', rfl, by simp; omega, setS hd ⟨g1, hxs.2.1, by simp; omega, g4, mem_snoc g5 ?_, g6, g7⟩, h⟩
        simp at hv; exact small64 (by omega) (by omega)
      | false =>
        simp only [Bool.false_eq_true, if_false]
        cases c == 3 with
        | true =>
          obtain ⟨v, a', s', e, hv, h⟩ := p_among n hc a (by omega) s [(-1), 0, 100000, 100001, (-9223372036854775808)] (by simp) (by simp)
          simp only [if_true, e, Option.bind_some]
          exact ⟨_, a', s', rfl, by simp; omega, setS hd ⟨g1, hxs.2.1, hxs.2.2.1, g4, g5, spoil64 v hv, g7⟩, h⟩
        | false =>
          simp only [Bool.false_eq_true, if_false]
          cases c == 4 with
          | true =>
            obtain ⟨v, a', s', e, hv, h⟩ := p_among n hc a (by omega) s [(-1), 0, 1000, 1001] (by simp) (by simp)
            simp only [if_true, e, Option.bind_some]
            refine ⟨_, a', s', rfl, by simp; omega, setS hd ⟨g1, hxs.2.1, hxs.2.2.1, g4, g5, g6, ?_⟩, h⟩
            simp at hv; exact small64 (by simp only; omega) (by simp only; omega)
          | false =>
            simp only [Bool.false_eq_true, if_false, Option.bind_some]
            exact ⟨_, a, s, rfl, by simp; omega, setS hd hxs, by omega⟩

theorem p_l21Bent (n : Nat) {code : List Int} (hc : bytesok code) (A : Nat) (hA : A ≤ 500000000) (seed : Int) (hn : 100 < n) :
    ∃ (l : List SRepair) (a : Nat) (s : Int), m_spec_l21Bent n code (A : Int) seed = some (l, (a : Int), s) ∧ l.length ≤ 20 ∧ (∀ x ∈ l, DS x) ∧ a ≤ A + 2000 := by
  unfold m_spec_l21Bent
  obtain ⟨l, a1, s1, e1, h1, h2, h3⟩ := p_l21Draw n hc A (by omega) seed hn
  obtain ⟨b, a2, s2, e2, h4⟩ := p_one n hc a1 (by omega) s1 30 (by omega)
  simp only [e1, e2, Option.bind_some]
  cases b with
  | true =>
    simp only [if_true]
    obtain ⟨p, a3, s3, e3, p0, p1, h5⟩ := p_pick n hc a2 (by omega) s2 2 (by omega)
    have p1' := p1 (by omega)
    obtain ⟨K, hK⟩ : ∃ K : Nat, wI64 (10 + p) = (K : Int) ∧ K ≤ 20 := ⟨(10 + p).toNat, by rw [wI64_eq (by omega) (by omega)]; omega, by omega⟩
    obtain ⟨q, e4, q1, q2⟩ := bent_l1 n K hK.2 hn
    simp only [e3, Option.bind_some, hK.1, e4]
    exact ⟨q, a3, s3, rfl, q1, fun x hx => (q2 x hx).ds, by omega⟩
  | false =>
    simp only [Bool.false_eq_true, if_false]
    cases hz : ((l.length : Int) == 0) with
    | true =>
      simp only [if_true]
      exact ⟨l, a2, s2, rfl, by omega, fun x hx => (h2 x hx).ds, by omega⟩
    | false =>
      simp only [Bool.false_eq_true, if_false]
      have hpos : l.length ≠ 0 := fun e => by rw [e] at hz; simp at hz
      obtain ⟨p, a3, s3, e3, p0, p1, h5⟩ := p_pick n hc a2 (by omega) s2 (l.length : Int) (by omega)
      have p1' := p1 (by omega)
      obtain ⟨k, rfl⟩ : ∃ k : Nat, p = (k : Int) := ⟨p.toNat, by omega⟩
      have hk : k < l.length := by omega
      have hg : l[k]? = some l[k] := List.getElem?_eq_getElem hk
      obtain ⟨c, a4, s4, e4, -, -, h6⟩ := p_pick n hc a3 (by omega) s3 24 (by omega)
      obtain ⟨l', a5, s5, e5, m1, m2, m3⟩ := bent_pick n hc l (by omega) h2 l[k] (h2 _ (List.getElem_mem hk)) (Int.toNat (k : Int)) c a4 (by omega) s4
      simp only [e3, Option.bind_some, idx_nat, hg, e4]
      exact ⟨l', a5, s5, e5, m1, m2, by omega⟩

theorem d_faults (n : Nat) {code : List Int} (hc : bytesok code) (A : Nat) (hA : A ≤ 800000000) (seed : Int) (hn : 100 < n) :
    ∃ q : List Int × Int × Int, loopN (m_spec_l21DrawFaults_l1 n code) n (([] : List Int), 0, (A : Int), seed) = some q ∧ q.1.length ≤ 5 ∧ ∃ a : Nat, q.2.1 = (a : Int) ∧ a ≤ A + 10 :=
  loopN_count (body := m_spec_l21DrawFaults_l1 n code) (fun i s => s.2.1 = (i : Int) ∧ s.1.length ≤ i ∧ ∃ a : Nat, s.2.2.1 = (a : Int) ∧ a ≤ A + 2 * i) 5
    (fun q => q.1.length ≤ 5 ∧ ∃ a : Nat, q.2.1 = (a : Int) ∧ a ≤ A + 10)
    (fun i s hi hJ => by
      obtain ⟨o, k, t, sd⟩ := s
      obtain ⟨h1, h2, a, h4, h5⟩ := hJ
      simp only at h1 h2 h4
      subst h1 h4
      obtain ⟨b, a', s', e, h6⟩ := p_one n hc a (by omega) sd 3 (by omega)
      have hlt : decide ((i : Int) < 5) = true := decide_eq_true (by omega)
      unfold m_spec_l21DrawFaults_l1
      simp only [hlt, if_true, e, Option.bind_some, inc64 (show i ≤ 1000000 by omega)]
      cases b with
      | false => exact ⟨_, rfl, rfl, by simp only; omega, a', rfl, by omega⟩
      | true =>
        simp only [if_true, app_eq (show o.length + [(i : Int)].length ≤ 4294967296 by simp; omega), Option.bind_some]
        exact ⟨_, rfl, rfl, by simp; omega, a', rfl, by omega⟩)
    (fun s hJ => by
      obtain ⟨o, k, t, sd⟩ := s
      obtain ⟨h1, h2, a, h4, h5⟩ := hJ
      simp only at h1 h2 h4
      subst h1 h4
      exact ⟨_, rfl, h2, a, rfl, by omega⟩) n (by omega) _ ⟨rfl, by simp, A, rfl, by omega⟩

theorem p_l21DrawFaults (n : Nat) {code : List Int} (hc : bytesok code) (A : Nat) (hA : A ≤ 700000000) (seed : Int) (hn : 100 < n) :
    ∃ (f : List Int) (a : Nat) (s : Int), m_spec_l21DrawFaults n code (A : Int) seed = some (f, (a : Int), s) ∧ f.length ≤ 6 ∧ a ≤ A + 100 := by
  unfold m_spec_l21DrawFaults
  obtain ⟨⟨f, t, s⟩, e1, h1, a1, h2, h3⟩ := d_faults n hc A (by omega) seed hn
  simp only at h1 h2
  subst h2
  obtain ⟨b, a2, s2, e2, h4⟩ := p_one n hc a1 (by omega) s 12 (by omega)
  simp only [e1, e2, Option.bind_some]
  cases b with
  | false => exact ⟨f, a2, s2, rfl, by omega, by omega⟩
  | true =>
    obtain ⟨v, a3, s3, e3, _, h5⟩ := p_among n hc a2 (by omega) s2 [(-1), 4, 9, 10] (by simp) (by simp)
    simp only [if_true, e3, Option.bind_some, app_eq (show f.length + [v].length ≤ 4294967296 by simp; omega)]
    exact ⟨_, a3, s3, rfl, by simp; omega, by omega⟩

theorem d_some (n : Nat) {code : List Int} (hc : bytesok code) (x14 : List SRepair × Int × Int) (hl : x14.1.length ≤ 20) (A : Nat) (hA : A ≤ 800000000) (seed : Int) (hn : 100 < n) :
    ∃ q : List Int × Int × Int, loopN (m_spec_l21DrawSome_l1 n code x14) n (([] : List Int), 0, (A : Int), seed) = some q ∧ q.1.length ≤ 20 ∧ ∃ a : Nat, q.2.1 = (a : Int) ∧ a ≤ A + 40 :=
  loopN_count (body := m_spec_l21DrawSome_l1 n code x14) (fun i s => s.2.1 = (i : Int) ∧ s.1.length ≤ i ∧ ∃ a : Nat, s.2.2.1 = (a : Int) ∧ a ≤ A + 2 * i) x14.1.length
    (fun q => q.1.length ≤ 20 ∧ ∃ a : Nat, q.2.1 = (a : Int) ∧ a ≤ A + 40)
    (fun i s hi hJ => by
      obtain ⟨o, k, t, sd⟩ := s
      obtain ⟨h1, h2, a, h4, h5⟩ := hJ
      simp only at h1 h2 h4
      subst h1 h4
      obtain ⟨b, a', s', e, h6⟩ := p_one n hc a (by omega) sd 3 (by omega)
      unfold m_spec_l21DrawSome_l1
      simp only [ltB hi, if_true, e, Option.bind_some, inc64 (show i ≤ 1000000 by omega)]
      cases b with
      | true => exact ⟨_, rfl, rfl, by simp only; omega, a', rfl, by omega⟩
      | false =>
        simp only [Bool.not_false, if_true, app_eq (show o.length + [(i : Int)].length ≤ 4294967296 by simp; omega), Option.bind_some]
        exact ⟨_, rfl, rfl, by simp; omega, a', rfl, by omega⟩)
    (fun s hJ => by
      obtain ⟨o, k, t, sd⟩ := s
      obtain ⟨h1, h2, a, h4, h5⟩ := hJ
      simp only at h1 h2 h4
      subst h1 h4
      refine ⟨(o, (a : Int), sd), ?_, by simp only; omega, a, rfl, by omega⟩
      unfold m_spec_l21DrawSome_l1
      simp only [ltB_self, Bool.false_eq_true, if_false]) n (by omega) _ ⟨rfl, by simp, A, rfl, by omega⟩

theorem p_l00From (n : Nat) (code : List Int) : m_spec_l00From n code = some (0, 0) := rfl

theorem p_l21DrawSome (n : Nat) {code : List Int} (hc : bytesok code) (hn : 1048577 < n) : ∃ (l : List SRepair) (s f : List Int), m_spec_l21DrawSome n code = some (l, s, f) ∧ smallR l ∧ s.length ≤ 100 ∧ f.length ≤ 100 := by
  unfold m_spec_l21DrawSome
  rw [p_l00From]
  obtain ⟨l, a1, s1, e1, h1, h2, h3⟩ := p_l21Bent n hc 0 (by omega) 0 (by omega)
  obtain ⟨f, a2, s2, e2, h4, h5⟩ := p_l21DrawFaults n hc a1 (by omega) s1 (by omega)
  obtain ⟨⟨q, t, s3⟩, e3, h6, a3, h7, h8⟩ := d_some n hc (l, (a1 : Int), s1) h1 a2 (by omega) s2 (by omega)
  simp only at h6 h7
  subst h7
  have sl := small_ds (by omega) h2
  have e1' : m_spec_l21Bent n code 0 0 = some (l, (a1 : Int), s1) := e1
  simp only [Option.bind_some, e1', e2, e3, p_l21Some n l q sl (show q.length ≤ 1048576 by omega) (by omega)]
  -- those that are drawn, with those before them or not
  have two : ∃ (b : Bool) (a4 : Nat) (s4 : Int), (if (codeB l q [] == 0) then Option.bind (m_spec_l00Src_one n code (a3 : Int) s3 4) fun x => some ((!x.1), x.2.1, x.2.2) else (some (false, (a3 : Int), s3) : Option (Bool × Int × Int))) = some (b, (a4 : Int), s4) ∧ a4 ≤ a3 + 2 ∧ (b = true → codeB l q [] = 0) := by
    cases h : (codeB l q [] == 0) with
    | false => exact ⟨false, a3, s3, rfl, by omega, fun h => by cases h⟩
    | true =>
      obtain ⟨b, a4, s4, e4, h9⟩ := p_one n hc a3 (by omega) s3 4 (by omega)
      simp only [if_true, e4, Option.bind_some]
      exact ⟨!b, a4, s4, rfl, h9, fun _ => by simpa using h⟩
  obtain ⟨b, a4, s4, e4, h9, h10⟩ := two
  rw [e4]
  simp only [Option.bind_some]
  obtain ⟨u, e5, h11⟩ : ∃ u : List Int, (if b then Option.bind (m_spec_l21With n l q) fun x => some x else (some q : Option (List Int))) = some u ∧ u.length ≤ 20 := by
    cases b with
    | false => exact ⟨q, rfl, h6⟩
    | true =>
      obtain ⟨g1, g2, -⟩ := code0 (h10 rfl)
      refine ⟨withL l l.length q, ?_, ?_⟩
      · simp only [if_true, p_l21With n l q g1 g2 (by omega), Option.bind_some]
      · have := (withL_sm g1 l.length q (Nat.le_refl _) g2).short g1; omega
  rw [e5]
  simp only [Option.bind_some]
  obtain ⟨c, a5, s5, e6, h12⟩ := p_one n hc a4 (by omega) s4 16 (by omega)
  rw [e6]
  simp only [Option.bind_some]
  cases c with
  | false => exact ⟨l, u, f, rfl, sl, by omega, by omega⟩
  | true =>
    obtain ⟨v, a6, s6, e7, _, _⟩ := p_among n hc a5 (by omega) s5 [(-1), 0, (l.length : Int)] (by simp) (by simp)
    simp only [if_true, e7, Option.bind_some, app_eq (show u.length + [v].length ≤ 4294967296 by simp; omega)]
    exact ⟨l, _, f, rfl, sl, by simp; omega, by omega⟩

/-! ### Sums -/

theorem sumL_append (f : SRepair → Int) (l : List SRepair) (a b : List Int) : sumL f l (a ++ b) = sumL f l a + sumL f l b := by
  unfold sumL
  rw [List.foldl_append, foldl_add (fun k => f (l.getD k.toNat rD))]

theorem sumL_one (f : SRepair → Int) (l : List SRepair) (k : Int) : sumL f l [k] = f (l.getD k.toNat rD) := by unfold sumL; simp

theorem restL_split (s : List Int) {i : Nat} (h : i < s.length) : s = s.take i ++ ([s.getD i 0] ++ s.drop (i + 1)) := by
  have h1 : s.drop i = s[i] :: s.drop (i + 1) := List.drop_eq_getElem_cons h
  have h2 : s.getD i 0 = s[i] := by simp [h]
  rw [h2, List.singleton_append, ← h1, List.take_append_drop]

theorem restL_sum (l : List SRepair) (s : List Int) {i : Nat} (h : i < s.length) : sumL (·.Price) l s = sumL (·.Price) l (restL s i) + (l.getD (s.getD i 0).toNat rD).Price := by
  conv => lhs; rw [restL_split s h]
  unfold restL
  rw [sumL_append, sumL_append, sumL_append, sumL_one]; omega

theorem restL_len (s : List Int) {i : Nat} (h : i < s.length) : (restL s i).length + 1 = s.length := by
  unfold restL; simp; omega

/-! ### Every choice has a mask -/

theorem mask_ex : ∀ (s : List Int), (∀ k ∈ s, 0 ≤ k ∧ k < 62) → ∃ m, MaskIs m s
  | [], _ => ⟨0, MaskIs.zero⟩
  | k :: s, h => by
    obtain ⟨m, hm⟩ := mask_ex s fun k' hk => h k' (by simp [hk])
    have hk := h k (by simp)
    obtain ⟨b, rfl⟩ : ∃ b : Nat, k = (b : Int) := ⟨k.toNat, by omega⟩
    exact ⟨_, hm.cons (by omega)⟩

theorem own_ex {l : List SRepair} (hl : Vr l) {s : List Int} (hs : Sm l s) : ∃ m, m < 2 ^ l.length ∧ ownL l.length m = s := by
  have hlen := hl.len
  obtain ⟨m, h1, h2⟩ := mask_ex s fun k hk => by have := hs.mem k hk; omega
  refine ⟨m, ?_, ?_⟩
  · refine Nat.lt_pow_two_of_testBit m fun i hi => ?_
    by_cases h62 : i < 62
    · rw [h2 i h62]
      cases hc : s.contains (i : Int) with
      | false => rfl
      | true => have := hs.mem _ (List.contains_iff_mem.1 hc); omega
    · exact Nat.testBit_lt_two_pow (Nat.lt_of_lt_of_le h1 (Nat.pow_le_pow_right (by omega) (by omega)))
  · refine sorted_ext _ _ (ownL_sm (l := l) m).inc hs.inc fun x => ?_
    unfold ownL
    rw [List.mem_map]
    constructor
    · rintro ⟨i, hi, rfl⟩
      rw [List.mem_filter, List.mem_range] at hi
      have := hi.2
      rw [h2 i (by omega)] at this
      exact List.contains_iff_mem.1 this
    · intro hx
      have hb := hs.mem x hx
      refine ⟨x.toNat, ?_, by omega⟩
      rw [List.mem_filter, List.mem_range]
      refine ⟨by omega, ?_⟩
      rw [h2 _ (by omega), List.contains_iff_mem, show ((x.toNat : Nat) : Int) = x by omega]
      exact hx

/-! ### The fold picks the least -/

/-- Clearly better: a lower price, or fewer at one price. -/
def wk (l : List SRepair) (a b : List Int) : Prop := sumL (·.Price) l a < sumL (·.Price) l b ∨ (sumL (·.Price) l a = sumL (·.Price) l b ∧ a.length < b.length)

theorem better_wk {l : List SRepair} {best own : List Int} (h : betterB l best own = false) : ¬ wk l own best := by
  unfold betterB at h
  simp only [Bool.or_eq_false_iff, decide_eq_false_iff_not, Bool.and_eq_false_iff] at h
  obtain ⟨h1, h2⟩ := h
  rintro (h3 | ⟨h3, h4⟩)
  · exact h1 h3
  · rcases h2 with h2 | h2
    · rw [h3] at h2; simp at h2
    · exact h2.1 h4

theorem better_trans {l : List SRepair} {best own x : List Int} (h : betterB l best own = true) (hx : ¬ wk l x best) : ¬ wk l x own := by
  unfold betterB at h
  simp only [Bool.or_eq_true, decide_eq_true_eq, Bool.and_eq_true, beq_iff_eq] at h
  intro hw
  apply hx
  unfold wk at hw ⊢
  rcases h with h | ⟨h1, h2⟩
  · rcases hw with hw | ⟨hw, _⟩ <;> left <;> omega
  · rcases hw with hw | ⟨hw1, hw2⟩
    · left; omega
    · right; refine ⟨by omega, ?_⟩
      rcases h2 with h2 | ⟨h2, _⟩ <;> omega

theorem wk_self (l : List SRepair) (a : List Int) : ¬ wk l a a := by
  rintro (h | ⟨_, h⟩) <;> omega

def leastO (l : List SRepair) (f : List Int) (N : Nat) : Option (List Int) → Prop
  | none => ∀ m, m < N → allB l (ownL l.length m) f = false
  | some b => allB l b f = true ∧ (∃ m, b = ownL l.length m) ∧ ∀ m, m < N → allB l (ownL l.length m) f = true → ¬ wk l (ownL l.length m) b

theorem least_step {l : List SRepair} {f : List Int} {N : Nat} {b : Option (List Int)} (h : leastO l f N b) : leastO l f (N + 1) (pickF l f b N) := by
  unfold pickF
  cases ha : allB l (ownL l.length N) f with
  | false =>
    simp only [Bool.false_eq_true, if_false]
    cases b with
    | none =>
      intro m hm
      by_cases e : m = N
      · subst e; exact ha
      · exact h m (by omega)
    | some b =>
      refine ⟨h.1, h.2.1, fun m hm hma => ?_⟩
      by_cases e : m = N
      · subst e; rw [ha] at hma; cases hma
      · exact h.2.2 m (by omega) hma
  | true =>
    simp only [if_true]
    cases b with
    | none =>
      refine ⟨ha, ⟨N, rfl⟩, fun m hm hma => ?_⟩
      by_cases e : m = N
      · subst e; exact wk_self _ _
      · rw [h m (by omega)] at hma; cases hma
    | some b =>
      cases hb : betterB l b (ownL l.length N) with
      | true =>
        show leastO l f (N + 1) (if betterB l b (ownL l.length N) = true then some (ownL l.length N) else some b)
        rw [if_pos hb]
        refine ⟨ha, ⟨N, rfl⟩, fun m hm hma => ?_⟩
        by_cases e : m = N
        · subst e; exact wk_self _ _
        · exact better_trans hb (h.2.2 m (by omega) hma)
      | false =>
        show leastO l f (N + 1) (if betterB l b (ownL l.length N) = true then some (ownL l.length N) else some b)
        rw [if_neg (by rw [hb]; decide)]
        refine ⟨h.1, h.2.1, fun m hm hma => ?_⟩
        by_cases e : m = N
        · subst e; exact better_wk hb
        · exact h.2.2 m (by omega) hma

theorem cheap_least (l : List SRepair) (f : List Int) : leastO l f (2 ^ l.length) (cheapL l f) := by
  unfold cheapL
  have : ∀ N, leastO l f N ((List.range N).foldl (pickF l f) none) := by
    intro N
    induction N with
    | zero => intro m hm; omega
    | succ N ih =>
      rw [List.range_succ, List.foldl_append]
      exact least_step ih
  exact this _

theorem cheap_some {l : List SRepair} {f b : List Int} (hl : Vr l) (h : cheapL l f = some b) : allB l b f = true ∧ Sm l b ∧ ∀ s, Sm l s → allB l s f = true → ¬ wk l s b := by
  have hc := cheap_least l f
  rw [h] at hc
  have hok := cheapL_ok l f
  rw [h] at hok
  refine ⟨hc.1, hok, fun s hs ha => ?_⟩
  obtain ⟨m, hm, rfl⟩ := own_ex hl hs
  exact hc.2.2 m hm ha

theorem cheap_none {l : List SRepair} {f : List Int} (hl : Vr l) (h : cheapL l f = none) : ∀ s, Sm l s → allB l s f = false := by
  have hc := cheap_least l f
  rw [h] at hc
  intro s hs
  obtain ⟨m, hm, rfl⟩ := own_ex hl hs
  exact hc m hm

theorem need_nil {l : List SRepair} {f b : List Int} (hl : Vr l) (h : cheapL l f = some b) : needL l b f = [] := by
  obtain ⟨h1, h2, h3⟩ := cheap_some hl h
  unfold needL
  rw [List.map_eq_nil_iff, List.filter_eq_nil_iff]
  intro i hi
  rw [List.mem_range] at hi
  intro ha
  have hr := restL_sm (l := l) h2 i
  refine h3 _ hr ha ?_
  have hs := restL_sum l b hi
  have hk : b.getD i 0 ∈ b := by
    have : b[i]? = some (b.getD i 0) := getD_of hi 0
    exact List.mem_of_getElem? this
  have hp := (hl.price _ (h2.at hk).2.1).1
  have hn := restL_len b hi
  unfold wk
  by_cases e : (l.getD (b.getD i 0).toNat rD).Price = 0
  · right; exact ⟨by omega, by omega⟩
  · left; omega

theorem codeB_some {l : List SRepair} {s f : List Int} (hc : codeB l [] f = 0) (hs : Sm l s) : codeB l s f = 0 := by
  unfold codeB at hc ⊢
  cases h1 : repsB l with
  | false => rw [h1] at hc; simp at hc
  | true =>
    rw [h1] at hc
    have h2 := someB_of hs
    have h3 : someB l [] = true := rfl
    rw [h3] at hc
    rw [h2]
    exact hc

theorem codeB_less {l : List SRepair} {s f : List Int} (hc : codeB l s f = 0) : codeB l [] f = 0 ∧ codeB l s [] = 0 := by
  unfold codeB at hc ⊢
  cases h1 : repsB l with
  | false => rw [h1] at hc; simp at hc
  | true =>
    rw [h1] at hc
    cases h2 : someB l s with
    | false => rw [h2] at hc; simp at hc
    | true =>
      cases h3 : risB 0 9 f with
      | false => rw [h2, h3] at hc; simp at hc
      | true => exact ⟨rfl, rfl⟩

theorem codeB_nil {l : List SRepair} {s f : List Int} (hc : codeB l [] f = 0) (hs : Sm l s) : codeB l s [] = 0 := (codeB_less (codeB_some hc hs)).2

/-! ### The law -/

def mB (l : List SRepair) (s f : List Int) : Bool × Int := if codeB l s f = 0 then (allB l s f, 0) else (false, codeB l s f)

def prB (l : List SRepair) (s : List Int) : Int × Int := if codeB l s [] = 0 then (sumL (·.Price) l s, 0) else (0, codeB l s [])

theorem ne0 {x : Int} (h : ¬ x = 0) : (x != 0) = true := by simp [bne, h]

end Go.Gv
