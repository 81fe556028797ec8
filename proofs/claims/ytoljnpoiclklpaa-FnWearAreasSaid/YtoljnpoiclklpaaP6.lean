/- Plain laws of wear: what is drawn is a wear map. -/
import Derived.Test.YtoljnpoiclklpaaP5
namespace Go.Gv
open Go Go.RowKit

/-- A loop that goes N rounds, each of which keeps J. -/
theorem loopN_count {σ τ : Type} {body : σ → Option (Step σ τ)} (J : Nat → σ → Prop) (N : Nat) (R : τ → Prop) (hstep : ∀ i s, i < N → J i s → ∃ s', body s = some (.next s') ∧ J (i + 1) s')
    (hend : ∀ s, J N s → ∃ t, body s = some (.done t) ∧ R t) (n : Nat) (hn : N < n) (s : σ) (h0 : J 0 s) : ∃ t, loopN body n s = some t ∧ R t := by
  have key : ∀ (j n : Nat) (s : σ), j ≤ N → j < n → J (N - j) s → ∃ t, loopN body n s = some t ∧ R t := by
    intro j
    induction j with
    | zero =>
      intro n s _ hn hJ
      obtain ⟨m, rfl⟩ : ∃ m, n = m + 1 := ⟨n - 1, by omega⟩
      obtain ⟨t, h1, h2⟩ := hend s hJ
      exact ⟨t, by simp [loopN, h1], h2⟩
    | succ j ih =>
      intro n s hj hn hJ
      obtain ⟨m, rfl⟩ : ∃ m, n = m + 1 := ⟨n - 1, by omega⟩
      obtain ⟨s', h1, h2⟩ := hstep _ s (by omega) hJ
      obtain ⟨t, h3, h4⟩ := ih m s' (by omega) (by omega) (by rw [show N - (j + 1) + 1 = N - j by omega] at h2; exact h2)
      exact ⟨t, by simp only [loopN, h1, Option.bind_some]; exact h3, h4⟩
  exact key N n s (Nat.le_refl _) hn (by rw [Nat.sub_self]; exact h0)

def bytesok (code : List Int) : Prop := ∀ c ∈ code, 0 ≤ c ∧ c ≤ 255

theorem iand_255 (x : Int) : 0 ≤ wI64 (iand .u64 x 255) ∧ wI64 (iand .u64 x 255) ≤ 255 := by
  have h : (BitVec.ofInt 64 x &&& BitVec.ofInt 64 255).toNat ≤ 255 := by
    rw [BitVec.toNat_and]
    have : (BitVec.ofInt 64 255).toNat = 255 := by decide
    rw [this]
    exact Nat.and_le_right
  have e : iand .u64 x 255 = ((BitVec.ofInt 64 x &&& BitVec.ofInt 64 255).toNat : Int) := by
    unfold iand
    exact wU64_eq (by simp [IntKind.bits]) (by simp only [IntKind.bits]; omega)
  rw [e, wI64_eq (by omega) (by omega)]
  omega

theorem p_next (n : Nat) {code : List Int} (hc : bytesok code) (a : Nat) (ha : a ≤ 1000000000) (seed : Int) : ∃ x seed', m_spec_l00Src_next n code (a : Int) seed = some (x, ((a + 1 : Nat) : Int), seed') ∧ 0 ≤ x ∧ x ≤ 255 := by
  have w : wI64 ((a : Int) + 1) = ((a + 1 : Nat) : Int) := by rw [wI64_eq (by omega) (by omega)]; omega
  unfold m_spec_l00Src_next
  rw [w]
  by_cases h : a < code.length
  · obtain ⟨c, hg⟩ : ∃ c, code[a]? = some c := ⟨_, List.getElem?_eq_getElem h⟩
    have hb := hc c (List.mem_of_getElem? hg)
    have h2 : decide (((a + 1 : Nat) : Int) ≤ (code.length : Int)) = true := by simpa using (by omega : ((a + 1 : Nat) : Int) ≤ (code.length : Int))
    have w2 : wI64 c = c := wI64_eq (by omega) (by omega)
    simp only [ltB h, if_true, idx_nat, hg, Option.bind_some, h2, w2]
    exact ⟨_, _, rfl, hb.1, hb.2⟩
  · have h1 : decide ((a : Int) < (code.length : Int)) = false := by simp; omega
    have h2 : decide (((a + 1 : Nat) : Int) ≤ (code.length : Int)) = false := by simpa using (by omega : (code.length : Int) < ((a + 1 : Nat) : Int))
    simp only [h1, h2, Bool.false_eq_true, if_false, Option.bind_some, shr, show ¬ ((40 : Int) < 0) by decide]
    exact ⟨_, _, rfl, (iand_255 _).1, (iand_255 _).2⟩

theorem p_pick (n : Nat) {code : List Int} (hc : bytesok code) (a : Nat) (ha : a ≤ 900000000) (seed m : Int) (hm : m ≤ 1048576) : ∃ x a' seed', m_spec_l00Src_pick n code (a : Int) seed m = some (x, ((a' : Nat) : Int), seed') ∧ 0 ≤ x ∧ (1 ≤ m → x < m) ∧ a' ≤ a + 2 := by
  unfold m_spec_l00Src_pick
  by_cases h : m ≤ 1
  · simp only [h, decide_true, if_true]
    exact ⟨0, a, seed, rfl, by omega, fun h => by omega, by omega⟩
  · simp only [h, decide_false, Bool.false_eq_true, if_false]
    obtain ⟨x, s1, e1, x0, x1⟩ := p_next n hc a (by omega) seed
    rw [e1]
    simp only [Option.bind_some]
    have hne : ¬ m = 0 := by omega
    by_cases h2 : m > 200
    · obtain ⟨y, s2, e2, y0, y1⟩ := p_next n hc (a + 1) (by omega) s1
      have w1 : wI64 (x * 256) = x * 256 := wI64_eq (by omega) (by omega)
      have w2 : wI64 (x * 256 + y) = x * 256 + y := wI64_eq (by omega) (by omega)
      simp only [h2, decide_true, if_true, e2, Option.bind_some, w1, w2, rem, hne, if_false]
      exact ⟨_, a + 1 + 1, s2, rfl, Int.tmod_nonneg _ (by omega), fun _ => Int.tmod_lt_of_pos _ (by omega), by omega⟩
    · simp only [h2, decide_false, Bool.false_eq_true, if_false, Option.bind_some, rem, hne]
      exact ⟨_, a + 1, s1, rfl, Int.tmod_nonneg _ (by omega), fun _ => Int.tmod_lt_of_pos _ (by omega), by omega⟩

theorem p_one (n : Nat) {code : List Int} (hc : bytesok code) (a : Nat) (ha : a ≤ 900000000) (seed m : Int) (hm : m ≤ 1048576) : ∃ (b : Bool) (a' : Nat) (seed' : Int), m_spec_l00Src_one n code (a : Int) seed m = some (b, (a' : Int), seed') ∧ a' ≤ a + 2 := by
  unfold m_spec_l00Src_one
  obtain ⟨x, a', s', e, _, _, h⟩ := p_pick n hc a ha seed m hm
  rw [e]
  exact ⟨_, a', s', rfl, h⟩

theorem dig_of {x : Int} (h0 : 0 ≤ x) (h1 : x < 10) : IntKind.u8.wrap (wI64 (48 + x)) = 48 + x ∧ dig (UInt8.ofNat (48 + x).toNat) = true := by
  have e : IntKind.u8.wrap (wI64 (48 + x)) = 48 + x := by rw [wI64_eq (by omega) (by omega), wU8_eq (by omega) (by omega)]
  refine ⟨e, ?_⟩
  unfold dig
  have : (UInt8.ofNat (48 + x).toNat).toNat = (48 + x).toNat := by
    rw [UInt8.toNat_ofNat']; exact Nat.mod_eq_of_lt (by omega)
  rw [this]; simp; omega

theorem p_draw (n : Nat) (hn : 1048576 < n) {code : List Int} (hc : bytesok code) (a : Nat) (ha : a ≤ 100000000) (seed : Int) (R C : Nat) (hR : R ≤ 100) (hC : C ≤ 100) :
    ∃ (rows : List (List UInt8)) (a' : Nat) (seed' : Int), m_spec_l20Draw n code (a : Int) seed (R : Int) (C : Int) = some (rows, (a' : Int), seed') ∧ rows.length = R ∧ ∀ r ∈ rows, r.length = C ∧ ∀ c ∈ r, dig c = true := by
  unfold m_spec_l20Draw
  obtain ⟨z, a1, s1, e1, h1⟩ := p_one n hc a (by omega) seed 6 (by omega)
  rw [e1]
  simp only [Option.bind_some]
  have row : ∀ (y : Nat) (A : Nat) (S : Int) (st : List (List UInt8) × Int × Int × Int), A ≤ 200000000 → st.2.2.1 = (A : Int) → ∃ t : List Int × Int × Int, loopN (m_spec_l20Draw_l3 n code (C : Int) (z, (a1 : Int), s1)) n (([] : List Int), 0, st.2.2.1, st.2.2.2) = some t ∧
      (t.1.length = C ∧ (∀ v ∈ t.1, 48 ≤ v ∧ v < 58) ∧ ∃ A' : Nat, t.2.1 = (A' : Int) ∧ A' ≤ A + 4 * C) := by
    intro y A S st hA hst
    refine loopN_count (body := m_spec_l20Draw_l3 n code (C : Int) (z, (a1 : Int), s1)) (fun i (s : List Int × Int × Int × Int) => s.1.length = i ∧ s.2.1 = (i : Int) ∧ (∀ v ∈ s.1, 48 ≤ v ∧ v < 58) ∧ ∃ A' : Nat, s.2.2.1 = (A' : Int) ∧ A' ≤ A + 4 * i) C _ (fun i s hi hJ => ?_) (fun s hJ => ?_) n (by omega) _ ⟨rfl, rfl, by simp, A, hst, by omega⟩
    · obtain ⟨j1, j2, j3, A', j4, j5⟩ := hJ
      unfold m_spec_l20Draw_l3
      have hlt : decide (s.2.1 < (C : Int)) = true := by rw [j2]; exact ltB hi
      simp only [hlt, if_true]
      have first : ∃ (b : Bool) (A2 : Nat) (S2 : Int), (if (!z) then Option.bind (m_spec_l00Src_one n code s.2.2.1 s.2.2.2 2) fun x625 => some ((!x625.1), x625.2.1, x625.2.2) else some (false, s.2.2.1, s.2.2.2)) = some (b, (A2 : Int), S2) ∧ A2 ≤ A' + 2 := by
        cases z
        · obtain ⟨b, A2, S2, e, h⟩ := p_one n hc A' (by omega) s.2.2.2 2 (by omega)
          rw [j4, e]
          exact ⟨_, A2, S2, rfl, h⟩
        · rw [j4]; exact ⟨false, A', s.2.2.2, rfl, by omega⟩
      obtain ⟨b, A2, S2, f1, f2⟩ := first
      rw [f1]
      simp only [Option.bind_some]
      have second : ∃ (x : Int) (A3 : Nat) (S3 : Int), (if b then Option.bind (m_spec_l00Src_pick n code (A2 : Int) S2 10) fun x670 => some (x670.1, x670.2.1, x670.2.2) else some (0, (A2 : Int), S2)) = some (x, (A3 : Int), S3) ∧ A3 ≤ A2 + 2 ∧ 0 ≤ x ∧ x < 10 := by
        cases b
        · exact ⟨0, A2, S2, rfl, by omega, by omega, by omega⟩
        · obtain ⟨x, A3, S3, e, g0, g1, g2⟩ := p_pick n hc A2 (by omega) S2 10 (by omega)
          simp only [if_true, e]
          exact ⟨x, A3, S3, rfl, g2, g0, g1 (by omega)⟩
      obtain ⟨x, A3, S3, g1, g2, g3, g4⟩ := second
      rw [g1]
      simp only [Option.bind_some, (dig_of g3 g4).1]
      rw [app_eq (by simp; omega)]
      simp only [Option.bind_some, j2, succ64 hi (by omega)]
      refine ⟨_, rfl, by simp [j1], rfl, fun v hv => ?_, A3, rfl, by omega⟩
      simp only [List.mem_append, List.mem_singleton] at hv
      rcases hv with hv | rfl
      · exact j3 v hv
      · omega
    · obtain ⟨j1, j2, j3, A', j4, j5⟩ := hJ
      unfold m_spec_l20Draw_l3
      have hlt : decide (s.2.1 < (C : Int)) = false := by rw [j2]; simp
      simp only [hlt, Bool.false_eq_true, if_false]
      exact ⟨_, rfl, j1, j3, A', j4, j5⟩
  have := loopN_count (body := m_spec_l20Draw_l1 n code (R : Int) (C : Int) (z, (a1 : Int), s1)) (fun i (s : List (List UInt8) × Int × Int × Int) => s.1.length = i ∧ s.2.1 = (i : Int) ∧ (∀ r ∈ s.1, r.length = C ∧ ∀ c ∈ r, dig c = true) ∧ ∃ A' : Nat, s.2.2.1 = (A' : Int) ∧ A' ≤ a1 + (4 * C) * i) R
    (fun t => t.1.length = R ∧ (∀ r ∈ t.1, r.length = C ∧ ∀ c ∈ r, dig c = true) ∧ ∃ A' : Nat, t.2.1 = (A' : Int)) (fun i s hi hJ => by
      obtain ⟨j1, j2, j3, A', j4, j5⟩ := hJ
      have hmul : (4 * C) * i ≤ 400 * 100 := Nat.mul_le_mul (by omega) (by omega)
      obtain ⟨t, t1, t2, t3, A2, t4, t5⟩ := row i A' s.2.2.2 s (by omega) j4
      unfold m_spec_l20Draw_l1
      have hlt : decide (s.2.1 < (R : Int)) = true := by rw [j2]; exact ltB hi
      simp only [hlt, if_true, t1, Option.bind_some]
      rw [app_eq (by simp; omega)]
      simp only [Option.bind_some, j2, succ64 hi (by omega)]
      refine ⟨_, rfl, by simp [j1], rfl, fun r hr => ?_, A2, t4, by rw [Nat.mul_add, Nat.mul_one]; omega⟩
      simp only [List.mem_append, List.mem_singleton] at hr
      rcases hr with hr | rfl
      · exact j3 r hr
      · refine ⟨by simp [ofBytes, t2], fun c hc => ?_⟩
        unfold ofBytes at hc
        rw [List.mem_map] at hc
        obtain ⟨v, hv, rfl⟩ := hc
        obtain ⟨v0, v1⟩ := t3 v hv
        have := (dig_of (x := v - 48) (by omega) (by omega)).2
        rwa [show 48 + (v - 48) = v by omega] at this)
    (fun s hJ => by
      obtain ⟨j1, j2, j3, A', j4, j5⟩ := hJ
      unfold m_spec_l20Draw_l1
      have hlt : decide (s.2.1 < (R : Int)) = false := by rw [j2]; simp
      simp only [hlt, Bool.false_eq_true, if_false]
      exact ⟨_, rfl, j1, j3, A', j4⟩) n (by omega) (([] : List (List UInt8)), 0, (a1 : Int), s1) ⟨rfl, rfl, by simp, a1, rfl, by omega⟩
  obtain ⟨t, h2, h3, h4, A', h5⟩ := this
  rw [h2]
  simp only [Option.bind_some]
  exact ⟨t.1, A', t.2.2, by rw [h5], h3, h4⟩

theorem wear_mk {rows : List (List UInt8)} {R C : Nat} (h1 : rows.length = R) (h2 : ∀ r ∈ rows, r.length = C ∧ ∀ c ∈ r, dig c = true) (hR : 2 ≤ R) (hR2 : R ≤ 12) (hC : 2 ≤ C) (hC2 : C ≤ 8) : wearB rows = true ∧ ∃ r0, Wear rows C r0 := by
  obtain ⟨r0, h0⟩ : ∃ r0, rows[0]? = some r0 := ⟨_, List.getElem?_eq_getElem (by omega)⟩
  have hr0 := (h2 r0 (List.mem_of_getElem? h0)).1
  have hh : rows.headD [] = r0 := by
    cases rows with
    | nil => simp at h0
    | cons a b => simpa using h0
  refine ⟨?_, r0, by omega, by omega, hC, hC2, h0, hr0, fun r hr => (h2 r hr).1, fun r hr => (h2 r hr).2⟩
  unfold wearB
  simp only [Bool.and_eq_true, decide_eq_true_eq, List.all_eq_true]
  refine ⟨⟨by omega, by omega⟩, fun r hr => ?_⟩
  obtain ⟨q1, q2⟩ := h2 r hr
  unfold rowB
  simp only [Bool.and_eq_true, beq_iff_eq, decide_eq_true_eq, List.all_eq_true, hh, hr0]
  exact ⟨⟨q1, by omega, by omega⟩, q2⟩

theorem p_A2Wear (n : Nat) (hn : 1048576 < n) {code : List Int} (hc : bytesok code) : ∃ (rows : List (List UInt8)) (C : Nat) (r0 : List UInt8), m_spec_A2Wear n code = some rows ∧ wearB rows = true ∧ Wear rows C r0 ∧ rows.length ≤ 7 ∧ C ≤ 6 := by
  unfold m_spec_A2Wear m_spec_l20New m_spec_l00From
  simp only [Option.bind_some]
  obtain ⟨x, a1, s1, e1, x0, x1, h1⟩ := p_pick n hc 0 (by omega) 0 6 (by omega)
  have e1' : m_spec_l00Src_pick n code 0 0 6 = some (x, (a1 : Int), s1) := e1
  rw [e1']
  simp only [Option.bind_some]
  obtain ⟨y, a2, s2, e2, y0, y1, h2⟩ := p_pick n hc a1 (by omega) s1 5 (by omega)
  rw [e2]
  simp only [Option.bind_some]
  have x2 := x1 (by omega); have y2 := y1 (by omega)
  have w1 : wI64 (2 + x) = ((2 + x.toNat : Nat) : Int) := by rw [wI64_eq (by omega) (by omega)]; omega
  have w2 : wI64 (2 + y) = ((2 + y.toNat : Nat) : Int) := by rw [wI64_eq (by omega) (by omega)]; omega
  obtain ⟨rows, a3, s3, e3, r1, r2⟩ := p_draw n hn hc a2 (by omega) s2 (2 + x.toNat) (2 + y.toNat) (by omega) (by omega)
  rw [w1, w2, e3]
  simp only [Option.bind_some]
  obtain ⟨g1, r0, g2⟩ := wear_mk r1 r2 (by omega) (by omega) (by omega) (by omega)
  exact ⟨rows, 2 + y.toNat, r0, rfl, g1, g2, by omega, by omega⟩

end Go.Gv
