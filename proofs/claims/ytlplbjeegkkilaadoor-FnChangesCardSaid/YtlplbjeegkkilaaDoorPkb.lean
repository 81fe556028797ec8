/- Plain laws: what is drawn (any seat). -/
import Derived.Test.YtlplbjeegkkilaaDoorPa
namespace Go.Gv
open Go Go.RowKit

/-- A loop that goes N rounds, each of which keeps J. -/
theorem loopN_count {σ τ : Type} {body : σ → Option (Step σ τ)} (J : Nat → σ → Prop) (N : Nat) (R : τ → Prop) (hstep : ∀ i s, i < N → J i s → ∃ s', body s = some (.next s') ∧ J (i + 1) s')
    (hend : ∀ s, J N s → ∃ t, body s = some (.done t) ∧ R t) (n : Nat) (hn : N < n) (s : σ) (h0 : J 0 s) : ∃ t, loopN body n s = some t ∧ R t := by
  have key : ∀ (j n : Nat) (s : σ), j ≤ N → j < n → J (N - j) s → ∃ t, loopN body n s = some t ∧ R t := by
    intro j
    induction j with
    | zero =>
      intro n s _ hn hJ
      obtain ⟨m, rfl⟩ : ∃ m, n = m + 1 := ⟨n - 1, by omega⟩
      obtain ⟨t, h1, h2⟩ := hend s hJ
      exact ⟨t, by simp [loopN, h1], h2⟩
    | succ j ih =>
      intro n s hj hn hJ
      obtain ⟨m, rfl⟩ : ∃ m, n = m + 1 := ⟨n - 1, by omega⟩
      obtain ⟨s', h1, h2⟩ := hstep _ s (by omega) hJ
      obtain ⟨t, h3, h4⟩ := ih m s' (by omega) (by omega) (by rw [show N - (j + 1) + 1 = N - j by omega] at h2; exact h2)
      exact ⟨t, by simp only [loopN, h1, Option.bind_some]; exact h3, h4⟩
  exact key N n s (Nat.le_refl _) hn (by rw [Nat.sub_self]; exact h0)

def bytesok (code : List Int) : Prop := ∀ c ∈ code, 0 ≤ c ∧ c ≤ 255

theorem iand_255 (x : Int) : 0 ≤ wI64 (iand .u64 x 255) ∧ wI64 (iand .u64 x 255) ≤ 255 := by
  have h : (BitVec.ofInt 64 x &&& BitVec.ofInt 64 255).toNat ≤ 255 := by
    rw [BitVec.toNat_and]
    have : (BitVec.ofInt 64 255).toNat = 255 := by decide
    rw [this]
    exact Nat.and_le_right
  have e : iand .u64 x 255 = ((BitVec.ofInt 64 x &&& BitVec.ofInt 64 255).toNat : Int) := by
    unfold iand
    exact wU64_eq (by simp [IntKind.bits]) (by simp only [IntKind.bits]; omega)
  rw [e, wI64_eq (by omega) (by omega)]
  omega

theorem p_next (n : Nat) {code : List Int} (hc : bytesok code) (a : Nat) (ha : a ≤ 1000000000) (seed : Int) : ∃ x seed', m_spec_l00Src_next n code (a : Int) seed = some (x, ((a + 1 : Nat) : Int), seed') ∧ 0 ≤ x ∧ x ≤ 255 := by
  have w : wI64 ((a : Int) + 1) = ((a + 1 : Nat) : Int) := by rw [wI64_eq (by omega) (by omega)]; omega
  unfold m_spec_l00Src_next
  rw [w]
  by_cases h : a < code.length
  · obtain ⟨c, hg⟩ : ∃ c, code[a]? = some c := ⟨_, List.getElem?_eq_getElem h⟩
    have hb := hc c (List.mem_of_getElem? hg)
    have h2 : decide (((a + 1 : Nat) : Int) ≤ (code.length : Int)) = true := by simpa using (by omega : ((a + 1 : Nat) : Int) ≤ (code.length : Int))
    have w2 : wI64 c = c := wI64_eq (by omega) (by omega)
    simp only [ltB h, if_true, idx_nat, hg, Option.bind_some, h2, w2]
    exact ⟨_, _, rfl, hb.1, hb.2⟩
  · have h1 : decide ((a : Int) < (code.length : Int)) = false := by simp; omega
    have h2 : decide (((a + 1 : Nat) : Int) ≤ (code.length : Int)) = false := by simpa using (by omega : (code.length : Int) < ((a + 1 : Nat) : Int))
    simp only [h1, h2, Bool.false_eq_true, if_false, Option.bind_some, shr, show ¬ ((40 : Int) < 0) by decide]
    exact ⟨_, _, rfl, (iand_255 _).1, (iand_255 _).2⟩

theorem p_pick (n : Nat) {code : List Int} (hc : bytesok code) (a : Nat) (ha : a ≤ 900000000) (seed m : Int) (hm : m ≤ 1048576) : ∃ x a' seed', m_spec_l00Src_pick n code (a : Int) seed m = some (x, ((a' : Nat) : Int), seed') ∧ 0 ≤ x ∧ (1 ≤ m → x < m) ∧ a' ≤ a + 2 := by
  unfold m_spec_l00Src_pick
  by_cases h : m ≤ 1
  · simp only [h, decide_true, if_true]
    exact ⟨0, a, seed, rfl, by omega, fun h => by omega, by omega⟩
  · simp only [h, decide_false, Bool.false_eq_true, if_false]
    obtain ⟨x, s1, e1, x0, x1⟩ := p_next n hc a (by omega) seed
    rw [e1]
    simp only [Option.bind_some]
    have hne : ¬ m = 0 := by omega
    by_cases h2 : m > 200
    · obtain ⟨y, s2, e2, y0, y1⟩ := p_next n hc (a + 1) (by omega) s1
      have w1 : wI64 (x * 256) = x * 256 := wI64_eq (by omega) (by omega)
      have w2 : wI64 (x * 256 + y) = x * 256 + y := wI64_eq (by omega) (by omega)
      simp only [h2, decide_true, if_true, e2, Option.bind_some, w1, w2, rem, hne, if_false]
      exact ⟨_, a + 1 + 1, s2, rfl, Int.tmod_nonneg _ (by omega), fun _ => Int.tmod_lt_of_pos _ (by omega), by omega⟩
    · simp only [h2, decide_false, Bool.false_eq_true, if_false, Option.bind_some, rem, hne]
      exact ⟨_, a + 1, s1, rfl, Int.tmod_nonneg _ (by omega), fun _ => Int.tmod_lt_of_pos _ (by omega), by omega⟩

theorem p_one (n : Nat) {code : List Int} (hc : bytesok code) (a : Nat) (ha : a ≤ 900000000) (seed m : Int) (hm : m ≤ 1048576) : ∃ (b : Bool) (a' : Nat) (seed' : Int), m_spec_l00Src_one n code (a : Int) seed m = some (b, (a' : Int), seed') ∧ a' ≤ a + 2 := by
  unfold m_spec_l00Src_one
  obtain ⟨x, a', s', e, _, _, h⟩ := p_pick n hc a ha seed m hm
  rw [e]
  exact ⟨_, a', s', rfl, h⟩

end Go.Gv
