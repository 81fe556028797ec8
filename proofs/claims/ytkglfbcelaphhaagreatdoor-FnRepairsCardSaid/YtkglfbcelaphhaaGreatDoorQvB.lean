/- Plain laws (those of another seat, turned to this one by tools/renum.py). -/
import Derived.Test.YtkglfbcelaphhaaGreatDoorQvA
namespace Go.Gv
open Go Go.RowKit

theorem p_l00Put (n : Nat) (l : List Int) (v : Int) (hl : l.length ≤ 1048576) (hn : 1048576 < n) : m_spec_l00Put n l v = some (putL v l) := by
  unfold m_spec_l00Put
  have key := loopN_fold (body := m_spec_l00Put_l1 n l v) l (putF v) (([] : List Int), false) (fun i b => (b.1, b.2, (i : Int))) id (fun i b => b.1.length ≤ i + 1 ∧ (b.2 = false → b.1.length ≤ i)) (by simp)
    (fun i x b hx hb => by
      obtain ⟨o, d⟩ := b
      have hlt := lt_of_get hx
      simp only at hb
      have a3 : app o [x] = some (o ++ [x]) := app_eq (by simp; omega)
      unfold m_spec_l00Put_l1 putF
      simp only [ltB hlt, if_true, idx_nat, hx, Option.bind_some, succ64 hlt (by omega)]
      cases d with
      | true => simp only [Bool.not_true, Bool.false_eq_true, if_false, Bool.false_and, Option.bind_some, a3]; simp; omega
      | false =>
        have ho := hb.2 rfl
        have a1 : app o [v] = some (o ++ [v]) := app_eq (by simp; omega)
        have a2 : app (o ++ [v]) [x] = some (o ++ [v] ++ [x]) := app_eq (by simp; omega)
        by_cases h1 : x ≥ v
        · by_cases h2 : x > v
          · simp only [Bool.not_false, if_true, h1, h2, decide_true, Bool.and_self, Option.bind_some, a1, a2]; simp; omega
          · simp only [Bool.not_false, if_true, h1, h2, decide_true, decide_false, Bool.and_self, Option.bind_some, Bool.false_eq_true, if_false, a3]; simp; omega
        · simp only [Bool.not_false, if_true, h1, decide_false, Bool.and_false, Bool.false_eq_true, if_false, Option.bind_some, a3]; simp; omega)
    (fun b _ => by unfold m_spec_l00Put_l1; simp) n (by omega)
  have k1 : loopN (m_spec_l00Put_l1 n l v) n (([] : List Int), false, 0) = _ := key.1
  have k2 := putF_fold v l []
  have k3 := key.2
  rw [k1]
  generalize l.foldl (putF v) (([] : List Int), false) = b at k2 k3
  obtain ⟨o, d⟩ := b
  simp only [id, Option.bind_some] at k2 k3 ⊢
  cases d with
  | true => simp only [finF, if_true, List.nil_append] at k2; simp [k2]
  | false =>
    have a1 : app o [v] = some (o ++ [v]) := app_eq (by simp; omega)
    simp only [finF, Bool.false_eq_true, if_false, List.nil_append] at k2
    simp only [Bool.not_false, if_true, a1, Option.bind_some, k2]

/-! ### Repairs with all before them -/

def putAllL (F S : List Int) : List Int := F.foldl (fun o b => putL b o) S

theorem putAllL_mem (z : Int) : ∀ (F S : List Int), z ∈ putAllL F S ↔ z ∈ F ∨ z ∈ S
  | [], S => by simp [putAllL]
  | b :: F, S => by
    show z ∈ putAllL F (putL b S) ↔ _
    rw [putAllL_mem z F, putL_mem, List.mem_cons]
    constructor
    · rintro (h | h | h) <;> simp [h]
    · rintro ((h | h) | h) <;> simp [h]

theorem putAllL_sorted : ∀ (F S : List Int), S.Pairwise (· < ·) → (putAllL F S).Pairwise (· < ·)
  | [], _, h => h
  | b :: F, S, h => putAllL_sorted F (putL b S) (putL_sorted b S h)

theorem putAllL_len : ∀ (F S : List Int), putAllL F S = S ∨ S.length < (putAllL F S).length
  | [], S => .inl rfl
  | b :: F, S => by
    show putAllL F (putL b S) = S ∨ S.length < (putAllL F (putL b S)).length
    rcases putL_len b S with h | h
    · rw [h]; exact putAllL_len F S
    · rcases putAllL_len F (putL b S) with h2 | h2
      · right; rw [h2]; omega
      · right; omega

def stepW (l : List SRepair) (i : Nat) (S : List Int) : List Int := if S.contains (i : Int) then putAllL (l.getD i rD).First S else S

/-- The repairs below the i-th are looked at, the last first. -/
def withL (l : List SRepair) : Nat → List Int → List Int
  | 0, S => S
  | i + 1, S => withL l i (stepW l i S)

theorem stepW_sm {l : List SRepair} (hl : Vr l) {S : List Int} (hS : Sm l S) {i : Nat} (hi : i < l.length) : Sm l (stepW l i S) := by
  unfold stepW
  split
  · refine ⟨fun k hk => ?_, putAllL_sorted _ _ hS.inc⟩
    rcases (putAllL_mem k _ _).1 hk with h | h
    · have := (hl.first i _ (getD_of hi rD)).1 k h; omega
    · exact hS.mem k h
  · exact hS

theorem stepW_sub (l : List SRepair) (i : Nat) (S : List Int) (x : Int) (hx : x ∈ S) : x ∈ stepW l i S := by
  unfold stepW; split
  · exact (putAllL_mem x _ _).2 (.inr hx)
  · exact hx

theorem withL_sm {l : List SRepair} (hl : Vr l) : ∀ (i : Nat) (S : List Int), i ≤ l.length → Sm l S → Sm l (withL l i S)
  | 0, _, _, h => h
  | i + 1, S, hi, h => withL_sm hl i _ (by omega) (stepW_sm hl h (by omega))

theorem withL_sub (l : List SRepair) (x : Int) : ∀ (i : Nat) (S : List Int), x ∈ S → x ∈ withL l i S
  | 0, _, h => h
  | i + 1, S, h => withL_sub l x i _ (stepW_sub l i S x h)

theorem withL_low {l : List SRepair} (hl : Vr l) (x : Int) : ∀ (i : Nat) (S : List Int), i ≤ l.length → x ∈ withL l i S → x ∈ S ∨ (0 ≤ x ∧ x < (i : Int))
  | 0, _, _, h => .inl h
  | i + 1, S, hi, h => by
    rcases withL_low hl x i _ (by omega) h with h | h
    · unfold stepW at h
      split at h
      · rcases (putAllL_mem x _ _).1 h with h | h
        · have := (hl.first i _ (getD_of (by omega) rD)).1 x h; exact .inr (by omega)
        · exact .inl h
      · exact .inl h
    · exact .inr (by omega)

theorem withL_len (l : List SRepair) : ∀ (i : Nat) (S : List Int), withL l i S = S ∨ S.length < (withL l i S).length
  | 0, _ => .inl rfl
  | i + 1, S => by
    show withL l i (stepW l i S) = S ∨ S.length < (withL l i (stepW l i S)).length
    have h1 : stepW l i S = S ∨ S.length < (stepW l i S).length := by
      unfold stepW; split
      · exact putAllL_len _ _
      · exact .inl rfl
    have h2 := withL_len l i (stepW l i S)
    rcases h1 with h1 | h1
    · rw [h1] at h2 ⊢; exact h2
    · rcases h2 with h2 | h2
      · right; rw [h2]; exact h1
      · right; omega

def closedB (l : List SRepair) (s : List Int) : Bool := s.all fun k => (l.getD k.toNat rD).First.all fun b => s.contains b

theorem withL_same {l : List SRepair} {s : List Int} (hs : s.Pairwise (· < ·)) (hc : closedB l s = true) : ∀ i, withL l i s = s
  | 0 => rfl
  | i + 1 => by
    have e : stepW l i s = s := by
      unfold stepW
      split
      · rename_i h
        rw [List.contains_iff_mem] at h
        unfold closedB at hc
        rw [List.all_eq_true] at hc
        have h2 := hc _ h
        rw [List.all_eq_true] at h2
        have : ∀ (F : List Int), (∀ b ∈ F, b ∈ s) → putAllL F s = s := by
          intro F
          induction F with
          | nil => intro _; rfl
          | cons b F ih =>
            intro hF
            show putAllL F (putL b s) = s
            rw [putL_same b hs (hF b (by simp))]
            exact ih fun x hx => hF x (by simp [hx])
        refine this _ fun b hb => ?_
        have := h2 b (by simpa using hb)
        rwa [List.contains_iff_mem] at this
      · rfl
    show withL l i (stepW l i s) = s
    rw [e]; exact withL_same hs hc i

theorem withL_has {l : List SRepair} {b : Int} {k : Nat} (hb : b ∈ (l.getD k rD).First) : ∀ (i : Nat) (S : List Int), k < i → (k : Int) ∈ S → b ∈ withL l i S
  | 0, _, h, _ => by omega
  | i + 1, S, h, hk => by
    show b ∈ withL l i (stepW l i S)
    by_cases e : k = i
    · subst e
      refine withL_sub l b k _ ?_
      unfold stepW
      rw [if_pos (by rw [List.contains_iff_mem]; exact hk)]
      exact (putAllL_mem b _ _).2 (.inl hb)
    · exact withL_has hb i _ (by omega) (stepW_sub l i S _ hk)

/-- As many as before: then all before them were there. -/
theorem withL_closed {l : List SRepair} {s : List Int} (hs : Sm l s) : ((withL l l.length s).length == s.length) = closedB l s := by
  rw [Bool.eq_iff_iff, beq_iff_eq]
  constructor
  · intro h
    have e : withL l l.length s = s := by
      rcases withL_len l l.length s with h2 | h2
      · exact h2
      · omega
    unfold closedB
    rw [List.all_eq_true]
    intro k hk
    rw [List.all_eq_true]
    intro b hb
    rw [List.contains_iff_mem]
    have hkm := hs.mem k hk
    have := withL_has hb l.length s (by omega) (by rw [show ((k.toNat : Nat) : Int) = k by omega]; exact hk)
    rwa [e] at this
  · intro h; rw [withL_same hs.inc h]

theorem Sm.short {l : List SRepair} {s : List Int} (hl : Vr l) (h : Sm l s) : s.length ≤ 10 := Nat.le_trans h.len hl.len

theorem p_l21With (n : Nat) (l : List SRepair) (s : List Int) (hl : Vr l) (hs : Sm l s) (hn : 1048576 < n) : m_spec_l21With n l s = some (withL l l.length s) := by
  have hll := hl.len
  have inner : ∀ (i : Nat) (S : List Int), i < l.length → Sm l S → S.contains (i : Int) = true → loopN (m_spec_l21With_l3 n l (S, (i : Int))) n (S, 0) = some (putAllL (l.getD i rD).First S) := by
    intro i S hi hS hc
    have hg : l[i]? = some (l.getD i rD) := getD_of hi rD
    have hF := hl.first i _ hg
    have hFl := inc_len (l.getD i rD).First 0 i (fun k hk => hF.1 k hk) hF.2
    have key := loopN_fold (body := m_spec_l21With_l3 n l (S, (i : Int))) (l.getD i rD).First (fun o b => putL b o) S (fun j o => (o, (j : Int))) id (fun _ o => Sm l o) hS
      (fun j b o hb ho => by
        have hlt := lt_of_get hb
        have hsh := ho.short hl
        unfold m_spec_l21With_l3
        refine ⟨?_, fun k hk => ?_, putL_sorted b o ho.inc⟩
        · simp only [idx_nat l i, hg, Option.bind_some, ltB hlt, if_true, idx_nat, hb, p_l00Put n o b (by omega) hn, succ64 hlt (by omega)]
        · rcases (putL_mem b k o).1 hk with rfl | h
          · have := hF.1 k (List.mem_of_getElem? hb); omega
          · exact ho.mem k h)
      (fun o _ => by unfold m_spec_l21With_l3; simp only [idx_nat l i, hg, Option.bind_some, ltB_self]; rfl) n (by omega)
    exact key.1
  have outer : ∀ (i : Nat) (S : List Int) (f : Nat), i ≤ l.length → Sm l S → i < f → loopN (m_spec_l21With_l1 n l) f (S, (i : Int) - 1) = some (withL l i S) := by
    intro i
    induction i with
    | zero =>
      intro S f _ _ hf
      obtain ⟨f, rfl⟩ : ∃ g, f = g + 1 := ⟨f - 1, by omega⟩
      unfold loopN m_spec_l21With_l1; simp [withL]
    | succ i ih =>
      intro S f hi hS hf
      obtain ⟨f, rfl⟩ : ∃ g, f = g + 1 := ⟨f - 1, by omega⟩
      have hsh := hS.short hl
      have e : ((i + 1 : Nat) : Int) - 1 = (i : Int) := by omega
      have hge : decide ((i : Int) ≥ 0) = true := decide_eq_true (by omega)
      have hstep : m_spec_l21With_l1 n l (S, (i : Int)) = some (.next (stepW l i S, (i : Int) - 1)) := by
        unfold m_spec_l21With_l1 stepW
        simp only [hge, if_true, p_l00Has n S _ (by omega) hn, Option.bind_some, pred64 (show i ≤ 1048576 by omega)]
        cases hc : S.contains (i : Int) with
        | true => simp only [if_true, inner i S (by omega) hS hc, Option.bind_some]
        | false => simp
      unfold loopN
      rw [e, hstep]
      exact ih (stepW l i S) f (by omega) (stepW_sm hl hS (by omega)) (by omega)
  have hsh := hs.short hl
  unfold m_spec_l21With m_spec_l00Own
  rw [app_eq (by simp; omega), pred64 (by omega)]
  simp only [Option.bind_some, List.nil_append]
  rw [outer l.length s n (Nat.le_refl _) hs (by omega)]; rfl

theorem contains_loop {α : Type} (n : Nat) (body : Int → Option (Step Int (Unit ⊕ Int))) (xs : List α) (p : α → Bool) (hstep : ∀ (i : Nat) x, xs[i]? = some x → body (i : Int) = some (if p x then .done (.inr (i : Int)) else .next ((i + 1 : Nat) : Int)))
    (hend : body (xs.length : Int) = some (.done (.inl ()))) (hn : xs.length < n) :
    Option.bind (Option.bind (loopN body n 0) fun t => match t with | .inl _ => some (-1) | .inr r => some r) (fun x => some (decide (x ≥ 0))) = some (xs.any p) := by
  rw [loopN_index (body := body) xs p hstep hend n hn]
  cases h : xs.findIdx? p with
  | none =>
    rw [List.findIdx?_eq_none_iff] at h
    have : xs.any p = false := by rw [List.any_eq_false]; intro x hx; simp [h x hx]
    rw [this]; rfl
  | some i =>
    rw [List.findIdx?_eq_some_iff_getElem] at h
    obtain ⟨hi, hp, -⟩ := h
    have : xs.any p = true := by rw [List.any_eq_true]; exact ⟨_, List.getElem_mem hi, hp⟩
    rw [this]
    have h0 : decide ((i : Int) ≥ 0) = true := decide_eq_true (by omega)
    simp only [Option.bind_some, h0]

def mendB (l : List SRepair) (s : List Int) (f : Int) : Bool := s.any fun k => (l.getD k.toNat rD).Mends.contains f

def allB (l : List SRepair) (s f : List Int) : Bool := f.all (mendB l s) && closedB l s

theorem mends_len {l : List SRepair} (hl : Vr l) {x : SRepair} (hx : x ∈ l) : x.Mends.length ≤ 10 := by
  have h := hl.mends x hx
  have := inc_len x.Mends 0 10 (fun k hk => by have := h.1 k hk; omega) h.2
  omega

theorem first_len {l : List SRepair} (hl : Vr l) {x : SRepair} (hx : x ∈ l) : x.First.length ≤ 10 := by
  obtain ⟨i, hi⟩ := List.getElem?_of_mem hx
  have h := hl.first i x hi
  have := inc_len x.First 0 i (fun k hk => h.1 k hk) h.2
  have := lt_of_get hi
  have := hl.len
  omega

theorem p_l21Mended (n : Nat) (l : List SRepair) (s : List Int) (f : Int) (hl : Vr l) (hs : Sm l s) (hn : 1048576 < n) : m_spec_l21Mended n l s f = some (mendB l s f) := by
  have hsh := hs.short hl
  unfold m_spec_l21Mended mendB
  have key := loopN_listAll (body := m_spec_l21Mended_l1 n l s f) s (fun k => !(l.getD k.toNat rD).Mends.contains f) (fun i => (i : Int)) (.inl ()) (.inr true)
    (fun i k hk => by
      have hlt := lt_of_get hk
      obtain ⟨g1, g2, -⟩ := hs.at (List.mem_of_getElem? hk)
      unfold m_spec_l21Mended_l1
      simp only [ltB hlt, if_true, idx_nat, hk, g1, Option.bind_some, p_l00Has n _ _ (Nat.le_trans (mends_len hl g2) (by omega)) hn, succ64 hlt (by omega)]
      cases (l.getD k.toNat rD).Mends.contains f <;> rfl)
    (by unfold m_spec_l21Mended_l1; simp) n (by omega)
  have k1 : loopN (m_spec_l21Mended_l1 n l s f) n 0 = _ := key
  rw [k1]
  have e : (s.any fun k => (l.getD k.toNat rD).Mends.contains f) = !s.all (fun k => !(l.getD k.toNat rD).Mends.contains f) := by rw [List.all_eq_not_any_not]; simp
  rw [e]
  cases s.all (fun k => !(l.getD k.toNat rD).Mends.contains f) <;> rfl

theorem p_f95 (n : Nat) (F s : List Int) (hF : F.length ≤ 1048576) (hs : s.length ≤ 1048576) (hn : 1048576 < n) : m_slices_ContainsFunc_int64_int64_f83 n F s = some (!F.all (fun b => s.contains b)) := by
  unfold m_slices_ContainsFunc_int64_int64_f83 m_slices_IndexFunc_int64_int64_f83
  have h1 := contains_loop n (m_slices_IndexFunc_int64_int64_f83_l1 n F s) F (fun b => !s.contains b)
    (fun i x hx => by
      have hlt := lt_of_get hx
      unfold m_slices_IndexFunc_int64_int64_f83_l1 m_impl_mendsAll_1
      simp only [ltB hlt, if_true, idx_nat, hx, Option.bind_some, p_Contains n s _ hs hn, succ64 hlt (by omega)]
      cases s.contains x <;> rfl)
    (by unfold m_slices_IndexFunc_int64_int64_f83_l1; simp) (by omega)
  rw [List.all_eq_not_any_not, Bool.not_not]; exact h1

theorem p_f97 (n : Nat) (l : List SRepair) (s : List Int) (f : Int) (hl : Vr l) (hs : Sm l s) (hn : 1048576 < n) : m_slices_ContainsFunc_int64_int64_f85 n s l f = some (mendB l s f) := by
  have hsh := hs.short hl
  unfold m_slices_ContainsFunc_int64_int64_f85 m_slices_IndexFunc_int64_int64_f85
  exact contains_loop n (m_slices_IndexFunc_int64_int64_f85_l1 n s l f) s (fun k => (l.getD k.toNat rD).Mends.contains f)
    (fun i k hk => by
      have hlt := lt_of_get hk
      obtain ⟨g1, g2, -⟩ := hs.at (List.mem_of_getElem? hk)
      unfold m_slices_IndexFunc_int64_int64_f85_l1 m_impl_mendsAll_2_1
      simp only [ltB hlt, if_true, idx_nat, hk, g1, Option.bind_some, p_Contains n _ _ (Nat.le_trans (mends_len hl g2) (by omega)) hn, succ64 hlt (by omega)]
      cases (l.getD k.toNat rD).Mends.contains f <;> rfl)
    (by unfold m_slices_IndexFunc_int64_int64_f85_l1; simp) (by omega)

theorem p_f96 (n : Nat) (l : List SRepair) (s f : List Int) (hl : Vr l) (hs : Sm l s) (hf : f.length ≤ 1048576) (hn : 1048576 < n) : m_slices_ContainsFunc_int64_int64_f84 n f s l = some (!f.all (mendB l s)) := by
  unfold m_slices_ContainsFunc_int64_int64_f84 m_slices_IndexFunc_int64_int64_f84
  have h1 := contains_loop n (m_slices_IndexFunc_int64_int64_f84_l1 n f s l) f (fun x => !mendB l s x)
    (fun i x hx => by
      have hlt := lt_of_get hx
      unfold m_slices_IndexFunc_int64_int64_f84_l1 m_impl_mendsAll_2
      simp only [ltB hlt, if_true, idx_nat, hx, Option.bind_some, p_f97 n l s x hl hs hn, succ64 hlt (by omega)]
      cases mendB l s x <;> rfl)
    (by unfold m_slices_IndexFunc_int64_int64_f84_l1; simp) (by omega)
  rw [List.all_eq_not_any_not, Bool.not_not]; exact h1

theorem p_mendsAll (n : Nat) (l : List SRepair) (s f : List Int) (hl : Vr l) (hs : Sm l s) (hf : f.length ≤ 1048576) (hn : 1048576 < n) : m_impl_mendsAll n l s f = some (allB l s f) := by
  have hsh := hs.short hl
  unfold m_impl_mendsAll allB closedB
  have key := loopN_listAll (body := m_impl_mendsAll_l1 n l s) s (fun k => (l.getD k.toNat rD).First.all fun b => s.contains b) (fun i => (i : Int)) (.inl ()) (.inr false)
    (fun i k hk => by
      have hlt := lt_of_get hk
      obtain ⟨g1, g2, -⟩ := hs.at (List.mem_of_getElem? hk)
      unfold m_impl_mendsAll_l1
      simp only [ltB hlt, if_true, idx_nat, hk, g1, Option.bind_some, p_f95 n _ s (Nat.le_trans (first_len hl g2) (by omega)) (by omega) hn, succ64 hlt (by omega)]
      cases (l.getD k.toNat rD).First.all (fun b => s.contains b) <;> rfl)
    (by unfold m_impl_mendsAll_l1; simp) n (by omega)
  have k1 : loopN (m_impl_mendsAll_l1 n l s) n 0 = _ := key
  rw [k1]
  cases s.all (fun k => (l.getD k.toNat rD).First.all fun b => s.contains b) with
  | true => simp only [if_true, p_f96 n l s f hl hs hf hn, Option.bind_some, Bool.not_not, Bool.and_true]
  | false => simp

theorem p_implMendsAll (n : Nat) (l : List SRepair) (s f : List Int) (hl : smallR l) (hs : s.length ≤ 1048576) (hf : f.length ≤ 1048576) (hn : 1048576 < n) :
    m_impl_MendsAll n l s f = some (if codeB l s f = 0 then (allB l s f, 0) else (false, codeB l s f)) := by
  unfold m_impl_MendsAll
  simp only [p_someCode n l s f hl hs hf hn, Option.bind_some]
  by_cases h : codeB l s f = 0
  · obtain ⟨h1, h2, -⟩ := code0 h
    simp only [h, bne_self_eq_false, Bool.false_eq_true, if_false, p_mendsAll n l s f h1 h2 hf hn, Option.bind_some, if_true]
  · have hb : (codeB l s f != 0) = true := by simp [bne, h]
    simp only [hb, h, if_true, if_false]

/-! ### A list turned round -/

theorem set_getD {l : List Int} {i j : Nat} {v : Int} (hi : i < l.length) : (l.set i v).getD j 0 = if i = j then v else l.getD j 0 := by
  rw [List.getD_eq_getElem?_getD, List.getD_eq_getElem?_getD, List.getElem?_set]
  by_cases e : i = j
  · subst e; simp [hi]
  · simp [e]

theorem p_Reverse (n : Nat) (l : List Int) (hl : l.length ≤ 1048576) (hn : 1048576 < n) : m_slices_Reverse_int64_int64 n l = some l.reverse := by
  unfold m_slices_Reverse_int64_int64
  have key : ∀ (d k : Nat) (xs : List Int) (f : Nat), xs.length = l.length → 2 * k + d = l.length → d < f → (∀ t, t < l.length → xs.getD t 0 = if t < k ∨ l.length - 1 - k < t then l.getD (l.length - 1 - t) 0 else l.getD t 0) →
      loopN (m_slices_Reverse_int64_int64_l1 n) f ((k : Int), (l.length : Int) - 1 - (k : Int), xs) = some l.reverse := by
    intro d
    induction d using Nat.strongRecOn with
    | _ d ih =>
      intro k xs f hx hd hf hI
      obtain ⟨f, rfl⟩ : ∃ g, f = g + 1 := ⟨f - 1, by omega⟩
      by_cases hlt : (k : Int) < (l.length : Int) - 1 - (k : Int)
      · have e1 : (l.length : Int) - 1 - (k : Int) = ((l.length - 1 - k : Nat) : Int) := by omega
        have g1 : xs[k]? = some (xs.getD k 0) := getD_of (by omega) 0
        have g2 : xs[l.length - 1 - k]? = some (xs.getD (l.length - 1 - k) 0) := getD_of (by omega) 0
        have g3 : (xs.set k (xs.getD (l.length - 1 - k) 0))[l.length - 1 - k]? = some (xs.getD (l.length - 1 - k) 0) := by
          rw [List.getElem?_set_ne (by omega)]; exact g2
        have u1 : wI64 ((k : Int) + 1) = ((k + 1 : Nat) : Int) := succ64 (N := 1048576) (by omega) (by omega)
        have u2 : wI64 (((l.length - 1 - k : Nat) : Int) - 1) = (l.length : Int) - 1 - ((k + 1 : Nat) : Int) := by rw [wI64_eq (by omega) (by omega)]; omega
        have hb : decide ((k : Int) < ((l.length - 1 - k : Nat) : Int)) = true := decide_eq_true (by omega)
        have hstep : m_slices_Reverse_int64_int64_l1 n ((k : Int), (l.length : Int) - 1 - (k : Int), xs) = some (.next (((k + 1 : Nat) : Int), (l.length : Int) - 1 - ((k + 1 : Nat) : Int), (xs.set k (xs.getD (l.length - 1 - k) 0)).set (l.length - 1 - k) (xs.getD k 0))) := by
          unfold m_slices_Reverse_int64_int64_l1
          simp only [e1, hb, if_true, idx_nat, g1, g2, Option.bind_some, Int.toNat_natCast, g3, u1, u2]
        unfold loopN
        rw [hstep]
        refine ih (d - 2) (by omega) (k + 1) _ f (by simp [hx]) (by omega) (by omega) fun t ht => ?_
        rw [set_getD (by simp; omega), set_getD (by omega)]
        have hk := hI k (by omega)
        have hj := hI (l.length - 1 - k) (by omega)
        have c1 : ¬ (k < k ∨ l.length - 1 - k < k) := by omega
        have c2 : ¬ (l.length - 1 - k < k ∨ l.length - 1 - k < l.length - 1 - k) := by omega
        rw [if_neg c1] at hk
        rw [if_neg c2] at hj
        by_cases e2 : l.length - 1 - k = t
        · rw [if_pos e2, hk, if_pos (by omega)]; congr 1; omega
        · rw [if_neg e2]
          by_cases e3 : k = t
          · rw [if_pos e3, hj, if_pos (by omega)]; congr 1; omega
          · rw [if_neg e3, hI t ht]
            by_cases e4 : t < k ∨ l.length - 1 - k < t
            · rw [if_pos e4, if_pos (by omega)]
            · rw [if_neg e4, if_neg (by omega)]
      · have hb : decide ((k : Int) < (l.length : Int) - 1 - (k : Int)) = false := decide_eq_false hlt
        have hstep : m_slices_Reverse_int64_int64_l1 n ((k : Int), (l.length : Int) - 1 - (k : Int), xs) = some (.done xs) := by
          unfold m_slices_Reverse_int64_int64_l1
          simp only [hb, Bool.false_eq_true, if_false]
        unfold loopN
        rw [hstep]
        have : xs = l.reverse := by
          apply List.ext_getElem (by simp [hx])
          intro t h1 h2
          have ht : t < l.length := by omega
          have := hI t ht
          rw [List.getElem_reverse]
          have a1 : xs.getD t 0 = xs[t] := by rw [List.getD_eq_getElem?_getD, List.getElem?_eq_getElem h1]; rfl
          have a2 : l.getD (l.length - 1 - t) 0 = l[l.length - 1 - t]'(by omega) := by rw [List.getD_eq_getElem?_getD, List.getElem?_eq_getElem (by omega)]; rfl
          have a3 : l.getD t 0 = l[t] := by rw [List.getD_eq_getElem?_getD, List.getElem?_eq_getElem ht]; rfl
          rw [a1, a2, a3] at this
          rw [this]
          by_cases e4 : t < k ∨ l.length - 1 - k < t
          · rw [if_pos e4]
          · rw [if_neg e4]
            have e : t = l.length - 1 - t := by omega
            congr 1
        simp [this]
  by_cases h0 : l.length = 0
  · have hnil : l = [] := List.eq_nil_of_length_eq_zero h0
    subst hnil
    obtain ⟨m, rfl⟩ : ∃ m, n = m + 1 := ⟨n - 1, by omega⟩
    have : wI64 (((([] : List Int).length : Nat) : Int) - 1) = -1 := by rw [wI64_eq (by simp) (by simp)]; simp
    rw [this]
    unfold loopN m_slices_Reverse_int64_int64_l1; simp
  · have hw : wI64 ((l.length : Int) - 1) = (l.length : Int) - 1 := wI64_eq (by omega) (by omega)
    have := key l.length 0 l n rfl (by omega) (by omega) (fun t ht => by rw [if_neg (by omega)])
    rw [hw]
    have h2 : loopN (m_slices_Reverse_int64_int64_l1 n) n (0, (l.length : Int) - 1, l) = some l.reverse := by simpa using this
    rw [h2]; rfl

/-! ### The walk with a mask -/

/-- What the walk downwards gathers. -/
def visitL (l : List SRepair) : Nat → List Int → List Int → List Int
  | 0, _, out => out
  | i + 1, S, out => visitL l i (stepW l i S) (if S.contains (i : Int) then out ++ [(i : Int)] else out)

theorem filter_lt {W : List Int} (hW : W.Pairwise (· < ·)) (i : Nat) : W.filter (fun x => decide (x < ((i + 1 : Nat) : Int))) = W.filter (fun x => decide (x < (i : Int))) ++ (if W.contains (i : Int) then [(i : Int)] else []) := by
  refine sorted_ext _ _ (hW.filter _) ?_ fun x => ?_
  · rw [List.pairwise_append]
    refine ⟨hW.filter _, by split <;> simp, fun a ha b hb => ?_⟩
    rw [List.mem_filter] at ha
    split at hb
    · simp at hb; subst hb; simpa using ha.2
    · simp at hb
  · rw [List.mem_append, List.mem_filter, List.mem_filter]
    by_cases hc : (i : Int) ∈ W
    · have : W.contains (i : Int) = true := by rw [List.contains_iff_mem]; exact hc
      simp only [this, if_true, decide_eq_true_eq, List.mem_singleton]
      constructor
      · rintro ⟨h1, h2⟩
        by_cases e : x = (i : Int)
        · exact .inr e
        · exact .inl ⟨h1, by omega⟩
      · rintro (⟨h1, h2⟩ | rfl)
        · exact ⟨h1, by omega⟩
        · exact ⟨hc, by omega⟩
    · have : W.contains (i : Int) = false := by rw [Bool.eq_false_iff]; intro h; rw [List.contains_iff_mem] at h; exact hc h
      simp only [this, Bool.false_eq_true, if_false, decide_eq_true_eq, List.not_mem_nil, or_false]
      constructor
      · rintro ⟨h1, h2⟩
        have : x ≠ (i : Int) := fun e => hc (e ▸ h1)
        exact ⟨h1, by omega⟩
      · rintro ⟨h1, h2⟩; exact ⟨h1, by omega⟩

theorem visitL_eq {l : List SRepair} (hl : Vr l) : ∀ (i : Nat) (S out : List Int), i ≤ l.length → Sm l S → visitL l i S out = out ++ ((withL l i S).filter (fun x => decide (x < (i : Int)))).reverse
  | 0, S, out, _, hS => by
    have : (withL l 0 S).filter (fun x => decide (x < ((0 : Nat) : Int))) = [] := by
      rw [List.filter_eq_nil_iff]
      intro x hx
      have := hS.mem x hx
      simp; omega
    rw [this]; simp [visitL]
  | i + 1, S, out, hi, hS => by
    have ih := visitL_eq hl i (stepW l i S) (if S.contains (i : Int) then out ++ [(i : Int)] else out) (by omega) (stepW_sm hl hS (by omega))
    show visitL l i (stepW l i S) _ = _
    rw [ih]
    have hW := withL_sm hl i (stepW l i S) (by omega) (stepW_sm hl hS (by omega))
    show _ = out ++ ((withL l i (stepW l i S)).filter (fun x => decide (x < ((i + 1 : Nat) : Int)))).reverse
    rw [filter_lt hW.inc i]
    have hc : (withL l i (stepW l i S)).contains (i : Int) = S.contains (i : Int) := by
      rw [Bool.eq_iff_iff, List.contains_iff_mem, List.contains_iff_mem]
      constructor
      · intro h
        rcases withL_low hl _ i _ (by omega) h with h | h
        · unfold stepW at h
          split at h
          · rename_i h2; rwa [List.contains_iff_mem] at h2
          · exact h
        · omega
      · intro h; exact withL_sub l _ i _ (stepW_sub l i S _ h)
    rw [hc]
    cases S.contains (i : Int) <;> simp

theorem p_implWithWalk (n : Nat) (l : List SRepair) (s : List Int) (hl : Vr l) (hs : Sm l s) (hn : 1048576 < n) (m : Nat) (hm : MaskIs m s) :
    loopN (m_impl_WithFirst_l4 n l) n ((m : Int), ([] : List Int), (l.length : Int) - 1) = some (withL l l.length s).reverse := by
  have hll := hl.len
  have outer : ∀ (i : Nat) (S out : List Int) (m : Nat) (f : Nat), i ≤ l.length → Sm l S → MaskIs m S → out.length + i ≤ 100 → i < f → loopN (m_impl_WithFirst_l4 n l) f ((m : Int), out, (i : Int) - 1) = some (visitL l i S out) := by
    intro i
    induction i with
    | zero =>
      intro S out m f _ _ _ _ hf
      obtain ⟨f, rfl⟩ : ∃ g, f = g + 1 := ⟨f - 1, by omega⟩
      unfold loopN m_impl_WithFirst_l4; simp [visitL]
    | succ i ih =>
      intro S out m f hi hS hm ho hf
      obtain ⟨f, rfl⟩ : ∃ g, f = g + 1 := ⟨f - 1, by omega⟩
      have e : ((i + 1 : Nat) : Int) - 1 = (i : Int) := by omega
      have hge : decide ((i : Int) ≥ 0) = true := decide_eq_true (by omega)
      have hg : l[i]? = some (l.getD i rD) := getD_of (by omega) rD
      have hF := hl.first i _ hg
      have hFl := first_len hl (List.mem_of_getElem? hg)
      unfold loopN
      rw [e]
      cases hc : S.contains (i : Int) with
      | false =>
        have hstep : m_impl_WithFirst_l4 n l ((m : Int), out, (i : Int)) = some (.next ((m : Int), out, (i : Int) - 1)) := by
          unfold m_impl_WithFirst_l4
          simp only [hge, if_true, p_has n m i hm.1 (by omega), hm.2 i (by omega), hc, Option.bind_some, Bool.not_false, pred64 (show i ≤ 1048576 by omega)]
        rw [hstep]
        have e2 : stepW l i S = S := by unfold stepW; rw [hc]; rfl
        show loopN _ _ _ = some (visitL l i (stepW l i S) _)
        rw [e2, hc]
        exact ih S out m f (by omega) hS hm (by omega) (by omega)
      | true =>
        obtain ⟨m', hm1, hm2⟩ := mask_loop n (m_impl_WithFirst_l5 n (l.getD i rD)) (l.getD i rD).First (fun k hk => by have := hF.1 k hk; omega) (by omega) rfl hn m S hm
        have hstep : m_impl_WithFirst_l4 n l ((m : Int), out, (i : Int)) = some (.next ((m' : Int), out ++ [(i : Int)], (i : Int) - 1)) := by
          unfold m_impl_WithFirst_l4
          simp only [hge, if_true, p_has n m i hm.1 (by omega), hm.2 i (by omega), hc, Option.bind_some, Bool.not_true, Bool.false_eq_true, if_false, idx_nat, hg, hm1, pred64 (show i ≤ 1048576 by omega)]
          rw [app_eq (by simp; omega)]; rfl
        rw [hstep]
        show loopN _ _ _ = some (visitL l i (stepW l i S) _)
        rw [hc]
        refine ih (stepW l i S) _ m' f (by omega) (stepW_sm hl hS (by omega)) (hm2.congr fun x => ?_) (by simp; omega) (by omega)
        unfold stepW
        rw [hc, if_pos rfl, putAllL_mem, List.mem_append]
  have := outer l.length s [] m n (Nat.le_refl _) hs hm (by simp; omega) (by omega)
  rw [this, visitL_eq hl l.length s [] (Nat.le_refl _) hs]
  have hW := withL_sm hl l.length s (Nat.le_refl _) hs
  have : (withL l l.length s).filter (fun x => decide (x < (l.length : Int))) = withL l l.length s := by
    rw [List.filter_eq_self]
    intro x hx
    have := hW.mem x hx
    simp; omega
  rw [this]; simp

def withB (l : List SRepair) (s : List Int) : List Int × Int := if codeB l s [] = 0 then (withL l l.length s, 0) else ([], codeB l s [])

theorem p_specWithFirst (n : Nat) (l : List SRepair) (s : List Int) (hl : smallR l) (hs : s.length ≤ 1048576) (hn : 1048576 < n) : m_spec_WithFirst n l s = some (withB l s) := by
  unfold m_spec_WithFirst withB
  simp only [p_l21Some n l s hl hs hn, Option.bind_some]
  by_cases h : codeB l s [] = 0
  · obtain ⟨h1, h2, -⟩ := code0 h
    simp only [h, bne_self_eq_false, Bool.false_eq_true, if_false, p_l21With n l s h1 h2 hn, Option.bind_some, if_true]
  · have hb : (codeB l s [] != 0) = true := by simp [bne, h]
    simp only [hb, h, if_true, if_false]

theorem withB_len (l : List SRepair) (s : List Int) : (withB l s).1.length ≤ 10 := by
  unfold withB
  by_cases h : codeB l s [] = 0
  · obtain ⟨h1, h2, -⟩ := code0 h
    rw [if_pos h]
    exact (withL_sm h1 l.length s (Nat.le_refl _) h2).short h1
  · rw [if_neg h]; simp

theorem p_implWithFirst (n : Nat) (l : List SRepair) (s : List Int) (hl : smallR l) (hs : s.length ≤ 1048576) (hn : 1048576 < n) : m_impl_WithFirst n l s = some (withB l s) := by
  unfold m_impl_WithFirst withB
  simp only [p_someCode n l s [] hl hs (by simp) hn, Option.bind_some]
  by_cases h : codeB l s [] = 0
  · obtain ⟨h1, h2, -⟩ := code0 h
    have hll := h1.len
    obtain ⟨m, hm1, hm2⟩ := mask_loop n (m_impl_WithFirst_l1 n s) s (fun k hk => by have := h2.mem k hk; omega) hs rfl hn 0 [] MaskIs.zero
    have hm1' : loopN (m_impl_WithFirst_l1 n s) n (0, 0) = some (m : Int) := hm1
    have hW := (withL_sm h1 l.length s (Nat.le_refl _) h2).short h1
    simp only [h, bne_self_eq_false, Bool.false_eq_true, if_false, hm1', Option.bind_some, pred64 (show l.length ≤ 1048576 by omega), p_implWithWalk n l s h1 h2 hn m (by simpa using hm2), if_true]
    rw [p_Reverse n _ (by simp; omega) hn]; simp
  · have hb : (codeB l s [] != 0) = true := by simp [bne, h]
    simp only [hb, h, if_true, if_false]

/-- The repairs of a mask. -/
def ownL (N : Nat) (m : Nat) : List Int := ((List.range N).filter (fun i => m.testBit i)).map (fun i : Nat => (i : Int))

theorem ownL_sm {l : List SRepair} (m : Nat) : Sm l (ownL l.length m) := by
  refine ⟨fun k hk => ?_, ?_⟩
  · unfold ownL at hk
    rw [List.mem_map] at hk
    obtain ⟨i, hi, rfl⟩ := hk
    rw [List.mem_filter, List.mem_range] at hi
    omega
  · unfold ownL
    rw [List.pairwise_map]
    exact (List.pairwise_lt_range.filter _).imp (fun h => by omega)

def lessL : List Int → List Int → Bool
  | x :: xs, y :: ys => if x = y then lessL xs ys else decide (x < y)
  | _, _ => false

theorem runL_less : ∀ (a b : List Int) (i : Nat), a.length = b.length →
    (match runL (fun _ (u : Unit) (p : Int × Int) => if p.1 = p.2 then .ok u else .error (decide (p.1 < p.2))) i (a.zip b) () with | .ok _ => false | .error t => t) = lessL a b
  | [], [], _, _ => rfl
  | x :: xs, y :: ys, i, h => by
    have ih := runL_less xs ys (i + 1) (by simpa using h)
    simp only [List.zip_cons_cons, runL, lessL]
    by_cases e : x = y
    · simp only [e, if_true]; exact ih
    · simp only [e, if_false]
  | [], _ :: _, _, h => by simp at h
  | _ :: _, [], _, h => by simp at h

def cmpI (x y : Int) : Int := if x < y then -1 else if x > y then 1 else 0

def betterB (l : List SRepair) (best own : List Int) : Bool :=
  decide (sumL (·.Price) l own < sumL (·.Price) l best) || (sumL (·.Price) l own == sumL (·.Price) l best && (decide (own.length < best.length) || (own.length == best.length && lessL own best)))

def pickF (l : List SRepair) (f : List Int) (b : Option (List Int)) (m : Nat) : Option (List Int) :=
  if allB l (ownL l.length m) f then (match b with | none => some (ownL l.length m) | some best => if betterB l best (ownL l.length m) then some (ownL l.length m) else some best) else b

def cheapL (l : List SRepair) (f : List Int) : Option (List Int) := (List.range (2 ^ l.length)).foldl (pickF l f) none

def okO (l : List SRepair) : Option (List Int) → Prop
  | none => True
  | some b => Sm l b

theorem pickF_ok {l : List SRepair} {f : List Int} {b : Option (List Int)} (h : okO l b) (m : Nat) : okO l (pickF l f b m) := by
  unfold pickF
  split
  · cases b with
    | none => exact ownL_sm m
    | some best => simp only; split
                   · exact ownL_sm m
                   · exact h
  · exact h

theorem cheapL_ok (l : List SRepair) (f : List Int) : okO l (cheapL l f) := by
  unfold cheapL
  have : ∀ (xs : List Nat) (b : Option (List Int)), okO l b → okO l (xs.foldl (pickF l f) b) := by
    intro xs
    induction xs with
    | nil => exact fun b h => h
    | cons m xs ih => exact fun b h => ih _ (pickF_ok h m)
  exact this _ _ trivial

def specO : Option (List Int) → List Int × Bool
  | none => ([], false)
  | some b => (b, true)

def implO (l : List SRepair) : Option (List Int) → List Int × Int
  | none => ([], -1)
  | some b => (b, sumL (·.Price) l b)

theorem pow_small {N : Nat} (h : N ≤ 10) : 2 ^ N ≤ 1024 := by
  have : 2 ^ N ≤ 2 ^ 10 := Nat.pow_le_pow_right (by omega) h
  exact this

theorem len_eqI (a b : List Int) : ((a.length : Int) == (b.length : Int)) = (a.length == b.length) := by
  by_cases h : a.length = b.length
  · rw [h]; simp
  · have h3 : ¬ ((a.length : Int) = (b.length : Int)) := by omega
    rw [beq_eq_false_iff_ne.2 h, beq_eq_false_iff_ne.2 h3]

def cheapB (l : List SRepair) (f : List Int) : List Int × Int := if codeB l [] f = 0 then (match cheapL l f with | none => ([], 3) | some b => (b, 0)) else ([], codeB l [] f)

theorem cheapB_len (l : List SRepair) (f : List Int) : (cheapB l f).1.length ≤ 10 := by
  unfold cheapB
  by_cases h : codeB l [] f = 0
  · obtain ⟨h1, -, -⟩ := code0 h
    rw [if_pos h]
    have hok := cheapL_ok l f
    cases hc : cheapL l f with
    | none => simp
    | some b => rw [hc] at hok; exact hok.short h1
  · rw [if_neg h]; simp

def worthB (l : List SRepair) (f : List Int) (v p : Int) : Bool × Int :=
  if codeB l [] f = 0 then (if inRB 0 100000 v && inRB 0 100 p then (match cheapL l f with | none => (false, 3) | some b => (decide (wI64 (100 * sumL (·.Price) l b) ≤ wI64 (v * p)), 0)) else (false, 2)) else (false, codeB l [] f)

/-- What is deleted from a row in place. -/
theorem delete_loop {α : Type} {body : Int × Int × List α → Option (Step (Int × Int × List α) (Int × List α))} (p : α → Bool) (s : List α)
    (hb : ∀ (i j : Nat) (l : List α) x y, i < j → j < s.length → l.length = s.length → s[j]? = some x → l[j]? = some x → l[i]? = some y →
      body ((i : Int), (j : Int), l) = some (.next (if p x then ((i : Int), ((j + 1 : Nat) : Int), l) else (((i + 1 : Nat) : Int), ((j + 1 : Nat) : Int), l.set i x))))
    (hend : ∀ (i : Nat) (l : List α), l.length = s.length → body ((i : Int), (s.length : Int), l) = some (.done ((i : Int), l))) :
    ∀ (d i j : Nat) (l : List α) (f : Nat), j + d = s.length → i < j → l.length = s.length → l.take i = (s.take j).filter (fun x => !p x) → i = ((s.take j).filter (fun x => !p x)).length → l.drop j = s.drop j → d < f →
      ∃ (i' : Nat) (l' : List α), loopN body f ((i : Int), (j : Int), l) = some ((i' : Int), l') ∧ i' ≤ s.length ∧ l'.length = s.length ∧ l'.take i' = s.filter (fun x => !p x) := by
  intro d
  induction d with
  | zero =>
    intro i j l f hj hij hl ht hi _ hf
    obtain ⟨f, rfl⟩ : ∃ g, f = g + 1 := ⟨f - 1, by omega⟩
    have e : j = s.length := by omega
    subst e
    refine ⟨i, l, ?_, by omega, hl, by rw [ht, List.take_length]⟩
    unfold loopN; rw [hend i l hl]; rfl
  | succ d ih =>
    intro i j l f hj hij hl ht hi hd hf
    obtain ⟨f, rfl⟩ : ∃ g, f = g + 1 := ⟨f - 1, by omega⟩
    have hjs : j < s.length := by omega
    have hx : s[j]? = some s[j] := List.getElem?_eq_getElem hjs
    have hlx : l[j]? = some s[j] := by
      have := congrArg (fun t => t[0]?) hd
      simp only [List.getElem?_drop, Nat.add_zero] at this
      rw [this, hx]
    have hly : l[i]? = some (l[i]'(by omega)) := List.getElem?_eq_getElem (by omega)
    have hstep := hb i j l _ _ hij hjs hl hx hlx hly
    have hd2 : l.drop (j + 1) = s.drop (j + 1) := by rw [← List.drop_drop, ← List.drop_drop, hd]
    have hft : (s.take (j + 1)).filter (fun x => !p x) = (s.take j).filter (fun x => !p x) ++ (if p s[j] then [] else [s[j]]) := by
      rw [List.take_add_one, hx, List.filter_append]
      cases hp : p s[j] <;> simp [hp]
    unfold loopN
    rw [hstep]
    cases hp : p s[j] with
    | true =>
      rw [hp] at hft
      simp only [if_true, List.append_nil] at hft
      exact ih i (j + 1) l f (by omega) (by omega) hl (by rw [hft]; exact ht) (by rw [hft]; exact hi) hd2 (by omega)
    | false =>
      rw [hp] at hft
      simp only [Bool.false_eq_true, if_false] at hft
      refine ih (i + 1) (j + 1) (l.set i s[j]) f (by omega) (by omega) (by simpa using hl) ?_ (by rw [hft, List.length_append, ← hi]; rfl) (by rw [List.drop_set_of_lt (by omega)]; exact hd2) (by omega)
      rw [hft, ← ht]
      have : (l.set i s[j]).take (i + 1) = l.take i ++ [s[j]] := by
        rw [List.take_add_one, List.getElem?_set_self (by omega), List.take_set_of_le (Nat.le_refl _)]; rfl
      exact this

theorem sub_cut {α : Type} (l : List α) (i : Nat) (z : α) (hi : i ≤ l.length) : ∃ x, sub l (i : Int) (l.length : Int) = some x ∧ sub (l.take (i : Int).toNat ++ List.replicate (l.length - (i : Int).toNat) z) 0 (i : Int) = some (l.take i) := by
  unfold sub
  rw [if_pos ⟨by omega, by omega, by omega⟩, if_pos ⟨by omega, by omega, by simp; omega⟩]
  refine ⟨_, rfl, ?_⟩
  simp only [Int.toNat_natCast, Int.toNat_zero, List.drop_zero]
  congr 1
  have e : (l.take i).length = i := by simp; omega
  conv => lhs; rw [← e]
  rw [e]
  conv => lhs; lhs; rw [← e]
  exact List.take_left

def anyMends (l : List SRepair) (f : Int) : Bool := l.any fun r => r.Mends.contains f

theorem p_f90 (n : Nat) (l : List SRepair) (f : Int) (hl : Vr l) (hn : 1048576 < n) : m_slices_ContainsFunc_impl_Repair_impl_Repair_f42 n l f = some (anyMends l f) := by
  have hll := hl.len
  unfold m_slices_ContainsFunc_impl_Repair_impl_Repair_f42 m_slices_IndexFunc_impl_Repair_impl_Repair_f42
  exact contains_loop n (m_slices_IndexFunc_impl_Repair_impl_Repair_f42_l1 n l f) l (fun r => r.Mends.contains f)
    (fun i r hr => by
      have hlt := lt_of_get hr
      unfold m_slices_IndexFunc_impl_Repair_impl_Repair_f42_l1 m_impl_HopelessFaults_1_1
      simp only [ltB hlt, if_true, idx_nat, hr, Option.bind_some, p_Contains n _ _ (Nat.le_trans (mends_len hl (List.mem_of_getElem? hr)) (by omega)) hn, succ64 hlt (by omega)]
      cases r.Mends.contains f <;> rfl)
    (by unfold m_slices_IndexFunc_impl_Repair_impl_Repair_f42_l1; simp) (by omega)

theorem p_hope1 (n : Nat) (l : List SRepair) (f : Int) (hl : Vr l) (hn : 1048576 < n) : m_impl_HopelessFaults_1 n f l = some (anyMends l f) := by
  unfold m_impl_HopelessFaults_1; rw [p_f90 n l f hl hn]; rfl

theorem p_f89 (n : Nat) (l : List SRepair) (f : List Int) (hl : Vr l) (hf : f.length ≤ 1048576) (hn : 1048576 < n) : m_slices_IndexFunc_int64_int64_f40 n f l = some (match f.findIdx? (anyMends l) with | some i => (i : Int) | none => -1) := by
  unfold m_slices_IndexFunc_int64_int64_f40
  have key := loopN_index (body := m_slices_IndexFunc_int64_int64_f40_l1 n f l) f (anyMends l)
    (fun i x hx => by
      have hlt := lt_of_get hx
      unfold m_slices_IndexFunc_int64_int64_f40_l1
      simp only [ltB hlt, if_true, idx_nat, hx, Option.bind_some, p_hope1 n l x hl hn, succ64 hlt (by omega)]
      cases anyMends l x <;> rfl)
    (by unfold m_slices_IndexFunc_int64_int64_f40_l1; simp) n (by omega)
  rw [key]
  cases f.findIdx? (anyMends l) <;> rfl

theorem p_Delete (n : Nat) (l : List SRepair) (f : List Int) (hl : Vr l) (hf : f.length ≤ 1048576) (hn : 1048577 < n) : m_slices_DeleteFunc_int64_int64_f40_o1 n f l = some (f.filter fun x => !anyMends l x) := by
  unfold m_slices_DeleteFunc_int64_int64_f40_o1
  rw [p_f89 n l f hl hf (by omega)]
  cases h : f.findIdx? (anyMends l) with
  | none =>
    rw [List.findIdx?_eq_none_iff] at h
    have : f.filter (fun x => !anyMends l x) = f := by rw [List.filter_eq_self]; intro x hx; simp [h x hx]
    rw [this]; rfl
  | some i =>
    rw [List.findIdx?_eq_some_iff_getElem] at h
    obtain ⟨hi, hp, hlt⟩ := h
    have hne : ((i : Int) == -1) = false := beq_eq_false_iff_ne.2 (by omega)
    have hft : (f.take (i + 1)).filter (fun x => !anyMends l x) = f.take i := by
      rw [List.take_add_one, List.getElem?_eq_getElem hi, List.filter_append]
      have h1 : (f.take i).filter (fun x => !anyMends l x) = f.take i := by
        rw [List.filter_eq_self]
        intro x hx
        obtain ⟨j, hj, rfl⟩ := List.getElem_of_mem hx
        rw [List.getElem_take]
        have := hlt j (by simp at hj; omega)
        simpa using this
      rw [h1]; simp [hp]
    obtain ⟨i', l', h1, h2, h3, h4⟩ := delete_loop (body := m_slices_DeleteFunc_int64_int64_f40_o1_l1 n l) (anyMends l) f
      (fun i j q x y hij hj hq hx hqx hqy => by
        have hb : decide ((j : Int) < (q.length : Int)) = true := decide_eq_true (by omega)
        unfold m_slices_DeleteFunc_int64_int64_f40_o1_l1
        simp only [hb, if_true, idx_nat, hqx, hqy, Option.bind_some, p_hope1 n l x hl (by omega), succ64 (show j < 1048577 by omega) (by omega), succ64 (show i < 1048577 by omega) (by omega), Int.toNat_natCast]
        cases anyMends l x <;> rfl)
      (fun i q hq => by unfold m_slices_DeleteFunc_int64_int64_f40_o1_l1; simp [hq])
      (f.length - (i + 1)) i (i + 1) f n (by omega) (by omega) rfl hft.symm (by rw [hft]; simp; omega) rfl (by omega)
    simp only [Option.bind_some, hne, Bool.false_eq_true, if_false, succ64 hi (by omega), h1]
    obtain ⟨x, g1, g2⟩ := sub_cut l' i' 0 (by omega)
    rw [g1]
    simp only [Option.bind_some]
    rw [g2, h4]; rfl

theorem code0_faults {l : List SRepair} {s f : List Int} (h : codeB l s f = 0) : f.length ≤ 10 := by
  obtain ⟨-, -, h1, h2⟩ := code0 h
  have := inc_len f 0 10 (fun k hk => by have := h1 k hk; omega) h2
  omega

def hopeB (l : List SRepair) (f : List Int) : List Int × Int := if codeB l [] f = 0 then (f.filter fun x => !anyMends l x, 0) else ([], codeB l [] f)

theorem p_implHopeless (n : Nat) (l : List SRepair) (f : List Int) (hl : smallR l) (hf : f.length ≤ 1048576) (hn : 1048577 < n) : m_impl_HopelessFaults n l f = some (hopeB l f) := by
  unfold m_impl_HopelessFaults hopeB
  simp only [p_someCode n l [] f hl (by simp) hf (by omega), Option.bind_some]
  by_cases h : codeB l [] f = 0
  · obtain ⟨h1, -, -⟩ := code0 h
    have hc : m_slices_Clone_int64_int64 n f = some f := by unfold m_slices_Clone_int64_int64; rw [app_eq (by simp; omega)]; rfl
    simp only [h, bne_self_eq_false, Bool.false_eq_true, if_false, hc, Option.bind_some, p_Delete n l f h1 hf hn, if_true]
  · have hb : (codeB l [] f != 0) = true := by simp [bne, h]
    simp only [hb, h, if_true, if_false]

def allI (N : Nat) : List Int := (List.range N).map (fun i : Nat => (i : Int))

theorem allI_sm (l : List SRepair) : Sm l (allI l.length) := by
  refine ⟨fun k hk => ?_, ?_⟩
  · unfold allI at hk
    rw [List.mem_map] at hk
    obtain ⟨i, hi, rfl⟩ := hk
    rw [List.mem_range] at hi
    omega
  · unfold allI
    rw [List.pairwise_map]
    exact List.pairwise_lt_range.imp (fun h => by omega)

theorem mendB_all (l : List SRepair) (f : Int) : mendB l (allI l.length) f = anyMends l f := by
  unfold mendB anyMends allI
  rw [Bool.eq_iff_iff, List.any_eq_true, List.any_eq_true]
  constructor
  · rintro ⟨k, hk, h⟩
    rw [List.mem_map] at hk
    obtain ⟨i, hi, rfl⟩ := hk
    rw [List.mem_range] at hi
    exact ⟨_, List.mem_of_getElem? (getD_of hi rD), by simpa using h⟩
  · rintro ⟨r, hr, h⟩
    obtain ⟨i, hi⟩ := List.getElem?_of_mem hr
    refine ⟨(i : Int), by rw [List.mem_map]; exact ⟨i, by rw [List.mem_range]; exact lt_of_get hi, rfl⟩, ?_⟩
    rw [Int.toNat_natCast, List.getD_eq_getElem?_getD, hi]; exact h

end Go.Gv
