/- Plain laws of repairs: sizes, copies, comparisons, marks; numbers that rise; valid repairs. -/
import Derived.Test.YtkglfbcelaphhaaPn
namespace Go.Gv
open Go Go.RowKit

theorem w64_Name (n : Nat) (K : Int) (a : List Int) (h0 : 1 ≤ K) (ha : a.length ≤ 1048576) (hK : K + (a.length : Int) ≤ 1000000000) (hn : 1048578 < n) : m_laws_markInt64S n a K = some (K + (a.length : Int), (List.range a.length).map (fun i : Nat => K + (i : Int))) := by
  unfold m_laws_markInt64S
  have := loopN_fillL (body := m_laws_markInt64S_l1 n) a.length (fun i : Nat => K + (i : Int)) a rfl (fun i l => (K + (i : Int), (i : Int), l)) (fun l => (K + (a.length : Int), l))
    (fun i l x hi hl hx => by
      have hb : decide ((i : Int) < (l.length : Int)) = true := by rw [hl]; exact ltB hi
      unfold m_laws_markInt64S_l1
      have w4 : wI64 (K + (i : Int) + 1) = K + ((i + 1 : Nat) : Int) := by rw [wI64_eq (by omega) (by omega)]; omega
      simp only [hb, if_true, hx, Option.bind_some, succ64 hi (by omega), w4, Int.toNat_natCast])
    (fun l hl => by unfold m_laws_markInt64S_l1; simp [hl]) n (by omega)
  rw [show K + ((0 : Nat) : Int) = K by simp] at this
  have h2 : loopN (m_laws_markInt64S_l1 n) n (K, 0, a) = _ := this
  rw [h2]; rfl

def szR (x : SRepair) : Nat := x.Name.length + x.Mends.length + x.First.length
def totR (l : List SRepair) : Nat := (l.map szR).sum
/-- Small enough, every part. -/
def smallR (l : List SRepair) : Prop := l.length + totR l ≤ 1048576 ∧ ∀ x ∈ l, okRepair x

theorem mem_le_totR {l : List SRepair} {x : SRepair} (h : x ∈ l) : szR x ≤ totR l := by
  induction l with
  | nil => simp at h
  | cons y ys ih =>
    simp only [totR, List.map_cons, List.sum_cons] at ih ⊢
    rcases List.mem_cons.1 h with rfl | h
    · omega
    · have := ih h; omega

theorem p_szRepair (n : Nat) (x : SRepair) (L : Int) (h0 : 0 ≤ L) (h1 : L ≤ 1048576) (hx : okRepair x) : ∃ v, m_laws_szRepair n x L = some v ∧ ((v = -1) ∨ (0 ≤ v ∧ v = L - szR x)) := by
  obtain ⟨o1, ⟨o2, -⟩, ⟨o3, -⟩, -, -⟩ := hx
  unfold strok at o1
  unfold m_laws_szRepair m_laws_szInt64S szR
  rw [wI64_eq (x := L - (x.Name.length : Int)) (by omega) (by omega)]
  by_cases hc : L - (x.Name.length : Int) < 0
  · exact ⟨-1, by simp [hc], .inl rfl⟩
  · simp only [hc, decide_false, Bool.false_eq_true, if_false]
    rw [wI64_eq (x := L - (x.Name.length : Int) - (x.Mends.length : Int)) (by omega) (by omega)]
    by_cases hd : L - (x.Name.length : Int) - (x.Mends.length : Int) < 0
    · exact ⟨-1, by simp [hd], .inl rfl⟩
    · simp only [hd, decide_false, Bool.false_eq_true, if_false, Option.bind_some]
      rw [wI64_eq (x := L - (x.Name.length : Int) - (x.Mends.length : Int) - (x.First.length : Int)) (by omega) (by omega)]
      by_cases he : L - (x.Name.length : Int) - (x.Mends.length : Int) - (x.First.length : Int) < 0
      · exact ⟨-1, by simp [he], .inl rfl⟩
      · exact ⟨L - (x.Name.length : Int) - (x.Mends.length : Int) - (x.First.length : Int), by simp only [he, decide_false, Bool.false_eq_true, if_false, Option.bind_some], .inr ⟨by omega, by omega⟩⟩

theorem p_szRepairS (n : Nat) (rows : List SRepair) (L : Int) (h0 : 0 ≤ L) (h1 : L ≤ 1048576) (hl : rows.length ≤ 9223372036854775807) (hs : ∀ r ∈ rows, okRepair r) (hn : 1048576 < n) :
    ∃ v, m_laws_szRepairS n rows L = some v ∧ (v < 0 ∨ (0 ≤ v ∧ v = L - rows.length - totR rows)) := by
  unfold m_laws_szRepairS
  have w1 : wI64 (L - (rows.length : Int)) = L - rows.length := wI64_eq (by omega) (by omega)
  rw [w1]
  by_cases hneg : L - (rows.length : Int) < 0
  · exact ⟨-1, by simp [hneg], .inl (by omega)⟩
  · simp only [hneg, decide_false, Bool.false_eq_true, if_false]
    have hrun := loopN_runL (body := m_laws_szRepairS_l1 n rows) rows (fun _ (b : Int) (x : SRepair) => match m_laws_szRepair n x b with | some v => if v < 0 then .error (.inr (-1)) else .ok v | none => .error (.inr (-1))) (L - rows.length) (fun i b => (b, (i : Int))) (fun b => .inl b)
      (fun i b => 0 ≤ b ∧ b ≤ 1048576 ∧ b = L - rows.length - totR (rows.take i)) ⟨by omega, by omega, by simp [totR]⟩
      (fun i x b hx ⟨hb0, hb1, hb2⟩ => by
        have hlt := lt_of_get hx
        obtain ⟨v, hv, hv2⟩ := p_szRepair n x b hb0 hb1 (hs x (List.mem_of_getElem? hx))
        have w3 : wI64 ((i : Int) + 1) = ((i + 1 : Nat) : Int) := succ64 hlt hl
        rcases hv2 with rfl | ⟨hv3, hv4⟩
        · simp only [hv]
          unfold m_laws_szRepairS_l1
          simp only [ltB hlt, if_true, idx_nat, hx, Option.bind_some, hv]; rfl
        · have hnn : ¬ v < 0 := by omega
          simp only [hv, hnn, if_false]
          unfold m_laws_szRepairS_l1
          simp only [ltB hlt, if_true, idx_nat, hx, Option.bind_some, hv, hnn, decide_false, Bool.false_eq_true, if_false, w3, true_and]
          refine ⟨by omega, by omega, ?_⟩
          rw [List.take_add_one, hx]; simp [totR] at hb2 ⊢; omega)
      (fun b _ => by unfold m_laws_szRepairS_l1; simp) n (by omega)
    obtain ⟨hr, hI⟩ := hrun
    have hr' : loopN (m_laws_szRepairS_l1 n rows) n (L - (rows.length : Int), 0) = _ := hr
    rw [hr']
    generalize hg : runL (fun _ (b : Int) (x : SRepair) => match m_laws_szRepair n x b with | some v => if v < 0 then Except.error (Sum.inr (-1) : Int ⊕ Int) else .ok v | none => .error (.inr (-1))) 0 rows (L - rows.length) = res at hI ⊢
    cases res with
    | ok b =>
      have := hI b rfl
      simp only [List.take_length] at this
      exact ⟨b, rfl, .inr ⟨this.1, this.2.2⟩⟩
    | error t =>
      have ht : t = .inr (-1) := by
        have : ∀ (ys : List SRepair) (i : Nat) (b : Int), runL (fun _ (b : Int) (x : SRepair) => match m_laws_szRepair n x b with | some v => if v < 0 then Except.error (Sum.inr (-1) : Int ⊕ Int) else .ok v | none => .error (.inr (-1))) i ys b = .error t → t = .inr (-1) := by
          intro ys
          induction ys with
          | nil => intro i b h; simp [runL] at h
          | cons y ys ih =>
            intro i b h
            simp only [runL] at h
            cases hv : m_laws_szRepair n y b with
            | none => simp [hv] at h; exact h.symm
            | some v =>
              by_cases hc : v < 0
              · simp [hv, hc] at h; exact h.symm
              · simp only [hv, hc, if_false] at h; exact ih _ _ h
        exact this _ _ _ hg
      subst ht
      exact ⟨-1, rfl, .inl (by omega)⟩

theorem smallR_rows {l : List SRepair} (h : smallR l) {x : SRepair} (hx : x ∈ l) : x.Name.length ≤ 1048576 ∧ x.Mends.length ≤ 1048576 ∧ x.First.length ≤ 1048576 ∧ strok x.Name := by
  have := mem_le_totR hx
  have h1 := h.1
  unfold szR at this
  exact ⟨by omega, by omega, by omega, (h.2 x hx).1⟩

theorem p_toRepair (n : Nat) (a : SRepair) (h1 : a.Mends.length ≤ 1048576) (h2 : a.First.length ≤ 1048576) (hn : 1048576 < n) : m_laws_toRepair n a = some a := by
  unfold m_laws_toRepair
  rw [p_toInt64S n _ h1 hn, p_toInt64S n _ h2 hn]; rfl

def rD : SRepair := ⟨[], [], [], 0, 0⟩

theorem p_toRepairS (n : Nat) (a : List SRepair) (ha : smallR a) (hn : 1048576 < n) : m_laws_toRepairS n a = some a := by
  have hl : a.length ≤ 1048576 := by have := ha.1; omega
  unfold m_laws_toRepairS
  rw [mk_nat _ _ (by omega)]
  simp only [Option.bind_some]
  have := loopN_fill (body := m_laws_toRepairS_l1 n a) a.length (fun i => a.getD i rD) (List.replicate a.length rD) (by simp) (fun i l => ((i : Int), l)) id
    (fun i l x hi hl2 hx => by
      have hm : a.getD i rD ∈ a := List.mem_of_getElem? (getD_of hi rD)
      obtain ⟨-, b1, b2, -⟩ := smallR_rows ha hm
      have hb : decide ((i : Int) < (a.length : Int)) = true := ltB hi
      have w3 : wI64 ((i : Int) + 1) = ((i + 1 : Nat) : Int) := succ64 hi (by omega)
      unfold m_laws_toRepairS_l1
      simp only [hb, if_true, idx_nat a i, getD_of hi rD, Option.bind_some, p_toRepair n _ b1 b2 hn, hx, w3, Int.toNat_natCast])
    (fun l => by unfold m_laws_toRepairS_l1; simp) n (by omega)
  have h2 : loopN (m_laws_toRepairS_l1 n a) n (0, List.replicate a.length rD) = _ := this
  have h3 : loopN (m_laws_toRepairS_l1 n a) n (0, List.replicate a.length ((SRepair.mk [] ([] : List Int) ([] : List Int) 0 0) : SRepair)) = _ := h2
  rw [h3, range_map_getD]; rfl

theorem p_eqRepairS (n : Nat) (a : List SRepair) (ha : smallR a) (hn : 1048576 < n) : m_laws_eqRepairS n a a = some true := by
  have hl : a.length ≤ 1048576 := by have := ha.1; omega
  unfold m_laws_eqRepairS
  simp only [bne_self_eq_false, Bool.false_eq_true, if_false]
  have := loopN_listAll (body := m_laws_eqRepairS_l1 n a a) a (fun _ => true) (fun i => (i : Int)) (.inl ()) (.inr false)
    (fun i x hx => by
      have hlt := lt_of_get hx
      obtain ⟨-, b1, b2, -⟩ := smallR_rows ha (List.mem_of_getElem? hx)
      have he : m_laws_eqRepair n x x = some true := by
        unfold m_laws_eqRepair
        rw [p_eqInt64S n _ b1 hn, p_eqInt64S n _ b2 hn]; simp
      unfold m_laws_eqRepairS_l1
      simp only [ltB hlt, if_true, idx_nat a i, hx, Option.bind_some, he, succ64 hlt (by omega)]; simp)
    (by unfold m_laws_eqRepairS_l1; simp) n (by omega)
  have h2 : loopN (m_laws_eqRepairS_l1 n a a) n 0 = _ := this
  rw [h2]; simp

/-- A mark goes through. -/
theorem p_markRepairS (n : Nat) (a : List SRepair) (ha : smallR a) (hn : 1048578 < n) : ∃ K rows, m_laws_markRepairS n a 1 = some (K, rows) ∧ 1 ≤ K ∧ K ≤ 9000000 := by
  have hl : a.length ≤ 1048576 := by have := ha.1; omega
  unfold m_laws_markRepairS
  -- the loop, by the rows behind the place where it stands
  have key : ∀ (m i : Nat) (K : Int) (l : List SRepair), i + m = l.length → l.length ≤ 1048576 → 1 ≤ K → K + 3 * (m : Int) + (totR (l.drop i) : Int) ≤ 9000000 → totR (l.drop i) ≤ 1048576 → ∀ f, m < f →
      ∃ K' rows, loopN (m_laws_markRepairS_l1 n) f (K, (i : Int), l) = some (K', rows) ∧ 1 ≤ K' ∧ K' ≤ 9000000 := by
    intro m
    induction m with
    | zero =>
      intro i K l hi _ hK _ _ f hf
      obtain ⟨f, rfl⟩ : ∃ g, f = g + 1 := ⟨f - 1, by omega⟩
      have hil : i = l.length := by omega
      subst hil
      exact ⟨K, l, by unfold loopN; unfold m_laws_markRepairS_l1; simp, by omega, by omega⟩
    | succ m ih =>
      intro i K l hi hll hK hb ht f hf
      obtain ⟨f, rfl⟩ : ∃ g, f = g + 1 := ⟨f - 1, by omega⟩
      have hlt : i < l.length := by omega
      obtain ⟨x, hx⟩ : ∃ x, l[i]? = some x := ⟨_, List.getElem?_eq_getElem hlt⟩
      have hdrop : l.drop i = x :: l.drop (i + 1) := by
        rw [List.drop_eq_getElem_cons hlt]
        rw [List.getElem?_eq_getElem hlt] at hx
        rw [Option.some.inj hx]
      have htot : totR (l.drop i) = szR x + totR (l.drop (i + 1)) := by rw [hdrop]; simp [totR]
      rw [htot] at hb ht
      have hsz : szR x = x.Name.length + x.Mends.length + x.First.length := rfl
      have is : ∀ (l' : List SRepair) v, l'.length = l.length → idx (l'.set i v) (i : Int) = some v := fun l' v hh => by rw [idx_nat, List.getElem?_set_self (by omega)]
      have u1 : wI64 (K + 1) = K + 1 := wI64_eq (by omega) (by omega)
      have m1 := w64_Name n (K + 1) x.Mends (by omega) (by omega) (by omega) hn
      have m2 := w64_Name n (K + 1 + (x.Mends.length : Int)) x.First (by omega) (by omega) (by omega) hn
      have u2 : wI64 (K + 1 + (x.Mends.length : Int) + (x.First.length : Int) + 1) = K + 1 + (x.Mends.length : Int) + (x.First.length : Int) + 1 := wI64_eq (by omega) (by omega)
      have u3 : wI64 (K + 1 + (x.Mends.length : Int) + (x.First.length : Int) + 1 + 1) = K + 1 + (x.Mends.length : Int) + (x.First.length : Int) + 1 + 1 := wI64_eq (by omega) (by omega)
      have hstep : ∃ y, m_laws_markRepairS_l1 n (K, (i : Int), l) = some (.next (K + 1 + (x.Mends.length : Int) + (x.First.length : Int) + 1 + 1, ((i + 1 : Nat) : Int), l.set i y)) := by
        unfold m_laws_markRepairS_l1
        simp only [ltB hlt, if_true, p_markText n K hK (by omega) (by omega), idx_nat l i, hx, Option.bind_some, Int.toNat_natCast, is l _ rfl, u1, m1, List.set_set, m2, u2, u3, succ64 hlt (by omega)]
        exact ⟨_, rfl⟩
      obtain ⟨y, hstep⟩ := hstep
      have hd2 : (l.set i y).drop (i + 1) = l.drop (i + 1) := by rw [List.drop_set_of_lt (by omega)]
      obtain ⟨K', rows, h1, h2⟩ := ih (i + 1) (K + 1 + (x.Mends.length : Int) + (x.First.length : Int) + 1 + 1) (l.set i y) (by simp; omega) (by simpa using hll) (by omega) (by rw [hd2]; omega) (by rw [hd2]; omega) f (by omega)
      refine ⟨K', rows, ?_, h2⟩
      unfold loopN
      rw [hstep]
      exact h1
  obtain ⟨K, rows, h1, h2⟩ := key a.length 0 1 a (by omega) hl (by omega) (by have := ha.1; simp; omega) (by have := ha.1; simp; omega) n (by omega)
  have h3 : loopN (m_laws_markRepairS_l1 n) n (1, 0, a) = _ := h1
  exact ⟨K, rows, by rw [h3]; rfl, h2⟩

end Go.Gv
