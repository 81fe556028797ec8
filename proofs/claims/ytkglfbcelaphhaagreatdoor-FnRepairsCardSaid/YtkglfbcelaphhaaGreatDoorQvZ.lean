/- Plain law: repairs with all before them are complete, prices add up, hopeless faults are mended by nothing. -/
import Derived.Test.YtkglfbcelaphhaaGreatDoorQvD
namespace Go.Gv
open Go Go.RowKit

theorem f6ints_self (n : Nat) (a : List Int) (ha : a.length ≤ 1048576) (hn : 1048576 < n) : m_laws_f6ints n a a = some true := by
  have h := p_l00Same n a a ha hn
  have e : m_laws_f6ints n a a = m_spec_l00Same n a a := rfl
  rw [e, h]; simp

theorem p_f6has (n : Nat) (l : List Int) (v : Int) (hl : l.length ≤ 1048576) (hn : 1048576 < n) : m_laws_f6has n l v = some (l.contains v) := by
  have h := p_l00Has n l v hl hn
  have e : m_laws_f6has n l v = m_spec_l00Has n l v := rfl
  rw [e, h]

/-! ### What is drawn -/

theorem p_DrawRepairsFor (n : Nat) {code : List Int} (hc : bytesok code) (hn : 1048577 < n) : ∃ (l : List SRepair) (f : Int), m_spec_DrawRepairsFor n code = some (l, f) ∧ smallR l := by
  unfold m_spec_DrawRepairsFor
  rw [p_l00From]
  obtain ⟨l, a1, s1, e1, h1, h2, h3⟩ := p_l21Bent n hc 0 (by omega) 0 (by omega)
  have e1' : m_spec_l21Bent n code 0 0 = some (l, (a1 : Int), s1) := e1
  obtain ⟨b, a2, s2, e2, h4⟩ := p_one n hc a1 (by omega) s1 8 (by omega)
  simp only [Option.bind_some, e1', e2]
  have sl := small_ds (by omega) h2
  cases b with
  | true =>
    obtain ⟨v, a3, s3, e3, _, _⟩ := p_among n hc a2 (by omega) s2 [(-1), 0, 9, 10] (by simp) (by simp)
    simp only [if_true, e3, Option.bind_some]
    exact ⟨l, v, rfl, sl⟩
  | false =>
    obtain ⟨v, a3, s3, e3, _, _, _⟩ := p_pick n hc a2 (by omega) s2 6 (by omega)
    simp only [Bool.false_eq_true, if_false, e3, Option.bind_some]
    exact ⟨l, v, rfl, sl⟩

theorem p_DrawRepairText (n : Nat) {code : List Int} (hc : bytesok code) (hn : 1048577 < n) : ∃ (l : List SRepair) (k : Int), m_spec_DrawRepairText n code = some (l, k) ∧ smallR l := by
  unfold m_spec_DrawRepairText
  rw [p_l00From]
  obtain ⟨l, a1, s1, e1, h1, h2, h3⟩ := p_l21Bent n hc 0 (by omega) 0 (by omega)
  have e1' : m_spec_l21Bent n code 0 0 = some (l, (a1 : Int), s1) := e1
  have w : wI64 ((l.length : Int) + 1) = (l.length : Int) + 1 := wI64_eq (by omega) (by omega)
  obtain ⟨u, a2, s2, e2, _, _, h4⟩ := p_pick n hc a1 (by omega) s1 ((l.length : Int) + 1) (by omega)
  obtain ⟨v, a3, s3, e3, _, _, _⟩ := p_pick n hc a2 (by omega) s2 16 (by omega)
  simp only [Option.bind_some, e1', w, e2, e3]
  exact ⟨l, _, rfl, small_ds (by omega) h2⟩

theorem p_l00Own (n : Nat) (l : List Int) (h : l.length ≤ 1048576) : m_spec_l00Own n l = some l := by
  unfold m_spec_l00Own
  rw [app_eq (by simp; omega)]; rfl

theorem same_l1 (n : Nat) (l : List SRepair) (hl : l.length ≤ 20) (hd : ∀ x ∈ l, DR x) (hn : 100 < n) : ∃ q : List SRepair × List SRepair, loopN (m_spec_DrawSameRepairs_l1 n) n (([] : List SRepair), 0, l) = some q ∧ q.1.length ≤ 20 ∧ (∀ x ∈ q.1, DR x) ∧ q.2.length ≤ 20 ∧ (∀ x ∈ q.2, DR x) :=
  loopN_count (body := m_spec_DrawSameRepairs_l1 n) (fun i s => s.2.1 = (i : Int) ∧ s.1.length ≤ i ∧ (∀ x ∈ s.1, DR x) ∧ s.2.2.length = l.length ∧ ∀ x ∈ s.2.2, DR x) l.length
    (fun q => q.1.length ≤ 20 ∧ (∀ x ∈ q.1, DR x) ∧ q.2.length ≤ 20 ∧ (∀ x ∈ q.2, DR x))
    (fun i s hi hJ => by
      obtain ⟨o, k, a⟩ := s
      obtain ⟨h1, h2, h3, h4, h5⟩ := hJ
      simp only at h1 h2 h3 h4 h5
      subst h1
      have hi2 : i < a.length := by omega
      have hg : a[i]? = some a[i] := List.getElem?_eq_getElem hi2
      have hx := h5 _ (List.getElem_mem hi2)
      have hx' := hx
      obtain ⟨g1, g2, g3, g4, g5, g6, g7⟩ := hx'
      unfold m_spec_DrawSameRepairs_l1
      simp only [ltB hi2, if_true, idx_nat, hg, Option.bind_some, p_l00Own n _ (show (a[i]).Mends.length ≤ 1048576 by omega), p_l00Own n _ (show (a[i]).First.length ≤ 1048576 by omega), inc64 (show i ≤ 1000000 by omega),
        app_eq (show o.length + [SRepair.mk (a[i]).Name (a[i]).Mends (a[i]).First (a[i]).Price (a[i]).Hours].length ≤ 4294967296 by simp; omega)]
      refine ⟨_, rfl, rfl, by simp; omega, snocR h3 hx, by simp; omega, ?_⟩
      intro y hy
      rcases List.mem_or_eq_of_mem_set hy with hy | hy
      · exact h5 y hy
      · subst hy; exact hx)
    (fun s hJ => by
      obtain ⟨o, k, a⟩ := s
      obtain ⟨h1, h2, h3, h4, h5⟩ := hJ
      simp only at h1 h2 h3 h4 h5
      subst h1
      have hlt : decide ((l.length : Int) < (a.length : Int)) = false := decide_eq_false (by omega)
      refine ⟨(o, a), ?_, by simp only; omega, h3, by simp only; omega, h5⟩
      unfold m_spec_DrawSameRepairs_l1
      simp only [hlt, Bool.false_eq_true, if_false]) n (by omega) _ ⟨rfl, by simp, by simp, rfl, hd⟩

theorem p_DrawSameRepairs (n : Nat) {code : List Int} (hc : bytesok code) (hn : 1048577 < n) : ∃ (a b : List SRepair), m_spec_DrawSameRepairs n code = some (a, b) ∧ smallR a ∧ smallR b := by
  unfold m_spec_DrawSameRepairs
  rw [p_l00From]
  obtain ⟨l, a1, s1, e1, h1, h2, h3⟩ := p_l21Draw n hc 0 (by omega) 0 (by omega)
  have e1' : m_spec_l21Draw n code 0 0 = some (l, (a1 : Int), s1) := e1
  obtain ⟨⟨o, a⟩, e2, g1, g2, g3, g4⟩ := same_l1 n l (by omega) h2 (by omega)
  simp only at g1 g2 g3 g4
  simp only [Option.bind_some, e1', e2]
  have sa : smallR a := small_of (by omega) g4
  obtain ⟨b, a2, s2, e3, h4, h5, h6⟩ : ∃ (b : List SRepair) (a2 : Nat) (s2 : Int), (if (decide ((o.length : Int) > 0)) = true then
      Option.bind (m_spec_l00Src_pick n code (a1 : Int) s1 5) fun x5476 =>
      Option.bind (if (x5476.1 == 0) = true then
        Option.bind (idx o 0) fun x5800 =>
        Option.bind (app x5800.Mends ([9] : List Int)) fun x5818 =>
        some (o.set (Int.toNat 0) (SRepair.mk x5800.Name x5818 x5800.First x5800.Price x5800.Hours))
      else
        Option.bind (if (x5476.1 == 1) = true then
          Option.bind (idx o 0) fun x5884 =>
          some (o.set (Int.toNat 0) (SRepair.mk x5884.Name x5884.Mends x5884.First x5884.Price (wI64 (x5884.Hours + 1))))
        else some o) fun x5882 => some x5882) fun x5798 =>
      some (x5798, x5476.2.1, x5476.2.2)
    else some (o, (a1 : Int), s1)) = some (b, (a2 : Int), s2) ∧ b.length ≤ 20 ∧ (∀ x ∈ b, DS x) ∧ a2 ≤ a1 + 2 := by
    cases ho : decide ((o.length : Int) > 0) with
    | false => exact ⟨o, a1, s1, rfl, g1, fun x hx => (g2 x hx).ds, by omega⟩
    | true =>
      have hpos : 0 < o.length := by have := of_decide_eq_true ho; omega
      have hg : o[0]? = some o[0] := List.getElem?_eq_getElem hpos
      have hx := g2 _ (List.getElem_mem hpos)
      have hx' := hx.ds
      obtain ⟨k1, k2, k3, k4, k5, k6, k7⟩ := hx
      obtain ⟨p, a2, s2, e3, -, -, h6⟩ := p_pick n hc a1 (by omega) s1 5 (by omega)
      simp only [if_true, e3, Option.bind_some, idx_zero, hg]
      cases p == 0 with
      | true =>
        simp only [if_true, app_eq (show (o[0]).Mends.length + ([9] : List Int).length ≤ 4294967296 by simp; omega), Option.bind_some]
        exact ⟨_, a2, s2, rfl, by simp; omega, setS g2 ⟨k1, by simp; omega, hx'.2.2.1, mem_snoc k4 (small64 (by omega) (by omega)), k5, k6, k7⟩, h6⟩
      | false =>
        simp only [Bool.false_eq_true, if_false]
        cases p == 1 with
        | true =>
          simp only [if_true, Option.bind_some]
          refine ⟨_, a2, s2, rfl, by simp; omega, setS g2 ⟨k1, hx'.2.1, hx'.2.2.1, k4, k5, k6, ?_⟩, h6⟩
          show i64ok (wI64 ((o[0]).Hours + 1))
          by_cases hh : (o[0]).Hours = 9223372036854775807
          · rw [hh]; exact ⟨by decide, by decide⟩
          · unfold i64ok at k7
            rw [wI64_eq (by omega) (by omega)]
            exact ⟨by omega, by omega⟩
        | false =>
          simp only [Bool.false_eq_true, if_false, Option.bind_some]
          exact ⟨o, a2, s2, rfl, g1, fun x hx => (g2 x hx).ds, h6⟩
  rw [e3]
  simp only [Option.bind_some]
  obtain ⟨c, a3, s3, e4, -⟩ := p_one n hc a2 (by omega) s2 5 (by omega)
  rw [e4]
  simp only [Option.bind_some]
  cases c with
  | false => exact ⟨a, b, rfl, sa, small_ds (by omega) h5⟩
  | true =>
    simp only [if_true, app_eq (show b.length + [SRepair.mk [] ([] : List Int) ([] : List Int) 0 0].length ≤ 4294967296 by simp; omega), Option.bind_some]
    refine ⟨a, _, rfl, sa, small_ds (by simp; omega) fun x hx => ?_⟩
    rcases List.mem_append.1 hx with hx | hx
    · exact h5 x hx
    · simp at hx; subst hx
      exact ⟨by simp, by simp, by simp, by simp, by simp, small64 (by simp) (by simp), small64 (by simp) (by simp)⟩

/-! ### All that stands before is there -/

theorem withL_first {l : List SRepair} (hl : Vr l) (b : Int) (k : Nat) (hb : b ∈ (l.getD k rD).First) : ∀ (i : Nat) (S : List Int), i ≤ l.length → k < i → (k : Int) ∈ withL l i S → b ∈ withL l i S
  | 0, _, _, h, _ => by omega
  | i + 1, S, hi, hk, h => by
    have e : withL l (i + 1) S = withL l i (stepW l i S) := rfl
    rw [e] at h ⊢
    by_cases hki : k = i
    · subst hki
      rcases withL_low hl (k : Int) k (stepW l k S) (by omega) h with h1 | h1
      · refine withL_sub l b k _ ?_
        have hlt : k < l.length := by omega
        have hg : l[k]? = some (l.getD k rD) := getD_of hlt rD
        have hfst := (hl.first k _ hg).1
        unfold stepW at h1 ⊢
        cases hc : S.contains (k : Int) with
        | true =>
          simp only [if_true]
          exact (putAllL_mem b _ _).2 (.inl hb)
        | false =>
          rw [hc] at h1
          simp only [Bool.false_eq_true, if_false] at h1
          have := List.contains_iff_mem.2 h1
          rw [hc] at this; cases this
      · omega
    · exact withL_first hl b k hb i _ (by omega) (by omega) h

theorem withL_idem {l : List SRepair} (hl : Vr l) {s : List Int} (hs : Sm l s) : closedB l (withL l l.length s) = true := by
  unfold closedB
  rw [List.all_eq_true]
  intro k hk
  rw [List.all_eq_true]
  intro b hb
  rw [List.contains_iff_mem]
  have hW := withL_sm hl l.length s (Nat.le_refl _) hs
  have hm := hW.mem k hk
  obtain ⟨m, rfl⟩ : ∃ m : Nat, k = (m : Int) := ⟨k.toNat, by omega⟩
  exact withL_first hl b m (by simpa using hb) l.length s (Nat.le_refl _) (by omega) hk

theorem mend_hope (l : List SRepair) (f : Int) : ((mendersL l f).length = 0) ↔ anyMends l f = false := by
  unfold mendersL
  rw [List.length_map, List.length_eq_zero_iff, List.filter_eq_nil_iff]
  unfold anyMends
  constructor
  · intro h
    rw [← Bool.not_eq_true, List.any_eq_true]
    rintro ⟨x, hx, hm⟩
    obtain ⟨i, hi⟩ := List.getElem?_of_mem hx
    have hlt := lt_of_get hi
    refine h i (List.mem_range.2 hlt) ?_
    unfold mendsB
    rw [List.getD_eq_getElem?_getD, hi]; exact hm
  · intro h i hi hm
    rw [List.mem_range] at hi
    have hg : l[i]? = some (l.getD i rD) := getD_of hi rD
    have : (l.any fun r => r.Mends.contains f) = true := by
      rw [List.any_eq_true]
      exact ⟨_, List.mem_of_getElem? hg, hm⟩
    rw [this] at h; cases h

def tailW (n : Nat) (l : List SRepair) (s : List Int) (body : Int → Option (Step Int (Unit ⊕ Bool))) : Option Bool :=
  if ((withB l s).2 != 0) then some true else
  Option.bind (m_impl_WithFirst n l (withB l s).1) fun x566 =>
  Option.bind (m_impl_MendsAll n l (withB l s).1 ([] : List Int)) fun x587 =>
  Option.bind (loopN body n 0) fun t608 =>
  match t608 with
  | .inl _ =>
    Option.bind (if (x566.2 == 0) then Option.bind (m_laws_f6ints n x566.1 (withB l s).1) fun x672 => if x672 then (if (x587.2 == 0) then some x587.1 else some false) else some false else some false) fun x669 => some x669
  | .inr r => some r

theorem tailW_true (n : Nat) (l : List SRepair) (s : List Int) (hl : smallR l) (hs : s.length ≤ 1048576) (hn : 1048577 < n) (body : Int → Option (Step Int (Unit ⊕ Bool)))
    (hb : body = fun st => if (decide (st < (s.length : Int))) then Option.bind (idx s st) fun x => Option.bind (m_laws_f6has n (withB l s).1 x) fun y => if (!y) then some (.done (.inr false)) else some (.next (wI64 (st + 1))) else some (.done (.inl ()))) :
    tailW n l s body = some true := by
  unfold tailW
  by_cases hc : codeB l s [] = 0
  · obtain ⟨hv, hsm, -⟩ := code0 hc
    have hw : withB l s = (withL l l.length s, 0) := by unfold withB; rw [if_pos hc]
    have hW := withL_sm hv l.length s (Nat.le_refl _) hsm
    have hcl := withL_idem hv hsm
    have hshort := hW.short hv
    have hcW : codeB l (withL l l.length s) [] = 0 := by
      unfold codeB at hc ⊢
      cases h1 : repsB l with
      | false => rw [h1] at hc; simp at hc
      | true => rw [someB_of hW]; rfl
    have hwW : withB l (withL l l.length s) = (withL l l.length s, 0) := by unfold withB; rw [if_pos hcW, withL_same hW.inc hcl]
    have hall : allB l (withL l l.length s) [] = true := by unfold allB; rw [hcl]; rfl
    have hloop : loopN body n 0 = some (.inl ()) := by
      have key : loopN body n 0 = _ := loopN_listAll (body := body) s (fun x => (withL l l.length s).contains x) (fun i => (i : Int)) (Sum.inl ()) (Sum.inr false) (fun i x hx => by
          have hlt := lt_of_get hx
          rw [hb]
          simp only [ltB hlt, if_true, idx_nat, hx, Option.bind_some, hw, p_f6has n _ x (show (withL l l.length s).length ≤ 1048576 by omega) (by omega), succ64 hlt (by omega)]
          cases (withL l l.length s).contains x <;> rfl)
        (by rw [hb]; simp only [ltB_self, Bool.false_eq_true, if_false]) n (by omega)
      have hal : (s.all fun x => (withL l l.length s).contains x) = true := by
        rw [List.all_eq_true]
        intro x hx
        exact List.contains_iff_mem.2 (withL_sub l x l.length s hx)
      rw [key, hal]; rfl
    rw [hw]
    simp only [bne_self_eq_false, Bool.false_eq_true, if_false, p_implWithFirst n l (withL l l.length s) hl (show (withL l l.length s).length ≤ 1048576 by omega) (by omega), hwW,
      p_implMendsAll n l (withL l l.length s) [] hl (show (withL l l.length s).length ≤ 1048576 by omega) (by simp) (by omega), if_pos hcW, hall, Option.bind_some, hloop, beq_self_eq_true, if_true, f6ints_self n (withL l l.length s) (by omega) (by omega)]
  · have hw : withB l s = ([], codeB l s []) := by unfold withB; rw [if_neg hc]
    rw [hw]
    have : (codeB l s [] != 0) = true := by simp [bne, hc]
    simp only [this, if_true]

theorem hope_loop (n : Nat) (l : List SRepair) (f : List Int) (hl : smallR l) (hf : f.length ≤ 1048576) (hc : codeB l [] f = 0) (hn : 1048577 < n) : loopN (m_laws_FnRepairs_l1 n (l, f) (hopeB l f)) n 0 = some (.inl ()) := by
  obtain ⟨hv, -, hf9, -⟩ := code0 hc
  have hh : hopeB l f = (f.filter fun x => !anyMends l x, 0) := by unfold hopeB; rw [if_pos hc]
  have hrb : repsB l = true := by
    unfold codeB at hc
    cases h1 : repsB l with
    | true => rfl
    | false => rw [h1] at hc; simp at hc
  have hfl : (f.filter fun x => !anyMends l x).length ≤ 1048576 := Nat.le_trans (List.length_filter_le _ _) hf
  have key : loopN (m_laws_FnRepairs_l1 n (l, f) (hopeB l f)) n 0 = _ := loopN_listAll (body := m_laws_FnRepairs_l1 n (l, f) (hopeB l f)) f (fun _ => true) (fun i => (i : Int)) (Sum.inl ()) (Sum.inr false) (fun i x hx => by
      have hlt := lt_of_get hx
      have hxm := List.mem_of_getElem? hx
      have hr : forB l x = (mendersL l x, 0) := by
        unfold forB
        rw [if_pos hrb, if_pos (by unfold inRB; have := hf9 x hxm; simp; omega)]
      have hcon : (f.filter fun x => !anyMends l x).contains x = !anyMends l x := by
        rw [Bool.eq_iff_iff, List.contains_iff_mem, List.mem_filter]
        exact ⟨fun h => h.2, fun h => ⟨hxm, h⟩⟩
      have hz : (((mendersL l x).length : Int) == 0) = !anyMends l x := by
        rw [Bool.eq_iff_iff]
        have := mend_hope l x
        simp only [beq_iff_eq, Bool.not_eq_true']
        rw [← this]; omega
      unfold m_laws_FnRepairs_l1
      simp only [ltB hlt, if_true, idx_nat, hx, Option.bind_some, p_implRepairsFor n l x hl (by omega), hr, hh, bne_self_eq_false, Bool.false_eq_true, if_false, p_f6has n _ x hfl (by omega), hcon, hz, beq_self_eq_true, Bool.not_true, succ64 hlt (by omega)])
    (by unfold m_laws_FnRepairs_l1; simp only [ltB_self, Bool.false_eq_true, if_false]) n (by omega)
  have hal : (f.all fun _ => true) = true := by rw [List.all_eq_true]; intro _ _; rfl
  rw [key, hal]; rfl

theorem law_Repairs (code : List Int) (_hl : code.length ≤ 9223372036854775807) (hc : ∀ x ∈ code, u8ok x) : m_laws_FnRepairs 2000000 code = some true := by
  unfold m_laws_FnRepairs m_laws_f6big
  simp only [Option.bind_some]
  cases decide ((code.length : Int) > 4096) with
  | true => rfl
  | false =>
    simp only [Bool.false_eq_true, if_false]
    have hb : bytesok code := hc
    obtain ⟨l, s, f, e1, hl, hs, hf⟩ := p_l21DrawSome 2000000 hb (by omega)
    obtain ⟨l2, f2, e2, hl2⟩ := p_DrawRepairsFor 2000000 hb (by omega)
    obtain ⟨a, b, e3, ha, hb2⟩ := p_DrawSameRepairs 2000000 hb (by omega)
    obtain ⟨l3, k, e4, hl3⟩ := p_DrawRepairText 2000000 hb (by omega)
    have hs' : s.length ≤ 1048576 := by omega
    have hf' : f.length ≤ 1048576 := by omega
    have w1 : (withB l s).1.length ≤ 1048576 := by have := withB_len l s; omega
    have w2 : (hopeB l f).1.length ≤ 1048576 := by have := hopeB_len l f; omega
    have w3 : (forB l2 f2).1.length ≤ 1048576 := forB_len l2 f2 hl2
    have d1 : m_spec_DrawWithFirst 2000000 code = some (l, s) := by unfold m_spec_DrawWithFirst m_spec_l21Only; rw [e1]; rfl
    have d2 : m_spec_DrawHopelessFaults 2000000 code = some (l, f) := by unfold m_spec_DrawHopelessFaults m_spec_l21Two; rw [e1]; rfl
    have vr : m_spec_ValidRepairs 2000000 l = some (repsB l) := by unfold m_spec_ValidRepairs; rw [p_l21Ok 2000000 l hl (by omega)]; rfl
    have t3 := tailW_true 2000000 l s hl hs' (by omega) (m_laws_FnRepairs_l3 2000000 (l, s) (withB l s)) rfl
    have t4 := tailW_true 2000000 l s hl hs' (by omega) (m_laws_FnRepairs_l4 2000000 (l, s) (withB l s)) rfl
    simp only [d1, d2, e2, e3, e4, Option.bind_some, p_implWithFirst 2000000 l s hl hs' (by omega), p_specWithFirst 2000000 l s hl hs' (by omega), p_implPriceOf 2000000 l s hl hs' (by omega), p_specPriceOf 2000000 l s hl hs' (by omega),
      p_implHoursOf 2000000 l s hl hs' (by omega), p_specHoursOf 2000000 l s hl hs' (by omega), p_implHopeless 2000000 l f hl hf' (by omega), p_specHopeless 2000000 l f hl hf' (by omega), p_implRepairsFor 2000000 l2 f2 hl2 (by omega), p_specRepairsFor 2000000 l2 f2 hl2 (by omega),
      p_implSameRepairs 2000000 a b ha (by omega), p_specSameRepairs 2000000 a b ha (by omega), p_implRepairText 2000000 l3 k hl3 (by omega), p_specRepairText 2000000 l3 k hl3 (by omega), p_implValidRepairs 2000000 l hl (by omega),
      vr,
      f6ints_self 2000000 _ w1 (by omega), f6ints_self 2000000 _ w2 (by omega), f6ints_self 2000000 _ w3 (by omega), bne_self_eq_false, beq_self_eq_true, Bool.not_true, Bool.false_eq_true, if_false]
    cases h5 : ((hopeB l f).2 == 0) with
    | true =>
      have hcf : codeB l [] f = 0 := by
        unfold hopeB at h5
        by_cases hc0 : codeB l [] f = 0
        · exact hc0
        · rw [if_neg hc0] at h5; simp at h5; exact absurd h5 hc0
      simp only [if_true, hope_loop 2000000 l f hl hf' hcf (by omega), Option.bind_some]
      exact t3
    | false =>
      simp only [Bool.false_eq_true, if_false]
      exact t4

end Go.Gv
